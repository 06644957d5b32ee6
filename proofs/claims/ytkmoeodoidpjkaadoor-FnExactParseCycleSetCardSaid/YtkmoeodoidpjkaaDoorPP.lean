/- Plain definitions and what holds of them, all in one; no condition. -/
import Derived.Test.YtkmoeodoidpjkaaDoorWe
import Derived.Lib.SlicesCompact
import Derived.Lib.Join
import Derived.Test.YtkmoeodoidpjkaaDoorWc
namespace Go.Proofs.YtkmoeodoidpjkaaDoor
section
theorem el_se_same {α : Type} [Inhabited α] {l : List α} {i : Int} {v : α} (h : 0 ≤ i ∧ i < (l.length : Int)) : el (se l i v) i = v := by
  have : i.toNat < l.length := by omega
  simp [el, se, List.getD_eq_getElem?_getD, this]
theorem el_se_ne {α : Type} [Inhabited α] {l : List α} {i j : Int} {v : α} (hi : 0 ≤ i) (hj : 0 ≤ j) (h : i ≠ j) : el (se l i v) j = el l j := by
  have : i.toNat ≠ j.toNat := by omega
  simp [el, se, List.getD_eq_getElem?_getD, this]
theorem ext_el {α : Type} [Inhabited α] {a b : List α} (hl : a.length = b.length) (h : ∀ i : Int, 0 ≤ i → i < (a.length : Int) → el a i = el b i) : a = b := by
  apply List.ext_getElem hl
  intro n h1 h2
  have := h n (by omega) (by omega)
  simpa [el, List.getD_eq_getElem?_getD, List.getElem?_eq_getElem h1, List.getElem?_eq_getElem h2] using this
theorem el_mem {α : Type} [Inhabited α] {l : List α} {i : Int} (h : 0 ≤ i ∧ i < (l.length : Int)) : el l i ∈ l := by
  have := el_get h
  exact List.mem_of_getElem? this
theorem mem_el {α : Type} [Inhabited α] {l : List α} {x : α} (h : x ∈ l) : ∃ i : Int, (0 ≤ i ∧ i < (l.length : Int)) ∧ el l i = x := by
  obtain ⟨n, hn, rfl⟩ := List.getElem_of_mem h
  exact ⟨n, ⟨by omega, by omega⟩, by simp [el, List.getD_eq_getElem?_getD, List.getElem?_eq_getElem hn]⟩
theorem el_map {α β : Type} [Inhabited α] [Inhabited β] {f : α → β} {l : List α} {i : Int} (h : 0 ≤ i ∧ i < (l.length : Int)) : el (l.map f) i = f (el l i) := by
  have := el_get h
  simp only [el, List.getD_eq_getElem?_getD, List.getElem?_map] at this ⊢
  rw [this]; rfl
theorem el_append_l {α : Type} [Inhabited α] {a b : List α} {i : Int} (h : 0 ≤ i ∧ i < (a.length : Int)) : el (a ++ b) i = el a i := by
  have : i.toNat < a.length := by omega
  simp [el, List.getD_eq_getElem?_getD, List.getElem?_append_left this]
theorem el_append_r {α : Type} [Inhabited α] {a b : List α} {i : Int} (h : (a.length : Int) ≤ i) : el (a ++ b) i = el b (i - (a.length : Int)) := by
  have h1 : a.length ≤ i.toNat := by omega
  have h2 : (i - (a.length : Int)).toNat = i.toNat - a.length := by omega
  unfold el
  rw [h2, List.getD_eq_getElem?_getD, List.getD_eq_getElem?_getD, List.getElem?_append_right h1]
theorem el_append_last {α : Type} [Inhabited α] {a : List α} {x : α} {i : Int} (h : i = (a.length : Int)) : el (a ++ [x]) i = x := by
  subst h; rw [el_append_r (by omega)]; simp [el]
theorem el_ran {α : Type} [Inhabited α] {n i : Int} {f : Int → α} (h : 0 ≤ i ∧ i < n) : el (ran n f) i = f i := by
  have h2 := get_ran f (i := i.toNat) (by omega : ((i.toNat : Nat) : Int) < n)
  have h3 : ((i.toNat : Nat) : Int) = i := by omega
  rw [h3] at h2
  simp [el, List.getD_eq_getElem?_getD, h2]
theorem el_rep {α : Type} [Inhabited α] {n : Nat} {v : α} {i : Int} (h : 0 ≤ i ∧ i < (n : Int)) : el (List.replicate n v) i = v := by
  have : i.toNat < n := by omega
  simp [el, List.getD_eq_getElem?_getD, this]
theorem el_sl {α : Type} [Inhabited α] {l : List α} {a b i : Int} (ha : 0 ≤ a) (hi : 0 ≤ i) (h : a + i < b) : el (sl l a b) i = el l (a + i) := by
  have h1 : a.toNat + i.toNat < b.toNat := by omega
  have h2 : (a + i).toNat = a.toNat + i.toNat := by omega
  simp [el, sl, List.getD_eq_getElem?_getD, List.getElem?_drop, h1, h2]
theorem eq_ran {α : Type} [Inhabited α] {n : Int} {f : Int → α} {l : List α} (hl : l.length = n.toNat) (h : ∀ i, 0 ≤ i → i < n → el l i = f i) : l = ran n f :=
  ext_el (by simp [hl]) fun i h0 h1 => by rw [el_ran ⟨h0, by omega⟩]; exact h i h0 (by omega)
theorem all_el {α : Type} [Inhabited α] {l : List α} {p : α → Bool} : l.all p = true ↔ ∀ i : Int, 0 ≤ i → i < (l.length : Int) → p (el l i) = true := by
  rw [List.all_eq_true]
  exact ⟨fun h i h0 h1 => h _ (el_mem ⟨h0, h1⟩), fun h x hx => by obtain ⟨i, hi, rfl⟩ := mem_el hx; exact h i hi.1 hi.2⟩
theorem any_el {α : Type} [Inhabited α] {l : List α} {p : α → Bool} : l.any p = true ↔ ∃ i : Int, (0 ≤ i ∧ i < (l.length : Int)) ∧ p (el l i) = true := by
  rw [List.any_eq_true]
  exact ⟨fun ⟨x, hx, h⟩ => by obtain ⟨i, hi, rfl⟩ := mem_el hx; exact ⟨i, hi, h⟩, fun ⟨i, hi, h⟩ => ⟨_, el_mem hi, h⟩⟩
theorem nodup_el {α : Type} [Inhabited α] {l : List α} : l.Nodup ↔ ∀ i j : Int, 0 ≤ i → i < j → j < (l.length : Int) → el l i ≠ el l j := by
  unfold List.Nodup
  rw [List.pairwise_iff_getElem]
  constructor
  · intro h i j h0 h1 h2
    have e1 := el_get (l := l) (i := i) ⟨h0, by omega⟩
    have e2 := el_get (l := l) (i := j) ⟨by omega, h2⟩
    rw [List.getElem?_eq_getElem (by omega), Option.some.injEq] at e1 e2
    rw [← e1, ← e2]
    exact h _ _ _ _ (by omega)
  · intro h i j hi hj hij
    have := h i j (by omega) (by omega) (by omega)
    have e1 := el_get (l := l) (i := i) ⟨by omega, by omega⟩
    have e2 := el_get (l := l) (i := j) ⟨by omega, by omega⟩
    simp only [Int.toNat_natCast] at e1 e2
    rw [List.getElem?_eq_getElem (by omega), Option.some.injEq] at e1 e2
    rw [e1, e2]; exact this
@[reducible] def small {α : Type} (l : List α) : Prop := (l.length : Int) ≤ 1000000000
@[reducible] def small2 {α : Type} (t : List (List α)) : Prop := small t ∧ ∀ r ∈ t, small r
@[reducible] def InS (n : Int) : Prop := -1 ≤ n ∧ n ≤ 1000000000
@[reducible] def huge2 (t : List (List Int)) : Prop := t.length ≤ 9223372036854775807 ∧ ∀ r ∈ t, r.length ≤ 9223372036854775807
@[reducible] def okK (k : Int) : Prop := 0 ≤ k ∧ k ≤ 1000000000000
@[reducible] def okKT (k : Int) (t : List (List Int)) : Prop := 0 ≤ k ∧ k + tot t ≤ 1000000000000
def isPerm (p : List Int) : Bool := decide (p.Nodup ∧ ∀ x ∈ p, 0 ≤ x ∧ x < (p.length : Int))
def mkI : Int → List Int → List Int
  | _, [] => []
  | k, _ :: l => k :: mkI (k + 1) l
def mkII : Int → List (List Int) → List (List Int)
  | _, [] => []
  | k, r :: t => mkI k r :: mkII (k + (r.length : Int)) t
def heI (k : Int) (l : List Int) : Int := if l = mkI k l then k + (l.length : Int) else -1
def heII (k : Int) (t : List (List Int)) : Int := if t = mkII k t then k + tot t else -1
def idxF {α : Type} (t : List α) (f : α → Bool) : Int := if t.any f then (t.findIdx f : Int) else -1
def badRow (n : Int) (row : List Int) : Bool := !(decide ((row.length : Int) = n) && row.all (fun x => decide (0 ≤ x) && decide (x ≤ n - 1)))
def isTab (t : List (List Int)) : Bool := decide (1 ≤ (t.length : Int)) && decide ((t.length : Int) ≤ 12) && !t.any (badRow (t.length : Int))
def diag (t : List (List Int)) : List Int := ran (t.length : Int) fun x => el (el t x) x
def first3 (n : Int) (f : Int → Int → Int → Bool) : List Int :=
  match (ran n id).findSome? (fun x => (ran n id).findSome? fun y => (ran n id).findSome? fun z => if f x y z then some [x, y, z] else none) with
  | some l => l
  | none => []

theorem isTab_len {t : List (List Int)} (h : isTab t = true) : 1 ≤ (t.length : Int) ∧ (t.length : Int) ≤ 12 := by
  simp only [isTab, Bool.and_eq_true, decide_eq_true_eq] at h; exact h.1
theorem isTab_row {t : List (List Int)} (h : isTab t = true) {i : Int} (hi : 0 ≤ i ∧ i < (t.length : Int)) : ((el t i).length : Int) = (t.length : Int) ∧ ∀ j, 0 ≤ j → j < (t.length : Int) → 0 ≤ el (el t i) j ∧ el (el t i) j < (t.length : Int) := by
  simp only [isTab, Bool.and_eq_true, Bool.not_eq_true'] at h
  have h1 := h.2
  rw [List.any_eq_false] at h1
  have h2 := h1 _ (el_mem hi)
  simp only [badRow, Bool.not_eq_true', Bool.and_eq_true, decide_eq_true_eq, Bool.and_eq_false_iff, not_or, Bool.not_eq_false, all_el] at h2
  refine ⟨h2.1, fun j h0 h3 => ?_⟩
  have := h2.2 j h0 (by omega)
  omega
theorem isTab_mk {t : List (List Int)} (h1 : 1 ≤ (t.length : Int) ∧ (t.length : Int) ≤ 12) (h : ∀ i, 0 ≤ i → i < (t.length : Int) → ((el t i).length : Int) = (t.length : Int) ∧ ∀ j, 0 ≤ j → j < (t.length : Int) → 0 ≤ el (el t i) j ∧ el (el t i) j < (t.length : Int)) : isTab t = true := by
  simp only [isTab, Bool.and_eq_true, decide_eq_true_eq, Bool.not_eq_true', List.any_eq_false]
  refine ⟨h1, fun r hr => ?_⟩
  obtain ⟨i, hi, rfl⟩ := mem_el hr
  obtain ⟨h2, h3⟩ := h i hi.1 hi.2
  simp only [badRow, Bool.not_eq_true', Bool.and_eq_true, decide_eq_true_eq, Bool.and_eq_false_iff, not_or, Bool.not_eq_false, all_el]
  exact ⟨h2, fun j h0 h4 => by have := h3 j h0 (by omega); omega⟩
@[reducible] def Upto (i : Int) (P : Int → Prop) : Prop := ∀ j, 0 ≤ j → j < i → P j
theorem upto0 {P : Int → Prop} : Upto 0 P := fun j _ _ => by omega
theorem upto1 {P : Int → Prop} {i : Int} (h : Upto i P) (hi : P i) : Upto (i + 1) P := fun j h0 h1 => by
  by_cases e : j = i
  · subst e; exact hi
  · exact h j h0 (by omega)
theorem all_t {α : Type} [Inhabited α] {l : List α} {p : α → Bool} (h : Upto (l.length : Int) fun j => p (el l j) = true) : l.all p = true := all_el.2 h
theorem all_f {α : Type} [Inhabited α] {l : List α} {p : α → Bool} {i : Int} (hi : 0 ≤ i ∧ i < (l.length : Int)) (h : p (el l i) = false) : l.all p = false := by
  rw [Bool.eq_false_iff]
  intro h2
  rw [all_el.1 h2 i hi.1 hi.2] at h; cases h
theorem any_f {α : Type} [Inhabited α] {l : List α} {p : α → Bool} (h : Upto (l.length : Int) fun j => p (el l j) = false) : l.any p = false := by
  rw [Bool.eq_false_iff]
  intro h2
  obtain ⟨i, hi, h3⟩ := any_el.1 h2
  rw [h i hi.1 hi.2] at h3; cases h3
theorem any_t {α : Type} [Inhabited α] {l : List α} {p : α → Bool} {i : Int} (hi : 0 ≤ i ∧ i < (l.length : Int)) (h : p (el l i) = true) : l.any p = true := any_el.2 ⟨i, hi, h⟩
theorem idxF_found {α : Type} [Inhabited α] {t : List α} {f : α → Bool} {i : Int} (hi : 0 ≤ i ∧ i < (t.length : Int)) (h : Upto i fun j => f (el t j) = false) (h1 : f (el t i) = true) : idxF t f = i := by
  unfold idxF
  rw [if_pos (any_t hi h1)]
  have : t.findIdx f = i.toNat := by
    rw [List.findIdx_eq (by omega)]
    refine ⟨?_, fun k hk => ?_⟩
    · have := el_get hi
      rw [List.getElem?_eq_getElem (by omega), Option.some.injEq] at this
      rw [this]; exact h1
    · have e := el_get (l := t) (i := (k : Int)) ⟨by omega, by omega⟩
      simp only [Int.toNat_natCast] at e
      rw [List.getElem?_eq_getElem (by omega), Option.some.injEq] at e
      rw [e]; exact h k (by omega) (by omega)
  omega
theorem idxF_none {α : Type} [Inhabited α] {t : List α} {f : α → Bool} (h : Upto (t.length : Int) fun j => f (el t j) = false) : idxF t f = -1 := by
  unfold idxF
  rw [any_f h]; rfl
theorem idxF_nonneg {α : Type} {t : List α} {f : α → Bool} : decide (0 ≤ idxF t f) = t.any f := by
  unfold idxF
  cases h : t.any f <;> simp
theorem fill1 {α : Type} [Inhabited α] {o : List α} {f : Int → α} {i : Int} {v : α} (hi : 0 ≤ i ∧ i < (o.length : Int)) (h : Upto i fun j => el o j = f j) (hv : v = f i) : Upto (i + 1) fun j => el (se o i v) j = f j :=
  upto1 (fun j h0 h1 => by show el (se o i v) j = f j; rw [el_se_ne hi.1 h0 (by omega)]; exact h j h0 h1) (by show el (se o i v) i = f i; rw [el_se_same hi]; exact hv)
theorem app1 {α : Type} [Inhabited α] {o : List α} {f : Int → α} {i : Int} {v : α} (hi : i = (o.length : Int)) (h : Upto i fun j => el o j = f j) (hv : v = f i) : Upto (i + 1) fun j => el (o ++ [v]) j = f j :=
  upto1 (fun j h0 h1 => by show el (o ++ [v]) j = f j; rw [el_append_l ⟨h0, by omega⟩]; exact h j h0 h1) (by show el (o ++ [v]) i = f i; rw [el_append_last hi]; exact hv)
@[simp] theorem length_mkI : ∀ (k : Int) (l : List Int), (mkI k l).length = l.length
  | _, [] => rfl
  | k, _ :: l => by simp [mkI, length_mkI (k + 1) l]
@[simp] theorem length_mkII : ∀ (k : Int) (t : List (List Int)), (mkII k t).length = t.length
  | _, [] => rfl
  | k, r :: t => by simp [mkII, length_mkII _ t]
theorem el_cons_0 {α : Type} [Inhabited α] {x : α} {l : List α} : el (x :: l) 0 = x := by simp [el]
theorem el_cons_s {α : Type} [Inhabited α] {x : α} {l : List α} {i : Int} (h : 0 < i) : el (x :: l) i = el l (i - 1) := by
  have : i.toNat = (i - 1).toNat + 1 := by omega
  unfold el; rw [this]; rfl
theorem el_mkI : ∀ (k : Int) (l : List Int) (i : Int), 0 ≤ i → i < (l.length : Int) → el (mkI k l) i = k + i
  | k, [], i, h0, h1 => by simp at h1; omega
  | k, x :: l, i, h0, h1 => by
    by_cases e : i = 0
    · subst e; simp [mkI, el_cons_0]
    · rw [mkI, el_cons_s (by omega), el_mkI (k + 1) l (i - 1) (by omega) (by simp at h1; omega)]; omega
def tt (t : List (List Int)) (i : Int) : Int := tot (t.take i.toNat)
theorem tt0 (t : List (List Int)) : tt t 0 = 0 := by simp [tt, tot]
theorem tt1 {t : List (List Int)} {i : Int} (h : 0 ≤ i ∧ i < (t.length : Int)) : tt t (i + 1) = tt t i + ((el t i).length : Int) := tot_take_succ t i h.1 h.2
theorem tt_full {t : List (List Int)} {i : Int} (h : i = (t.length : Int)) : tt t i = tot t := by subst h; simp [tt]
theorem tt_le (t : List (List Int)) (i : Int) : 0 ≤ tt t i ∧ tt t i ≤ tot t := ⟨tot_nonneg _, tot_take_le _ _⟩
theorem tt_row {t : List (List Int)} {i : Int} (h : 0 ≤ i ∧ i < (t.length : Int)) : tt t i + ((el t i).length : Int) ≤ tot t := by rw [← tt1 h]; exact (tt_le _ _).2
theorem tt_cons {r : List Int} {t : List (List Int)} {i : Int} (h : 0 < i) : tt (r :: t) i = (r.length : Int) + tt t (i - 1) := by
  have : i.toNat = (i - 1).toNat + 1 := by omega
  unfold tt; rw [this]; rfl
theorem el_mkII : ∀ (k : Int) (t : List (List Int)) (i : Int), 0 ≤ i → i < (t.length : Int) → el (mkII k t) i = mkI (k + tt t i) (el t i)
  | k, [], i, h0, h1 => by simp at h1; omega
  | k, r :: t, i, h0, h1 => by
    by_cases e : i = 0
    · subst e; simp [mkII, el_cons_0, tt0]
    · rw [mkII, el_cons_s (by omega), el_cons_s (by omega), el_mkII _ t (i - 1) (by omega) (by simp at h1; omega), tt_cons (by omega), Int.add_assoc]

end
section
def idxI (l : List Int) (n : Int) : Int := idxF l (fun x => x == n)
def permB (p : List Int) : Bool := decide (1 ≤ (p.length : Int)) && decide ((p.length : Int) ≤ 12) && isPerm p
theorem nodup_perm {α : Type} [DecidableEq α] : ∀ (l p : List α), l.Nodup → (∀ x ∈ l, x ∈ p) → l.length = p.length → p.Perm l
  | [], p, _, _, h => by
    have : p = [] := List.eq_nil_of_length_eq_zero h.symm
    subst this; exact List.Perm.refl _
  | a :: l, p, hn, hs, h => by
    have ha := hs a List.mem_cons_self
    have hn' := List.nodup_cons.1 hn
    have ih := nodup_perm l (p.erase a) hn'.2 (fun x hx => by
      have hne : x ≠ a := fun e => hn'.1 (e ▸ hx)
      exact (List.mem_erase_of_ne hne).2 (hs x (List.mem_cons_of_mem _ hx))) (by rw [List.length_erase_of_mem ha]; simp at h; omega)
    exact (List.perm_cons_erase ha).trans (ih.cons a)
theorem mem_ran {n x : Int} : x ∈ ran n id ↔ 0 ≤ x ∧ x < n := by
  unfold ran
  simp only [List.mem_map, List.mem_range, id]
  exact ⟨fun ⟨k, hk, e⟩ => by omega, fun h => ⟨x.toNat, by omega, by omega⟩⟩
theorem nodup_ran (n : Int) : (ran n id).Nodup := nodup_el.2 fun i j h0 h1 h2 => by
  simp at h2
  rw [el_ran ⟨h0, by omega⟩, el_ran ⟨by omega, by omega⟩]; simp [id]; omega
theorem isPerm_iff {p : List Int} : isPerm p = true ↔ p.Nodup ∧ ∀ x ∈ p, 0 ≤ x ∧ x < (p.length : Int) := by simp [isPerm]
theorem isPerm_of_all {p : List Int} (h : ∀ x, 0 ≤ x → x < (p.length : Int) → x ∈ p) : isPerm p = true := by
  have := nodup_perm (ran (p.length : Int) id) p (nodup_ran _) (fun x hx => by have := mem_ran.1 hx; exact h x this.1 this.2) (by simp)
  exact isPerm_iff.2 ⟨this.nodup_iff.2 (nodup_ran _), fun x hx => mem_ran.1 (this.mem_iff.1 hx)⟩
theorem isPerm_all {p : List Int} (h : isPerm p = true) {x : Int} (hx : 0 ≤ x ∧ x < (p.length : Int)) : x ∈ p := by
  obtain ⟨h1, h2⟩ := isPerm_iff.1 h
  have := nodup_perm p (ran (p.length : Int) id) h1 (fun x hx => mem_ran.2 (h2 x hx)) (by simp)
  exact this.mem_iff.1 (mem_ran.2 hx)
theorem idxI_has {l : List Int} {n : Int} : decide (0 ≤ idxI l n) = l.contains n := by
  unfold idxI
  rw [idxF_nonneg, Bool.eq_iff_iff, List.contains_iff_mem, List.any_eq_true]
  simp
theorem fs_none {α : Type} {n : Int} {g : Int → Option α} (h : ∀ i, 0 ≤ i → i < n → g i = none) : (ran n id).findSome? g = none := by
  rw [List.findSome?_eq_none_iff]
  intro x hx
  have := mem_ran.1 hx
  exact h x this.1 this.2
theorem fs_some {α : Type} {n i : Int} {g : Int → Option α} {v : α} (hi : 0 ≤ i ∧ i < n) (h : g i = some v) (h0 : Upto i fun j => g j = none) : (ran n id).findSome? g = some v := by
  have e : ran n id = ran i id ++ (ran n id).drop i.toNat := by
    rw [← List.take_append_drop i.toNat (ran n id)]
    congr 1
    · refine (eq_ran (f := id) (by simp; omega) fun j h1 h2 => ?_)
      have := el_sl (l := ran n id) (a := 0) (b := i) (i := j) (by omega) h1 (by omega)
      simp only [sl, Int.toNat_zero, List.drop_zero, Int.zero_add] at this
      rw [this, el_ran ⟨h1, by omega⟩]
    · simp
  have e2 : (ran n id).drop i.toNat = i :: (ran n id).drop (i.toNat + 1) := by
    have := el_get (l := ran n id) (i := i) ⟨hi.1, by simp; omega⟩
    rw [el_ran hi] at this
    rw [List.drop_eq_getElem_cons (by simp; omega)]
    rw [List.getElem?_eq_getElem (by simp; omega), Option.some.injEq] at this
    rw [this]; rfl
  rw [e, List.findSome?_append, fs_none h0, e2, List.findSome?_cons, h]; rfl
theorem first3_found {n : Int} {f : Int → Int → Int → Bool} {x y z : Int} (hx : 0 ≤ x ∧ x < n) (hy : 0 ≤ y ∧ y < n) (hz : 0 ≤ z ∧ z < n) (h : f x y z = true)
    (h1 : Upto x fun a => ∀ b, 0 ≤ b → b < n → ∀ c, 0 ≤ c → c < n → f a b c = false) (h2 : Upto y fun b => ∀ c, 0 ≤ c → c < n → f x b c = false) (h3 : Upto z fun c => f x y c = false) : first3 n f = [x, y, z] := by
  unfold first3
  rw [fs_some hx (v := [x, y, z]) (fs_some hy (fs_some hz (by simp [h]) fun c a b => by simp [h3 c a b]) fun b a c => fs_none fun d e g => by simp [h2 b a c d e g]) fun a b c => fs_none fun d e g => fs_none fun k l m => by simp [h1 a b c d e g k l m]]
theorem first3_none {n : Int} {f : Int → Int → Int → Bool} (h : ∀ a, 0 ≤ a → a < n → ∀ b, 0 ≤ b → b < n → ∀ c, 0 ≤ c → c < n → f a b c = false) : first3 n f = [] := by
  unfold first3
  rw [fs_none fun a b c => fs_none fun d e g => fs_none fun k l m => by simp [h a b c d e g k l m]]
def cycB (t : List (List Int)) (x y z : Int) : Bool := !decide (el (el t (el (el t x) y)) (el (el t x) z) = el (el t (el (el t y) x)) (el (el t y) z))
def cycF (t : List (List Int)) : List Int := first3 (t.length : Int) (cycB t)
@[reducible] def inR (n : Int) : Prop := 1 ≤ n ∧ n ≤ 12
end
section
def unitI (n : Int) : List Int := ran n id
def backI (p : List Int) : List Int := ran (p.length : Int) fun x => idxI p x
def rackB (t : List (List Int)) (x y z : Int) : Bool := !decide (el (el t x) (el (el t y) z) = el (el t (el (el t x) y)) (el (el t x) z))
def rackF (t : List (List Int)) : List Int := first3 (t.length : Int) (rackB t)
def isRk (t : List (List Int)) : Bool := isTab t && t.all isPerm && (rackF t).isEmpty
def isCyc (t : List (List Int)) : Bool := isTab t && t.all isPerm && isPerm (diag t) && (cycF t).isEmpty
theorem isCyc_tab {t : List (List Int)} (h : isCyc t = true) : isTab t = true := by simp only [isCyc, Bool.and_eq_true] at h; exact h.1.1.1
@[simp] theorem length_backI (p : List Int) : (backI p).length = p.length := by simp [backI]
@[simp] theorem length_unitI (n : Int) : (unitI n).length = n.toNat := by simp [unitI]
theorem isTab_perm {t : List (List Int)} (h : isTab t = true) : t.all permB = t.all isPerm := by
  have key : ∀ r ∈ t, permB r = isPerm r := fun r hr => by
    obtain ⟨i, hi, rfl⟩ := mem_el hr
    have a := (isTab_row h hi).1
    have b := isTab_len h
    unfold permB
    have e1 : decide (1 ≤ ((el t i).length : Int)) = true := decide_eq_true (by omega)
    have e2 : decide (((el t i).length : Int) ≤ 12) = true := decide_eq_true (by omega)
    rw [e1, e2]; rfl
  rw [Bool.eq_iff_iff, List.all_eq_true, List.all_eq_true]
  exact ⟨fun h r hr => by rw [← key r hr]; exact h r hr, fun h r hr => by rw [key r hr]; exact h r hr⟩
@[simp] theorem length_diag (t : List (List Int)) : (diag t).length = t.length := by simp [diag]
theorem rk_len {t : List (List Int)} (h : isTab t = true) {x : Int} (hx : 0 ≤ x ∧ x < (t.length : Int)) : ((el t x).length : Int) = (t.length : Int) := (isTab_row h hx).1
end
section
noncomputable def dec (P : Prop) : Bool := @decide P (Classical.propDecidable P)
noncomputable def the {α : Type} [Inhabited α] (P : α → Prop) : α := Classical.epsilon P
end
section
def permsN (n : Int) (list : List (List Int)) : Prop := ∀ p ∈ list, (p.length : Int) = n ∧ isPerm p = true
theorem nodup_len {α : Type} [DecidableEq α] : ∀ (l p : List α), l.Nodup → (∀ x ∈ l, x ∈ p) → l.length ≤ p.length
  | [], p, _, _ => Nat.zero_le _
  | a :: l, p, hn, hs => by
    have ha := hs a List.mem_cons_self
    have hn' := List.nodup_cons.1 hn
    have ih := nodup_len l (p.erase a) hn'.2 (fun x hx => by
      have hne : x ≠ a := fun e => hn'.1 (e ▸ hx)
      exact (List.mem_erase_of_ne hne).2 (hs x (List.mem_cons_of_mem _ hx)))
    rw [List.length_erase_of_mem ha] at ih
    have := List.length_pos_of_mem ha
    simp; omega
theorem nodup_len_ran {l : List Int} {n : Int} (hn : 0 ≤ n) (h : l.Nodup) (hr : ∀ x ∈ l, 0 ≤ x ∧ x < n) : (l.length : Int) ≤ n := by
  have := nodup_len l (ran n id) h fun x hx => mem_ran.2 (hr x hx)
  simp at this; omega
end
section
def bitP (m x : Int) : Prop := (m / (2 : Int) ^ x.toNat) % 2 = 1
end
section
def idxL (lists : List (List Int)) (list : List Int) : Int := idxF lists (fun own => decide (own = list))
def conjI (x y : List Int) : List Int := ((backI x).map (el y)).map (el x)
def GoodL (list : List (List Int)) : Prop := 1 ≤ (list.length : Int) ∧ ∀ i, 0 ≤ i → i < (list.length : Int) → permB (el list i) = true ∧ ((el list i).length : Int) = ((el list 0).length : Int) ∧ ∀ j, 0 ≤ j → j < i → el list j ≠ el list i
def cjV (list : List (List Int)) (x y : Int) : Int := idxL list (conjI (el list x) (el list y))
def cjT (list : List (List Int)) : List (List Int) := tab (list.length : Int) (cjV list)
noncomputable def CjqE (list : List (List Int)) : Int := if dec (GoodL list) then (if (12 : Int) < (list.length : Int) then 3 else if isTab (cjT list) then 0 else 5) else 1
end
section
inductive Eqv (R : Int → Int → Prop) : Int → Int → Prop
  | refl (a : Int) : Eqv R a a
  | step {a b : Int} (h : R a b) : Eqv R a b
  | symm {a b : Int} (h : Eqv R a b) : Eqv R b a
  | trans {a b c : Int} (h : Eqv R a b) (k : Eqv R b c) : Eqv R a c
theorem Eqv.mono {R S : Int → Int → Prop} (h : ∀ a b, R a b → S a b) {a b : Int} (k : Eqv R a b) : Eqv S a b := by
  induction k with
  | refl a => exact .refl a
  | step k => exact .step (h _ _ k)
  | symm _ ih => exact .symm ih
  | trans _ _ ih1 ih2 => exact .trans ih1 ih2
end
section
def dgt (x : Int) : UInt8 := UInt8.ofNat (if x < 10 then 48 + x else 97 + x - 10).toNat
def digI (l : List Int) : List UInt8 := l.map dgt
def joinI (xs : List (List UInt8)) (s : List UInt8) : List UInt8 := Lib.join xs s
def txtI (t : List (List Int)) : List UInt8 := joinI (t.map digI) [47]
@[simp] theorem digI_len (l : List Int) : (digI l).length = l.length := by simp [digI]
theorem take_el {α : Type} [Inhabited α] {l : List α} {i : Int} (h : 0 ≤ i ∧ i < (l.length : Int)) : l.take (i + 1).toNat = l.take i.toNat ++ [el l i] := by
  have e : (i + 1).toNat = i.toNat + 1 := by omega
  rw [e, List.take_add_one, el_get h]; rfl
theorem txt_len : ∀ (t : List (List Int)), (∀ r ∈ t, r.length ≤ 12) → (txtI t).length ≤ 13 * t.length
  | [], _ => by simp [txtI, joinI, Lib.join_nil]
  | x :: r, h => by
    unfold txtI joinI
    rw [List.map_cons, Lib.join_cons, List.length_append, Lib.joinTail_length]
    have h1 := h x (by simp)
    have h2 : Lib.lens (r.map digI) ≤ 12 * r.length := by
      have : ∀ (r : List (List Int)), (∀ q ∈ r, q.length ≤ 12) → Lib.lens (r.map digI) ≤ 12 * r.length := by
        intro r
        induction r with
        | nil => intro _; simp [Lib.lens]
        | cons q r ih =>
          intro hq
          have a := hq q (by simp)
          have b := ih fun q' hq' => hq q' (by simp [hq'])
          simp only [Lib.lens, List.map_cons, List.sum_cons, List.length_cons, digI_len] at b ⊢
          omega
      exact this r fun q hq => h q (by simp [hq])
    simp only [digI_len, List.length_map, List.length_cons, List.length_nil]
    omega
theorem row_le {t : List (List Int)} (ht : isTab t = true) : ∀ r ∈ t, r.length ≤ 12 := fun r hr => by
  obtain ⟨i, hi, rfl⟩ := mem_el hr
  have := rk_len ht hi
  have := isTab_len ht
  omega
end
section

end
section
inductive Sc (t : List (List Int)) (l : List Int) : Int → Prop
  | base {a : Int} : a ∈ l → Sc t l a
  | step {a b : Int} : Sc t l a → Sc t l b → Sc t l (el (el t a) b)
theorem bit_nat {m x : Int} (hm : 0 ≤ m) : bitP m x ↔ m.toNat.testBit x.toNat = true := by
  unfold bitP
  obtain ⟨k, rfl⟩ := Int.eq_ofNat_of_zero_le hm
  rw [Nat.testBit_eq_decide_div_mod_eq, decide_eq_true_eq, Int.toNat_natCast]
  have e : ((k : Int) / (2 : Int) ^ x.toNat) % 2 = (((k / 2 ^ x.toNat) % 2 : Nat) : Int) := by simp
  rw [e]; omega
theorem pow_cast (k : Nat) : (1 * (2 : Int) ^ k).toNat = 2 ^ k := by
  have : (1 * (2 : Int) ^ k) = ((2 ^ k : Nat) : Int) := by simp
  rw [this, Int.toNat_natCast]
theorem bit_or {m k x : Int} (hm : 0 ≤ m) (hk : 0 ≤ k) (hx : 0 ≤ x) : bitP (((m.toNat ||| (1 * (2 : Int) ^ k.toNat).toNat : Nat) : Int)) x ↔ bitP m x ∨ x = k := by
  rw [bit_nat (by omega), bit_nat hm, Int.toNat_natCast, pow_cast, Nat.testBit_or, Nat.testBit_two_pow, Bool.or_eq_true, decide_eq_true_eq]
  constructor
  · rintro (h | h)
    · exact .inl h
    · exact .inr (by omega)
  · rintro (h | h)
    · exact .inl h
    · exact .inr (by omega)
theorem or_lt2 {m k n : Int} (hm : 0 ≤ m ∧ m < (2 : Int) ^ n.toNat) (hk : 0 ≤ k ∧ k < n) : 0 ≤ (((m.toNat ||| (1 * (2 : Int) ^ k.toNat).toNat : Nat) : Int)) ∧ (((m.toNat ||| (1 * (2 : Int) ^ k.toNat).toNat : Nat) : Int)) < (2 : Int) ^ n.toNat := by
  refine ⟨by omega, ?_⟩
  rw [pow_cast]
  have e : (2 : Int) ^ n.toNat = ((2 ^ n.toNat : Nat) : Int) := by simp
  rw [e] at hm ⊢
  have h1 : m.toNat < 2 ^ n.toNat := by omega
  have h2 : 2 ^ k.toNat < 2 ^ n.toNat := Nat.pow_lt_pow_right (by omega) (by omega)
  exact_mod_cast Nat.or_lt_two_pow h1 h2

end
section

end
section

end
section
section
variable {a b : List (List Int)}
end
end
section
section
variable {t : List (List Int)} {p : List Int} {x y : Int} {o : List (List Int)}
end
section
variable {r : List (List Int)} (h : isRk r = true)
include h
end

end
section
/-! Least congruences. -/
section
variable {r : List (List Int)} (h : isRk r = true) {x y : Int} (hx : 0 ≤ x ∧ x < (r.length : Int)) (hy : 0 ≤ y ∧ y < (r.length : Int))
include h hx hy
end
/-! Least subracks. -/
section
variable {r : List (List Int)} (h : isRk r = true) {l : List Int} (hl : ∀ x ∈ l, 0 ≤ x ∧ x < (r.length : Int))
include h hl
end
end
section
section
variable {c : List (List Int)} (h : isCyc c = true)
include h
end
end
section
section
variable {α : Type} [Inhabited α] {f : α → α → Int} {a b : List α} {i : Int}
end
end
section
def lexL (a b : List Int) : Prop := ∃ j, (0 ≤ j ∧ j < (a.length : Int)) ∧ Upto j (fun m => el a m = el b m) ∧ el a j < el b j
section
variable {p : List Int} {i k : Int}
end
section
variable {n : Int}
end

end
section

end
section
def LexS (n : Nat) (l : List (List Int)) : Prop := l.Pairwise lexL ∧ ∀ x ∈ l, x.length = n
section
variable {x y : List Int}
end
section
variable {p : List Int} (hp : permB p = true)
include hp
end
end
section
section
variable {n : Int} {list : List (List Int)} (hn : 1 ≤ n ∧ n ≤ 12) (hP : permsN n list)
include hn hP
end
section
variable {n : Int} {list q : List (List Int)} {i k : Int}
end
end
section
structure OkM (a b : List (List (List Int))) (f : List Int) (u : List Bool) (s : List Int) : Prop where
  la : a.length = b.length
  ha : ∀ k, 0 ≤ k → k < (a.length : Int) → isTab (el a k) = true ∧ (el a k).length = f.length
  hb : ∀ k, 0 ≤ k → k < (b.length : Int) → isTab (el b k) = true ∧ (el b k).length = f.length
  sm : (a.length : Int) ≤ 1000
  lu : u.length = f.length
  n12 : 1 ≤ (f.length : Int) ∧ (f.length : Int) ≤ 12
  nd : s.Nodup
  mem : ∀ x, x ∈ s ↔ (0 ≤ x ∧ x < (f.length : Int)) ∧ 0 ≤ el f x
  val : ∀ x, 0 ≤ x → x < (f.length : Int) → el f x = -1 ∨ (0 ≤ el f x ∧ el f x < (f.length : Int))
  use : ∀ v, 0 ≤ v → v < (f.length : Int) → (el u v = true ↔ ∃ x, x ∈ s ∧ el f x = v)
  inj : ∀ x ∈ s, ∀ y ∈ s, el f x = el f y → x = y
def el3 (a : List (List (List Int))) (k x y : Int) : Int := el (el (el a k) x) y
def IsoP (a b : List (List (List Int))) (p : List Int) : Prop := isPerm p = true ∧ ∀ k, 0 ≤ k → k < (a.length : Int) → ∀ x y, (0 ≤ x ∧ x < (p.length : Int)) → (0 ≤ y ∧ y < (p.length : Int)) → el p (el3 a k x y) = el3 b k (el p x) (el p y)
def ExtI (f p : List Int) : Prop := ∀ x, 0 ≤ x → x < (f.length : Int) → 0 ≤ el f x → el p x = el f x
def Ck1 (a b : List (List (List Int))) (f : List Int) (k x y : Int) : Prop := el f (el3 a k x y) = el3 b k (el f x) (el f y)
def Ck (a b : List (List (List Int))) (f : List Int) (x y : Int) : Prop := ∀ k, 0 ≤ k → k < (a.length : Int) → Ck1 a b f k x y ∧ Ck1 a b f k y x
def Dn (a b : List (List (List Int))) (f s : List Int) (c : Int) : Prop := ∀ j i, c ≤ j → j < (s.length : Int) → 0 ≤ i → i ≤ j → Ck a b f (el s j) (el s i)
def AsgP (a b : List (List (List Int))) (f : List Int) (_u : List Bool) (s : List Int) (x v : Int) (r : Bool) (f' : List Int) (u' : List Bool) (s' : List Int) : Prop :=
  OkM a b f' u' s' ∧ f'.length = f.length ∧ (∃ t, s' = s ++ t) ∧ (∀ y ∈ s, el f' y = el f y) ∧ (r = true → el f' x = v ∧ Dn a b f' s' (s.length : Int)) ∧
  ∀ p, p.length = f.length → IsoP a b p → ExtI f p → el p x = v → r = true ∧ ExtI f' p
section
variable {a b : List (List (List Int))} {f f' : List Int} {u u' : List Bool} {s s' : List Int}
theorem OkM.a_in (h : OkM a b f u s) {k x y : Int} (hk : 0 ≤ k ∧ k < (a.length : Int)) (hx : 0 ≤ x ∧ x < (f.length : Int)) (hy : 0 ≤ y ∧ y < (f.length : Int)) :
    (x < ((el a k).length : Int)) ∧ (y < ((el (el a k) x).length : Int)) ∧ 0 ≤ el3 a k x y ∧ el3 a k x y < (f.length : Int) := by
  obtain ⟨h1, h2⟩ := h.ha k hk.1 hk.2
  have := isTab_row h1 (i := x) ⟨hx.1, by omega⟩
  have h3 := this.2 y hy.1 (by omega)
  exact ⟨by omega, by omega, h3.1, by have := h3.2; show el (el (el a k) x) y < _; omega⟩
theorem OkM.b_in (h : OkM a b f u s) {k x y : Int} (hk : 0 ≤ k ∧ k < (a.length : Int)) (hx : 0 ≤ x ∧ x < (f.length : Int)) (hy : 0 ≤ y ∧ y < (f.length : Int)) :
    (k < (b.length : Int)) ∧ (x < ((el b k).length : Int)) ∧ (y < ((el (el b k) x).length : Int)) ∧ 0 ≤ el3 b k x y ∧ el3 b k x y < (f.length : Int) := by
  have hl := h.la
  obtain ⟨h1, h2⟩ := h.hb k hk.1 (by omega)
  have := isTab_row h1 (i := x) ⟨hx.1, by omega⟩
  have h3 := this.2 y hy.1 (by omega)
  exact ⟨by omega, by omega, by omega, h3.1, by have := h3.2; show el (el (el b k) x) y < _; omega⟩
theorem OkM.in_s (h : OkM a b f u s) {x : Int} (hx : x ∈ s) : (0 ≤ x ∧ x < (f.length : Int)) ∧ 0 ≤ el f x ∧ el f x < (f.length : Int) := by
  have h1 := (h.mem x).1 hx
  have := h.val x h1.1.1 h1.1.2
  exact ⟨h1.1, h1.2, by omega⟩
theorem OkM.len (h : OkM a b f u s) : (s.length : Int) ≤ (f.length : Int) := nodup_len_ran (by omega) h.nd fun x hx => (h.in_s hx).1
theorem OkM.add (h : OkM a b f u s) {x v : Int} (hx : 0 ≤ x ∧ x < (f.length : Int)) (hn : ¬ 0 ≤ el f x) (hv : 0 ≤ v ∧ v < (f.length : Int)) (hu : el u v = false) : OkM a b (se f x v) (se u v true) (s ++ [x]) := by
  have hl : (se f x v).length = f.length := by simp
  have hx2 : x ∉ s := fun hm => hn ((h.mem x).1 hm).2
  have same : ∀ y, 0 ≤ y → y ≠ x → el (se f x v) y = el f y := fun y y0 hy => el_se_ne hx.1 y0 (Ne.symm hy)
  have here : el (se f x v) x = v := el_se_same hx
  have old : ∀ y ∈ s, el (se f x v) y = el f y := fun y hy => same y (h.in_s hy).1.1 fun e => hx2 (e ▸ hy)
  refine ⟨h.la, fun k a b => by rw [hl]; exact h.ha k a b, fun k a b => by rw [hl]; exact h.hb k a b, h.sm, by simp [h.lu], by rw [hl]; exact h.n12, List.nodup_append.2 ⟨h.nd, by simp, fun y hy z hz e => by rw [List.mem_singleton.1 hz] at e; exact hx2 (e ▸ hy)⟩, fun y => ?_, fun y y0 y1 => ?_, fun w w0 w1 => ?_, fun y hy z hz e => ?_⟩
  · rw [hl, List.mem_append, List.mem_singleton, h.mem]
    by_cases e : y = x
    · subst e; rw [here]; exact ⟨fun _ => ⟨hx, hv.1⟩, fun _ => .inr rfl⟩
    · constructor
      · rintro (k | k)
        · exact ⟨k.1, by rw [same y k.1.1 e]; exact k.2⟩
        · exact absurd k e
      · rintro ⟨k1, k2⟩; exact .inl ⟨k1, by rwa [same y k1.1 e] at k2⟩
  · rw [hl] at y1 ⊢
    by_cases e : y = x
    · subst e; rw [here]; exact .inr hv
    · rw [same y y0 e]; exact h.val y y0 y1
  · rw [hl] at w1
    by_cases e : w = v
    · subst e; rw [el_se_same ⟨w0, by rw [h.lu]; exact w1⟩]; exact ⟨fun _ => ⟨x, by simp, here⟩, fun _ => rfl⟩
    · rw [el_se_ne hv.1 w0 (Ne.symm e), h.use w w0 w1]
      constructor
      · rintro ⟨y, hy, e2⟩; exact ⟨y, List.mem_append_left _ hy, by rw [old y hy]; exact e2⟩
      · rintro ⟨y, hy, e2⟩
        rcases List.mem_append.1 hy with hy | hy
        · exact ⟨y, hy, by rw [← old y hy]; exact e2⟩
        · rw [List.mem_singleton.1 hy, here] at e2; exact absurd e2.symm e
  · have nov : ∀ y ∈ s, el f y ≠ v := fun y hy e => by
      have := (h.use v hv.1 hv.2).2 ⟨y, hy, e⟩
      rw [hu] at this; cases this
    rcases List.mem_append.1 hy with hy | hy <;> rcases List.mem_append.1 hz with hz | hz
    · rw [old y hy, old z hz] at e; exact h.inj y hy z hz e
    · rw [List.mem_singleton.1 hz, here, old y hy] at e; exact absurd e (nov y hy)
    · rw [List.mem_singleton.1 hy, here, old z hz] at e; exact absurd e.symm (nov z hz)
    · rw [List.mem_singleton.1 hy, List.mem_singleton.1 hz]
theorem ck1_mono (h : OkM a b f u s) (_h' : OkM a b f' u' s') (_hl : f'.length = f.length) (hag : ∀ y ∈ s, el f' y = el f y) {k x y : Int} (hk : 0 ≤ k ∧ k < (a.length : Int)) (hx : x ∈ s) (hy : y ∈ s) (hc : Ck1 a b f k x y) : Ck1 a b f' k x y := by
  have gx := h.in_s hx
  have gy := h.in_s hy
  have h1 := h.a_in hk gx.1 gy.1
  have h2 := h.b_in hk gx.2 gy.2
  unfold Ck1 at hc ⊢
  have hm : el3 a k x y ∈ s := (h.mem _).2 ⟨h1.2.2, by rw [hc]; exact h2.2.2.2.1⟩
  rw [hag x hx, hag y hy, hag _ hm, hc]
theorem ck_mono (h : OkM a b f u s) (h' : OkM a b f' u' s') (hl : f'.length = f.length) (hag : ∀ y ∈ s, el f' y = el f y) {x y : Int} (hx : x ∈ s) (hy : y ∈ s) (hc : Ck a b f x y) : Ck a b f' x y := fun k k0 k1 =>
  ⟨ck1_mono h h' hl hag ⟨k0, k1⟩ hx hy (hc k k0 k1).1, ck1_mono h h' hl hag ⟨k0, k1⟩ hy hx (hc k k0 k1).2⟩
theorem dn_mono (h : OkM a b f u s) (h' : OkM a b f' u' s') (hl : f'.length = f.length) (hag : ∀ y ∈ s, el f' y = el f y) (hp : ∃ t, s' = s ++ t) {c : Int} (hc0 : 0 ≤ c) (hd : Dn a b f s c) (hd' : Dn a b f' s' (s.length : Int)) : Dn a b f' s' c := fun j i h1 h2 h3 h4 => by
  obtain ⟨t, rfl⟩ := hp
  by_cases hj : j < (s.length : Int)
  · rw [el_append_l ⟨by omega, hj⟩, el_append_l ⟨h3, by omega⟩]
    exact ck_mono h h' hl hag (el_mem ⟨by omega, hj⟩) (el_mem ⟨h3, by omega⟩) (hd j i h1 hj h3 h4)
  · exact hd' j i (by omega) h2 h3 h4
end

end
section
section
variable {a b : List (List (List Int))} {f : List Int}
theorem LexS.filter {n : Nat} {l : List (List Int)} (h : LexS n l) (q : List Int → Bool) : LexS n (l.filter q) := ⟨List.Pairwise.filter _ h.1, fun x hx => h.2 x (List.mem_filter.1 hx).1⟩
end

end
section
section
variable {a b : List (List (List Int))} {p c d : List Int}
end
end
section

end
section
section
variable {l : List (List Int)} (h : CjqE l = 0)
include h
end
end
section
section
variable {n : Int} {list : List (List Int)} (hn : 1 ≤ n ∧ n ≤ 12) (hP : permsN n list)
include hn hP
end
section
variable {r : List (List Int)} (h : isRk r = true)
include h
end

end
section
section
variable {r s b : List (List Int)} (hr : isTab r = true) (hs : isTab s = true) (hb : isTab b = true)
include hs hb
omit hs in
include hr
end
section
variable {r : List (List Int)} (ht : isTab r = true)
include ht
end

end
section
def splS (s : List UInt8) (c : Int) : List (List UInt8) := s.foldr (fun b r => if (b.toNat : Int) = c then [] :: r else match r with | [] => [[b]] | x :: r => (b :: x) :: r) [[]]
def digV (b : Int) : Int := if 48 ≤ b ∧ b ≤ 57 then b - 48 else if 97 ≤ b ∧ b ≤ 98 then b - 87 else -1
def rdgB (s : List UInt8) : Bool := s.all fun b => decide (0 ≤ digV (b.toNat : Int))
def rdgV (s : List UInt8) : List Int := s.map fun b => digV (b.toNat : Int)
def rdgT (s : List UInt8) : List Int := if rdgB s then rdgV s else []
def rtbV (s : List UInt8) : List (List Int) := (splS s 47).map rdgV
def rtbB (s : List UInt8) : Bool := (splS s 47).all rdgB && isTab (rtbV s)
def rtbT (s : List UInt8) : List (List Int) := if rtbB s then rtbV s else []
def rdiT (s : List UInt8) : List (List Int) := if (s.length : Int) ≤ 156 ∧ (splS s 47).all rdgB = true then rtbV s else []
def pcyE (s : List UInt8) : Int := if rtbB s = true ∧ isCyc (rtbV s) = true then 0 else 6
def pcyT (s : List UInt8) : List (List Int) := if pcyE s = 0 then rtbV s else []
theorem splS_nil (c : Int) : splS [] c = [[]] := rfl
theorem splS_sep {b : UInt8} {s : List UInt8} {c : Int} (h : (b.toNat : Int) = c) : splS (b :: s) c = [] :: splS s c := by simp [splS, h]
theorem splS_ne (s : List UInt8) (c : Int) : ∃ x r, splS s c = x :: r := by
  cases s with
  | nil => exact ⟨_, _, rfl⟩
  | cons b s =>
    by_cases h : (b.toNat : Int) = c
    · exact ⟨_, _, splS_sep h⟩
    · unfold splS
      rw [List.foldr_cons, if_neg h]
      split <;> exact ⟨_, _, rfl⟩
theorem splS_oth {b : UInt8} {s : List UInt8} {c : Int} {x : List UInt8} {r : List (List UInt8)} (h : ¬ (b.toNat : Int) = c) (e : splS s c = x :: r) : splS (b :: s) c = (b :: x) :: r := by
  unfold splS at e ⊢
  rw [List.foldr_cons, if_neg h, e]
theorem splS_app {c : Int} {t : List UInt8} {y : List UInt8} {R : List (List UInt8)} (ht : splS t c = y :: R) : ∀ {s : List UInt8} {P : List (List UInt8)} {x : List UInt8}, splS s c = P ++ [x] → splS (s ++ t) c = P ++ (x ++ y) :: R
  | [], P, x, h => by
    rw [splS_nil] at h
    cases P with
    | nil => simp only [List.nil_append, List.cons.injEq, and_true] at h; subst h; simpa using ht
    | cons p P => simp at h
  | b :: s, P, x, h => by
    by_cases hb : (b.toNat : Int) = c
    · rw [splS_sep hb] at h
      cases P with
      | nil =>
        obtain ⟨u, v, e⟩ := splS_ne s c
        rw [e] at h; simp at h
      | cons p P =>
        simp only [List.cons_append, List.cons.injEq] at h
        obtain ⟨rfl, h⟩ := h
        rw [List.cons_append, splS_sep hb, splS_app ht h]; rfl
    · obtain ⟨u, v, e⟩ := splS_ne s c
      rw [splS_oth hb e] at h
      cases P with
      | nil =>
        simp only [List.nil_append, List.cons.injEq] at h
        obtain ⟨rfl, rfl⟩ := h
        have := splS_app ht (P := []) (x := u) (by rw [e]; rfl)
        rw [List.cons_append, splS_oth hb this]; rfl
      | cons p P =>
        simp only [List.cons_append, List.cons.injEq] at h
        obtain ⟨rfl, rfl⟩ := h
        have := splS_app ht (P := u :: P) (x := x) (by rw [e]; rfl)
        rw [List.cons_append, splS_oth hb this]; rfl
theorem splS_none {c : Int} : ∀ {s : List UInt8}, (∀ b ∈ s, ¬ (b.toNat : Int) = c) → splS s c = [s]
  | [], _ => rfl
  | b :: s, h => by rw [splS_oth (h b (by simp)) (splS_none fun x hx => h x (by simp [hx]))]
theorem splS_snoc_sep {c : Int} {s : List UInt8} {P : List (List UInt8)} {x : List UInt8} {b : UInt8} (h : splS s c = P ++ [x]) (hb : (b.toNat : Int) = c) : splS (s ++ [b]) c = (P ++ [x]) ++ [[]] := by
  rw [splS_app (t := [b]) (y := []) (R := [[]]) (splS_sep hb) h]; simp
theorem splS_snoc {c : Int} {s : List UInt8} {P : List (List UInt8)} {x : List UInt8} {b : UInt8} (h : splS s c = P ++ [x]) (hb : ¬ (b.toNat : Int) = c) : splS (s ++ [b]) c = P ++ [x ++ [b]] := by
  rw [splS_app (t := [b]) (y := [b]) (R := []) (splS_oth hb (splS_nil c)) h]
theorem splS_cut {c : Int} {p r : List UInt8} {b : UInt8} (hp : ∀ x ∈ p, ¬ (x.toNat : Int) = c) (hb : (b.toNat : Int) = c) : splS (p ++ b :: r) c = p :: splS r c := by
  rw [splS_app (y := []) (R := splS r c) (splS_sep hb) (P := []) (x := p) (by rw [splS_none hp]; rfl)]; simp
theorem splS_len {c : Int} : ∀ s : List UInt8, (splS s c).length = (s.filter fun b => decide ((b.toNat : Int) = c)).length + 1
  | [] => rfl
  | b :: s => by
    by_cases h : (b.toNat : Int) = c
    · rw [splS_sep h, List.filter_cons_of_pos (by simpa using h), List.length_cons, splS_len s, List.length_cons]
    · obtain ⟨u, v, e⟩ := splS_ne s c
      have := splS_len (c := c) s
      rw [splS_oth h e, List.filter_cons_of_neg (by simpa using h), List.length_cons, ← this, e, List.length_cons]
theorem splS_le (s : List UInt8) (c : Int) : (splS s c).length ≤ s.length + 1 := by
  rw [splS_len]; exact Nat.succ_le_succ (List.length_filter_le _ _)
theorem idxF_cons {α : Type} {b : α} {s : List α} {f : α → Bool} : idxF (b :: s) f = if f b then 0 else if idxF s f = -1 then -1 else idxF s f + 1 := by
  unfold idxF
  rw [List.any_cons, List.findIdx_cons]
  cases f b with
  | true => simp
  | false =>
    cases s.any f with
    | true => simp <;> omega
    | false => simp
theorem idx_cut {α : Type} {f : α → Bool} : ∀ {v : List α}, ¬ idxF v f < 0 → ∃ p b r, v = p ++ b :: r ∧ (∀ x ∈ p, f x = false) ∧ f b = true ∧ idxF v f = (p.length : Int)
  | [], h => absurd (show idxF [] f < 0 by simp [idxF]) h
  | b :: v, h => by
    rw [idxF_cons] at h ⊢
    cases hb : f b with
    | true => exact ⟨[], b, v, rfl, by simp, hb, by simp⟩
    | false =>
      rw [hb] at h
      simp only [Bool.false_eq_true, if_false] at h ⊢
      have hv : ¬ idxF v f < 0 := by
        intro g
        unfold idxF at g h
        split at g
        · omega
        · rename_i q; simp [q] at h
      obtain ⟨p, c, r, rfl, h1, h2, h3⟩ := idx_cut hv
      refine ⟨b :: p, c, r, rfl, fun x hx => (List.mem_cons.1 hx).elim (fun e => by rw [e]; exact hb) (h1 x), h2, ?_⟩
      rw [h3, if_neg (by omega)]; simp
theorem idx_no {α : Type} {f : α → Bool} {v : List α} (h : idxF v f < 0) : ∀ x ∈ v, f x = false := by
  intro x hx
  unfold idxF at h
  split at h
  · omega
  · rename_i q
    cases hf : f x with
    | false => rfl
    | true => exact absurd (List.any_eq_true.2 ⟨x, hx, hf⟩) q
theorem byt_el (s : List UInt8) (z : Int) : byt s z = ((el s z).toNat : Int) := rfl
theorem byt_in (s : List UInt8) (z : Int) : 0 ≤ byt s z ∧ byt s z ≤ 255 := by
  rw [byt_el]; have := (el s z).toNat_lt; omega
theorem idx_dig {c : Int} (h : 0 ≤ c ∧ c ≤ 255) : idxF ([48, 49, 50, 51, 52, 53, 54, 55, 56, 57, 97, 98] : List UInt8) (fun b_ => decide ((b_.toNat : Int) = c)) = digV c := by
  have k : ∀ k : Fin 256, idxF ([48, 49, 50, 51, 52, 53, 54, 55, 56, 57, 97, 98] : List UInt8) (fun b_ => decide ((b_.toNat : Int) = (k.val : Int))) = digV (k.val : Int) := by decide +kernel
  have := k ⟨c.toNat, by omega⟩
  simpa only [Int.toNat_of_nonneg h.1] using this
theorem rdgB_iff {s : List UInt8} : rdgB s = true ↔ ∀ j, 0 ≤ j → j < (s.length : Int) → 0 ≤ digV (byt s j) := by
  unfold rdgB
  rw [List.all_eq_true]
  exact ⟨fun h j j0 j1 => of_decide_eq_true (h _ (el_mem ⟨j0, j1⟩)), fun h b hb => by
    obtain ⟨j, hj, rfl⟩ := mem_el hb
    exact decide_eq_true (h j hj.1 hj.2)⟩
theorem rdgB_no {s : List UInt8} {j : Int} (hj : 0 ≤ j ∧ j < (s.length : Int)) (h : ¬ 0 ≤ digV (byt s j)) : rdgB s = false := by
  cases hb : rdgB s with
  | false => rfl
  | true => exact absurd (rdgB_iff.1 hb j hj.1 hj.2) h
theorem rdgV_el {s : List UInt8} {j : Int} (hj : 0 ≤ j ∧ j < (s.length : Int)) : el (rdgV s) j = digV (byt s j) := by
  unfold rdgV; rw [el_map hj]; rfl
@[simp] theorem rdgV_len (s : List UInt8) : (rdgV s).length = s.length := by simp [rdgV]
theorem splS_part {c : Int} : ∀ {s : List UInt8}, ∀ x ∈ splS s c, x.length ≤ s.length
  | [], x, hx => by rw [splS_nil] at hx; simp at hx; subst hx; simp
  | b :: s, x, hx => by
    by_cases h : (b.toNat : Int) = c
    · rw [splS_sep h] at hx
      rcases List.mem_cons.1 hx with rfl | hx
      · simp
      · have := splS_part x hx; simp only [List.length_cons]; omega
    · obtain ⟨u, v, e⟩ := splS_ne s c
      rw [splS_oth h e] at hx
      rcases List.mem_cons.1 hx with rfl | hx
      · have := splS_part (s := s) u (by rw [e]; simp); simp only [List.length_cons]; omega
      · have := splS_part (s := s) x (by rw [e]; simp [hx]); simp only [List.length_cons]; omega
def shortS (s : List UInt8) : Prop := (s.length : Int) ≤ 2000000
theorem join_splS : ∀ s : List UInt8, joinI (splS s 47) [47] = s
  | [] => rfl
  | b :: s => by
    obtain ⟨u, v, e⟩ := splS_ne s 47
    have ih := join_splS s
    rw [e] at ih
    unfold joinI at ih ⊢
    rw [Lib.join_cons] at ih
    by_cases h : (b.toNat : Int) = 47
    · have hb : b = 47 := by apply UInt8.toNat_inj.1; show b.toNat = 47; omega
      rw [splS_sep h, e, Lib.join_cons, Lib.joinTail, List.map_cons, List.flatten_cons, ← ih, hb]; simp [Lib.joinTail]
    · rw [splS_oth h e, Lib.join_cons, List.cons_append, ih]
theorem joinI_len : ∀ {xs : List (List UInt8)}, xs ≠ [] → (joinI xs [47]).length + 1 = xs.length + Lib.lens xs
  | [], h => absurd rfl h
  | x :: r, _ => by
    have := Lib.join_length x r [47]
    unfold joinI
    rw [this]; simp only [List.length_cons, List.length_nil]; omega
theorem dgt_digV (b : UInt8) (h : 0 ≤ digV (b.toNat : Int)) : dgt (digV (b.toNat : Int)) = b ∧ digV (b.toNat : Int) < 12 := by
  have hb := b.toNat_lt
  unfold digV at h ⊢
  split
  · rename_i g
    refine ⟨?_, by omega⟩
    unfold dgt
    rw [if_pos (by omega)]
    apply UInt8.toNat_inj.1
    rw [show ((48 : Int) + ((b.toNat : Int) - 48)).toNat = b.toNat by omega]
    simp
  · split
    · rename_i g
      refine ⟨?_, by omega⟩
      unfold dgt
      rw [if_neg (by omega)]
      apply UInt8.toNat_inj.1
      rw [show ((97 : Int) + ((b.toNat : Int) - 87) - 10).toNat = b.toNat by omega]
      simp
    · rename_i g1 g2; simp [g1, g2] at h
theorem digI_rdgV {s : List UInt8} (h : rdgB s = true) : digI (rdgV s) = s := by
  unfold digI rdgV
  rw [List.map_map]
  refine (List.map_congr_left fun b hb => ?_).trans (List.map_id s)
  have := List.all_eq_true.1 h b hb
  exact (dgt_digV b (of_decide_eq_true this)).1
theorem txt_rtb {s : List UInt8} (h : rtbB s = true) : txtI (rtbT s) = s := by
  have h' := h
  unfold rtbB at h'
  rw [Bool.and_eq_true, List.all_eq_true] at h'
  unfold rtbT
  rw [if_pos h]
  unfold txtI rtbV
  have e : (splS s 47).map (digI ∘ rdgV) = splS s 47 := (List.map_congr_left fun x hx => digI_rdgV (h'.1 x hx)).trans (List.map_id _)
  rw [List.map_map, e, join_splS]
theorem rtb_tab {s : List UInt8} (h : rtbB s = true) : isTab (rtbT s) = true := by
  have h' := h
  unfold rtbB at h'
  rw [Bool.and_eq_true] at h'
  unfold rtbT
  rw [if_pos h]; exact h'.2
theorem rtb_short {s : List UInt8} (h : rtbB s = true) : (s.length : Int) ≤ 156 := by
  have e := txt_rtb h
  have ht := rtb_tab h
  have := txt_len (rtbT s) (row_le ht)
  have hn := isTab_len ht
  rw [e] at this
  have l := joinI_len (xs := splS s 47) (by obtain ⟨u, v, e⟩ := splS_ne s 47; rw [e]; simp)
  rw [join_splS] at l
  have v : rtbT s = rtbV s := by unfold rtbT; rw [if_pos h]
  have q : (splS s 47).length = (rtbT s).length := by rw [v]; unfold rtbV; simp
  have w : Lib.lens (splS s 47) ≤ 12 * (splS s 47).length := by
    have hr := row_le ht
    rw [v] at hr
    unfold rtbV at hr
    have : ∀ (r : List (List UInt8)), (∀ q ∈ r, q.length ≤ 12) → Lib.lens r ≤ 12 * r.length := by
      intro r
      induction r with
      | nil => intro _; simp [Lib.lens]
      | cons q r ih =>
        intro hq
        have a := hq q (by simp)
        have b := ih fun q' hq' => hq q' (by simp [hq'])
        simp only [Lib.lens, List.map_cons, List.sum_cons, List.length_cons] at b ⊢
        omega
    exact this _ fun q hq => by have := hr (rdgV q) (List.mem_map.2 ⟨q, hq, rfl⟩); unfold rdgV at this; simpa using this
  omega

end
section
section
variable {r s : List (List Int)}
end

end
section
section
variable {r s : List (List Int)}
end

end
end Go.Proofs.YtkmoeodoidpjkaaDoor
