/- Plain definitions and what holds of them, all in one; no condition. -/
import Derived.Test.YtkmoeodoidpjkaaWe
import Derived.Lib.SlicesCompact
import Derived.Lib.Join
import Derived.Test.YtkmoeodoidpjkaaWc
namespace Go.Proofs.Ytkmoeodoidpjkaa
section
theorem el_se_same {α : Type} [Inhabited α] {l : List α} {i : Int} {v : α} (h : 0 ≤ i ∧ i < (l.length : Int)) : el (se l i v) i = v := by
  have : i.toNat < l.length := by omega
  simp [el, se, List.getD_eq_getElem?_getD, this]
theorem el_se_ne {α : Type} [Inhabited α] {l : List α} {i j : Int} {v : α} (hi : 0 ≤ i) (hj : 0 ≤ j) (h : i ≠ j) : el (se l i v) j = el l j := by
  have : i.toNat ≠ j.toNat := by omega
  simp [el, se, List.getD_eq_getElem?_getD, this]
theorem ext_el {α : Type} [Inhabited α] {a b : List α} (hl : a.length = b.length) (h : ∀ i : Int, 0 ≤ i → i < (a.length : Int) → el a i = el b i) : a = b := by
  apply List.ext_getElem hl
  intro n h1 h2
  have := h n (by omega) (by omega)
  simpa [el, List.getD_eq_getElem?_getD, List.getElem?_eq_getElem h1, List.getElem?_eq_getElem h2] using this
theorem el_mem {α : Type} [Inhabited α] {l : List α} {i : Int} (h : 0 ≤ i ∧ i < (l.length : Int)) : el l i ∈ l := by
  have := el_get h
  exact List.mem_of_getElem? this
theorem mem_el {α : Type} [Inhabited α] {l : List α} {x : α} (h : x ∈ l) : ∃ i : Int, (0 ≤ i ∧ i < (l.length : Int)) ∧ el l i = x := by
  obtain ⟨n, hn, rfl⟩ := List.getElem_of_mem h
  exact ⟨n, ⟨by omega, by omega⟩, by simp [el, List.getD_eq_getElem?_getD, List.getElem?_eq_getElem hn]⟩
theorem el_append_l {α : Type} [Inhabited α] {a b : List α} {i : Int} (h : 0 ≤ i ∧ i < (a.length : Int)) : el (a ++ b) i = el a i := by
  have : i.toNat < a.length := by omega
  simp [el, List.getD_eq_getElem?_getD, List.getElem?_append_left this]
theorem el_append_r {α : Type} [Inhabited α] {a b : List α} {i : Int} (h : (a.length : Int) ≤ i) : el (a ++ b) i = el b (i - (a.length : Int)) := by
  have h1 : a.length ≤ i.toNat := by omega
  have h2 : (i - (a.length : Int)).toNat = i.toNat - a.length := by omega
  unfold el
  rw [h2, List.getD_eq_getElem?_getD, List.getD_eq_getElem?_getD, List.getElem?_append_right h1]
theorem el_append_last {α : Type} [Inhabited α] {a : List α} {x : α} {i : Int} (h : i = (a.length : Int)) : el (a ++ [x]) i = x := by
  subst h; rw [el_append_r (by omega)]; simp [el]
theorem el_ran {α : Type} [Inhabited α] {n i : Int} {f : Int → α} (h : 0 ≤ i ∧ i < n) : el (ran n f) i = f i := by
  have h2 := get_ran f (i := i.toNat) (by omega : ((i.toNat : Nat) : Int) < n)
  have h3 : ((i.toNat : Nat) : Int) = i := by omega
  rw [h3] at h2
  simp [el, List.getD_eq_getElem?_getD, h2]
theorem el_rep {α : Type} [Inhabited α] {n : Nat} {v : α} {i : Int} (h : 0 ≤ i ∧ i < (n : Int)) : el (List.replicate n v) i = v := by
  have : i.toNat < n := by omega
  simp [el, List.getD_eq_getElem?_getD, this]
theorem el_sl {α : Type} [Inhabited α] {l : List α} {a b i : Int} (ha : 0 ≤ a) (hi : 0 ≤ i) (h : a + i < b) : el (sl l a b) i = el l (a + i) := by
  have h1 : a.toNat + i.toNat < b.toNat := by omega
  have h2 : (a + i).toNat = a.toNat + i.toNat := by omega
  simp [el, sl, List.getD_eq_getElem?_getD, List.getElem?_drop, h1, h2]
theorem length_sl {α : Type} {l : List α} {a b : Int} (h : 0 ≤ a ∧ a ≤ b ∧ b ≤ (l.length : Int)) : ((sl l a b).length : Int) = b - a := by
  simp [sl]; omega
theorem eq_ran {α : Type} [Inhabited α] {n : Int} {f : Int → α} {l : List α} (hl : l.length = n.toNat) (h : ∀ i, 0 ≤ i → i < n → el l i = f i) : l = ran n f :=
  ext_el (by simp [hl]) fun i h0 h1 => by rw [el_ran ⟨h0, by omega⟩]; exact h i h0 (by omega)
theorem ran_el {α : Type} [Inhabited α] (l : List α) : ran (l.length : Int) (el l) = l := (eq_ran (by simp) fun _ _ _ => rfl).symm
theorem all_el {α : Type} [Inhabited α] {l : List α} {p : α → Bool} : l.all p = true ↔ ∀ i : Int, 0 ≤ i → i < (l.length : Int) → p (el l i) = true := by
  rw [List.all_eq_true]
  exact ⟨fun h i h0 h1 => h _ (el_mem ⟨h0, h1⟩), fun h x hx => by obtain ⟨i, hi, rfl⟩ := mem_el hx; exact h i hi.1 hi.2⟩
theorem any_el {α : Type} [Inhabited α] {l : List α} {p : α → Bool} : l.any p = true ↔ ∃ i : Int, (0 ≤ i ∧ i < (l.length : Int)) ∧ p (el l i) = true := by
  rw [List.any_eq_true]
  exact ⟨fun ⟨x, hx, h⟩ => by obtain ⟨i, hi, rfl⟩ := mem_el hx; exact ⟨i, hi, h⟩, fun ⟨i, hi, h⟩ => ⟨_, el_mem hi, h⟩⟩
theorem nodup_el {α : Type} [Inhabited α] {l : List α} : l.Nodup ↔ ∀ i j : Int, 0 ≤ i → i < j → j < (l.length : Int) → el l i ≠ el l j := by
  unfold List.Nodup
  rw [List.pairwise_iff_getElem]
  constructor
  · intro h i j h0 h1 h2
    have e1 := el_get (l := l) (i := i) ⟨h0, by omega⟩
    have e2 := el_get (l := l) (i := j) ⟨by omega, h2⟩
    rw [List.getElem?_eq_getElem (by omega), Option.some.injEq] at e1 e2
    rw [← e1, ← e2]
    exact h _ _ _ _ (by omega)
  · intro h i j hi hj hij
    have := h i j (by omega) (by omega) (by omega)
    have e1 := el_get (l := l) (i := i) ⟨by omega, by omega⟩
    have e2 := el_get (l := l) (i := j) ⟨by omega, by omega⟩
    simp only [Int.toNat_natCast] at e1 e2
    rw [List.getElem?_eq_getElem (by omega), Option.some.injEq] at e1 e2
    rw [e1, e2]; exact this
theorem se_app {α : Type} {a b : List α} {x v : α} {i : Int} (h : i = (a.length : Int)) : se (a ++ x :: b) i v = a ++ v :: b := by
  subst h; simp [se]

@[reducible] def small {α : Type} (l : List α) : Prop := (l.length : Int) ≤ 1000000000
@[reducible] def small2 {α : Type} (t : List (List α)) : Prop := small t ∧ ∀ r ∈ t, small r
@[reducible] def InS (n : Int) : Prop := -1 ≤ n ∧ n ≤ 1000000000
@[reducible] def huge2 (t : List (List Int)) : Prop := t.length ≤ 9223372036854775807 ∧ ∀ r ∈ t, r.length ≤ 9223372036854775807
@[reducible] def okK (k : Int) : Prop := 0 ≤ k ∧ k ≤ 1000000000000
@[reducible] def okKT (k : Int) (t : List (List Int)) : Prop := 0 ≤ k ∧ k + tot t ≤ 1000000000000
def isPerm (p : List Int) : Bool := decide (p.Nodup ∧ ∀ x ∈ p, 0 ≤ x ∧ x < (p.length : Int))
def szI (a : List Int) (left : Int) : Int := if left < (a.length : Int) then -1 else left - (a.length : Int)
def szII (a : List (List Int)) (left : Int) : Int := if left < (a.length : Int) + tot a then -1 else left - ((a.length : Int) + tot a)
def mkI : Int → List Int → List Int
  | _, [] => []
  | k, _ :: l => k :: mkI (k + 1) l
def mkII : Int → List (List Int) → List (List Int)
  | _, [] => []
  | k, r :: t => mkI k r :: mkII (k + (r.length : Int)) t
def heI (k : Int) (l : List Int) : Int := if l = mkI k l then k + (l.length : Int) else -1
def idxF {α : Type} (t : List α) (f : α → Bool) : Int := if t.any f then (t.findIdx f : Int) else -1
def badRow (n : Int) (row : List Int) : Bool := !(decide ((row.length : Int) = n) && row.all (fun x => decide (0 ≤ x) && decide (x ≤ n - 1)))
def isTab (t : List (List Int)) : Bool := decide (1 ≤ (t.length : Int)) && decide ((t.length : Int) ≤ 12) && !t.any (badRow (t.length : Int))
def diag (t : List (List Int)) : List Int := ran (t.length : Int) fun x => el (el t x) x
def first3 (n : Int) (f : Int → Int → Int → Bool) : List Int :=
  match (ran n id).findSome? (fun x => (ran n id).findSome? fun y => (ran n id).findSome? fun z => if f x y z then some [x, y, z] else none) with
  | some l => l
  | none => []

theorem isTab_len {t : List (List Int)} (h : isTab t = true) : 1 ≤ (t.length : Int) ∧ (t.length : Int) ≤ 12 := by
  simp only [isTab, Bool.and_eq_true, decide_eq_true_eq] at h; exact h.1
theorem isTab_row {t : List (List Int)} (h : isTab t = true) {i : Int} (hi : 0 ≤ i ∧ i < (t.length : Int)) : ((el t i).length : Int) = (t.length : Int) ∧ ∀ j, 0 ≤ j → j < (t.length : Int) → 0 ≤ el (el t i) j ∧ el (el t i) j < (t.length : Int) := by
  simp only [isTab, Bool.and_eq_true, Bool.not_eq_true'] at h
  have h1 := h.2
  rw [List.any_eq_false] at h1
  have h2 := h1 _ (el_mem hi)
  simp only [badRow, Bool.not_eq_true', Bool.and_eq_true, decide_eq_true_eq, Bool.and_eq_false_iff, not_or, Bool.not_eq_false, all_el] at h2
  refine ⟨h2.1, fun j h0 h3 => ?_⟩
  have := h2.2 j h0 (by omega)
  omega
theorem isTab_mk {t : List (List Int)} (h1 : 1 ≤ (t.length : Int) ∧ (t.length : Int) ≤ 12) (h : ∀ i, 0 ≤ i → i < (t.length : Int) → ((el t i).length : Int) = (t.length : Int) ∧ ∀ j, 0 ≤ j → j < (t.length : Int) → 0 ≤ el (el t i) j ∧ el (el t i) j < (t.length : Int)) : isTab t = true := by
  simp only [isTab, Bool.and_eq_true, decide_eq_true_eq, Bool.not_eq_true', List.any_eq_false]
  refine ⟨h1, fun r hr => ?_⟩
  obtain ⟨i, hi, rfl⟩ := mem_el hr
  obtain ⟨h2, h3⟩ := h i hi.1 hi.2
  simp only [badRow, Bool.not_eq_true', Bool.and_eq_true, decide_eq_true_eq, Bool.and_eq_false_iff, not_or, Bool.not_eq_false, all_el]
  exact ⟨h2, fun j h0 h4 => by have := h3 j h0 (by omega); omega⟩
theorem isTab_small {t : List (List Int)} (h : isTab t = true) : small2 t := ⟨by have := isTab_len h; show (t.length : Int) ≤ 1000000000; omega, fun r hr => by
  obtain ⟨i, hi, rfl⟩ := mem_el hr
  have h1 := (isTab_row h hi).1; have h2 := isTab_len h
  show ((el t i).length : Int) ≤ 1000000000; omega⟩

@[reducible] def Upto (i : Int) (P : Int → Prop) : Prop := ∀ j, 0 ≤ j → j < i → P j
theorem upto0 {P : Int → Prop} : Upto 0 P := fun j _ _ => by omega
theorem upto1 {P : Int → Prop} {i : Int} (h : Upto i P) (hi : P i) : Upto (i + 1) P := fun j h0 h1 => by
  by_cases e : j = i
  · subst e; exact hi
  · exact h j h0 (by omega)
theorem all_t {α : Type} [Inhabited α] {l : List α} {p : α → Bool} (h : Upto (l.length : Int) fun j => p (el l j) = true) : l.all p = true := all_el.2 h
theorem all_f {α : Type} [Inhabited α] {l : List α} {p : α → Bool} {i : Int} (hi : 0 ≤ i ∧ i < (l.length : Int)) (h : p (el l i) = false) : l.all p = false := by
  rw [Bool.eq_false_iff]
  intro h2
  rw [all_el.1 h2 i hi.1 hi.2] at h; cases h
theorem any_f {α : Type} [Inhabited α] {l : List α} {p : α → Bool} (h : Upto (l.length : Int) fun j => p (el l j) = false) : l.any p = false := by
  rw [Bool.eq_false_iff]
  intro h2
  obtain ⟨i, hi, h3⟩ := any_el.1 h2
  rw [h i hi.1 hi.2] at h3; cases h3
theorem any_t {α : Type} [Inhabited α] {l : List α} {p : α → Bool} {i : Int} (hi : 0 ≤ i ∧ i < (l.length : Int)) (h : p (el l i) = true) : l.any p = true := any_el.2 ⟨i, hi, h⟩
theorem idxF_found {α : Type} [Inhabited α] {t : List α} {f : α → Bool} {i : Int} (hi : 0 ≤ i ∧ i < (t.length : Int)) (h : Upto i fun j => f (el t j) = false) (h1 : f (el t i) = true) : idxF t f = i := by
  unfold idxF
  rw [if_pos (any_t hi h1)]
  have : t.findIdx f = i.toNat := by
    rw [List.findIdx_eq (by omega)]
    refine ⟨?_, fun k hk => ?_⟩
    · have := el_get hi
      rw [List.getElem?_eq_getElem (by omega), Option.some.injEq] at this
      rw [this]; exact h1
    · have e := el_get (l := t) (i := (k : Int)) ⟨by omega, by omega⟩
      simp only [Int.toNat_natCast] at e
      rw [List.getElem?_eq_getElem (by omega), Option.some.injEq] at e
      rw [e]; exact h k (by omega) (by omega)
  omega
theorem idxF_none {α : Type} [Inhabited α] {t : List α} {f : α → Bool} (h : Upto (t.length : Int) fun j => f (el t j) = false) : idxF t f = -1 := by
  unfold idxF
  rw [any_f h]; rfl
theorem idxF_nonneg {α : Type} {t : List α} {f : α → Bool} : decide (0 ≤ idxF t f) = t.any f := by
  unfold idxF
  cases h : t.any f <;> simp
theorem fill1 {α : Type} [Inhabited α] {o : List α} {f : Int → α} {i : Int} {v : α} (hi : 0 ≤ i ∧ i < (o.length : Int)) (h : Upto i fun j => el o j = f j) (hv : v = f i) : Upto (i + 1) fun j => el (se o i v) j = f j :=
  upto1 (fun j h0 h1 => by show el (se o i v) j = f j; rw [el_se_ne hi.1 h0 (by omega)]; exact h j h0 h1) (by show el (se o i v) i = f i; rw [el_se_same hi]; exact hv)
theorem app1 {α : Type} [Inhabited α] {o : List α} {f : Int → α} {i : Int} {v : α} (hi : i = (o.length : Int)) (h : Upto i fun j => el o j = f j) (hv : v = f i) : Upto (i + 1) fun j => el (o ++ [v]) j = f j :=
  upto1 (fun j h0 h1 => by show el (o ++ [v]) j = f j; rw [el_append_l ⟨h0, by omega⟩]; exact h j h0 h1) (by show el (o ++ [v]) i = f i; rw [el_append_last hi]; exact hv)
@[simp] theorem length_mkI : ∀ (k : Int) (l : List Int), (mkI k l).length = l.length
  | _, [] => rfl
  | k, _ :: l => by simp [mkI, length_mkI (k + 1) l]
@[simp] theorem length_mkII : ∀ (k : Int) (t : List (List Int)), (mkII k t).length = t.length
  | _, [] => rfl
  | k, r :: t => by simp [mkII, length_mkII _ t]
theorem el_cons_0 {α : Type} [Inhabited α] {x : α} {l : List α} : el (x :: l) 0 = x := by simp [el]
theorem el_cons_s {α : Type} [Inhabited α] {x : α} {l : List α} {i : Int} (h : 0 < i) : el (x :: l) i = el l (i - 1) := by
  have : i.toNat = (i - 1).toNat + 1 := by omega
  unfold el; rw [this]; rfl
theorem el_mkI : ∀ (k : Int) (l : List Int) (i : Int), 0 ≤ i → i < (l.length : Int) → el (mkI k l) i = k + i
  | k, [], i, h0, h1 => by simp at h1; omega
  | k, x :: l, i, h0, h1 => by
    by_cases e : i = 0
    · subst e; simp [mkI, el_cons_0]
    · rw [mkI, el_cons_s (by omega), el_mkI (k + 1) l (i - 1) (by omega) (by simp at h1; omega)]; omega
def tt (t : List (List Int)) (i : Int) : Int := tot (t.take i.toNat)
theorem tt0 (t : List (List Int)) : tt t 0 = 0 := by simp [tt, tot]
theorem tt1 {t : List (List Int)} {i : Int} (h : 0 ≤ i ∧ i < (t.length : Int)) : tt t (i + 1) = tt t i + ((el t i).length : Int) := tot_take_succ t i h.1 h.2
theorem tt_full {t : List (List Int)} {i : Int} (h : i = (t.length : Int)) : tt t i = tot t := by subst h; simp [tt]
theorem tt_le (t : List (List Int)) (i : Int) : 0 ≤ tt t i ∧ tt t i ≤ tot t := ⟨tot_nonneg _, tot_take_le _ _⟩
theorem tt_row {t : List (List Int)} {i : Int} (h : 0 ≤ i ∧ i < (t.length : Int)) : tt t i + ((el t i).length : Int) ≤ tot t := by rw [← tt1 h]; exact (tt_le _ _).2
theorem tt_cons {r : List Int} {t : List (List Int)} {i : Int} (h : 0 < i) : tt (r :: t) i = (r.length : Int) + tt t (i - 1) := by
  have : i.toNat = (i - 1).toNat + 1 := by omega
  unfold tt; rw [this]; rfl
theorem el_mkII : ∀ (k : Int) (t : List (List Int)) (i : Int), 0 ≤ i → i < (t.length : Int) → el (mkII k t) i = mkI (k + tt t i) (el t i)
  | k, [], i, h0, h1 => by simp at h1; omega
  | k, r :: t, i, h0, h1 => by
    by_cases e : i = 0
    · subst e; simp [mkII, el_cons_0, tt0]
    · rw [mkII, el_cons_s (by omega), el_cons_s (by omega), el_mkII _ t (i - 1) (by omega) (by simp at h1; omega), tt_cons (by omega), Int.add_assoc]

end
section
def idxI (l : List Int) (n : Int) : Int := idxF l (fun x => x == n)
def permB (p : List Int) : Bool := decide (1 ≤ (p.length : Int)) && decide ((p.length : Int) ≤ 12) && isPerm p
theorem nodup_perm {α : Type} [DecidableEq α] : ∀ (l p : List α), l.Nodup → (∀ x ∈ l, x ∈ p) → l.length = p.length → p.Perm l
  | [], p, _, _, h => by
    have : p = [] := List.eq_nil_of_length_eq_zero h.symm
    subst this; exact List.Perm.refl _
  | a :: l, p, hn, hs, h => by
    have ha := hs a List.mem_cons_self
    have hn' := List.nodup_cons.1 hn
    have ih := nodup_perm l (p.erase a) hn'.2 (fun x hx => by
      have hne : x ≠ a := fun e => hn'.1 (e ▸ hx)
      exact (List.mem_erase_of_ne hne).2 (hs x (List.mem_cons_of_mem _ hx))) (by rw [List.length_erase_of_mem ha]; simp at h; omega)
    exact (List.perm_cons_erase ha).trans (ih.cons a)
theorem mem_ran {n x : Int} : x ∈ ran n id ↔ 0 ≤ x ∧ x < n := by
  unfold ran
  simp only [List.mem_map, List.mem_range, id]
  exact ⟨fun ⟨k, hk, e⟩ => by omega, fun h => ⟨x.toNat, by omega, by omega⟩⟩
theorem nodup_ran (n : Int) : (ran n id).Nodup := nodup_el.2 fun i j h0 h1 h2 => by
  simp at h2
  rw [el_ran ⟨h0, by omega⟩, el_ran ⟨by omega, by omega⟩]; simp [id]; omega
theorem isPerm_iff {p : List Int} : isPerm p = true ↔ p.Nodup ∧ ∀ x ∈ p, 0 ≤ x ∧ x < (p.length : Int) := by simp [isPerm]
theorem isPerm_of_all {p : List Int} (h : ∀ x, 0 ≤ x → x < (p.length : Int) → x ∈ p) : isPerm p = true := by
  have := nodup_perm (ran (p.length : Int) id) p (nodup_ran _) (fun x hx => by have := mem_ran.1 hx; exact h x this.1 this.2) (by simp)
  exact isPerm_iff.2 ⟨this.nodup_iff.2 (nodup_ran _), fun x hx => mem_ran.1 (this.mem_iff.1 hx)⟩
theorem isPerm_all {p : List Int} (h : isPerm p = true) {x : Int} (hx : 0 ≤ x ∧ x < (p.length : Int)) : x ∈ p := by
  obtain ⟨h1, h2⟩ := isPerm_iff.1 h
  have := nodup_perm p (ran (p.length : Int) id) h1 (fun x hx => mem_ran.2 (h2 x hx)) (by simp)
  exact this.mem_iff.1 (mem_ran.2 hx)
theorem idxI_has {l : List Int} {n : Int} : decide (0 ≤ idxI l n) = l.contains n := by
  unfold idxI
  rw [idxF_nonneg, Bool.eq_iff_iff, List.contains_iff_mem, List.any_eq_true]
  simp
theorem fs_none {α : Type} {n : Int} {g : Int → Option α} (h : ∀ i, 0 ≤ i → i < n → g i = none) : (ran n id).findSome? g = none := by
  rw [List.findSome?_eq_none_iff]
  intro x hx
  have := mem_ran.1 hx
  exact h x this.1 this.2
theorem fs_some {α : Type} {n i : Int} {g : Int → Option α} {v : α} (hi : 0 ≤ i ∧ i < n) (h : g i = some v) (h0 : Upto i fun j => g j = none) : (ran n id).findSome? g = some v := by
  have e : ran n id = ran i id ++ (ran n id).drop i.toNat := by
    rw [← List.take_append_drop i.toNat (ran n id)]
    congr 1
    · refine (eq_ran (f := id) (by simp; omega) fun j h1 h2 => ?_)
      have := el_sl (l := ran n id) (a := 0) (b := i) (i := j) (by omega) h1 (by omega)
      simp only [sl, Int.toNat_zero, List.drop_zero, Int.zero_add] at this
      rw [this, el_ran ⟨h1, by omega⟩]
    · simp
  have e2 : (ran n id).drop i.toNat = i :: (ran n id).drop (i.toNat + 1) := by
    have := el_get (l := ran n id) (i := i) ⟨hi.1, by simp; omega⟩
    rw [el_ran hi] at this
    rw [List.drop_eq_getElem_cons (by simp; omega)]
    rw [List.getElem?_eq_getElem (by simp; omega), Option.some.injEq] at this
    rw [this]; rfl
  rw [e, List.findSome?_append, fs_none h0, e2, List.findSome?_cons, h]; rfl
theorem first3_found {n : Int} {f : Int → Int → Int → Bool} {x y z : Int} (hx : 0 ≤ x ∧ x < n) (hy : 0 ≤ y ∧ y < n) (hz : 0 ≤ z ∧ z < n) (h : f x y z = true)
    (h1 : Upto x fun a => ∀ b, 0 ≤ b → b < n → ∀ c, 0 ≤ c → c < n → f a b c = false) (h2 : Upto y fun b => ∀ c, 0 ≤ c → c < n → f x b c = false) (h3 : Upto z fun c => f x y c = false) : first3 n f = [x, y, z] := by
  unfold first3
  rw [fs_some hx (v := [x, y, z]) (fs_some hy (fs_some hz (by simp [h]) fun c a b => by simp [h3 c a b]) fun b a c => fs_none fun d e g => by simp [h2 b a c d e g]) fun a b c => fs_none fun d e g => fs_none fun k l m => by simp [h1 a b c d e g k l m]]
theorem first3_none {n : Int} {f : Int → Int → Int → Bool} (h : ∀ a, 0 ≤ a → a < n → ∀ b, 0 ≤ b → b < n → ∀ c, 0 ≤ c → c < n → f a b c = false) : first3 n f = [] := by
  unfold first3
  rw [fs_none fun a b c => fs_none fun d e g => fs_none fun k l m => by simp [h a b c d e g k l m]]
def cycB (t : List (List Int)) (x y z : Int) : Bool := !decide (el (el t (el (el t x) y)) (el (el t x) z) = el (el t (el (el t y) x)) (el (el t y) z))
def cycF (t : List (List Int)) : List Int := first3 (t.length : Int) (cycB t)
@[reducible] def inR (n : Int) : Prop := 1 ≤ n ∧ n ≤ 12
end
section
def unitI (n : Int) : List Int := ran n id
def backI (p : List Int) : List Int := ran (p.length : Int) fun x => idxI p x
def rackB (t : List (List Int)) (x y z : Int) : Bool := !decide (el (el t x) (el (el t y) z) = el (el t (el (el t x) y)) (el (el t x) z))
def rackF (t : List (List Int)) : List Int := first3 (t.length : Int) (rackB t)
def isRk (t : List (List Int)) : Bool := isTab t && t.all isPerm && (rackF t).isEmpty
def isCyc (t : List (List Int)) : Bool := isTab t && t.all isPerm && isPerm (diag t) && (cycF t).isEmpty
theorem isCyc_tab {t : List (List Int)} (h : isCyc t = true) : isTab t = true := by simp only [isCyc, Bool.and_eq_true] at h; exact h.1.1.1
theorem isCyc_perm {t : List (List Int)} (h : isCyc t = true) : t.all isPerm = true := by simp only [isCyc, Bool.and_eq_true] at h; exact h.1.1.2
theorem isPerm_el {p : List Int} (h : isPerm p = true) {i : Int} (hi : 0 ≤ i ∧ i < (p.length : Int)) : 0 ≤ el p i ∧ el p i < (p.length : Int) := (isPerm_iff.1 h).2 _ (el_mem hi)
theorem isPerm_inj {p : List Int} (h : isPerm p = true) {i j : Int} (hi : 0 ≤ i ∧ i < (p.length : Int)) (hj : 0 ≤ j ∧ j < (p.length : Int)) (e : el p i = el p j) : i = j := by
  have hn := nodup_el.1 (isPerm_iff.1 h).1
  rcases Int.lt_trichotomy i j with h1 | h1 | h1
  · exact absurd e (hn i j hi.1 h1 hj.2)
  · exact h1
  · exact absurd e.symm (hn j i hj.1 h1 hi.2)
theorem idxI_spec {l : List Int} {x : Int} (h : x ∈ l) : (0 ≤ idxI l x ∧ idxI l x < (l.length : Int)) ∧ el l (idxI l x) = x := by
  have hc : l.any (fun y => y == x) = true := by simp [h]
  have hlt : l.findIdx (fun y => y == x) < l.length := List.findIdx_lt_length_of_exists ⟨x, h, by simp⟩
  have e : idxI l x = (l.findIdx (fun y => y == x) : Int) := by unfold idxI idxF; rw [if_pos hc]
  rw [e]
  refine ⟨⟨by omega, by omega⟩, ?_⟩
  have := List.findIdx_getElem (w := hlt)
  simp only [beq_iff_eq] at this
  simp [el, List.getD_eq_getElem?_getD, List.getElem?_eq_getElem hlt, this]
@[simp] theorem length_backI (p : List Int) : (backI p).length = p.length := by simp [backI]
@[simp] theorem length_unitI (n : Int) : (unitI n).length = n.toNat := by simp [unitI]
theorem isTab_perm {t : List (List Int)} (h : isTab t = true) : t.all permB = t.all isPerm := by
  have key : ∀ r ∈ t, permB r = isPerm r := fun r hr => by
    obtain ⟨i, hi, rfl⟩ := mem_el hr
    have a := (isTab_row h hi).1
    have b := isTab_len h
    unfold permB
    have e1 : decide (1 ≤ ((el t i).length : Int)) = true := decide_eq_true (by omega)
    have e2 : decide (((el t i).length : Int) ≤ 12) = true := decide_eq_true (by omega)
    rw [e1, e2]; rfl
  rw [Bool.eq_iff_iff, List.all_eq_true, List.all_eq_true]
  exact ⟨fun h r hr => by rw [← key r hr]; exact h r hr, fun h r hr => by rw [key r hr]; exact h r hr⟩
theorem all_perm_el {t : List (List Int)} (h : t.all isPerm = true) {i : Int} (hi : 0 ≤ i ∧ i < (t.length : Int)) : isPerm (el t i) = true := all_el.1 h i hi.1 hi.2
@[simp] theorem length_diag (t : List (List Int)) : (diag t).length = t.length := by simp [diag]
theorem rk_el {t : List (List Int)} (h : isTab t = true) {x y : Int} (hx : 0 ≤ x ∧ x < (t.length : Int)) (hy : 0 ≤ y ∧ y < (t.length : Int)) : 0 ≤ el (el t x) y ∧ el (el t x) y < (t.length : Int) := (isTab_row h hx).2 y hy.1 hy.2
theorem rk_len {t : List (List Int)} (h : isTab t = true) {x : Int} (hx : 0 ≤ x ∧ x < (t.length : Int)) : ((el t x).length : Int) = (t.length : Int) := (isTab_row h hx).1
theorem rk_inj {t : List (List Int)} (h : isTab t = true) (hp : t.all isPerm = true) {x y z : Int} (hx : 0 ≤ x ∧ x < (t.length : Int)) (hy : 0 ≤ y ∧ y < (t.length : Int)) (hz : 0 ≤ z ∧ z < (t.length : Int)) (e : el (el t x) y = el (el t x) z) : y = z := by
  have := rk_len h hx
  exact isPerm_inj (all_perm_el hp hx) ⟨hy.1, by omega⟩ ⟨hz.1, by omega⟩ e
end
section
noncomputable def dec (P : Prop) : Bool := @decide P (Classical.propDecidable P)
theorem dec_t {P : Prop} (h : P) : dec P = true := @decide_eq_true P (Classical.propDecidable P) h
theorem dec_f {P : Prop} (h : ¬ P) : dec P = false := @decide_eq_false P (Classical.propDecidable P) h
theorem dec_iff {P : Prop} : dec P = true ↔ P := @decide_eq_true_iff P (Classical.propDecidable P)
theorem dec_iff_f {P : Prop} : dec P = false ↔ ¬ P := @decide_eq_false_iff_not P (Classical.propDecidable P)
theorem dec_congr {P Q : Prop} (h : P ↔ Q) : dec P = dec Q := by rw [propext h]
noncomputable def the {α : Type} [Inhabited α] (P : α → Prop) : α := Classical.epsilon P
def conP (r s : List (List Int)) (f : List Int) : Prop := ∀ x y, 0 ≤ x → x < (f.length : Int) → 0 ≤ y → y < (f.length : Int) → el (el r x) y < (f.length : Int) → el f (el (el r x) y) = el (el s (el f x)) (el f y)
def conA (a b : List (List (List Int))) (f : List Int) : Prop := ∀ k, 0 ≤ k → k < (a.length : Int) → conP (el a k) (el b k) f
def fitD (a b : List (List (List Int))) (f : List Int) : Prop := small a ∧ small f ∧ b.length = a.length ∧ ∀ k, 0 ≤ k → k < (a.length : Int) → isTab (el a k) = true ∧ isTab (el b k) = true ∧ (f.length : Int) ≤ ((el a k).length : Int) ∧ (∀ x ∈ f, 0 ≤ x ∧ x < ((el b k).length : Int)) ∧
  ∀ x y, 0 ≤ x → x < (f.length : Int) - 1 → 0 ≤ y → y < (f.length : Int) - 1 → el (el (el a k) x) y < (f.length : Int) - 1 → el f (el (el (el a k) x) y) = el (el (el b k) (el f x)) (el f y)
theorem conP_app {r s : List (List Int)} {f : List Int} {v : Int} (h : conP r s f) {x y : Int} (x0 : 0 ≤ x) (x1 : x < (f.length : Int)) (y0 : 0 ≤ y) (y1 : y < (f.length : Int)) (z0 : 0 ≤ el (el r x) y) (z1 : el (el r x) y < (f.length : Int)) :
    el (f ++ [v]) (el (el r x) y) = el (el s (el (f ++ [v]) x)) (el (f ++ [v]) y) := by
  rw [el_append_l ⟨z0, z1⟩, el_append_l ⟨x0, x1⟩, el_append_l ⟨y0, y1⟩]
  exact h x y x0 x1 y0 y1 z1
end
section
def permsN (n : Int) (list : List (List Int)) : Prop := ∀ p ∈ list, (p.length : Int) = n ∧ isPerm p = true
theorem nodup_len {α : Type} [DecidableEq α] : ∀ (l p : List α), l.Nodup → (∀ x ∈ l, x ∈ p) → l.length ≤ p.length
  | [], p, _, _ => Nat.zero_le _
  | a :: l, p, hn, hs => by
    have ha := hs a List.mem_cons_self
    have hn' := List.nodup_cons.1 hn
    have ih := nodup_len l (p.erase a) hn'.2 (fun x hx => by
      have hne : x ≠ a := fun e => hn'.1 (e ▸ hx)
      exact (List.mem_erase_of_ne hne).2 (hs x (List.mem_cons_of_mem _ hx)))
    rw [List.length_erase_of_mem ha] at ih
    have := List.length_pos_of_mem ha
    simp; omega
theorem nodup_len_ran {l : List Int} {n : Int} (hn : 0 ≤ n) (h : l.Nodup) (hr : ∀ x ∈ l, 0 ≤ x ∧ x < n) : (l.length : Int) ≤ n := by
  have := nodup_len l (ran n id) h fun x hx => mem_ran.2 (hr x hx)
  simp at this; omega
end
section
def bitP (m x : Int) : Prop := (m / (2 : Int) ^ x.toNat) % 2 = 1
end
section
theorem el_tab {n : Int} {f : Int → Int → Int} {x y : Int} (hx : 0 ≤ x ∧ x < n) (hy : 0 ≤ y ∧ y < n) : el (el (tab n f) x) y = f x y := by
  unfold tab; rw [el_ran hx, el_ran hy]
theorem len_tab {n : Int} {f : Int → Int → Int} (hn : 0 ≤ n) : ((tab n f).length : Int) = n := by simp; omega
theorem tab_rowlen {n : Int} {f : Int → Int → Int} {x : Int} (hx : 0 ≤ x ∧ x < n) : ((el (tab n f) x).length : Int) = n := by
  unfold tab; rw [el_ran hx]; simp; omega
theorem isTab_tab {n : Int} {f : Int → Int → Int} (hn : 1 ≤ n ∧ n ≤ 12) (h : ∀ x y, 0 ≤ x → x < n → 0 ≤ y → y < n → 0 ≤ f x y ∧ f x y < n) : isTab (tab n f) = true := by
  have hl : ((tab n f).length : Int) = n := len_tab (by omega)
  refine isTab_mk (by omega) fun i i0 i1 => ⟨by rw [tab_rowlen ⟨i0, by omega⟩, hl], fun j j0 j1 => ?_⟩
  rw [el_tab ⟨i0, by omega⟩ ⟨j0, by omega⟩, hl]
  exact h i j i0 (by omega) j0 (by omega)
def idxL (lists : List (List Int)) (list : List Int) : Int := idxF lists (fun own => decide (own = list))
def conjI (x y : List Int) : List Int := ((backI x).map (el y)).map (el x)
def GoodL (list : List (List Int)) : Prop := 1 ≤ (list.length : Int) ∧ ∀ i, 0 ≤ i → i < (list.length : Int) → permB (el list i) = true ∧ ((el list i).length : Int) = ((el list 0).length : Int) ∧ ∀ j, 0 ≤ j → j < i → el list j ≠ el list i
def cjV (list : List (List Int)) (x y : Int) : Int := idxL list (conjI (el list x) (el list y))
def cjT (list : List (List Int)) : List (List Int) := tab (list.length : Int) (cjV list)
noncomputable def CjqE (list : List (List Int)) : Int := if dec (GoodL list) then (if (12 : Int) < (list.length : Int) then 3 else if isTab (cjT list) then 0 else 5) else 1
def cyA (c : List (List Int)) (x y : Int) : Int := idxI (el c x) y
def cyB (c : List (List Int)) (x y : Int) : Int := el (el c (cyA c x y)) x
def cyAT (c : List (List Int)) : List (List Int) := tab (c.length : Int) (cyA c)
def cyBT (c : List (List Int)) : List (List Int) := tab (c.length : Int) (cyB c)
def pmB (a b : List (List Int)) : Bool := isTab a && isTab b && decide ((a.length : Int) = (b.length : Int))
theorem cy_in {c : List (List Int)} (ht : isTab c = true) (hp : c.all isPerm = true) {x y : Int} (hx : 0 ≤ x ∧ x < (c.length : Int)) (hy : 0 ≤ y ∧ y < (c.length : Int)) :
    ((0 ≤ cyA c x y ∧ cyA c x y < (c.length : Int)) ∧ el (el c x) (cyA c x y) = y) ∧ 0 ≤ cyB c x y ∧ cyB c x y < (c.length : Int) := by
  have l := rk_len ht hx
  have m := isPerm_all (all_perm_el hp hx) (x := y) ⟨hy.1, by omega⟩
  obtain ⟨h1, h2⟩ := idxI_spec m
  have h1' : 0 ≤ cyA c x y ∧ cyA c x y < (c.length : Int) := ⟨h1.1, by unfold cyA; omega⟩
  exact ⟨⟨h1', h2⟩, rk_el ht h1' hx⟩
theorem isTab_cyAT {c : List (List Int)} (ht : isTab c = true) (hp : c.all isPerm = true) : isTab (cyAT c) = true := isTab_tab (isTab_len ht) fun _ _ x0 x1 y0 y1 => (cy_in ht hp ⟨x0, x1⟩ ⟨y0, y1⟩).1.1
theorem isTab_cyBT {c : List (List Int)} (ht : isTab c = true) (hp : c.all isPerm = true) : isTab (cyBT c) = true := isTab_tab (isTab_len ht) fun _ _ x0 x1 y0 y1 => (cy_in ht hp ⟨x0, x1⟩ ⟨y0, y1⟩).2
end
section
inductive Eqv (R : Int → Int → Prop) : Int → Int → Prop
  | refl (a : Int) : Eqv R a a
  | step {a b : Int} (h : R a b) : Eqv R a b
  | symm {a b : Int} (h : Eqv R a b) : Eqv R b a
  | trans {a b c : Int} (h : Eqv R a b) (k : Eqv R b c) : Eqv R a c
theorem Eqv.mono {R S : Int → Int → Prop} (h : ∀ a b, R a b → S a b) {a b : Int} (k : Eqv R a b) : Eqv S a b := by
  induction k with
  | refl a => exact .refl a
  | step k => exact .step (h _ _ k)
  | symm _ ih => exact .symm ih
  | trans _ _ ih1 ih2 => exact .trans ih1 ih2
end
section
def dgt (x : Int) : UInt8 := UInt8.ofNat (if x < 10 then 48 + x else 97 + x - 10).toNat
def digI (l : List Int) : List UInt8 := l.map dgt
@[simp] theorem digI_len (l : List Int) : (digI l).length = l.length := by simp [digI]
end
section

end
section
def srtI (l : List Int) : List Int := l.mergeSort fun x y => decide (x ≤ y)
inductive Sc (t : List (List Int)) (l : List Int) : Int → Prop
  | base {a : Int} : a ∈ l → Sc t l a
  | step {a b : Int} : Sc t l a → Sc t l b → Sc t l (el (el t a) b)
theorem ran_lt (n : Int) : (ran n id).Pairwise (· < ·) := by
  unfold ran
  rw [List.pairwise_map]
  exact (List.pairwise_lt_range).imp fun h => by simp; omega
theorem srt_len (l : List Int) : (srtI l).length = l.length := (List.mergeSort_perm l _).length_eq
theorem srt_le (l : List Int) : (srtI l).Pairwise (· ≤ ·) := by
  have := List.pairwise_mergeSort (le := fun x y : Int => decide (x ≤ y)) (fun a b c h1 h2 => by simp only [decide_eq_true_eq] at *; omega) (fun a b => by simp only [Bool.or_eq_true, decide_eq_true_eq]; omega) l
  exact this.imp fun h => by simpa using h
theorem bit_nat {m x : Int} (hm : 0 ≤ m) : bitP m x ↔ m.toNat.testBit x.toNat = true := by
  unfold bitP
  obtain ⟨k, rfl⟩ := Int.eq_ofNat_of_zero_le hm
  rw [Nat.testBit_eq_decide_div_mod_eq, decide_eq_true_eq, Int.toNat_natCast]
  have e : ((k : Int) / (2 : Int) ^ x.toNat) % 2 = (((k / 2 ^ x.toNat) % 2 : Nat) : Int) := by simp
  rw [e]; omega
theorem pow_cast (k : Nat) : (1 * (2 : Int) ^ k).toNat = 2 ^ k := by
  have : (1 * (2 : Int) ^ k) = ((2 ^ k : Nat) : Int) := by simp
  rw [this, Int.toNat_natCast]
theorem bit_or {m k x : Int} (hm : 0 ≤ m) (hk : 0 ≤ k) (hx : 0 ≤ x) : bitP (((m.toNat ||| (1 * (2 : Int) ^ k.toNat).toNat : Nat) : Int)) x ↔ bitP m x ∨ x = k := by
  rw [bit_nat (by omega), bit_nat hm, Int.toNat_natCast, pow_cast, Nat.testBit_or, Nat.testBit_two_pow, Bool.or_eq_true, decide_eq_true_eq]
  constructor
  · rintro (h | h)
    · exact .inl h
    · exact .inr (by omega)
  · rintro (h | h)
    · exact .inl h
    · exact .inr (by omega)
theorem or_lt2 {m k n : Int} (hm : 0 ≤ m ∧ m < (2 : Int) ^ n.toNat) (hk : 0 ≤ k ∧ k < n) : 0 ≤ (((m.toNat ||| (1 * (2 : Int) ^ k.toNat).toNat : Nat) : Int)) ∧ (((m.toNat ||| (1 * (2 : Int) ^ k.toNat).toNat : Nat) : Int)) < (2 : Int) ^ n.toNat := by
  refine ⟨by omega, ?_⟩
  rw [pow_cast]
  have e : (2 : Int) ^ n.toNat = ((2 ^ n.toNat : Nat) : Int) := by simp
  rw [e] at hm ⊢
  have h1 : m.toNat < 2 ^ n.toNat := by omega
  have h2 : 2 ^ k.toNat < 2 ^ n.toNat := Nat.pow_lt_pow_right (by omega) (by omega)
  exact_mod_cast Nat.or_lt_two_pow h1 h2

end
section

end
section
def growF : Nat → Int → List Int → List (List Int)
  | 0, _, s => [s]
  | k + 1, n, s => (unitI n).flatMap fun x => if s.contains x then [] else growF k n (s ++ [x])
def growL (n : Int) (s : List Int) : List (List Int) := growF (n - (s.length : Int)).toNat n s
theorem mem_app {α : Type} {l : List α} {x : α} {P : α → Prop} (h : ∀ z ∈ l, P z) (hx : P x) : ∀ z ∈ l ++ [x], P z := fun z hz => by
  rcases List.mem_append.1 hz with h1 | h1
  · exact h z h1
  · rw [List.mem_singleton.1 h1]; exact hx
end
section
section
variable {a b : List (List Int)}
end
end
section
section
variable {t : List (List Int)} {p : List Int} {x y : Int} {o : List (List Int)}
end
section
variable {r : List (List Int)} (h : isRk r = true)
include h
end

end
section
/-! Least congruences. -/
section
variable {r : List (List Int)} (h : isRk r = true) {x y : Int} (hx : 0 ≤ x ∧ x < (r.length : Int)) (hy : 0 ≤ y ∧ y < (r.length : Int))
include h hx hy
end
/-! Least subracks. -/
section
variable {r : List (List Int)} (h : isRk r = true) {l : List Int} (hl : ∀ x ∈ l, 0 ≤ x ∧ x < (r.length : Int))
include h hl
end
end
section
def pairN (n : Int) (a b : List (List Int)) : Prop := isTab a = true ∧ isTab b = true ∧ (a.length : Int) = n ∧ (b.length : Int) = n
theorem cy_a {c : List (List Int)} (_h : isCyc c = true) {x y : Int} (hx : 0 ≤ x ∧ x < (c.length : Int)) (hy : 0 ≤ y ∧ y < (c.length : Int)) : el (el (cyAT c) x) y = cyA c x y := el_tab hx hy
theorem cy_b {c : List (List Int)} (_h : isCyc c = true) {x y : Int} (hx : 0 ≤ x ∧ x < (c.length : Int)) (hy : 0 ≤ y ∧ y < (c.length : Int)) : el (el (cyBT c) x) y = cyB c x y := el_tab hx hy
section
variable {c : List (List Int)} (h : isCyc c = true)
include h
theorem cy_pair : pairN (c.length : Int) (cyAT c) (cyBT c) :=
  have hn := isTab_len (isCyc_tab h)
  ⟨isTab_cyAT (isCyc_tab h) (isCyc_perm h), isTab_cyBT (isCyc_tab h) (isCyc_perm h), len_tab (by omega), len_tab (by omega)⟩
theorem cyA_iff {x y u : Int} (hx : 0 ≤ x ∧ x < (c.length : Int)) (hu : 0 ≤ u ∧ u < (c.length : Int)) (e : el (el c x) u = y) : cyA c x y = u := by
  have hy : 0 ≤ y ∧ y < (c.length : Int) := by rw [← e]; exact rk_el (isCyc_tab h) hx hu
  have a := (cy_in (isCyc_tab h) (isCyc_perm h) hx hy).1
  exact rk_inj (isCyc_tab h) (isCyc_perm h) hx a.1 hu (a.2.trans e.symm)
end
end
section
def cmp1 (x y : Int) : Int := if x < y then -1 else if y < x then 1 else 0
def cmpG {α : Type} (f : α → α → Int) : List α → List α → Int
  | [], [] => 0
  | [], _ :: _ => -1
  | _ :: _, [] => 1
  | x :: xs, y :: ys => if f x y = 0 then cmpG f xs ys else f x y
theorem cmp1_zero {x y : Int} : cmp1 x y = 0 ↔ x = y := by unfold cmp1; split <;> (try split) <;> omega
theorem cmpG_run {α : Type} [Inhabited α] {f : α → α → Int} : ∀ (i : Nat) (a b : List α), (∀ j : Int, 0 ≤ j → j < (i : Int) → f (el a j) (el b j) = 0) → i ≤ a.length → i ≤ b.length → cmpG f a b = cmpG f (a.drop i) (b.drop i)
  | 0, _, _, _, _, _ => rfl
  | i + 1, [], _, _, h, _ => by simp at h
  | i + 1, _ :: _, [], _, _, h => by simp at h
  | i + 1, x :: xs, y :: ys, h, h1, h2 => by
    have h0 : f x y = 0 := h 0 (by omega) (by omega)
    show cmpG f (x :: xs) (y :: ys) = cmpG f (xs.drop i) (ys.drop i)
    rw [← cmpG_run i xs ys (fun j j0 j1 => by
      have := h (j + 1) (by omega) (by omega)
      simpa [el, show (j + 1).toNat = j.toNat + 1 by omega] using this) (by simpa using h1) (by simpa using h2)]
    simp [cmpG, h0]
theorem drop_el {α : Type} [Inhabited α] {l : List α} {i : Int} (h : 0 ≤ i ∧ i < (l.length : Int)) : l.drop i.toNat = el l i :: l.drop (i.toNat + 1) := by
  have hi : i.toNat < l.length := by omega
  rw [List.drop_eq_getElem_cons hi]
  simp [el, List.getD_eq_getElem?_getD, List.getElem?_eq_getElem hi]
section
variable {α : Type} [Inhabited α] {f : α → α → Int} {a b : List α} {i : Int}
theorem cmpG_ne (hu : Upto i fun j => f (el a j) (el b j) = 0) (ha : 0 ≤ i ∧ i < (a.length : Int)) (hb : i < (b.length : Int)) (h : ¬ f (el a i) (el b i) = 0) : cmpG f a b = f (el a i) (el b i) := by
  rw [cmpG_run i.toNat a b (fun j j0 j1 => hu j j0 (by omega)) (by omega) (by omega), drop_el ha, drop_el ⟨ha.1, hb⟩]
  simp [cmpG, h]
theorem cmpG_long (hu : Upto i fun j => f (el a j) (el b j) = 0) (ha : 0 ≤ i ∧ i < (a.length : Int)) (hb : i = (b.length : Int)) : cmpG f a b = 1 := by
  rw [cmpG_run i.toNat a b (fun j j0 j1 => hu j j0 (by omega)) (by omega) (by omega), drop_el ha, show b.drop i.toNat = [] from List.drop_eq_nil_of_le (by omega)]
  rfl
theorem cmpG_short (hu : Upto i fun j => f (el a j) (el b j) = 0) (ha : 0 ≤ i ∧ i = (a.length : Int)) (hb : i < (b.length : Int)) : cmpG f a b = -1 := by
  rw [cmpG_run i.toNat a b (fun j j0 j1 => hu j j0 (by omega)) (by omega) (by omega), drop_el (l := b) ⟨ha.1, hb⟩, show a.drop i.toNat = [] from List.drop_eq_nil_of_le (by omega)]
  rfl
theorem cmpG_same (hu : Upto i fun j => f (el a j) (el b j) = 0) (ha : 0 ≤ i ∧ i = (a.length : Int)) (hb : i = (b.length : Int)) : cmpG f a b = 0 := by
  rw [cmpG_run i.toNat a b (fun j j0 j1 => hu j j0 (by omega)) (by omega) (by omega), show a.drop i.toNat = [] from List.drop_eq_nil_of_le (by omega), show b.drop i.toNat = [] from List.drop_eq_nil_of_le (by omega)]
  rfl
end
theorem growF_mem {n : Int} : ∀ (k : Nat) (s e : List Int), s.Nodup → (∀ x ∈ s, 0 ≤ x ∧ x < n) → e ∈ growF k n s → e.length = s.length + k ∧ e.Nodup ∧ ∀ x ∈ e, 0 ≤ x ∧ x < n
  | 0, s, e, h1, h2, h => by
    simp only [growF, List.mem_singleton] at h
    subst h; exact ⟨rfl, h1, h2⟩
  | k + 1, s, e, h1, h2, h => by
    simp only [growF, List.mem_flatMap] at h
    obtain ⟨x, hx, h⟩ := h
    have hx2 := mem_ran.1 (show x ∈ ran n id from hx)
    split at h
    · cases h
    · rename_i hc
      have hc' : ¬ x ∈ s := fun g => hc (List.contains_iff_mem.2 g)
      have := growF_mem k (s ++ [x]) e (List.nodup_append.2 ⟨h1, by simp, fun a ha b hb => by simp at hb; subst hb; intro g; subst g; exact hc' ha⟩) (mem_app h2 hx2) h
      refine ⟨by have := this.1; simp at this; omega, this.2⟩
theorem growL_perm {n : Int} (hn : 0 ≤ n) {e : List Int} (h : e ∈ growL n []) : (e.length : Int) = n ∧ isPerm e = true := by
  obtain ⟨h1, h2, h3⟩ := growF_mem _ [] e List.nodup_nil (by simp) h
  have hl : (e.length : Int) = n := by simp at h1; omega
  exact ⟨hl, isPerm_iff.2 ⟨h2, fun x hx => by have := h3 x hx; omega⟩⟩
end
section
def lexL (a b : List Int) : Prop := ∃ j, (0 ≤ j ∧ j < (a.length : Int)) ∧ Upto j (fun m => el a m = el b m) ∧ el a j < el b j
theorem lexL_trans {a b c : List Int} (hl : a.length = b.length) (h1 : lexL a b) (h2 : lexL b c) : lexL a c := by
  obtain ⟨j, hj, hu, hlt⟩ := h1
  obtain ⟨k, hk, hv, hlt2⟩ := h2
  rcases Int.lt_trichotomy j k with h | h | h
  · exact ⟨j, hj, fun m m0 m1 => (hu m m0 m1).trans (hv m m0 (by omega)), by rw [← hv j hj.1 h]; exact hlt⟩
  · subst h; exact ⟨j, hj, fun m m0 m1 => (hu m m0 m1).trans (hv m m0 m1), by omega⟩
  · exact ⟨k, ⟨hk.1, by omega⟩, fun m m0 m1 => (hu m m0 (by omega)).trans (hv m m0 m1), by rw [hu k hk.1 h]; exact hlt2⟩
theorem lexL_irrefl {a : List Int} : ¬ lexL a a := fun ⟨_, _, _, h⟩ => by omega
section
variable {p : List Int} {i k : Int}
end
theorem growF_pre {n : Int} : ∀ (k : Nat) (s e : List Int), e ∈ growF k n s → ∃ u, e = s ++ u
  | 0, s, e, h => by simp only [growF, List.mem_singleton] at h; exact ⟨[], by simp [h]⟩
  | k + 1, s, e, h => by
    simp only [growF, List.mem_flatMap] at h
    obtain ⟨x, _, h⟩ := h
    split at h
    · cases h
    · obtain ⟨u, rfl⟩ := growF_pre k _ e h; exact ⟨[x] ++ u, by simp⟩
theorem growF_sort {n : Int} : ∀ (k : Nat) (s : List Int), (growF k n s).Pairwise lexL
  | 0, s => by simp [growF]
  | k + 1, s => by
    simp only [growF]
    rw [List.pairwise_flatMap]
    refine ⟨fun x _ => ?_, ?_⟩
    · split
      · exact List.Pairwise.nil
      · exact growF_sort k _
    · refine (ran_lt n).imp ?_
      intro x y hxy a ha b hb
      split at ha
      · cases ha
      · split at hb
        · cases hb
        · obtain ⟨u, rfl⟩ := growF_pre k _ a ha
          obtain ⟨v, rfl⟩ := growF_pre k _ b hb
          have e1 : el (s ++ [x] ++ u) (s.length : Int) = x := by simp [el]
          have e2 : el (s ++ [y] ++ v) (s.length : Int) = y := by simp [el]
          refine ⟨(s.length : Int), ⟨by omega, by simp; omega⟩, fun m m0 m1 => ?_, by rw [e1, e2]; exact hxy⟩
          show el (s ++ [x] ++ u) m = el (s ++ [y] ++ v) m
          rw [List.append_assoc, List.append_assoc, el_append_l ⟨m0, m1⟩, el_append_l ⟨m0, m1⟩]
theorem growF_all {n : Int} : ∀ (k : Nat) (s u : List Int), (s ++ u).Nodup → (∀ x ∈ u, 0 ≤ x ∧ x < n) → u.length = k → s ++ u ∈ growF k n s
  | 0, s, u, _, _, h => by have := List.eq_nil_of_length_eq_zero h; subst this; simp [growF]
  | k + 1, s, [], _, _, h => by simp at h
  | k + 1, s, x :: u, hn, hr, h => by
    simp only [growF, List.mem_flatMap]
    refine ⟨x, mem_ran.2 (hr x (by simp)), ?_⟩
    have hx : ¬ x ∈ s := fun g => (List.nodup_append.1 hn).2.2 x g x (by simp) rfl
    rw [if_neg (by rw [List.contains_iff_mem]; exact hx)]
    have := growF_all k (s ++ [x]) u (by simpa using hn) (fun y hy => hr y (by simp [hy])) (by simpa using h)
    simpa using this
section
variable {n : Int}
theorem growL_all (hn : 0 ≤ n) {q : List Int} (hq : isPerm q = true) (hl : (q.length : Int) = n) : q ∈ growL n [] := by
  obtain ⟨h1, h2⟩ := isPerm_iff.1 hq
  exact growF_all _ [] q h1 (fun x hx => by have := h2 x hx; omega) (by simp; omega)
theorem growL_sort : (growL n []).Pairwise lexL := growF_sort _ _
theorem sort_at {L : List (List Int)} (hs : L.Pairwise lexL) {a b : Nat} {x y : List Int} (hx : L[a]? = some x) (hy : L[b]? = some y) (h : a < b) : lexL x y := by
  obtain ⟨ha, ea⟩ := List.getElem?_eq_some_iff.1 hx
  obtain ⟨hb, eb⟩ := List.getElem?_eq_some_iff.1 hy
  have := List.pairwise_iff_getElem.1 hs a b ha hb h
  rwa [ea, eb] at this
end

end
section

end
section
theorem upto_cons {α : Type} [Inhabited α] {x y : α} {a b : List α} {j : Int} (hj : 0 ≤ j) : Upto (j + 1) (fun m => el (x :: a) m = el (y :: b) m) ↔ x = y ∧ Upto j (fun m => el a m = el b m) := by
  constructor
  · intro h
    refine ⟨by have := h 0 (by omega) (by omega); simpa [el_cons_0] using this, fun m m0 m1 => ?_⟩
    have : el (x :: a) (m + 1) = el (y :: b) (m + 1) := h (m + 1) (by omega) (by omega)
    rw [el_cons_s (by omega), el_cons_s (by omega), Int.add_sub_cancel] at this
    exact this
  · rintro ⟨rfl, h⟩ m m0 m1
    show el (x :: a) m = el (x :: b) m
    by_cases e : m = 0
    · subst e; rw [el_cons_0, el_cons_0]
    · rw [el_cons_s (by omega), el_cons_s (by omega)]; exact h _ (by omega) (by omega)
theorem lex_cons {x y : Int} {a b : List Int} : lexL (x :: a) (y :: b) ↔ x < y ∨ (x = y ∧ lexL a b) := by
  constructor
  · rintro ⟨j, hj, hu, hlt⟩
    by_cases e : j = 0
    · subst e; left; simpa [el_cons_0] using hlt
    · right
      obtain ⟨i, rfl⟩ : ∃ i, j = i + 1 := ⟨j - 1, by omega⟩
      obtain ⟨h1, h2⟩ := (upto_cons (by omega)).1 hu
      rw [el_cons_s (by omega), el_cons_s (by omega), Int.add_sub_cancel] at hlt
      exact ⟨h1, i, ⟨by omega, by have := hj.2; simp at this; omega⟩, h2, hlt⟩
  · rintro (h | ⟨rfl, j, hj, hu, hlt⟩)
    · exact ⟨0, ⟨by omega, by simp⟩, fun m _ _ => by omega, by rw [el_cons_0, el_cons_0]; exact h⟩
    · exact ⟨j + 1, ⟨by omega, by simp; omega⟩, (upto_cons hj.1).2 ⟨rfl, hu⟩, by rw [el_cons_s (by omega), el_cons_s (by omega), Int.add_sub_cancel]; exact hlt⟩
theorem lexL_total : ∀ {a b : List Int}, a.length = b.length → a ≠ b → lexL a b ∨ lexL b a
  | [], [], _, h => absurd rfl h
  | [], _ :: _, h, _ => by cases h
  | _ :: _, [], h, _ => by cases h
  | x :: a, y :: b, hl, h => by
    rcases Int.lt_trichotomy x y with g | rfl | g
    · exact .inl (lex_cons.2 (.inl g))
    · rcases lexL_total (a := a) (b := b) (by simpa using hl) (fun e => h (by rw [e])) with k | k
      · exact .inl (lex_cons.2 (.inr ⟨rfl, k⟩))
      · exact .inr (lex_cons.2 (.inr ⟨rfl, k⟩))
    · exact .inr (lex_cons.2 (.inl g))
theorem cmp_lex : ∀ {a b : List Int}, a.length = b.length → (cmpG cmp1 a b < 0 ↔ lexL a b)
  | [], [], _ => by simp only [cmpG]; exact ⟨fun h => by omega, fun h => absurd h lexL_irrefl⟩
  | [], _ :: _, h => by cases h
  | _ :: _, [], h => by cases h
  | x :: a, y :: b, hl => by
    rw [lex_cons, ← cmp_lex (a := a) (b := b) (by simpa using hl)]
    simp only [cmpG, cmp1_zero]
    split
    · rename_i h; subst h; exact ⟨fun h => .inr ⟨rfl, h⟩, fun h => h.elim (fun h => by omega) fun h => h.2⟩
    · rename_i h
      unfold cmp1
      split
      · exact ⟨fun _ => .inl (by assumption), fun _ => by omega⟩
      · split
        · exact ⟨fun _ => by omega, fun k => k.elim (fun _ => by omega) fun k => absurd k.1 h⟩
        · exact ⟨fun _ => by omega, fun k => k.elim (fun _ => by omega) fun k => absurd k.1 h⟩
def LexS (n : Nat) (l : List (List Int)) : Prop := l.Pairwise lexL ∧ ∀ x ∈ l, x.length = n
theorem LexS.tail {n : Nat} {a : List Int} {l : List (List Int)} (h : LexS n (a :: l)) : LexS n l := ⟨(List.pairwise_cons.1 h.1).2, fun x hx => h.2 x (List.mem_cons_of_mem _ hx)⟩
theorem LexS.nodup {n : Nat} {l : List (List Int)} (h : LexS n l) : l.Nodup := h.1.imp fun h e => by subst e; exact lexL_irrefl h
theorem lexS_uniq {n : Nat} : ∀ {a b : List (List Int)}, LexS n a → LexS n b → (∀ x, x ∈ a ↔ x ∈ b) → a = b
  | [], [], _, _, _ => rfl
  | [], y :: b, _, _, h => by have := (h y).2 List.mem_cons_self; cases this
  | x :: a, [], _, _, h => by have := (h x).1 List.mem_cons_self; cases this
  | x :: a, y :: b, ha, hb, h => by
    have pa := List.pairwise_cons.1 ha.1
    have pb := List.pairwise_cons.1 hb.1
    have e : x = y := by
      rcases List.mem_cons.1 ((h x).1 List.mem_cons_self) with e | h1
      · exact e
      · rcases List.mem_cons.1 ((h y).2 List.mem_cons_self) with e | h2
        · exact e.symm
        · exact absurd (lexL_trans (by rw [ha.2 x List.mem_cons_self, hb.2 y List.mem_cons_self]) (pa.1 y h2) (pb.1 x h1)) lexL_irrefl
    subst e
    rw [lexS_uniq ha.tail hb.tail fun z => ?_]
    constructor
    · intro hz
      rcases List.mem_cons.1 ((h z).1 (List.mem_cons_of_mem _ hz)) with e | h1
      · subst e; exact absurd (pa.1 z hz) lexL_irrefl
      · exact h1
    · intro hz
      rcases List.mem_cons.1 ((h z).2 (List.mem_cons_of_mem _ hz)) with e | h1
      · subst e; exact absurd (pb.1 z hz) lexL_irrefl
      · exact h1
theorem el_takeG {α : Type} [Inhabited α] {l : List α} {j m : Int} (hj : 0 ≤ j ∧ j < m) : el (l.take m.toNat) j = el l j := by
  unfold el
  simp only [List.getD_eq_getElem?_getD, List.getElem?_take]
  rw [if_pos (by omega)]
theorem lexS_put {n : Nat} {s : List (List Int)} {x : List Int} {k : Int} (hs : LexS n s) (hx : x.length = n) (hk : 0 ≤ k ∧ k ≤ (s.length : Int)) (h1 : 0 < k → lexL (el s (k - 1)) x) (h2 : k < (s.length : Int) → lexL x (el s k)) :
    LexS n (sl s 0 k ++ x :: sl s k (s.length : Int)) ∧ ∀ z, z ∈ sl s 0 k ++ x :: sl s k (s.length : Int) ↔ z = x ∨ z ∈ s := by
  have e : s = s.take k.toNat ++ s.drop k.toNat := (List.take_append_drop _ _).symm
  have e1 : sl s 0 k = s.take k.toNat := by simp [sl]
  have e2 : sl s k (s.length : Int) = s.drop k.toNat := by simp [sl]
  rw [e1, e2]
  have hp := hs.1
  rw [e] at hp
  obtain ⟨p1, p2, p3⟩ := List.pairwise_append.1 hp
  have hlen : ∀ z ∈ s, z.length = x.length := fun z hz => by rw [hs.2 z hz, hx]
  have lo : ∀ z ∈ s.take k.toNat, lexL z x := fun z hz => by
    obtain ⟨i, hi, rfl⟩ := mem_el hz
    have hi2 : i < k := by have := hi.2; simp at this; omega
    rw [el_takeG ⟨hi.1, hi2⟩]
    have hkp := h1 (by omega)
    by_cases hik : i = k - 1
    · subst hik; exact hkp
    · have := sort_at (a := i.toNat) (b := (k - 1).toNat) (x := el s i) (y := el s (k - 1)) hs.1 (by unfold el; rw [List.getD_eq_getElem?_getD, List.getElem?_eq_getElem (by omega)]; rfl) (by unfold el; rw [List.getD_eq_getElem?_getD, List.getElem?_eq_getElem (by omega)]; rfl) (by omega)
      exact lexL_trans (by rw [hs.2 _ (el_mem ⟨hi.1, by omega⟩), hs.2 _ (el_mem ⟨by omega, by omega⟩)]) this hkp
  have hi : ∀ z ∈ s.drop k.toNat, lexL x z := fun z hz => by
    by_cases hkl : k < (s.length : Int)
    · rw [drop_el ⟨hk.1, hkl⟩] at hz p2
      rcases List.mem_cons.1 hz with rfl | hz
      · exact h2 hkl
      · exact lexL_trans (by rw [hx, hs.2 _ (el_mem ⟨hk.1, hkl⟩)]) (h2 hkl) ((List.pairwise_cons.1 p2).1 z hz)
    · rw [List.drop_of_length_le (by omega)] at hz; cases hz
  have hmem : ∀ z, z ∈ s.take k.toNat ++ x :: s.drop k.toNat ↔ z = x ∨ z ∈ s := fun z => by
    rw [show (z ∈ s) = (z ∈ s.take k.toNat ++ s.drop k.toNat) by rw [← e]]
    simp only [List.mem_append, List.mem_cons]
    constructor
    · rintro (h | h | h) <;> simp [h]
    · rintro (h | h | h) <;> simp [h]
  refine ⟨⟨List.pairwise_append.2 ⟨p1, List.pairwise_cons.2 ⟨hi, p2⟩, fun a ha b hb => ?_⟩, fun z hz => ?_⟩, hmem⟩
  · rcases List.mem_cons.1 hb with rfl | hb
    · exact lo a ha
    · exact p3 a ha b hb
  · rcases (hmem z).1 hz with rfl | hz
    · exact hx
    · exact hs.2 z hz
theorem idxL_mem {l : List (List Int)} {v : List Int} (h : v ∈ l) : 0 ≤ idxL l v ∧ idxL l v < (l.length : Int) := by
  unfold idxL idxF
  have hany : l.any (fun own => decide (own = v)) = true := List.any_eq_true.2 ⟨v, h, decide_eq_true rfl⟩
  rw [if_pos hany]
  have := List.findIdx_lt_length_of_exists (p := fun own => decide (own = v)) ⟨v, h, decide_eq_true rfl⟩
  omega
theorem perm_mk {p : List Int} (h : ∀ i, 0 ≤ i → i < (p.length : Int) → 0 ≤ el p i ∧ el p i < (p.length : Int)) (hi : ∀ i j, 0 ≤ i → i < j → j < (p.length : Int) → el p i ≠ el p j) : isPerm p = true :=
  isPerm_iff.2 ⟨nodup_el.2 hi, fun x hx => by obtain ⟨i, hi, rfl⟩ := mem_el hx; exact h i hi.1 hi.2⟩
section
variable {x y : List Int}
end
theorem grow_iff {n : Int} (hn : 0 ≤ n) {q : List Int} : q ∈ growL n [] ↔ (q.length : Int) = n ∧ isPerm q = true := ⟨growL_perm hn, fun h => growL_all hn h.2 h.1⟩
section
variable {p : List Int} (hp : permB p = true)
include hp
end
end
section
section
variable {n : Int} {list : List (List Int)} (hn : 1 ≤ n ∧ n ≤ 12) (hP : permsN n list)
include hn hP
end
section
variable {n : Int} {list q : List (List Int)} {i k : Int}
end
end
section
structure OkM (a b : List (List (List Int))) (f : List Int) (u : List Bool) (s : List Int) : Prop where
  la : a.length = b.length
  ha : ∀ k, 0 ≤ k → k < (a.length : Int) → isTab (el a k) = true ∧ (el a k).length = f.length
  hb : ∀ k, 0 ≤ k → k < (b.length : Int) → isTab (el b k) = true ∧ (el b k).length = f.length
  sm : (a.length : Int) ≤ 1000
  lu : u.length = f.length
  n12 : 1 ≤ (f.length : Int) ∧ (f.length : Int) ≤ 12
  nd : s.Nodup
  mem : ∀ x, x ∈ s ↔ (0 ≤ x ∧ x < (f.length : Int)) ∧ 0 ≤ el f x
  val : ∀ x, 0 ≤ x → x < (f.length : Int) → el f x = -1 ∨ (0 ≤ el f x ∧ el f x < (f.length : Int))
  use : ∀ v, 0 ≤ v → v < (f.length : Int) → (el u v = true ↔ ∃ x, x ∈ s ∧ el f x = v)
  inj : ∀ x ∈ s, ∀ y ∈ s, el f x = el f y → x = y
def el3 (a : List (List (List Int))) (k x y : Int) : Int := el (el (el a k) x) y
def IsoP (a b : List (List (List Int))) (p : List Int) : Prop := isPerm p = true ∧ ∀ k, 0 ≤ k → k < (a.length : Int) → ∀ x y, (0 ≤ x ∧ x < (p.length : Int)) → (0 ≤ y ∧ y < (p.length : Int)) → el p (el3 a k x y) = el3 b k (el p x) (el p y)
def ExtI (f p : List Int) : Prop := ∀ x, 0 ≤ x → x < (f.length : Int) → 0 ≤ el f x → el p x = el f x
def Ck1 (a b : List (List (List Int))) (f : List Int) (k x y : Int) : Prop := el f (el3 a k x y) = el3 b k (el f x) (el f y)
def Ck (a b : List (List (List Int))) (f : List Int) (x y : Int) : Prop := ∀ k, 0 ≤ k → k < (a.length : Int) → Ck1 a b f k x y ∧ Ck1 a b f k y x
def Dn (a b : List (List (List Int))) (f s : List Int) (c : Int) : Prop := ∀ j i, c ≤ j → j < (s.length : Int) → 0 ≤ i → i ≤ j → Ck a b f (el s j) (el s i)
def AsgP (a b : List (List (List Int))) (f : List Int) (_u : List Bool) (s : List Int) (x v : Int) (r : Bool) (f' : List Int) (u' : List Bool) (s' : List Int) : Prop :=
  OkM a b f' u' s' ∧ f'.length = f.length ∧ (∃ t, s' = s ++ t) ∧ (∀ y ∈ s, el f' y = el f y) ∧ (r = true → el f' x = v ∧ Dn a b f' s' (s.length : Int)) ∧
  ∀ p, p.length = f.length → IsoP a b p → ExtI f p → el p x = v → r = true ∧ ExtI f' p
section
variable {a b : List (List (List Int))} {f f' : List Int} {u u' : List Bool} {s s' : List Int}
theorem OkM.a_in (h : OkM a b f u s) {k x y : Int} (hk : 0 ≤ k ∧ k < (a.length : Int)) (hx : 0 ≤ x ∧ x < (f.length : Int)) (hy : 0 ≤ y ∧ y < (f.length : Int)) :
    (x < ((el a k).length : Int)) ∧ (y < ((el (el a k) x).length : Int)) ∧ 0 ≤ el3 a k x y ∧ el3 a k x y < (f.length : Int) := by
  obtain ⟨h1, h2⟩ := h.ha k hk.1 hk.2
  have := isTab_row h1 (i := x) ⟨hx.1, by omega⟩
  have h3 := this.2 y hy.1 (by omega)
  exact ⟨by omega, by omega, h3.1, by have := h3.2; show el (el (el a k) x) y < _; omega⟩
theorem OkM.b_in (h : OkM a b f u s) {k x y : Int} (hk : 0 ≤ k ∧ k < (a.length : Int)) (hx : 0 ≤ x ∧ x < (f.length : Int)) (hy : 0 ≤ y ∧ y < (f.length : Int)) :
    (k < (b.length : Int)) ∧ (x < ((el b k).length : Int)) ∧ (y < ((el (el b k) x).length : Int)) ∧ 0 ≤ el3 b k x y ∧ el3 b k x y < (f.length : Int) := by
  have hl := h.la
  obtain ⟨h1, h2⟩ := h.hb k hk.1 (by omega)
  have := isTab_row h1 (i := x) ⟨hx.1, by omega⟩
  have h3 := this.2 y hy.1 (by omega)
  exact ⟨by omega, by omega, by omega, h3.1, by have := h3.2; show el (el (el b k) x) y < _; omega⟩
theorem OkM.in_s (h : OkM a b f u s) {x : Int} (hx : x ∈ s) : (0 ≤ x ∧ x < (f.length : Int)) ∧ 0 ≤ el f x ∧ el f x < (f.length : Int) := by
  have h1 := (h.mem x).1 hx
  have := h.val x h1.1.1 h1.1.2
  exact ⟨h1.1, h1.2, by omega⟩
theorem OkM.len (h : OkM a b f u s) : (s.length : Int) ≤ (f.length : Int) := nodup_len_ran (by omega) h.nd fun x hx => (h.in_s hx).1
theorem OkM.room (h : OkM a b f u s) {x : Int} (hx : 0 ≤ x ∧ x < (f.length : Int)) (hn : ¬ 0 ≤ el f x) : (s.length : Int) + 1 ≤ (f.length : Int) := by
  have hx2 : x ∉ s := fun hm => hn ((h.mem x).1 hm).2
  have : ((x :: s).length : Int) ≤ (f.length : Int) := nodup_len_ran (by omega) (List.nodup_cons.2 ⟨hx2, h.nd⟩) fun z hz => by
    rcases List.mem_cons.1 hz with rfl | hz
    · exact hx
    · exact (h.in_s hz).1
  simp at this; omega
theorem OkM.add (h : OkM a b f u s) {x v : Int} (hx : 0 ≤ x ∧ x < (f.length : Int)) (hn : ¬ 0 ≤ el f x) (hv : 0 ≤ v ∧ v < (f.length : Int)) (hu : el u v = false) : OkM a b (se f x v) (se u v true) (s ++ [x]) := by
  have hl : (se f x v).length = f.length := by simp
  have hx2 : x ∉ s := fun hm => hn ((h.mem x).1 hm).2
  have same : ∀ y, 0 ≤ y → y ≠ x → el (se f x v) y = el f y := fun y y0 hy => el_se_ne hx.1 y0 (Ne.symm hy)
  have here : el (se f x v) x = v := el_se_same hx
  have old : ∀ y ∈ s, el (se f x v) y = el f y := fun y hy => same y (h.in_s hy).1.1 fun e => hx2 (e ▸ hy)
  refine ⟨h.la, fun k a b => by rw [hl]; exact h.ha k a b, fun k a b => by rw [hl]; exact h.hb k a b, h.sm, by simp [h.lu], by rw [hl]; exact h.n12, List.nodup_append.2 ⟨h.nd, by simp, fun y hy z hz e => by rw [List.mem_singleton.1 hz] at e; exact hx2 (e ▸ hy)⟩, fun y => ?_, fun y y0 y1 => ?_, fun w w0 w1 => ?_, fun y hy z hz e => ?_⟩
  · rw [hl, List.mem_append, List.mem_singleton, h.mem]
    by_cases e : y = x
    · subst e; rw [here]; exact ⟨fun _ => ⟨hx, hv.1⟩, fun _ => .inr rfl⟩
    · constructor
      · rintro (k | k)
        · exact ⟨k.1, by rw [same y k.1.1 e]; exact k.2⟩
        · exact absurd k e
      · rintro ⟨k1, k2⟩; exact .inl ⟨k1, by rwa [same y k1.1 e] at k2⟩
  · rw [hl] at y1 ⊢
    by_cases e : y = x
    · subst e; rw [here]; exact .inr hv
    · rw [same y y0 e]; exact h.val y y0 y1
  · rw [hl] at w1
    by_cases e : w = v
    · subst e; rw [el_se_same ⟨w0, by rw [h.lu]; exact w1⟩]; exact ⟨fun _ => ⟨x, by simp, here⟩, fun _ => rfl⟩
    · rw [el_se_ne hv.1 w0 (Ne.symm e), h.use w w0 w1]
      constructor
      · rintro ⟨y, hy, e2⟩; exact ⟨y, List.mem_append_left _ hy, by rw [old y hy]; exact e2⟩
      · rintro ⟨y, hy, e2⟩
        rcases List.mem_append.1 hy with hy | hy
        · exact ⟨y, hy, by rw [← old y hy]; exact e2⟩
        · rw [List.mem_singleton.1 hy, here] at e2; exact absurd e2.symm e
  · have nov : ∀ y ∈ s, el f y ≠ v := fun y hy e => by
      have := (h.use v hv.1 hv.2).2 ⟨y, hy, e⟩
      rw [hu] at this; cases this
    rcases List.mem_append.1 hy with hy | hy <;> rcases List.mem_append.1 hz with hz | hz
    · rw [old y hy, old z hz] at e; exact h.inj y hy z hz e
    · rw [List.mem_singleton.1 hz, here, old y hy] at e; exact absurd e (nov y hy)
    · rw [List.mem_singleton.1 hy, here, old z hz] at e; exact absurd e.symm (nov z hz)
    · rw [List.mem_singleton.1 hy, List.mem_singleton.1 hz]
theorem OkM.del {A B : List Int} {z : Int} (h : OkM a b f u (A ++ z :: B)) : OkM a b (se f z (-1)) (se u (el f z) false) (A ++ B) ∧ ∀ y ∈ A ++ B, el (se f z (-1)) y = el f y := by
  have hl : (se f z (-1)).length = f.length := by simp
  have hz := h.in_s (x := z) (by simp)
  have nd := h.nd
  have hzn : z ∉ A ++ B := fun hm => by
    obtain ⟨n1, n2, n3⟩ := List.nodup_append.1 nd
    rcases List.mem_append.1 hm with hm | hm
    · exact n3 z hm z (by simp) rfl
    · exact (List.nodup_cons.1 n2).1 hm
  have sub : ∀ y, y ∈ A ++ z :: B ↔ y = z ∨ y ∈ A ++ B := fun y => by
    simp only [List.mem_append, List.mem_cons]
    constructor
    · rintro (k | k | k) <;> simp [k]
    · rintro (k | k | k) <;> simp [k]
  have same : ∀ y, 0 ≤ y → y ≠ z → el (se f z (-1)) y = el f y := fun y y0 hy => el_se_ne hz.1.1 y0 (Ne.symm hy)
  have here : el (se f z (-1)) z = -1 := el_se_same hz.1
  have old : ∀ y ∈ A ++ B, el (se f z (-1)) y = el f y := fun y hy => same y (h.in_s ((sub y).2 (.inr hy))).1.1 fun e => hzn (e ▸ hy)
  refine ⟨⟨h.la, fun k a b => by rw [hl]; exact h.ha k a b, fun k a b => by rw [hl]; exact h.hb k a b, h.sm, by simp [h.lu], by rw [hl]; exact h.n12, ?_, fun y => ?_, fun y y0 y1 => ?_, fun w w0 w1 => ?_, fun y hy y' hy' e => ?_⟩, old⟩
  · obtain ⟨n1, n2, n3⟩ := List.nodup_append.1 nd
    exact List.nodup_append.2 ⟨n1, (List.nodup_cons.1 n2).2, fun p hp q hq => n3 p hp q (List.mem_cons_of_mem _ hq)⟩
  · rw [hl]
    by_cases e : y = z
    · subst e; rw [here]; exact ⟨fun k => absurd k hzn, fun k => by omega⟩
    · have : y ∈ A ++ B ↔ y ∈ A ++ z :: B := ⟨fun k => (sub y).2 (.inr k), fun k => ((sub y).1 k).resolve_left e⟩
      rw [this, h.mem]
      constructor
      · rintro ⟨k1, k2⟩; exact ⟨k1, by rw [same y k1.1 e]; exact k2⟩
      · rintro ⟨k1, k2⟩; exact ⟨k1, by rwa [same y k1.1 e] at k2⟩
  · rw [hl] at y1 ⊢
    by_cases e : y = z
    · subst e; rw [here]; exact .inl rfl
    · rw [same y y0 e]; exact h.val y y0 y1
  · rw [hl] at w1
    by_cases e : w = el f z
    · subst e
      rw [el_se_same ⟨w0, by rw [h.lu]; exact w1⟩]
      refine ⟨fun k => absurd k (by simp), fun ⟨y, hy, e2⟩ => ?_⟩
      rw [old y hy] at e2
      have := h.inj y ((sub y).2 (.inr hy)) z (by simp) e2
      exact absurd (this ▸ hy) hzn
    · rw [el_se_ne hz.2.1 w0 (Ne.symm e), h.use w w0 w1]
      constructor
      · rintro ⟨y, hy, e2⟩
        rcases (sub y).1 hy with rfl | hy
        · exact absurd e2.symm e
        · exact ⟨y, hy, by rw [old y hy]; exact e2⟩
      · rintro ⟨y, hy, e2⟩; exact ⟨y, (sub y).2 (.inr hy), by rw [← old y hy]; exact e2⟩
  · rw [old y hy, old y' hy'] at e
    exact h.inj y ((sub y).2 (.inr hy)) y' ((sub y').2 (.inr hy')) e
theorem ck1_mono (h : OkM a b f u s) (_h' : OkM a b f' u' s') (_hl : f'.length = f.length) (hag : ∀ y ∈ s, el f' y = el f y) {k x y : Int} (hk : 0 ≤ k ∧ k < (a.length : Int)) (hx : x ∈ s) (hy : y ∈ s) (hc : Ck1 a b f k x y) : Ck1 a b f' k x y := by
  have gx := h.in_s hx
  have gy := h.in_s hy
  have h1 := h.a_in hk gx.1 gy.1
  have h2 := h.b_in hk gx.2 gy.2
  unfold Ck1 at hc ⊢
  have hm : el3 a k x y ∈ s := (h.mem _).2 ⟨h1.2.2, by rw [hc]; exact h2.2.2.2.1⟩
  rw [hag x hx, hag y hy, hag _ hm, hc]
theorem ck_mono (h : OkM a b f u s) (h' : OkM a b f' u' s') (hl : f'.length = f.length) (hag : ∀ y ∈ s, el f' y = el f y) {x y : Int} (hx : x ∈ s) (hy : y ∈ s) (hc : Ck a b f x y) : Ck a b f' x y := fun k k0 k1 =>
  ⟨ck1_mono h h' hl hag ⟨k0, k1⟩ hx hy (hc k k0 k1).1, ck1_mono h h' hl hag ⟨k0, k1⟩ hy hx (hc k k0 k1).2⟩
theorem dn_mono (h : OkM a b f u s) (h' : OkM a b f' u' s') (hl : f'.length = f.length) (hag : ∀ y ∈ s, el f' y = el f y) (hp : ∃ t, s' = s ++ t) {c : Int} (hc0 : 0 ≤ c) (hd : Dn a b f s c) (hd' : Dn a b f' s' (s.length : Int)) : Dn a b f' s' c := fun j i h1 h2 h3 h4 => by
  obtain ⟨t, rfl⟩ := hp
  by_cases hj : j < (s.length : Int)
  · rw [el_append_l ⟨by omega, hj⟩, el_append_l ⟨h3, by omega⟩]
    exact ck_mono h h' hl hag (el_mem ⟨by omega, hj⟩) (el_mem ⟨h3, by omega⟩) (hd j i h1 hj h3 h4)
  · exact hd' j i (by omega) h2 h3 h4
theorem okM_uniq (h : OkM a b f u s) (h' : OkM a b f' u' s) (hl : f'.length = f.length) (hag : ∀ y ∈ s, el f' y = el f y) : f' = f ∧ u' = u := by
  have e : f' = f := ext_el hl fun i i0 i1 => by
    by_cases hi : i ∈ s
    · exact hag i hi
    · have g1 := h.val i i0 (by omega)
      have g2 := h'.val i i0 i1
      have k1 := mt (h.mem i).2 hi
      have k2 := mt (h'.mem i).2 hi
      have : ¬ 0 ≤ el f i := fun k => k1 ⟨⟨i0, by omega⟩, k⟩
      have : ¬ 0 ≤ el f' i := fun k => k2 ⟨⟨i0, i1⟩, k⟩
      omega
  subst e
  refine ⟨rfl, ext_el (by rw [h'.lu, h.lu]) fun i i0 i1 => ?_⟩
  have := (h'.use i i0 (by rw [← h'.lu]; exact i1)).trans (h.use i i0 (by rw [← h'.lu]; exact i1)).symm
  rwa [Bool.eq_iff_iff]
end

end
section
noncomputable def extL (a b : List (List (List Int))) (f : List Int) : List (List Int) := (growL (f.length : Int) []).filter fun p => dec (IsoP a b p ∧ ExtI f p)
noncomputable def isoL (a b : List (List (List Int))) : List (List Int) := if (el a 0).length = (el b 0).length then (growL ((el a 0).length : Int) []).filter fun p => dec (IsoP a b p) else []
def TabsP (t : List (List (List Int))) : Prop := 1 ≤ (t.length : Int) ∧ (t.length : Int) ≤ 1000 ∧ ∀ k, 0 ≤ k → k < (t.length : Int) → isTab (el t k) = true ∧ (el t k).length = (el t 0).length
def SubL (L E : List (List Int)) (k : Nat) : Prop := ∀ (i : Nat) (e : List Int), E[i]? = some e → L[k + i]? = some e
def ExPre (L : List (List Int)) (z : Option Nat) (a b : List (List (List Int))) (f : List Int) (u : List Bool) (s : List Int) : Prop := ∃ k, z = some k ∧ OkM a b f u s ∧ Dn a b f s 0 ∧ SubL L (extL a b f) k
def ExPost (z : Option Nat) (a b : List (List (List Int))) (f : List Int) (r : Bool) (z' : Option Nat) : Prop := ∃ k, z = some k ∧ ((r = true ∧ z' = some (k + (extL a b f).length)) ∨ (r = false ∧ z' = none))
section
variable {a b : List (List (List Int))} {f : List Int}
theorem mem_ext {p : List Int} : p ∈ extL a b f ↔ p.length = f.length ∧ IsoP a b p ∧ ExtI f p := by
  unfold extL
  rw [List.mem_filter, dec_iff, grow_iff (by omega)]
  exact ⟨fun h => ⟨by have := h.1.1; omega, h.2⟩, fun h => ⟨⟨by have := h.1; omega, h.2.1.1⟩, h.2⟩⟩
theorem ext_lex : LexS f.length (extL a b f) := ⟨List.Pairwise.filter _ growL_sort, fun _ hp => (mem_ext.1 hp).1⟩
theorem LexS.filter {n : Nat} {l : List (List Int)} (h : LexS n l) (q : List Int → Bool) : LexS n (l.filter q) := ⟨List.Pairwise.filter _ h.1, fun x hx => h.2 x (List.mem_filter.1 hx).1⟩
theorem ext_whole {u : List Bool} {s : List Int} (h : OkM a b f u s) (hd : Dn a b f s 0) (hall : ∀ x, 0 ≤ x → x < (f.length : Int) → 0 ≤ el f x) : extL a b f = [f] := by
  have hs : ∀ x, 0 ≤ x → x < (f.length : Int) → x ∈ s := fun x x0 x1 => (h.mem x).2 ⟨⟨x0, x1⟩, hall x x0 x1⟩
  have hp : isPerm f = true := perm_mk (fun i i0 i1 => ⟨hall i i0 i1, (h.in_s (hs i i0 i1)).2.2⟩) fun i j i0 ij j1 e => by
    have := h.inj i (hs i i0 (by omega)) j (hs j (by omega) j1) e; omega
  have hi : IsoP a b f := ⟨hp, fun k k0 k1 x y hx hy => by
    obtain ⟨j, hj, ej⟩ := mem_el (hs x hx.1 hx.2)
    obtain ⟨i, hi, ei⟩ := mem_el (hs y hy.1 hy.2)
    rcases Int.lt_or_le i j with g | g
    · have := (hd j i (by omega) hj.2 hi.1 (by omega) k k0 k1).1
      rw [ej, ei] at this; exact this
    · have := (hd i j (by omega) hi.2 hj.1 g k k0 k1).2
      rw [ej, ei] at this; exact this⟩
  refine lexS_uniq ext_lex (b := [f]) ⟨List.pairwise_singleton _ _, fun x hx => by rw [List.mem_singleton.1 hx]⟩ fun p => ?_
  rw [mem_ext, List.mem_singleton]
  constructor
  · rintro ⟨h1, _, h3⟩; exact ext_el h1 fun i i0 i1 => h3 i i0 (by omega) (hall i i0 (by omega))
  · rintro rfl; exact ⟨rfl, hi, fun _ _ _ _ => rfl⟩
noncomputable def exA (a b : List (List (List Int))) (f : List Int) (x v : Int) : List (List Int) := (extL a b f).filter fun p => decide (el p x < v)
noncomputable def exB (a b : List (List (List Int))) (f : List Int) (x v : Int) : List (List Int) := (extL a b f).filter fun p => decide (el p x = v)
theorem mem_exA {x v : Int} {p : List Int} : p ∈ exA a b f x v ↔ p ∈ extL a b f ∧ el p x < v := by unfold exA; rw [List.mem_filter, decide_eq_true_eq]
theorem mem_exB {x v : Int} {p : List Int} : p ∈ exB a b f x v ↔ p ∈ extL a b f ∧ el p x = v := by unfold exB; rw [List.mem_filter, decide_eq_true_eq]
theorem ext_lt {x : Int} (hx : 0 ≤ x ∧ x < (f.length : Int)) (hb : ∀ y, 0 ≤ y → y < x → 0 ≤ el f y) {p q : List Int} (hp : p ∈ extL a b f) (hq : q ∈ extL a b f) (h : el p x < el q x) : lexL p q := by
  obtain ⟨p1, _, p3⟩ := mem_ext.1 hp
  obtain ⟨q1, _, q3⟩ := mem_ext.1 hq
  exact ⟨x, ⟨hx.1, by omega⟩, fun y y0 y1 => by show el p y = el q y; rw [p3 y y0 (by omega) (hb y y0 y1), q3 y y0 (by omega) (hb y y0 y1)], h⟩
theorem exA_succ {x v : Int} (hx : 0 ≤ x ∧ x < (f.length : Int)) (hb : ∀ y, 0 ≤ y → y < x → 0 ≤ el f y) : exA a b f x (v + 1) = exA a b f x v ++ exB a b f x v := by
  refine lexS_uniq (ext_lex.filter _) ⟨List.pairwise_append.2 ⟨(ext_lex.filter _).1, (ext_lex.filter _).1, fun p hp q hq => ?_⟩, fun z hz => ?_⟩ fun p => ?_
  · have h1 := mem_exA.1 hp
    have h2 := mem_exB.1 hq
    exact ext_lt hx hb h1.1 h2.1 (by omega)
  · rcases List.mem_append.1 hz with hz | hz
    · exact (mem_ext.1 (mem_exA.1 hz).1).1
    · exact (mem_ext.1 (mem_exB.1 hz).1).1
  · show p ∈ exA a b f x (v + 1) ↔ _
    rw [List.mem_append, mem_exA, mem_exA, mem_exB]
    constructor
    · rintro ⟨h1, h2⟩
      by_cases e : el p x = v
      · exact .inr ⟨h1, e⟩
      · exact .inl ⟨h1, by omega⟩
    · rintro (⟨h1, h2⟩ | ⟨h1, h2⟩) <;> exact ⟨h1, by omega⟩
theorem exA_pre {x v : Int} (hx : 0 ≤ x ∧ x < (f.length : Int)) (hb : ∀ y, 0 ≤ y → y < x → 0 ≤ el f y) : ∃ R, extL a b f = exA a b f x v ++ R := by
  refine ⟨(extL a b f).filter fun p => decide (v ≤ el p x), lexS_uniq ext_lex ⟨List.pairwise_append.2 ⟨(ext_lex.filter _).1, (ext_lex.filter _).1, fun p hp q hq => ?_⟩, fun z hz => ?_⟩ fun p => ?_⟩
  · have h1 := mem_exA.1 hp
    have h2 := List.mem_filter.1 hq
    exact ext_lt hx hb h1.1 h2.1 (by have := of_decide_eq_true h2.2; omega)
  · rcases List.mem_append.1 hz with hz | hz
    · exact (mem_ext.1 (mem_exA.1 hz).1).1
    · exact (mem_ext.1 (List.mem_filter.1 hz).1).1
  · rw [List.mem_append, mem_exA, List.mem_filter, decide_eq_true_eq]
    constructor
    · intro h
      by_cases e : el p x < v
      · exact .inl ⟨h, e⟩
      · exact .inr ⟨h, by omega⟩
    · rintro (⟨h, _⟩ | ⟨h, _⟩) <;> exact h
theorem exA_zero {x : Int} (hx : 0 ≤ x ∧ x < (f.length : Int)) : exA a b f x 0 = [] := by
  refine List.eq_nil_iff_forall_not_mem.2 fun p hp => ?_
  obtain ⟨h1, h2⟩ := mem_exA.1 hp
  obtain ⟨p1, p2, _⟩ := mem_ext.1 h1
  have := isPerm_el p2.1 (i := x) ⟨hx.1, by omega⟩
  omega
theorem exA_all {x : Int} (hx : 0 ≤ x ∧ x < (f.length : Int)) : exA a b f x (f.length : Int) = extL a b f := by
  unfold exA
  refine List.filter_eq_self.2 fun p hp => decide_eq_true ?_
  obtain ⟨p1, p2, _⟩ := mem_ext.1 hp
  have := isPerm_el p2.1 (i := x) ⟨hx.1, by omega⟩
  omega
theorem exB_asg {u u' : List Bool} {s s' f' : List Int} {x v : Int} (hx : 0 ≤ x ∧ x < (f.length : Int)) (hv0 : 0 ≤ v) (h : OkM a b f u s) (hr : AsgP a b f u s x v true f' u' s') : extL a b f' = exB a b f x v := by
  obtain ⟨g1, g2, _, g4, g5, g6⟩ := hr
  have hlx : LexS f.length (extL a b f') := by have := ext_lex (a := a) (b := b) (f := f'); rwa [g2] at this
  refine lexS_uniq hlx (ext_lex.filter _) fun p => ?_
  show _ ↔ p ∈ exB a b f x v
  rw [mem_exB, mem_ext, mem_ext]
  constructor
  · rintro ⟨h1, h2, h3⟩
    refine ⟨⟨by omega, h2, fun y y0 y1 y2 => ?_⟩, ?_⟩
    · have hy : y ∈ s := (h.mem y).2 ⟨⟨y0, y1⟩, y2⟩
      have := g4 y hy
      rw [h3 y y0 (by omega) (by omega), this]
    · have hv := (g5 rfl).1
      rw [h3 x hx.1 (by omega) (by omega)]; exact hv
  · rintro ⟨⟨h1, h2, h3⟩, h4⟩
    exact ⟨by omega, h2, (g6 p h1 h2 h3 h4).2⟩
end

end
section
def mkO (t : List (List (List Int))) (k x y : Int) : Int := (if el3 t k x y = y then 1 else 0) + (if el3 t k y x = y then 2 else 0) + (if el3 t k x y = x then 4 else 0) + (if el3 t k y x = x then 8 else 0)
def mkA (t : List (List (List Int))) (c : List Int) (k x y : Int) : Int := ((el c y * 64 + el c (el3 t k x y)) * 64 + el c (el3 t k y x)) * 16 + mkO t k x y
def mkC (t : List (List (List Int))) (n k x y : Int) : Int := (((ran n id).filter fun z => decide (el3 t k y z = x)).length : Int)
def mkB (t : List (List (List Int))) (c : List Int) (k x y : Int) : Int := 1099511627776 + el c y * 64 + mkC t (c.length : Int) k x y
def mkK (t : List (List (List Int))) (c : List Int) (x k : Int) : List Int := srtI (ran (c.length : Int) (mkA t c k x) ++ ran (c.length : Int) (mkB t c k x))
def mrkI (t : List (List (List Int))) (c : List Int) (x : Int) : List Int := [el c x] ++ (ran (t.length : Int) (mkK t c x)).flatten
def ColD (n : Int) (c : List Int) : Prop := (c.length : Int) = n ∧ ∀ i, 0 ≤ i → i < n → 0 ≤ el c i ∧ el c i ≤ 100
def MkD (t : List (List (List Int))) (c : List Int) (x : Int) : Prop := TabsP t ∧ ColD ((el t 0).length : Int) c ∧ 0 ≤ x ∧ x < (c.length : Int)
theorem le_uniq : ∀ {a b : List Int}, a.Pairwise (· ≤ ·) → b.Pairwise (· ≤ ·) → a.Perm b → a = b
  | [], b, _, _, h => h.nil_eq
  | x :: a, [], _, _, h => by have := h.length_eq; simp at this
  | x :: a, y :: b, ha, hb, h => by
    have pa := List.pairwise_cons.1 ha
    have pb := List.pairwise_cons.1 hb
    have e : x = y := by
      have h1 : y ∈ x :: a := h.mem_iff.2 List.mem_cons_self
      have h2 : x ∈ y :: b := h.mem_iff.1 List.mem_cons_self
      rcases List.mem_cons.1 h1 with e | h1
      · exact e.symm
      · rcases List.mem_cons.1 h2 with e | h2
        · exact e
        · have := pa.1 y h1; have := pb.1 x h2; omega
    subst e
    rw [le_uniq pa.2 pb.2 (List.Perm.cons_inv h)]
theorem adj_le : ∀ {l : List Int}, (∀ i : Int, 0 ≤ i → i + 1 < (l.length : Int) → el l i ≤ el l (i + 1)) → l.Pairwise (· ≤ ·)
  | [], _ => List.Pairwise.nil
  | a :: l, h => by
    have ih := adj_le (l := l) fun i i0 i1 => by
      have := h (i + 1) (by omega) (by simp; omega)
      rw [el_cons_s (by omega), el_cons_s (by omega), Int.add_sub_cancel, show i + 1 + 1 - 1 = i + 1 by omega] at this
      exact this
    refine List.pairwise_cons.2 ⟨fun z hz => ?_, ih⟩
    cases l with
    | nil => cases hz
    | cons b r =>
      have h0 := h 0 (by omega) (by simp; omega)
      rw [el_cons_0, el_cons_s (by omega), show (0 : Int) + 1 - 1 = 0 by omega, el_cons_0] at h0
      rcases List.mem_cons.1 hz with rfl | hz
      · exact h0
      · exact Int.le_trans h0 ((List.pairwise_cons.1 ih).1 z hz)
theorem srt_uniq {l o : List Int} (h1 : o.Perm l) (h2 : o.Pairwise (· ≤ ·)) : o = srtI l := le_uniq h2 (srt_le l) (h1.trans (List.mergeSort_perm l _).symm)
theorem srt_perm {a b : List Int} (h : a.Perm b) : srtI a = srtI b := le_uniq (srt_le a) (srt_le b) (((List.mergeSort_perm a _).trans h).trans (List.mergeSort_perm b _).symm)
theorem len_ran {α : Type} {n : Int} {f : Int → α} (h : 0 ≤ n) : ((ran n f).length : Int) = n := by unfold ran; simp; omega
theorem ran_perm {α : Type} {p : List Int} (hp : isPerm p = true) (f : Int → α) : (ran (p.length : Int) fun x => f (el p x)).Perm (ran (p.length : Int) f) := by
  have h1 : p.Perm (ran (p.length : Int) id) := (nodup_perm p (ran (p.length : Int) id) (isPerm_iff.1 hp).1 (fun x hx => mem_ran.2 ((isPerm_iff.1 hp).2 x hx)) (by simp [ran])).symm
  have e1 : (ran (p.length : Int) fun x => f (el p x)) = p.map f := by
    have := ran_el p
    calc (ran (p.length : Int) fun x => f (el p x)) = (ran (p.length : Int) (el p)).map f := by unfold ran; rw [List.map_map]; rfl
      _ = p.map f := by rw [this]
  have e2 : ran (p.length : Int) f = (ran (p.length : Int) id).map f := by unfold ran; rw [List.map_map]; rfl
  rw [e1, e2]
  exact h1.map f
theorem cnt_perm {p : List Int} (hp : isPerm p = true) (q : Int → Bool) : ((ran (p.length : Int) id).filter fun x => q (el p x)).length = ((ran (p.length : Int) id).filter q).length := by
  have h := (ran_perm hp id).filter q
  have e : (ran (p.length : Int) fun x => id (el p x)) = (ran (p.length : Int) id).map (el p) := by unfold ran; rw [List.map_map]; rfl
  rw [e, List.filter_map] at h
  have := h.length_eq
  rw [List.length_map] at this
  exact this
section
variable {a b : List (List (List Int))} {p c d : List Int}
theorem mrk_iso (hI : IsoP a b p) (hab : a.length = b.length) (hta : ∀ k, 0 ≤ k → k < (a.length : Int) → ∀ x y, (0 ≤ x ∧ x < (p.length : Int)) → (0 ≤ y ∧ y < (p.length : Int)) → 0 ≤ el3 a k x y ∧ el3 a k x y < (p.length : Int))
    (hc : c.length = p.length) (hd : d.length = p.length) (hcd : ∀ x, 0 ≤ x → x < (p.length : Int) → el c x = el d (el p x)) {x : Int} (hx : 0 ≤ x ∧ x < (p.length : Int)) : mrkI a c x = mrkI b d (el p x) := by
  have hp := hI.1
  have inj : ∀ {u v : Int}, (0 ≤ u ∧ u < (p.length : Int)) → (0 ≤ v ∧ v < (p.length : Int)) → (el p u = el p v ↔ u = v) := fun hu hv => ⟨fun h => isPerm_inj hp hu hv h, fun h => by rw [h]⟩
  have hA : ∀ k, 0 ≤ k → k < (a.length : Int) → ∀ y, (0 ≤ y ∧ y < (p.length : Int)) → mkA a c k x y = mkA b d k (el p x) (el p y) := fun k k0 k1 y hy => by
    have h1 := hI.2 k k0 k1 x y hx hy
    have h2 := hI.2 k k0 k1 y x hy hx
    have g1 := hta k k0 k1 x y hx hy
    have g2 := hta k k0 k1 y x hy hx
    unfold mkA mkO
    rw [← h1, ← h2, hcd y hy.1 hy.2, hcd _ g1.1 g1.2, hcd _ g2.1 g2.2]
    simp only [inj g1 hy, inj g2 hy, inj g1 hx, inj g2 hx]
  have hC : ∀ k, 0 ≤ k → k < (a.length : Int) → ∀ y, (0 ≤ y ∧ y < (p.length : Int)) → mkB a c k x y = mkB b d k (el p x) (el p y) := fun k k0 k1 y hy => by
    unfold mkB mkC
    rw [hcd y hy.1 hy.2, hc, hd]
    congr 2
    rw [← cnt_perm hp fun z => decide (el3 b k (el p y) z = el p x)]
    congr 1
    refine List.filter_congr fun z hz => ?_
    have hz := mem_ran.1 hz
    have g := hta k k0 k1 y z hy hz
    have h1 := hI.2 k k0 k1 y z hy hz
    rw [← h1]
    exact decide_eq_decide.2 (inj g hx).symm
  unfold mrkI
  rw [hcd x hx.1 hx.2, hab]
  congr 2
  unfold ran
  refine List.map_congr_left fun k hk => ?_
  have hk' := List.mem_range.1 hk
  unfold mkK
  rw [hc, hd]
  refine srt_perm ?_
  have cong : ∀ (f g : Int → Int), (∀ y, (0 ≤ y ∧ y < (p.length : Int)) → f y = g (el p y)) → (ran (p.length : Int) f).Perm (ran (p.length : Int) g) := fun f g h => by
    have e : ran (p.length : Int) f = ran (p.length : Int) fun y => g (el p y) := by
      unfold ran
      exact List.map_congr_left fun y hy => h _ ⟨by omega, by have := List.mem_range.1 hy; omega⟩
    rw [e]; exact ran_perm hp g
  exact (cong _ _ (hA k (by omega) (by omega))).append (cong _ _ (hC k (by omega) (by omega)))
end
def Keep (p c d : List Int) : Prop := ∀ x, 0 ≤ x → x < (p.length : Int) → el c x = el d (el p x)
def RfD (a b : List (List (List Int))) (c d : List Int) : Prop := TabsP a ∧ TabsP b ∧ a.length = b.length ∧ (el a 0).length = (el b 0).length ∧ ColD ((el a 0).length : Int) c ∧ ColD ((el a 0).length : Int) d
def RfP (a b : List (List (List Int))) (c d : List Int) (r0 r1 : List Int) (r2 : Bool) : Prop :=
  (r2 = true → ColD ((el a 0).length : Int) r0 ∧ ColD ((el a 0).length : Int) r1) ∧ ∀ p, (p.length : Int) = ((el a 0).length : Int) → IsoP a b p → Keep p c d → r2 = true ∧ Keep p r0 r1
def padM (f c : List Int) : List Int := f ++ List.replicate (c.length - f.length) (-1)
def SkD (a b : List (List (List Int))) (f c d : List Int) (most : Int) (out : List (List Int)) : Prop :=
  RfD a b c d ∧ ((f.length : Int) ≤ (c.length : Int) ∧ f.Nodup ∧ ∀ x ∈ f, 0 ≤ x ∧ x < (c.length : Int)) ∧ conA a b f ∧ ((out.length : Int) < most ∧ most ≤ 1000000) ∧ ∀ p, p.length = c.length → IsoP a b p → ExtI (padM f c) p → Keep p c d

end
section
noncomputable def CisE (c d : List (List Int)) : Int := if isCyc c = true ∧ isCyc d = true then (if isoL [c] [d] = [] then 4 else 0) else 1
noncomputable def CisT (c d : List (List Int)) : List Int := if CisE c d = 0 then el (isoL [c] [d]) 0 else []
theorem iso1 {r s : List (List Int)} {p : List Int} : IsoP [r] [s] p ↔ isPerm p = true ∧ ∀ x y, (0 ≤ x ∧ x < (p.length : Int)) → (0 ≤ y ∧ y < (p.length : Int)) → el p (el (el r x) y) = el (el s (el p x)) (el p y) :=
  ⟨fun h => ⟨h.1, fun x y hx hy => h.2 0 (by omega) (by simp) x y hx hy⟩, fun h => ⟨h.1, fun k k0 k1 x y hx hy => by
    have hk : k = 0 := by simp at k1; omega
    subst hk; exact h.2 x y hx hy⟩⟩
theorem iso2 {a b c d : List (List Int)} {p : List Int} : IsoP [a, b] [c, d] p ↔ isPerm p = true ∧ ∀ x y, (0 ≤ x ∧ x < (p.length : Int)) → (0 ≤ y ∧ y < (p.length : Int)) → el p (el (el a x) y) = el (el c (el p x)) (el p y) ∧ el p (el (el b x) y) = el (el d (el p x)) (el p y) :=
  ⟨fun h => ⟨h.1, fun x y hx hy => ⟨h.2 0 (by omega) (by simp) x y hx hy, h.2 1 (by omega) (by simp) x y hx hy⟩⟩, fun h => ⟨h.1, fun k k0 k1 x y hx hy => by
    have hk : k = 0 ∨ k = 1 := by simp at k1; omega
    rcases hk with rfl | rfl
    · exact (h.2 x y hx hy).1
    · exact (h.2 x y hx hy).2⟩⟩
theorem iso_cyc {c d : List (List Int)} (hc : isCyc c = true) (hd : isCyc d = true) : isoL [cyAT c, cyBT c] [cyAT d, cyBT d] = isoL [c] [d] := by
  have tc := isCyc_tab hc; have pc := isCyc_perm hc
  have td := isCyc_tab hd; have pd := isCyc_perm hd
  have nc := isTab_len tc; have nd := isTab_len td
  have l1 : (cyAT c).length = c.length := by have : ((cyAT c).length : Int) = (c.length : Int) := len_tab (by omega); omega
  have l2 : (cyAT d).length = d.length := by have : ((cyAT d).length : Int) = (d.length : Int) := len_tab (by omega); omega
  have e1 : el [cyAT c, cyBT c] 0 = cyAT c := rfl
  have e2 : el [cyAT d, cyBT d] 0 = cyAT d := rfl
  have e3 : el [c] 0 = c := rfl
  have e4 : el [d] 0 = d := rfl
  unfold isoL
  rw [e1, e2, e3, e4, l1, l2]
  by_cases hn : c.length = d.length
  · rw [if_pos hn, if_pos hn]
    refine List.filter_congr fun p hp => dec_congr ?_
    rw [grow_iff (by omega)] at hp
    rw [iso2, iso1]
    refine and_congr_right fun hP => ?_
    have pin : ∀ {x : Int}, (0 ≤ x ∧ x < (p.length : Int)) → 0 ≤ el p x ∧ el p x < (d.length : Int) := fun hx => by have := isPerm_el hP hx; omega
    constructor
    · intro h x z hx hz
      -- z is what the first map leads to
      have g := (rk_el tc (x := x) (y := z) ⟨hx.1, by omega⟩ ⟨hz.1, by omega⟩)
      have ea : cyA c x (el (el c x) z) = z := cyA_iff hc ⟨hx.1, by omega⟩ ⟨hz.1, by omega⟩ rfl
      have h1 := (h x (el (el c x) z) hx ⟨g.1, by omega⟩).1
      rw [cy_a hc ⟨hx.1, by omega⟩ g, cy_a hd (pin hx) (pin ⟨g.1, by omega⟩), ea] at h1
      have h2 := (cy_in td pd (pin hx) (pin (x := el (el c x) z) ⟨g.1, by omega⟩)).1.2
      rw [← h1] at h2
      exact h2.symm
    · intro h x y hx hy
      have hx' : 0 ≤ x ∧ x < (c.length : Int) := ⟨hx.1, by omega⟩
      have hy' : 0 ≤ y ∧ y < (c.length : Int) := ⟨hy.1, by omega⟩
      have g := cy_in tc pc hx' hy'
      have ea : el p (cyA c x y) = cyA d (el p x) (el p y) := by
        have h1 := h x (cyA c x y) hx ⟨g.1.1.1, by omega⟩
        rw [g.1.2] at h1
        exact (cyA_iff hd (pin hx) (pin (x := cyA c x y) ⟨g.1.1.1, by omega⟩) h1.symm).symm
      rw [cy_a hc hx' hy', cy_b hc hx' hy', cy_a hd (pin hx) (pin hy), cy_b hd (pin hx) (pin hy)]
      refine ⟨ea, ?_⟩
      unfold cyB
      rw [h (cyA c x y) x ⟨g.1.1.1, by omega⟩ hx, ea]
  · rw [if_neg hn, if_neg hn]
theorem isoL_mem {a b : List (List (List Int))} {p : List Int} (h : p ∈ isoL a b) : p.length = (el a 0).length ∧ IsoP a b p := by
  unfold isoL at h
  split at h
  · rw [List.mem_filter, dec_iff, grow_iff (by omega)] at h
    exact ⟨by have := h.1.1; omega, h.2⟩
  · cases h
theorem isoL_el {a b : List (List (List Int))} (h : isoL a b ≠ []) : (el (isoL a b) 0).length = (el a 0).length :=
  (isoL_mem (el_mem ⟨by omega, by have := List.length_pos_iff.2 h; omega⟩)).1

end
section
section
variable {l : List (List Int)} (h : CjqE l = 0)
include h
end
end
section
section
variable {n : Int} {list : List (List Int)} (hn : 1 ≤ n ∧ n ≤ 12) (hP : permsN n list)
include hn hP
end
section
variable {r : List (List Int)} (h : isRk r = true)
include h
end

end
section
section
variable {r s b : List (List Int)} (hr : isTab r = true) (hs : isTab s = true) (hb : isTab b = true)
include hs hb
omit hs in
include hr
end
section
variable {r : List (List Int)} (ht : isTab r = true)
include ht
end

end
section
def digV (b : Int) : Int := if 48 ≤ b ∧ b ≤ 57 then b - 48 else if 97 ≤ b ∧ b ≤ 98 then b - 87 else -1
def rdgV (s : List UInt8) : List Int := s.map fun b => digV (b.toNat : Int)
@[simp] theorem rdgV_len (s : List UInt8) : (rdgV s).length = s.length := by simp [rdgV]
end
section
section
variable {r s : List (List Int)}
end

end
section
section
variable {r s : List (List Int)}
end

end
end Go.Proofs.Ytkmoeodoidpjkaa
