/- Plain definitions and what holds of them, all in one; no condition. -/
import Derived.Test.YtggeeemecgmhiaaWe
import Derived.Lib.SlicesCompact
import Derived.Lib.Join
import Derived.Test.YtggeeemecgmhiaaWc
namespace Go.Proofs.Ytggeeemecgmhiaa
section
theorem el_se_same {α : Type} [Inhabited α] {l : List α} {i : Int} {v : α} (h : 0 ≤ i ∧ i < (l.length : Int)) : el (se l i v) i = v := by
  have : i.toNat < l.length := by omega
  simp [el, se, List.getD_eq_getElem?_getD, this]
theorem el_se_ne {α : Type} [Inhabited α] {l : List α} {i j : Int} {v : α} (hi : 0 ≤ i) (hj : 0 ≤ j) (h : i ≠ j) : el (se l i v) j = el l j := by
  have : i.toNat ≠ j.toNat := by omega
  simp [el, se, List.getD_eq_getElem?_getD, this]
theorem ext_el {α : Type} [Inhabited α] {a b : List α} (hl : a.length = b.length) (h : ∀ i : Int, 0 ≤ i → i < (a.length : Int) → el a i = el b i) : a = b := by
  apply List.ext_getElem hl
  intro n h1 h2
  have := h n (by omega) (by omega)
  simpa [el, List.getD_eq_getElem?_getD, List.getElem?_eq_getElem h1, List.getElem?_eq_getElem h2] using this
theorem el_mem {α : Type} [Inhabited α] {l : List α} {i : Int} (h : 0 ≤ i ∧ i < (l.length : Int)) : el l i ∈ l := by
  have := el_get h
  exact List.mem_of_getElem? this
theorem mem_el {α : Type} [Inhabited α] {l : List α} {x : α} (h : x ∈ l) : ∃ i : Int, (0 ≤ i ∧ i < (l.length : Int)) ∧ el l i = x := by
  obtain ⟨n, hn, rfl⟩ := List.getElem_of_mem h
  exact ⟨n, ⟨by omega, by omega⟩, by simp [el, List.getD_eq_getElem?_getD, List.getElem?_eq_getElem hn]⟩
theorem el_map {α β : Type} [Inhabited α] [Inhabited β] {f : α → β} {l : List α} {i : Int} (h : 0 ≤ i ∧ i < (l.length : Int)) : el (l.map f) i = f (el l i) := by
  have := el_get h
  simp only [el, List.getD_eq_getElem?_getD, List.getElem?_map] at this ⊢
  rw [this]; rfl
theorem el_append_l {α : Type} [Inhabited α] {a b : List α} {i : Int} (h : 0 ≤ i ∧ i < (a.length : Int)) : el (a ++ b) i = el a i := by
  have : i.toNat < a.length := by omega
  simp [el, List.getD_eq_getElem?_getD, List.getElem?_append_left this]
theorem el_append_r {α : Type} [Inhabited α] {a b : List α} {i : Int} (h : (a.length : Int) ≤ i) : el (a ++ b) i = el b (i - (a.length : Int)) := by
  have h1 : a.length ≤ i.toNat := by omega
  have h2 : (i - (a.length : Int)).toNat = i.toNat - a.length := by omega
  unfold el
  rw [h2, List.getD_eq_getElem?_getD, List.getD_eq_getElem?_getD, List.getElem?_append_right h1]
theorem el_append_last {α : Type} [Inhabited α] {a : List α} {x : α} {i : Int} (h : i = (a.length : Int)) : el (a ++ [x]) i = x := by
  subst h; rw [el_append_r (by omega)]; simp [el]
theorem el_ran {α : Type} [Inhabited α] {n i : Int} {f : Int → α} (h : 0 ≤ i ∧ i < n) : el (ran n f) i = f i := by
  have h2 := get_ran f (i := i.toNat) (by omega : ((i.toNat : Nat) : Int) < n)
  have h3 : ((i.toNat : Nat) : Int) = i := by omega
  rw [h3] at h2
  simp [el, List.getD_eq_getElem?_getD, h2]
theorem el_rep {α : Type} [Inhabited α] {n : Nat} {v : α} {i : Int} (h : 0 ≤ i ∧ i < (n : Int)) : el (List.replicate n v) i = v := by
  have : i.toNat < n := by omega
  simp [el, List.getD_eq_getElem?_getD, this]
theorem el_sl {α : Type} [Inhabited α] {l : List α} {a b i : Int} (ha : 0 ≤ a) (hi : 0 ≤ i) (h : a + i < b) : el (sl l a b) i = el l (a + i) := by
  have h1 : a.toNat + i.toNat < b.toNat := by omega
  have h2 : (a + i).toNat = a.toNat + i.toNat := by omega
  simp [el, sl, List.getD_eq_getElem?_getD, List.getElem?_drop, h1, h2]
theorem length_sl {α : Type} {l : List α} {a b : Int} (h : 0 ≤ a ∧ a ≤ b ∧ b ≤ (l.length : Int)) : ((sl l a b).length : Int) = b - a := by
  simp [sl]; omega
theorem eq_ran {α : Type} [Inhabited α] {n : Int} {f : Int → α} {l : List α} (hl : l.length = n.toNat) (h : ∀ i, 0 ≤ i → i < n → el l i = f i) : l = ran n f :=
  ext_el (by simp [hl]) fun i h0 h1 => by rw [el_ran ⟨h0, by omega⟩]; exact h i h0 (by omega)
theorem all_el {α : Type} [Inhabited α] {l : List α} {p : α → Bool} : l.all p = true ↔ ∀ i : Int, 0 ≤ i → i < (l.length : Int) → p (el l i) = true := by
  rw [List.all_eq_true]
  exact ⟨fun h i h0 h1 => h _ (el_mem ⟨h0, h1⟩), fun h x hx => by obtain ⟨i, hi, rfl⟩ := mem_el hx; exact h i hi.1 hi.2⟩
theorem any_el {α : Type} [Inhabited α] {l : List α} {p : α → Bool} : l.any p = true ↔ ∃ i : Int, (0 ≤ i ∧ i < (l.length : Int)) ∧ p (el l i) = true := by
  rw [List.any_eq_true]
  exact ⟨fun ⟨x, hx, h⟩ => by obtain ⟨i, hi, rfl⟩ := mem_el hx; exact ⟨i, hi, h⟩, fun ⟨i, hi, h⟩ => ⟨_, el_mem hi, h⟩⟩
theorem nodup_el {α : Type} [Inhabited α] {l : List α} : l.Nodup ↔ ∀ i j : Int, 0 ≤ i → i < j → j < (l.length : Int) → el l i ≠ el l j := by
  unfold List.Nodup
  rw [List.pairwise_iff_getElem]
  constructor
  · intro h i j h0 h1 h2
    have e1 := el_get (l := l) (i := i) ⟨h0, by omega⟩
    have e2 := el_get (l := l) (i := j) ⟨by omega, h2⟩
    rw [List.getElem?_eq_getElem (by omega), Option.some.injEq] at e1 e2
    rw [← e1, ← e2]
    exact h _ _ _ _ (by omega)
  · intro h i j hi hj hij
    have := h i j (by omega) (by omega) (by omega)
    have e1 := el_get (l := l) (i := i) ⟨by omega, by omega⟩
    have e2 := el_get (l := l) (i := j) ⟨by omega, by omega⟩
    simp only [Int.toNat_natCast] at e1 e2
    rw [List.getElem?_eq_getElem (by omega), Option.some.injEq] at e1 e2
    rw [e1, e2]; exact this
@[reducible] def small {α : Type} (l : List α) : Prop := (l.length : Int) ≤ 1000000000
@[reducible] def small2 {α : Type} (t : List (List α)) : Prop := small t ∧ ∀ r ∈ t, small r
@[reducible] def InS (n : Int) : Prop := -1 ≤ n ∧ n ≤ 1000000000
@[reducible] def huge2 (t : List (List Int)) : Prop := t.length ≤ 9223372036854775807 ∧ ∀ r ∈ t, r.length ≤ 9223372036854775807
@[reducible] def okK (k : Int) : Prop := 0 ≤ k ∧ k ≤ 1000000000000
@[reducible] def okKT (k : Int) (t : List (List Int)) : Prop := 0 ≤ k ∧ k + tot t ≤ 1000000000000
def isPerm (p : List Int) : Bool := decide (p.Nodup ∧ ∀ x ∈ p, 0 ≤ x ∧ x < (p.length : Int))
def mkI : Int → List Int → List Int
  | _, [] => []
  | k, _ :: l => k :: mkI (k + 1) l
def mkII : Int → List (List Int) → List (List Int)
  | _, [] => []
  | k, r :: t => mkI k r :: mkII (k + (r.length : Int)) t
def idxF {α : Type} (t : List α) (f : α → Bool) : Int := if t.any f then (t.findIdx f : Int) else -1
def badRow (n : Int) (row : List Int) : Bool := !(decide ((row.length : Int) = n) && row.all (fun x => decide (0 ≤ x) && decide (x ≤ n - 1)))
def isTab (t : List (List Int)) : Bool := decide (1 ≤ (t.length : Int)) && decide ((t.length : Int) ≤ 12) && !t.any (badRow (t.length : Int))
def diag (t : List (List Int)) : List Int := ran (t.length : Int) fun x => el (el t x) x
def first3 (n : Int) (f : Int → Int → Int → Bool) : List Int :=
  match (ran n id).findSome? (fun x => (ran n id).findSome? fun y => (ran n id).findSome? fun z => if f x y z then some [x, y, z] else none) with
  | some l => l
  | none => []

theorem isTab_len {t : List (List Int)} (h : isTab t = true) : 1 ≤ (t.length : Int) ∧ (t.length : Int) ≤ 12 := by
  simp only [isTab, Bool.and_eq_true, decide_eq_true_eq] at h; exact h.1
theorem isTab_row {t : List (List Int)} (h : isTab t = true) {i : Int} (hi : 0 ≤ i ∧ i < (t.length : Int)) : ((el t i).length : Int) = (t.length : Int) ∧ ∀ j, 0 ≤ j → j < (t.length : Int) → 0 ≤ el (el t i) j ∧ el (el t i) j < (t.length : Int) := by
  simp only [isTab, Bool.and_eq_true, Bool.not_eq_true'] at h
  have h1 := h.2
  rw [List.any_eq_false] at h1
  have h2 := h1 _ (el_mem hi)
  simp only [badRow, Bool.not_eq_true', Bool.and_eq_true, decide_eq_true_eq, Bool.and_eq_false_iff, not_or, Bool.not_eq_false, all_el] at h2
  refine ⟨h2.1, fun j h0 h3 => ?_⟩
  have := h2.2 j h0 (by omega)
  omega
theorem isTab_mk {t : List (List Int)} (h1 : 1 ≤ (t.length : Int) ∧ (t.length : Int) ≤ 12) (h : ∀ i, 0 ≤ i → i < (t.length : Int) → ((el t i).length : Int) = (t.length : Int) ∧ ∀ j, 0 ≤ j → j < (t.length : Int) → 0 ≤ el (el t i) j ∧ el (el t i) j < (t.length : Int)) : isTab t = true := by
  simp only [isTab, Bool.and_eq_true, decide_eq_true_eq, Bool.not_eq_true', List.any_eq_false]
  refine ⟨h1, fun r hr => ?_⟩
  obtain ⟨i, hi, rfl⟩ := mem_el hr
  obtain ⟨h2, h3⟩ := h i hi.1 hi.2
  simp only [badRow, Bool.not_eq_true', Bool.and_eq_true, decide_eq_true_eq, Bool.and_eq_false_iff, not_or, Bool.not_eq_false, all_el]
  exact ⟨h2, fun j h0 h4 => by have := h3 j h0 (by omega); omega⟩
theorem isTab_small {t : List (List Int)} (h : isTab t = true) : small2 t := ⟨by have := isTab_len h; show (t.length : Int) ≤ 1000000000; omega, fun r hr => by
  obtain ⟨i, hi, rfl⟩ := mem_el hr
  have h1 := (isTab_row h hi).1; have h2 := isTab_len h
  show ((el t i).length : Int) ≤ 1000000000; omega⟩

@[reducible] def Upto (i : Int) (P : Int → Prop) : Prop := ∀ j, 0 ≤ j → j < i → P j
theorem upto0 {P : Int → Prop} : Upto 0 P := fun j _ _ => by omega
theorem upto1 {P : Int → Prop} {i : Int} (h : Upto i P) (hi : P i) : Upto (i + 1) P := fun j h0 h1 => by
  by_cases e : j = i
  · subst e; exact hi
  · exact h j h0 (by omega)
theorem all_t {α : Type} [Inhabited α] {l : List α} {p : α → Bool} (h : Upto (l.length : Int) fun j => p (el l j) = true) : l.all p = true := all_el.2 h
theorem all_f {α : Type} [Inhabited α] {l : List α} {p : α → Bool} {i : Int} (hi : 0 ≤ i ∧ i < (l.length : Int)) (h : p (el l i) = false) : l.all p = false := by
  rw [Bool.eq_false_iff]
  intro h2
  rw [all_el.1 h2 i hi.1 hi.2] at h; cases h
theorem any_f {α : Type} [Inhabited α] {l : List α} {p : α → Bool} (h : Upto (l.length : Int) fun j => p (el l j) = false) : l.any p = false := by
  rw [Bool.eq_false_iff]
  intro h2
  obtain ⟨i, hi, h3⟩ := any_el.1 h2
  rw [h i hi.1 hi.2] at h3; cases h3
theorem any_t {α : Type} [Inhabited α] {l : List α} {p : α → Bool} {i : Int} (hi : 0 ≤ i ∧ i < (l.length : Int)) (h : p (el l i) = true) : l.any p = true := any_el.2 ⟨i, hi, h⟩
theorem idxF_found {α : Type} [Inhabited α] {t : List α} {f : α → Bool} {i : Int} (hi : 0 ≤ i ∧ i < (t.length : Int)) (h : Upto i fun j => f (el t j) = false) (h1 : f (el t i) = true) : idxF t f = i := by
  unfold idxF
  rw [if_pos (any_t hi h1)]
  have : t.findIdx f = i.toNat := by
    rw [List.findIdx_eq (by omega)]
    refine ⟨?_, fun k hk => ?_⟩
    · have := el_get hi
      rw [List.getElem?_eq_getElem (by omega), Option.some.injEq] at this
      rw [this]; exact h1
    · have e := el_get (l := t) (i := (k : Int)) ⟨by omega, by omega⟩
      simp only [Int.toNat_natCast] at e
      rw [List.getElem?_eq_getElem (by omega), Option.some.injEq] at e
      rw [e]; exact h k (by omega) (by omega)
  omega
theorem idxF_none {α : Type} [Inhabited α] {t : List α} {f : α → Bool} (h : Upto (t.length : Int) fun j => f (el t j) = false) : idxF t f = -1 := by
  unfold idxF
  rw [any_f h]; rfl
theorem idxF_nonneg {α : Type} {t : List α} {f : α → Bool} : decide (0 ≤ idxF t f) = t.any f := by
  unfold idxF
  cases h : t.any f <;> simp
theorem fill1 {α : Type} [Inhabited α] {o : List α} {f : Int → α} {i : Int} {v : α} (hi : 0 ≤ i ∧ i < (o.length : Int)) (h : Upto i fun j => el o j = f j) (hv : v = f i) : Upto (i + 1) fun j => el (se o i v) j = f j :=
  upto1 (fun j h0 h1 => by show el (se o i v) j = f j; rw [el_se_ne hi.1 h0 (by omega)]; exact h j h0 h1) (by show el (se o i v) i = f i; rw [el_se_same hi]; exact hv)
theorem app1 {α : Type} [Inhabited α] {o : List α} {f : Int → α} {i : Int} {v : α} (hi : i = (o.length : Int)) (h : Upto i fun j => el o j = f j) (hv : v = f i) : Upto (i + 1) fun j => el (o ++ [v]) j = f j :=
  upto1 (fun j h0 h1 => by show el (o ++ [v]) j = f j; rw [el_append_l ⟨h0, by omega⟩]; exact h j h0 h1) (by show el (o ++ [v]) i = f i; rw [el_append_last hi]; exact hv)
@[simp] theorem length_mkI : ∀ (k : Int) (l : List Int), (mkI k l).length = l.length
  | _, [] => rfl
  | k, _ :: l => by simp [mkI, length_mkI (k + 1) l]
@[simp] theorem length_mkII : ∀ (k : Int) (t : List (List Int)), (mkII k t).length = t.length
  | _, [] => rfl
  | k, r :: t => by simp [mkII, length_mkII _ t]
theorem el_cons_0 {α : Type} [Inhabited α] {x : α} {l : List α} : el (x :: l) 0 = x := by simp [el]
theorem el_cons_s {α : Type} [Inhabited α] {x : α} {l : List α} {i : Int} (h : 0 < i) : el (x :: l) i = el l (i - 1) := by
  have : i.toNat = (i - 1).toNat + 1 := by omega
  unfold el; rw [this]; rfl
end
section
def idxI (l : List Int) (n : Int) : Int := idxF l (fun x => x == n)
def permB (p : List Int) : Bool := decide (1 ≤ (p.length : Int)) && decide ((p.length : Int) ≤ 12) && isPerm p
theorem nodup_perm {α : Type} [DecidableEq α] : ∀ (l p : List α), l.Nodup → (∀ x ∈ l, x ∈ p) → l.length = p.length → p.Perm l
  | [], p, _, _, h => by
    have : p = [] := List.eq_nil_of_length_eq_zero h.symm
    subst this; exact List.Perm.refl _
  | a :: l, p, hn, hs, h => by
    have ha := hs a List.mem_cons_self
    have hn' := List.nodup_cons.1 hn
    have ih := nodup_perm l (p.erase a) hn'.2 (fun x hx => by
      have hne : x ≠ a := fun e => hn'.1 (e ▸ hx)
      exact (List.mem_erase_of_ne hne).2 (hs x (List.mem_cons_of_mem _ hx))) (by rw [List.length_erase_of_mem ha]; simp at h; omega)
    exact (List.perm_cons_erase ha).trans (ih.cons a)
theorem mem_ran {n x : Int} : x ∈ ran n id ↔ 0 ≤ x ∧ x < n := by
  unfold ran
  simp only [List.mem_map, List.mem_range, id]
  exact ⟨fun ⟨k, hk, e⟩ => by omega, fun h => ⟨x.toNat, by omega, by omega⟩⟩
theorem nodup_ran (n : Int) : (ran n id).Nodup := nodup_el.2 fun i j h0 h1 h2 => by
  simp at h2
  rw [el_ran ⟨h0, by omega⟩, el_ran ⟨by omega, by omega⟩]; simp [id]; omega
theorem isPerm_iff {p : List Int} : isPerm p = true ↔ p.Nodup ∧ ∀ x ∈ p, 0 ≤ x ∧ x < (p.length : Int) := by simp [isPerm]
theorem isPerm_of_all {p : List Int} (h : ∀ x, 0 ≤ x → x < (p.length : Int) → x ∈ p) : isPerm p = true := by
  have := nodup_perm (ran (p.length : Int) id) p (nodup_ran _) (fun x hx => by have := mem_ran.1 hx; exact h x this.1 this.2) (by simp)
  exact isPerm_iff.2 ⟨this.nodup_iff.2 (nodup_ran _), fun x hx => mem_ran.1 (this.mem_iff.1 hx)⟩
theorem isPerm_all {p : List Int} (h : isPerm p = true) {x : Int} (hx : 0 ≤ x ∧ x < (p.length : Int)) : x ∈ p := by
  obtain ⟨h1, h2⟩ := isPerm_iff.1 h
  have := nodup_perm p (ran (p.length : Int) id) h1 (fun x hx => mem_ran.2 (h2 x hx)) (by simp)
  exact this.mem_iff.1 (mem_ran.2 hx)
theorem idxI_has {l : List Int} {n : Int} : decide (0 ≤ idxI l n) = l.contains n := by
  unfold idxI
  rw [idxF_nonneg, Bool.eq_iff_iff, List.contains_iff_mem, List.any_eq_true]
  simp
theorem fs_none {α : Type} {n : Int} {g : Int → Option α} (h : ∀ i, 0 ≤ i → i < n → g i = none) : (ran n id).findSome? g = none := by
  rw [List.findSome?_eq_none_iff]
  intro x hx
  have := mem_ran.1 hx
  exact h x this.1 this.2
theorem fs_some {α : Type} {n i : Int} {g : Int → Option α} {v : α} (hi : 0 ≤ i ∧ i < n) (h : g i = some v) (h0 : Upto i fun j => g j = none) : (ran n id).findSome? g = some v := by
  have e : ran n id = ran i id ++ (ran n id).drop i.toNat := by
    rw [← List.take_append_drop i.toNat (ran n id)]
    congr 1
    · refine (eq_ran (f := id) (by simp; omega) fun j h1 h2 => ?_)
      have := el_sl (l := ran n id) (a := 0) (b := i) (i := j) (by omega) h1 (by omega)
      simp only [sl, Int.toNat_zero, List.drop_zero, Int.zero_add] at this
      rw [this, el_ran ⟨h1, by omega⟩]
    · simp
  have e2 : (ran n id).drop i.toNat = i :: (ran n id).drop (i.toNat + 1) := by
    have := el_get (l := ran n id) (i := i) ⟨hi.1, by simp; omega⟩
    rw [el_ran hi] at this
    rw [List.drop_eq_getElem_cons (by simp; omega)]
    rw [List.getElem?_eq_getElem (by simp; omega), Option.some.injEq] at this
    rw [this]; rfl
  rw [e, List.findSome?_append, fs_none h0, e2, List.findSome?_cons, h]; rfl
theorem first3_found {n : Int} {f : Int → Int → Int → Bool} {x y z : Int} (hx : 0 ≤ x ∧ x < n) (hy : 0 ≤ y ∧ y < n) (hz : 0 ≤ z ∧ z < n) (h : f x y z = true)
    (h1 : Upto x fun a => ∀ b, 0 ≤ b → b < n → ∀ c, 0 ≤ c → c < n → f a b c = false) (h2 : Upto y fun b => ∀ c, 0 ≤ c → c < n → f x b c = false) (h3 : Upto z fun c => f x y c = false) : first3 n f = [x, y, z] := by
  unfold first3
  rw [fs_some hx (v := [x, y, z]) (fs_some hy (fs_some hz (by simp [h]) fun c a b => by simp [h3 c a b]) fun b a c => fs_none fun d e g => by simp [h2 b a c d e g]) fun a b c => fs_none fun d e g => fs_none fun k l m => by simp [h1 a b c d e g k l m]]
theorem first3_none {n : Int} {f : Int → Int → Int → Bool} (h : ∀ a, 0 ≤ a → a < n → ∀ b, 0 ≤ b → b < n → ∀ c, 0 ≤ c → c < n → f a b c = false) : first3 n f = [] := by
  unfold first3
  rw [fs_none fun a b c => fs_none fun d e g => fs_none fun k l m => by simp [h a b c d e g k l m]]
def gcdI (a b : Int) : Int := ((Int.gcd a b : Nat) : Int)
def cycB (t : List (List Int)) (x y z : Int) : Bool := !decide (el (el t (el (el t x) y)) (el (el t x) z) = el (el t (el (el t y) x)) (el (el t y) z))
def cycF (t : List (List Int)) : List Int := first3 (t.length : Int) (cycB t)
@[reducible] def inR (n : Int) : Prop := 1 ≤ n ∧ n ≤ 12
theorem mulA {a i : Int} (ha : 0 ≤ a ∧ a ≤ 1000) (hi : 0 ≤ i ∧ i ≤ 1000) : 0 ≤ a * i ∧ a * i ≤ 1000000 := by
  have := mulB (a := a) (i := i) (A := 1000) (B := 1000) ⟨ha.1, ha.2, hi.1, hi.2⟩
  omega
end
section
def unitI (n : Int) : List Int := ran n id
def maxI (l : List Int) : Int := l.foldl (fun a b => if a < b then b else a) (el l 0)
def backI (p : List Int) : List Int := ran (p.length : Int) fun x => idxI p x
def rackB (t : List (List Int)) (x y z : Int) : Bool := !decide (el (el t x) (el (el t y) z) = el (el t (el (el t x) y)) (el (el t x) z))
def rackF (t : List (List Int)) : List Int := first3 (t.length : Int) (rackB t)
def isRk (t : List (List Int)) : Bool := isTab t && t.all isPerm && (rackF t).isEmpty
def isCyc (t : List (List Int)) : Bool := isTab t && t.all isPerm && isPerm (diag t) && (cycF t).isEmpty
def rkE (t : List (List Int)) : Int := if isRk t then 0 else 1
theorem isRk_tab {t : List (List Int)} (h : isRk t = true) : isTab t = true := by simp only [isRk, Bool.and_eq_true] at h; exact h.1.1
theorem isRk_perm {t : List (List Int)} (h : isRk t = true) : t.all isPerm = true := by simp only [isRk, Bool.and_eq_true] at h; exact h.1.2
theorem isPerm_el {p : List Int} (h : isPerm p = true) {i : Int} (hi : 0 ≤ i ∧ i < (p.length : Int)) : 0 ≤ el p i ∧ el p i < (p.length : Int) := (isPerm_iff.1 h).2 _ (el_mem hi)
theorem isPerm_inj {p : List Int} (h : isPerm p = true) {i j : Int} (hi : 0 ≤ i ∧ i < (p.length : Int)) (hj : 0 ≤ j ∧ j < (p.length : Int)) (e : el p i = el p j) : i = j := by
  have hn := nodup_el.1 (isPerm_iff.1 h).1
  rcases Int.lt_trichotomy i j with h1 | h1 | h1
  · exact absurd e (hn i j hi.1 h1 hj.2)
  · exact h1
  · exact absurd e.symm (hn j i hj.1 h1 hi.2)
theorem isPerm_surj {p : List Int} (h : isPerm p = true) {x : Int} (hx : 0 ≤ x ∧ x < (p.length : Int)) : ∃ i, (0 ≤ i ∧ i < (p.length : Int)) ∧ el p i = x := mem_el (isPerm_all h hx)
theorem idxI_el {p : List Int} (h : isPerm p = true) {i : Int} (hi : 0 ≤ i ∧ i < (p.length : Int)) : idxI p (el p i) = i :=
  idxF_found hi (fun j h0 h1 => by
    show (el p j == el p i) = false
    rw [beq_eq_false_iff_ne]
    intro e
    have := isPerm_inj h ⟨h0, by omega⟩ hi e
    omega) (by simp)
theorem idxI_spec {l : List Int} {x : Int} (h : x ∈ l) : (0 ≤ idxI l x ∧ idxI l x < (l.length : Int)) ∧ el l (idxI l x) = x := by
  have hc : l.any (fun y => y == x) = true := by simp [h]
  have hlt : l.findIdx (fun y => y == x) < l.length := List.findIdx_lt_length_of_exists ⟨x, h, by simp⟩
  have e : idxI l x = (l.findIdx (fun y => y == x) : Int) := by unfold idxI idxF; rw [if_pos hc]
  rw [e]
  refine ⟨⟨by omega, by omega⟩, ?_⟩
  have := List.findIdx_getElem (w := hlt)
  simp only [beq_iff_eq] at this
  simp [el, List.getD_eq_getElem?_getD, List.getElem?_eq_getElem hlt, this]
@[simp] theorem length_backI (p : List Int) : (backI p).length = p.length := by simp [backI]
theorem el_backI {p : List Int} (h : isPerm p = true) {i : Int} (hi : 0 ≤ i ∧ i < (p.length : Int)) : el (backI p) (el p i) = i := by
  have := isPerm_el h hi
  rw [backI, el_ran this, idxI_el h hi]
theorem el_backI' {p : List Int} (h : isPerm p = true) {x : Int} (hx : 0 ≤ x ∧ x < (p.length : Int)) : (0 ≤ el (backI p) x ∧ el (backI p) x < (p.length : Int)) ∧ el p (el (backI p) x) = x := by
  rw [backI, el_ran hx]
  exact idxI_spec (isPerm_all h hx)
theorem backI_uniq {p q : List Int} (h : isPerm p = true) (hl : q.length = p.length) (hq : ∀ i, 0 ≤ i → i < (p.length : Int) → el q (el p i) = i) : q = backI p :=
  ext_el (by simp [hl]) fun x h0 h1 => by
    obtain ⟨i, hi, rfl⟩ := isPerm_surj h (x := x) ⟨h0, by omega⟩
    rw [hq i hi.1 hi.2, el_backI h hi]
theorem isPerm_backI {p : List Int} (h : isPerm p = true) : isPerm (backI p) = true := by
  refine isPerm_iff.2 ⟨nodup_el.2 fun i j h0 h1 h2 e => ?_, fun x hx => ?_⟩
  · simp at h2
    have a := (el_backI' h (x := i) ⟨h0, by omega⟩).2
    have b := (el_backI' h (x := j) ⟨by omega, by omega⟩).2
    rw [e] at a; omega
  · obtain ⟨i, hi, rfl⟩ := mem_el hx
    simp at hi ⊢
    exact (el_backI' h hi).1
@[simp] theorem length_unitI (n : Int) : (unitI n).length = n.toNat := by simp [unitI]
theorem el_unitI {n i : Int} (h : 0 ≤ i ∧ i < n) : el (unitI n) i = i := by simp [unitI, el_ran h]
theorem isTab_perm {t : List (List Int)} (h : isTab t = true) : t.all permB = t.all isPerm := by
  have key : ∀ r ∈ t, permB r = isPerm r := fun r hr => by
    obtain ⟨i, hi, rfl⟩ := mem_el hr
    have a := (isTab_row h hi).1
    have b := isTab_len h
    unfold permB
    have e1 : decide (1 ≤ ((el t i).length : Int)) = true := decide_eq_true (by omega)
    have e2 : decide (((el t i).length : Int) ≤ 12) = true := decide_eq_true (by omega)
    rw [e1, e2]; rfl
  rw [Bool.eq_iff_iff, List.all_eq_true, List.all_eq_true]
  exact ⟨fun h r hr => by rw [← key r hr]; exact h r hr, fun h r hr => by rw [key r hr]; exact h r hr⟩
theorem all_perm_el {t : List (List Int)} (h : t.all isPerm = true) {i : Int} (hi : 0 ≤ i ∧ i < (t.length : Int)) : isPerm (el t i) = true := all_el.1 h i hi.1 hi.2
@[simp] theorem length_diag (t : List (List Int)) : (diag t).length = t.length := by simp [diag]
theorem rk_el {t : List (List Int)} (h : isTab t = true) {x y : Int} (hx : 0 ≤ x ∧ x < (t.length : Int)) (hy : 0 ≤ y ∧ y < (t.length : Int)) : 0 ≤ el (el t x) y ∧ el (el t x) y < (t.length : Int) := (isTab_row h hx).2 y hy.1 hy.2
theorem rk_len {t : List (List Int)} (h : isTab t = true) {x : Int} (hx : 0 ≤ x ∧ x < (t.length : Int)) : ((el t x).length : Int) = (t.length : Int) := (isTab_row h hx).1
end
section
noncomputable def dec (P : Prop) : Bool := @decide P (Classical.propDecidable P)
theorem dec_t {P : Prop} (h : P) : dec P = true := @decide_eq_true P (Classical.propDecidable P) h
theorem dec_f {P : Prop} (h : ¬ P) : dec P = false := @decide_eq_false P (Classical.propDecidable P) h
theorem dec_iff {P : Prop} : dec P = true ↔ P := @decide_eq_true_iff P (Classical.propDecidable P)
noncomputable def the {α : Type} [Inhabited α] (P : α → Prop) : α := Classical.epsilon P
theorem the_eq {α : Type} [Inhabited α] {P : α → Prop} {a : α} (h : P a) (hu : ∀ x y, P x → P y → x = y) : a = the P := hu _ _ h (Classical.epsilon_spec ⟨a, h⟩)
theorem the_spec {α : Type} [Inhabited α] {P : α → Prop} {a : α} (h : P a) : P (the P) := Classical.epsilon_spec ⟨a, h⟩
end
section
def permsN (n : Int) (list : List (List Int)) : Prop := ∀ p ∈ list, (p.length : Int) = n ∧ isPerm p = true
inductive Rch (list : List (List Int)) (x : Int) : Int → Prop
  | base : Rch list x x
  | step {y : Int} {p : List Int} (h : Rch list x y) (hp : p ∈ list) : Rch list x (el p y)
def CanP (l : List Int) : Prop := ∀ i, 0 ≤ i → i < (l.length : Int) → 0 ≤ el l i ∧ ∀ c, 0 ≤ c → c < el l i → ∃ j, (0 ≤ j ∧ j < i) ∧ el l j = c
theorem canP_uniq {l m : List Int} (hl : l.length = m.length) (h1 : CanP l) (h2 : CanP m) (hk : ∀ x y, (0 ≤ x ∧ x < (l.length : Int)) → (0 ≤ y ∧ y < (l.length : Int)) → (el l x = el l y ↔ el m x = el m y)) : l = m := by
  have key : ∀ (k : Nat) (i : Int), 0 ≤ i → i < (l.length : Int) → i < k → el l i = el m i := by
    intro k
    induction k with
    | zero => intro i h0 _ h; omega
    | succ k ih =>
      intro i h0 h3 h4
      rcases Int.lt_trichotomy (el l i) (el m i) with h | h | h
      · obtain ⟨j, hj, e⟩ := (h2 i h0 (by omega)).2 (el l i) (h1 i h0 h3).1 h
        have e1 := ih j hj.1 (by omega) (by omega)
        have e2 := (hk j i ⟨hj.1, by omega⟩ ⟨h0, h3⟩).1 (by omega)
        omega
      · exact h
      · obtain ⟨j, hj, e⟩ := (h1 i h0 h3).2 (el m i) (h2 i h0 (by omega)).1 h
        have e1 := ih j hj.1 (by omega) (by omega)
        have e2 := (hk j i ⟨hj.1, by omega⟩ ⟨h0, h3⟩).2 (by omega)
        omega
  exact ext_el hl fun i a b => key (i.toNat + 1) i a b (by omega)
theorem nodup_len {α : Type} [DecidableEq α] : ∀ (l p : List α), l.Nodup → (∀ x ∈ l, x ∈ p) → l.length ≤ p.length
  | [], p, _, _ => Nat.zero_le _
  | a :: l, p, hn, hs => by
    have ha := hs a List.mem_cons_self
    have hn' := List.nodup_cons.1 hn
    have ih := nodup_len l (p.erase a) hn'.2 (fun x hx => by
      have hne : x ≠ a := fun e => hn'.1 (e ▸ hx)
      exact (List.mem_erase_of_ne hne).2 (hs x (List.mem_cons_of_mem _ hx)))
    rw [List.length_erase_of_mem ha] at ih
    have := List.length_pos_of_mem ha
    simp; omega
theorem nodup_len_ran {l : List Int} {n : Int} (hn : 0 ≤ n) (h : l.Nodup) (hr : ∀ x ∈ l, 0 ≤ x ∧ x < n) : (l.length : Int) ≤ n := by
  have := nodup_len l (ran n id) h fun x hx => mem_ran.2 (hr x hx)
  simp at this; omega
theorem closed_back {p : List Int} {n : Int} (hl : (p.length : Int) = n) (hp : isPerm p = true) {S : Int → Prop} (hS : ∀ y, (0 ≤ y ∧ y < n) → S y → S (el p y)) {y : Int} (hy : 0 ≤ y ∧ y < n) (h : S (el p y)) : S y := by
  have hT : ∀ w, w ∈ (ran n id).filter (fun w => dec (S w)) ↔ (0 ≤ w ∧ w < n) ∧ S w := fun w => by simp only [List.mem_filter, mem_ran, dec_iff]
  have nT : ((ran n id).filter (fun w => dec (S w))).Nodup := List.Pairwise.filter _ (nodup_ran n)
  generalize (ran n id).filter (fun w => dec (S w)) = T at hT nT
  have nM : (T.map (el p)).Nodup := by
    unfold List.Nodup
    rw [List.pairwise_map]
    refine List.Pairwise.imp_of_mem (fun {a b} ha hb hab e => hab ?_) nT
    have ra := ((hT a).1 ha).1
    have rb := ((hT b).1 hb).1
    exact isPerm_inj hp ⟨ra.1, by omega⟩ ⟨rb.1, by omega⟩ e
  have hs : ∀ x ∈ T.map (el p), x ∈ T := fun x hx => by
    obtain ⟨w, hw, rfl⟩ := List.mem_map.1 hx
    obtain ⟨rw1, sw⟩ := (hT w).1 hw
    have := isPerm_el hp (i := w) ⟨rw1.1, by omega⟩
    exact (hT _).2 ⟨⟨this.1, by omega⟩, hS w rw1 sw⟩
  have P := nodup_perm (T.map (el p)) T nM hs (by simp)
  have hb := isPerm_el hp (i := y) ⟨hy.1, by omega⟩
  have hm : el p y ∈ T := (hT _).2 ⟨⟨hb.1, by omega⟩, h⟩
  obtain ⟨w, hw, e⟩ := List.mem_map.1 (P.mem_iff.1 hm)
  obtain ⟨rw1, sw⟩ := (hT w).1 hw
  have := isPerm_inj hp ⟨rw1.1, by omega⟩ ⟨hy.1, by omega⟩ e
  rw [← this]; exact sw
theorem rch_in {n : Int} {list : List (List Int)} (hp : permsN n list) {x y : Int} (hx : 0 ≤ x ∧ x < n) (h : Rch list x y) : 0 ≤ y ∧ y < n := by
  induction h with
  | base => exact hx
  | step h hq ih =>
    obtain ⟨a, b⟩ := hp _ hq
    have := isPerm_el b (i := _) ⟨ih.1, by omega⟩
    exact ⟨this.1, by omega⟩
theorem rch_trans {list : List (List Int)} {x y z : Int} (h1 : Rch list x y) (h2 : Rch list y z) : Rch list x z := by
  induction h2 with
  | base => exact h1
  | step h hq ih => exact .step ih hq
theorem rch_symm {n : Int} {list : List (List Int)} (hp : permsN n list) {x y : Int} (hx : 0 ≤ x ∧ x < n) (h : Rch list x y) : Rch list y x := by
  induction h with
  | base => exact .base
  | step h hq ih =>
    rename_i y p
    obtain ⟨a, b⟩ := hp _ hq
    have hy := rch_in hp hx h
    have : Rch list (el p y) y := closed_back a b (S := Rch list (el p y)) (fun w _ hw => .step hw hq) hy .base
    exact rch_trans this ih
def IsOrb (n : Int) (list : List (List Int)) (l : List Int) : Prop := (l.length : Int) = n ∧ CanP l ∧ ∀ x y, (0 ≤ x ∧ x < n) → (0 ≤ y ∧ y < n) → (el l x = el l y ↔ Rch list x y)
theorem isOrb_uniq {n : Int} {list : List (List Int)} (l m : List Int) (h1 : IsOrb n list l) (h2 : IsOrb n list m) : l = m := by
  obtain ⟨a1, b1, c1⟩ := h1
  obtain ⟨a2, b2, c2⟩ := h2
  exact canP_uniq (by omega) b1 b2 fun x y hx hy => (c1 x y ⟨hx.1, by omega⟩ ⟨hy.1, by omega⟩).trans (c2 x y ⟨hx.1, by omega⟩ ⟨hy.1, by omega⟩).symm
noncomputable def orbI (n : Int) (list : List (List Int)) : List Int := the (IsOrb n list)
structure OrbI (n : Int) (list : List (List Int)) (x k : Int) (L : List Int) : Prop where
  len : (L.length : Int) = n
  xn : 0 ≤ x ∧ x ≤ n
  kx : 0 ≤ k ∧ k ≤ x
  low : ∀ y, 0 ≤ y → y < x → 0 ≤ el L y
  rng : ∀ y, 0 ≤ y → y < n → el L y < k
  used : ∀ c, 0 ≤ c → c < k → ∃ j, (0 ≤ j ∧ j < x) ∧ el L j = c
  can : ∀ y, 0 ≤ y → y < n → 0 ≤ el L y → ∀ c, 0 ≤ c → c < el L y → ∃ j, (0 ≤ j ∧ j < y) ∧ el L j = c
  ker : ∀ y z, (0 ≤ y ∧ y < n) → (0 ≤ z ∧ z < n) → 0 ≤ el L y → (el L z = el L y ↔ Rch list y z)
theorem orb_init {n : Int} {list : List (List Int)} {L : List Int} (hn : 0 ≤ n) (hl : (L.length : Int) = n) (h : ∀ y, 0 ≤ y → y < n → el L y = -1) : OrbI n list 0 0 L :=
  ⟨hl, ⟨by omega, hn⟩, ⟨by omega, by omega⟩, fun y a b => by omega, fun y a b => by rw [h y a b]; omega, fun c a b => by omega, fun y a b c => by rw [h y a b] at c; omega, fun y z a b c => by rw [h y a.1 a.2] at c; omega⟩
theorem orb_skip {n : Int} {list : List (List Int)} {x k : Int} {L : List Int} (h : OrbI n list x k L) (hx : x < n) (h0 : 0 ≤ el L x) : OrbI n list (x + 1) k L :=
  ⟨h.len, ⟨by have := h.xn; omega, by omega⟩, ⟨h.kx.1, by have := h.kx; omega⟩, fun y a b => by
    by_cases e : y = x
    · subst e; exact h0
    · exact h.low y a (by omega), h.rng, fun c a b => by obtain ⟨j, hj, e⟩ := h.used c a b; exact ⟨j, ⟨hj.1, by omega⟩, e⟩, h.can, h.ker⟩
theorem orb_not {n : Int} {list : List (List Int)} (hp : permsN n list) {x k : Int} {L : List Int} (h : OrbI n list x k L) (hx : x < n) (h0 : el L x < 0) {y : Int} (hy : 0 ≤ y ∧ y < n) (h1 : 0 ≤ el L y) : ¬ Rch list x y := fun hr => by
  have hxx : 0 ≤ x ∧ x < n := ⟨h.xn.1, hx⟩
  have := (h.ker y x hy hxx h1).2 (rch_symm hp hxx hr)
  omega
theorem orb_step {n : Int} {list : List (List Int)} (hp : permsN n list) {x k : Int} {L L' : List Int} (h : OrbI n list x k L) (hx : x < n) (h0 : el L x < 0) (hl : (L'.length : Int) = n)
    (hL : ∀ y, 0 ≤ y → y < n → (Rch list x y → el L' y = k) ∧ (¬ Rch list x y → el L' y = el L y)) : OrbI n list (x + 1) (k + 1) L' := by
  have hxx : 0 ≤ x ∧ x < n := ⟨h.xn.1, hx⟩
  have hk := h.kx
  have nr : ∀ {y : Int}, (0 ≤ y ∧ y < n) → 0 ≤ el L y → ¬ Rch list x y := fun hy h1 => orb_not hp h hx h0 hy h1
  refine ⟨hl, ⟨by omega, by omega⟩, ⟨by omega, by omega⟩, fun y a b => ?_, fun y a b => ?_, fun c a b => ?_, fun y a b c0 c a2 b2 => ?_, fun y z hy hz c0 => ?_⟩
  · by_cases hr : Rch list x y
    · rw [(hL y a (by omega)).1 hr]; exact hk.1
    · rw [(hL y a (by omega)).2 hr]
      by_cases e : y = x
      · subst e; exact absurd .base hr
      · exact h.low y a (by omega)
  · by_cases hr : Rch list x y
    · rw [(hL y a b).1 hr]; omega
    · rw [(hL y a b).2 hr]; have := h.rng y a b; omega
  · by_cases e : c = k
    · exact ⟨x, ⟨hxx.1, by omega⟩, by rw [(hL x hxx.1 hx).1 .base, e]⟩
    · obtain ⟨j, hj, e2⟩ := h.used c a (by omega)
      have hj2 : 0 ≤ j ∧ j < n := ⟨hj.1, by omega⟩
      exact ⟨j, ⟨hj.1, by omega⟩, by rw [(hL j hj2.1 hj2.2).2 (nr hj2 (by omega)), e2]⟩
  · have hy : 0 ≤ y ∧ y < n := ⟨a, b⟩
    by_cases hr : Rch list x y
    · rw [(hL y a b).1 hr] at b2
      obtain ⟨j, hj, e2⟩ := h.used c a2 b2
      have hj2 : 0 ≤ j ∧ j < n := ⟨hj.1, by omega⟩
      refine ⟨j, ⟨hj.1, ?_⟩, by rw [(hL j hj2.1 hj2.2).2 (nr hj2 (by omega)), e2]⟩
      by_cases hxy : y < x
      · exact absurd hr (nr hy (h.low y a hxy))
      · omega
    · rw [(hL y a b).2 hr] at b2 c0
      obtain ⟨j, hj, e2⟩ := h.can y a b c0 c a2 b2
      have hj2 : 0 ≤ j ∧ j < n := ⟨hj.1, by omega⟩
      exact ⟨j, hj, by rw [(hL j hj2.1 hj2.2).2 (nr hj2 (by omega)), e2]⟩
  · by_cases hr : Rch list x y
    · rw [(hL y hy.1 hy.2).1 hr]
      by_cases hz2 : Rch list x z
      · rw [(hL z hz.1 hz.2).1 hz2]
        exact ⟨fun _ => rch_trans (rch_symm hp hxx hr) hz2, fun _ => rfl⟩
      · rw [(hL z hz.1 hz.2).2 hz2]
        refine ⟨fun e => ?_, fun hyz => absurd (rch_trans hr hyz) hz2⟩
        have := h.rng z hz.1 hz.2; omega
    · rw [(hL y hy.1 hy.2).2 hr] at c0 ⊢
      by_cases hz2 : Rch list x z
      · rw [(hL z hz.1 hz.2).1 hz2]
        refine ⟨fun e => ?_, fun hyz => absurd (rch_trans hz2 (rch_symm hp hy hyz)) hr⟩
        have := h.rng y hy.1 hy.2; omega
      · rw [(hL z hz.1 hz.2).2 hz2]; exact h.ker y z hy hz c0
theorem orb_fin {n : Int} {list : List (List Int)} {k : Int} {L : List Int} (h : OrbI n list n k L) : IsOrb n list L :=
  ⟨h.len, fun i a b => ⟨h.low i a (by have := h.len; omega), h.can i a (by have := h.len; omega) (h.low i a (by have := h.len; omega))⟩, fun x y hx hy => by
    rw [← h.ker x y hx hy (h.low x hx.1 hx.2)]; exact ⟨fun e => e.symm, fun e => e.symm⟩⟩
theorem orb_end {n : Int} {list : List (List Int)} {k : Int} {L : List Int} (h : OrbI n list n k L) : L = orbI n list := the_eq (orb_fin h) isOrb_uniq
theorem orb_ex {n : Int} {list : List (List Int)} (hn : 0 ≤ n) (hp : permsN n list) : ∃ L, IsOrb n list L := by
  have key : ∀ x : Nat, (x : Int) ≤ n → ∃ k L, OrbI n list x k L := by
    intro x
    induction x with
    | zero => exact fun _ => ⟨0, ran n fun _ => -1, orb_init hn (by simp; omega) fun y a b => el_ran ⟨a, b⟩⟩
    | succ x ih =>
      intro hx
      obtain ⟨k, L, h⟩ := ih (by omega)
      by_cases h0 : 0 ≤ el L x
      · exact ⟨k, L, orb_skip h (by omega) h0⟩
      · refine ⟨k + 1, ran n fun y => if dec (Rch list x y) then k else el L y, orb_step hp h (by omega) (by omega) (by simp; omega) fun y a b => ?_⟩
        rw [el_ran ⟨a, b⟩]
        exact ⟨fun hr => by rw [if_pos (dec_t hr)], fun hr => by rw [dec_f hr]; rfl⟩
  obtain ⟨k, L, h⟩ := key n.toNat (by omega)
  rw [show ((n.toNat : Nat) : Int) = n by omega] at h
  exact ⟨L, orb_fin h⟩
theorem orbI_is {n : Int} {list : List (List Int)} (hn : 0 ≤ n) (hp : permsN n list) : IsOrb n list (orbI n list) := by
  obtain ⟨L, h⟩ := orb_ex hn hp
  exact the_spec h
theorem isRk_permsN {r : List (List Int)} (h : isRk r = true) : permsN (r.length : Int) r := fun p hp => by
  obtain ⟨i, hi, rfl⟩ := mem_el hp
  exact ⟨rk_len (isRk_tab h) hi, all_perm_el (isRk_perm h) hi⟩
noncomputable def RorT (r : List (List Int)) : List Int := if isRk r then orbI (r.length : Int) r else []
def OneOrb (r : List (List Int)) : Prop := ∀ i, 0 ≤ i → i < (r.length : Int) → el (orbI (r.length : Int) r) i = 0
noncomputable def RcoB (r : List (List Int)) : Bool := isRk r && dec (OneOrb r)
def negs (l : List Int) : Nat := (l.filter fun x => decide (x < 0)).length
theorem negs_set : ∀ (l : List Int) (i : Nat) (k v : Int), l[i]? = some v → v < 0 → 0 ≤ k → negs (l.set i k) + 1 = negs l
  | [], i, k, v, h, _, _ => by simp at h
  | x :: l, 0, k, v, h, hv, hk => by
    simp only [List.getElem?_cons_zero, Option.some.injEq] at h
    subst h
    unfold negs
    rw [List.set_cons_zero, List.filter_cons_of_neg (by simp; omega), List.filter_cons_of_pos (by simpa using hv), List.length_cons]
  | x :: l, i + 1, k, v, h, hv, hk => by
    have ih := negs_set l i k v (by simpa using h) hv hk
    unfold negs at ih ⊢
    rw [List.set_cons_succ]
    by_cases hx : x < 0
    · rw [List.filter_cons_of_pos (by simpa using hx), List.filter_cons_of_pos (by simpa using hx), List.length_cons, List.length_cons, ih]
    · rw [List.filter_cons_of_neg (by simpa using hx), List.filter_cons_of_neg (by simpa using hx), ih]
theorem negs_se {l : List Int} {i k : Int} (hi : 0 ≤ i ∧ i < (l.length : Int)) (hv : el l i < 0) (hk : 0 ≤ k) : negs (se l i k) + 1 = negs l := negs_set l i.toNat k (el l i) (el_get hi) hv hk
theorem negs_le (l : List Int) : negs l ≤ l.length := List.length_filter_le _ _
theorem foldl_max : ∀ (l : List Int) (a : Int), a ≤ l.foldl (fun a b => if a < b then b else a) a ∧ (∀ x ∈ l, x ≤ l.foldl (fun a b => if a < b then b else a) a) ∧ (l.foldl (fun a b => if a < b then b else a) a = a ∨ l.foldl (fun a b => if a < b then b else a) a ∈ l)
  | [], a => ⟨Int.le_refl _, ⟨fun x hx => (List.not_mem_nil hx).elim, .inl rfl⟩⟩
  | y :: l, a => by
    obtain ⟨h1, h2, h3⟩ := foldl_max l (if a < y then y else a)
    have ka : a ≤ (if a < y then y else a) := by split <;> omega
    have ky : y ≤ (if a < y then y else a) := by split <;> omega
    have km : (if a < y then y else a) = a ∨ (if a < y then y else a) = y := by split <;> simp
    simp only [List.foldl_cons]
    generalize (if a < y then y else a) = b at *
    refine ⟨by omega, fun x hx => ?_, ?_⟩
    · rcases List.mem_cons.1 hx with hx | hx
      · rw [hx]; omega
      · exact h2 x hx
    · rcases h3 with h3 | h3
      · rw [h3]
        rcases km with km | km
        · exact .inl km
        · exact .inr (by rw [km]; exact List.mem_cons_self)
      · exact .inr (List.mem_cons_of_mem _ h3)
theorem maxI_ge {l : List Int} {i : Int} (hi : 0 ≤ i ∧ i < (l.length : Int)) : el l i ≤ maxI l := (foldl_max l (el l 0)).2.1 _ (el_mem hi)
theorem maxI_mem {l : List Int} (h : 1 ≤ (l.length : Int)) : maxI l ∈ l := by
  rcases (foldl_max l (el l 0)).2.2 with h1 | h1
  · unfold maxI; rw [h1]; exact el_mem ⟨by omega, by omega⟩
  · exact h1

end
section

end
section
theorem el_tab {n : Int} {f : Int → Int → Int} {x y : Int} (hx : 0 ≤ x ∧ x < n) (hy : 0 ≤ y ∧ y < n) : el (el (tab n f) x) y = f x y := by
  unfold tab; rw [el_ran hx, el_ran hy]
theorem len_tab {n : Int} {f : Int → Int → Int} (hn : 0 ≤ n) : ((tab n f).length : Int) = n := by simp; omega
theorem tab_rowlen {n : Int} {f : Int → Int → Int} {x : Int} (hx : 0 ≤ x ∧ x < n) : ((el (tab n f) x).length : Int) = n := by
  unfold tab; rw [el_ran hx]; simp; omega
theorem isTab_tab {n : Int} {f : Int → Int → Int} (hn : 1 ≤ n ∧ n ≤ 12) (h : ∀ x y, 0 ≤ x → x < n → 0 ≤ y → y < n → 0 ≤ f x y ∧ f x y < n) : isTab (tab n f) = true := by
  have hl : ((tab n f).length : Int) = n := len_tab (by omega)
  refine isTab_mk (by omega) fun i i0 i1 => ⟨by rw [tab_rowlen ⟨i0, by omega⟩, hl], fun j j0 j1 => ?_⟩
  rw [el_tab ⟨i0, by omega⟩ ⟨j0, by omega⟩, hl]
  exact h i j i0 (by omega) j0 (by omega)
def idxL (lists : List (List Int)) (list : List Int) : Int := idxF lists (fun own => decide (own = list))
def conjI (x y : List Int) : List Int := ((backI x).map (el y)).map (el x)
def GoodL (list : List (List Int)) : Prop := 1 ≤ (list.length : Int) ∧ ∀ i, 0 ≤ i → i < (list.length : Int) → permB (el list i) = true ∧ ((el list i).length : Int) = ((el list 0).length : Int) ∧ ∀ j, 0 ≤ j → j < i → el list j ≠ el list i
def cjV (list : List (List Int)) (x y : Int) : Int := idxL list (conjI (el list x) (el list y))
def cjT (list : List (List Int)) : List (List Int) := tab (list.length : Int) (cjV list)
noncomputable def CjqE (list : List (List Int)) : Int := if dec (GoodL list) then (if (12 : Int) < (list.length : Int) then 3 else if isTab (cjT list) then 0 else 5) else 1
def trnT (t : List (List Int)) : List (List Int) := tab (t.length : Int) fun x y => el (el t y) x
end
section
inductive Eqv (R : Int → Int → Prop) : Int → Int → Prop
  | refl (a : Int) : Eqv R a a
  | step {a b : Int} (h : R a b) : Eqv R a b
  | symm {a b : Int} (h : Eqv R a b) : Eqv R b a
  | trans {a b c : Int} (h : Eqv R a b) (k : Eqv R b c) : Eqv R a c
theorem Eqv.mono {R S : Int → Int → Prop} (h : ∀ a b, R a b → S a b) {a b : Int} (k : Eqv R a b) : Eqv S a b := by
  induction k with
  | refl a => exact .refl a
  | step k => exact .step (h _ _ k)
  | symm _ ih => exact .symm ih
  | trans _ _ ih1 ih2 => exact .trans ih1 ih2
end
section
def digs (l : List Int) : Prop := ∀ i, 0 ≤ i → i < (l.length : Int) → 0 ≤ el l i ∧ el l i < 12
def dgt (x : Int) : UInt8 := UInt8.ofNat (if x < 10 then 48 + x else 97 + x - 10).toNat
def digI (l : List Int) : List UInt8 := l.map dgt
@[simp] theorem digI_len (l : List Int) : (digI l).length = l.length := by simp [digI]
end
section

end
section
theorem ran_lt (n : Int) : (ran n id).Pairwise (· < ·) := by
  unfold ran
  rw [List.pairwise_map]
  exact (List.pairwise_lt_range).imp fun h => by simp; omega
end
section
def bytes (l : List Int) : Prop := ∀ i, 0 ≤ i → i < (l.length : Int) → 0 ≤ el l i ∧ el l i ≤ 255
def okS (c : List Int) (a h : Int) : Prop := (small c ∧ bytes c) ∧ (0 ≤ a ∧ a ≤ (c.length : Int)) ∧ 0 ≤ h ∧ h ≤ 18446744073709551615
def nxP (n r : Int) : Prop := (n < 1 → r = 0) ∧ (¬ n < 1 → 0 ≤ r ∧ r < n)
theorem and_bd (x : Nat) : 0 ≤ ((x &&& (16777215 : Int).toNat : Nat) : Int) ∧ ((x &&& (16777215 : Int).toNat : Nat) : Int) ≤ 16777215 := by
  have : x &&& (16777215 : Int).toNat ≤ (16777215 : Int).toNat := Nat.and_le_right
  omega
theorem shr_bd {u : Int} (h : 0 ≤ u ∧ u ≤ 18446744073709551615) (k : Nat) : 0 ≤ u / (2 : Int) ^ k ∧ u / (2 : Int) ^ k ≤ 18446744073709551615 := by
  have a : 0 ≤ u / (2 : Int) ^ k := Int.ediv_nonneg h.1 (Int.pow_nonneg (by omega))
  have b : u / (2 : Int) ^ k ≤ u := Int.ediv_le_self _ h.1
  omega
def drT (most : Int) (t : List (List Int)) : Prop := (t.length : Int) ≤ most ∧ ∀ r ∈ t, (r.length : Int) ≤ 12 ∧ ∀ z ∈ r, 0 ≤ z ∧ z ≤ 12
theorem isTab_se {o : List (List Int)} (h : isTab o = true) {i j v : Int} (hi : 0 ≤ i ∧ i < (o.length : Int)) (hj : 0 ≤ j ∧ j < (o.length : Int)) (hv : 0 ≤ v ∧ v < (o.length : Int)) : isTab (se o i (se (el o i) j v)) = true := by
  have hl := isTab_len h
  have hlen : ((se o i (se (el o i) j v)).length : Int) = (o.length : Int) := by simp
  refine isTab_mk (by omega) fun x x0 x1 => ?_
  rw [hlen] at x1 ⊢
  by_cases hx : x = i
  · subst hx
    rw [el_se_same hi]
    refine ⟨by simpa using rk_len h hi, fun y y0 y1 => ?_⟩
    have lr := rk_len h hi
    by_cases hy : y = j
    · subst hy; rw [el_se_same (by omega)]; exact hv
    · rw [el_se_ne hj.1 y0 (Ne.symm hy)]; exact rk_el h hi ⟨y0, y1⟩
  · rw [el_se_ne hi.1 x0 (Ne.symm hx)]
    exact ⟨rk_len h ⟨x0, x1⟩, fun y y0 y1 => rk_el h ⟨x0, x1⟩ ⟨y0, y1⟩⟩

end
section
def growF : Nat → Int → List Int → List (List Int)
  | 0, _, s => [s]
  | k + 1, n, s => (unitI n).flatMap fun x => if s.contains x then [] else growF k n (s ++ [x])
def growL (n : Int) (s : List Int) : List (List Int) := growF (n - (s.length : Int)).toNat n s
theorem growL_end {n : Int} {s : List Int} (h : (s.length : Int) = n) : growL n s = [s] := by
  unfold growL; rw [show (n - (s.length : Int)).toNat = 0 by omega]; rfl
def growT (n : Int) (s : List Int) (x : Int) : List (List Int) := (unitI x).flatMap fun x => if s.contains x then [] else growL n (s ++ [x])
theorem growL_step {n : Int} {s : List Int} (h : (s.length : Int) < n) : growL n s = growT n s n := by
  unfold growL growT
  obtain ⟨k, hk⟩ : ∃ k, (n - (s.length : Int)).toNat = k + 1 := ⟨(n - (s.length : Int)).toNat - 1, by omega⟩
  rw [hk]
  show ((unitI n).flatMap fun x => if s.contains x then [] else growF k n (s ++ [x])) = _
  congr 1; funext x
  unfold growL
  rw [show (n - ((s ++ [x]).length : Int)).toNat = k by simp; omega]
theorem growT_succ {n : Int} {s : List Int} {x : Int} (h : 0 ≤ x) : growT n s (x + 1) = growT n s x ++ (if s.contains x then [] else growL n (s ++ [x])) := by
  unfold growT unitI
  rw [ran_succ _ h]
  simp
theorem growT_zero {n : Int} {s : List Int} : growT n s 0 = [] := rfl
theorem growT_len {n : Int} {s : List Int} {x y : Int} (h : 0 ≤ x ∧ x ≤ y) : (growT n s x).length ≤ (growT n s y).length := by
  obtain ⟨k, rfl⟩ : ∃ k : Nat, y = x + k := ⟨(y - x).toNat, by omega⟩
  induction k with
  | zero => simp
  | succ k ih =>
    have := ih ⟨h.1, by omega⟩
    rw [show x + ((k + 1 : Nat) : Int) = (x + (k : Int)) + 1 by omega, growT_succ (by omega)]
    simp; omega
theorem growF_len (n : Int) : ∀ (k : Nat) (s : List Int), (growF k n s).length ≤ n.toNat ^ k
  | 0, s => by simp [growF]
  | k + 1, s => by
    have key : ∀ l : List Int, (l.flatMap fun x => if s.contains x then [] else growF k n (s ++ [x])).length ≤ l.length * n.toNat ^ k := by
      intro l
      induction l with
      | nil => simp
      | cons a l ih =>
        rw [List.flatMap_cons, List.length_append, List.length_cons, Nat.succ_mul]
        have h1 : (if s.contains a then ([] : List (List Int)) else growF k n (s ++ [a])).length ≤ n.toNat ^ k := by
          split
          · simp
          · exact growF_len n k _
        omega
    have := key (unitI n)
    rw [length_unitI] at this
    show ((unitI n).flatMap fun x => if s.contains x then [] else growF k n (s ++ [x])).length ≤ _
    rw [Nat.pow_succ, Nat.mul_comm]; exact this
theorem growL_len8 {n : Int} (h : 0 ≤ n ∧ n ≤ 8) : ((growL n []).length : Int) ≤ 16777216 := by
  have h1 := growF_len n (n - (([] : List Int).length : Int)).toNat []
  have h2 : n.toNat ^ (n - (([] : List Int).length : Int)).toNat ≤ 8 ^ 8 :=
    Nat.le_trans (Nat.pow_le_pow_left (show n.toNat ≤ 8 by omega) _) (Nat.pow_le_pow_right (by omega) (by simp; omega))
  have h3 : (8 : Nat) ^ 8 = 16777216 := by decide
  unfold growL
  omega
def cj3 (A : List (List Int)) : Bool := decide (1 ≤ A.length) && decide (A.length ≤ 6) && A.all (fun p => decide (p.length = 3) && isPerm p && A.all fun q => A.contains (((backI p).map (el q)).map (el p)))
theorem isTab_rows {o : List (List Int)} {n : Int} (hn : 1 ≤ n ∧ n ≤ 12) (hl : (o.length : Int) = n) (h : ∀ r ∈ o, (r.length : Int) = n ∧ ∀ z ∈ r, 0 ≤ z ∧ z < n) : isTab o = true :=
  isTab_mk (by omega) fun i i0 i1 => by
    have hr := h _ (el_mem ⟨i0, i1⟩)
    exact ⟨by omega, fun j j0 j1 => by have := hr.2 _ (el_mem (i := j) ⟨j0, by omega⟩); omega⟩
theorem mem_app {α : Type} {l : List α} {x : α} {P : α → Prop} (h : ∀ z ∈ l, P z) (hx : P x) : ∀ z ∈ l ++ [x], P z := fun z hz => by
  rcases List.mem_append.1 hz with h1 | h1
  · exact h z h1
  · rw [List.mem_singleton.1 h1]; exact hx
end
section
def mostI (l : List Int) : Int := l.foldl (fun n x => if n ≤ x then x + 1 else n) 0
theorem most_fold : ∀ (l : List Int) (n : Int), n ≤ l.foldl (fun n x => if n ≤ x then x + 1 else n) n ∧ (∀ x ∈ l, x < l.foldl (fun n x => if n ≤ x then x + 1 else n) n) ∧ (l.foldl (fun n x => if n ≤ x then x + 1 else n) n = n ∨ l.foldl (fun n x => if n ≤ x then x + 1 else n) n - 1 ∈ l)
  | [], n => ⟨Int.le_refl _, by simp, .inl rfl⟩
  | y :: l, n => by
    obtain ⟨h1, h2, h3⟩ := most_fold l (if n ≤ y then y + 1 else n)
    have hc : n ≤ (if n ≤ y then y + 1 else n) ∧ y < (if n ≤ y then y + 1 else n) ∧ ((if n ≤ y then y + 1 else n) = n ∨ (if n ≤ y then y + 1 else n) = y + 1) := by split <;> omega
    simp only [List.foldl_cons]
    generalize (if n ≤ y then y + 1 else n) = m at *
    refine ⟨by omega, fun x hx => ?_, ?_⟩
    · rcases List.mem_cons.1 hx with rfl | hx
      · omega
      · exact h2 x hx
    · rcases h3 with h3 | h3
      · rw [h3]
        rcases hc.2.2 with h4 | h4
        · exact .inl h4
        · exact .inr (by rw [h4]; simp)
      · exact .inr (List.mem_cons_of_mem _ h3)
theorem most_nonneg (l : List Int) : 0 ≤ mostI l := (most_fold l 0).1
theorem most_lt {l : List Int} {x : Int} (h : x ∈ l) : x < mostI l := (most_fold l 0).2.1 x h
theorem most_mem (l : List Int) : mostI l = 0 ∨ mostI l - 1 ∈ l := (most_fold l 0).2.2
theorem most_le {l : List Int} {n : Int} (h0 : 0 ≤ n) (h : ∀ x ∈ l, x < n) : mostI l ≤ n := by
  rcases most_mem l with h1 | h1
  · omega
  · have := h _ h1; omega
theorem most_step {l : List Int} {i : Int} (hi : 0 ≤ i ∧ i < (l.length : Int)) : mostI (l.take (i + 1).toNat) = if mostI (l.take i.toNat) ≤ el l i then el l i + 1 else mostI (l.take i.toNat) := by
  have e := el_get hi
  rw [List.getElem?_eq_getElem (by omega), Option.some.injEq] at e
  rw [show (i + 1).toNat = i.toNat + 1 by omega, List.take_succ_eq_append_getElem (by omega), e]
  unfold mostI
  rw [List.foldl_append]
  rfl
section
variable {a b : List (List Int)}
theorem permsN_rk {t : List (List Int)} (h : isRk t = true) : permsN (t.length : Int) t := fun p hp => by
  obtain ⟨i, hi, rfl⟩ := mem_el hp
  exact ⟨rk_len (isRk_tab h) hi, all_perm_el (isRk_perm h) hi⟩
theorem can_used {l : List Int} (h : CanP l) {c : Int} (hc : 0 ≤ c ∧ c < mostI l) : ∃ j, (0 ≤ j ∧ j < (l.length : Int)) ∧ el l j = c := by
  rcases most_mem l with h1 | h1
  · omega
  · obtain ⟨i, hi, e⟩ := mem_el h1
    by_cases h2 : c = mostI l - 1
    · exact ⟨i, hi, by rw [e, h2]⟩
    · obtain ⟨j, hj, e2⟩ := (h i hi.1 hi.2).2 c hc.1 (by omega)
      exact ⟨j, ⟨hj.1, by omega⟩, e2⟩
end
end
section
section
variable {t : List (List Int)} {p : List Int} {x y : Int} {o : List (List Int)}
end
section
variable {r : List (List Int)} (h : isRk r = true)
include h
end

end
section
/-! Least congruences. -/
section
variable {r : List (List Int)} (h : isRk r = true) {x y : Int} (hx : 0 ≤ x ∧ x < (r.length : Int)) (hy : 0 ≤ y ∧ y < (r.length : Int))
include h hx hy
end
/-! Least subracks. -/
section
variable {r : List (List Int)} (h : isRk r = true) {l : List Int} (hl : ∀ x ∈ l, 0 ≤ x ∧ x < (r.length : Int))
include h hl
end
end
section
section
variable {c : List (List Int)} (h : isCyc c = true)
include h
end
end
section
def cmp1 (x y : Int) : Int := if x < y then -1 else if y < x then 1 else 0
def cmpG {α : Type} (f : α → α → Int) : List α → List α → Int
  | [], [] => 0
  | [], _ :: _ => -1
  | _ :: _, [] => 1
  | x :: xs, y :: ys => if f x y = 0 then cmpG f xs ys else f x y
theorem cmp1_zero {x y : Int} : cmp1 x y = 0 ↔ x = y := by unfold cmp1; split <;> (try split) <;> omega
theorem cmpG_run {α : Type} [Inhabited α] {f : α → α → Int} : ∀ (i : Nat) (a b : List α), (∀ j : Int, 0 ≤ j → j < (i : Int) → f (el a j) (el b j) = 0) → i ≤ a.length → i ≤ b.length → cmpG f a b = cmpG f (a.drop i) (b.drop i)
  | 0, _, _, _, _, _ => rfl
  | i + 1, [], _, _, h, _ => by simp at h
  | i + 1, _ :: _, [], _, _, h => by simp at h
  | i + 1, x :: xs, y :: ys, h, h1, h2 => by
    have h0 : f x y = 0 := h 0 (by omega) (by omega)
    show cmpG f (x :: xs) (y :: ys) = cmpG f (xs.drop i) (ys.drop i)
    rw [← cmpG_run i xs ys (fun j j0 j1 => by
      have := h (j + 1) (by omega) (by omega)
      simpa [el, show (j + 1).toNat = j.toNat + 1 by omega] using this) (by simpa using h1) (by simpa using h2)]
    simp [cmpG, h0]
theorem drop_el {α : Type} [Inhabited α] {l : List α} {i : Int} (h : 0 ≤ i ∧ i < (l.length : Int)) : l.drop i.toNat = el l i :: l.drop (i.toNat + 1) := by
  have hi : i.toNat < l.length := by omega
  rw [List.drop_eq_getElem_cons hi]
  simp [el, List.getD_eq_getElem?_getD, List.getElem?_eq_getElem hi]
section
variable {α : Type} [Inhabited α] {f : α → α → Int} {a b : List α} {i : Int}
theorem cmpG_ne (hu : Upto i fun j => f (el a j) (el b j) = 0) (ha : 0 ≤ i ∧ i < (a.length : Int)) (hb : i < (b.length : Int)) (h : ¬ f (el a i) (el b i) = 0) : cmpG f a b = f (el a i) (el b i) := by
  rw [cmpG_run i.toNat a b (fun j j0 j1 => hu j j0 (by omega)) (by omega) (by omega), drop_el ha, drop_el ⟨ha.1, hb⟩]
  simp [cmpG, h]
theorem cmpG_long (hu : Upto i fun j => f (el a j) (el b j) = 0) (ha : 0 ≤ i ∧ i < (a.length : Int)) (hb : i = (b.length : Int)) : cmpG f a b = 1 := by
  rw [cmpG_run i.toNat a b (fun j j0 j1 => hu j j0 (by omega)) (by omega) (by omega), drop_el ha, show b.drop i.toNat = [] from List.drop_eq_nil_of_le (by omega)]
  rfl
theorem cmpG_short (hu : Upto i fun j => f (el a j) (el b j) = 0) (ha : 0 ≤ i ∧ i = (a.length : Int)) (hb : i < (b.length : Int)) : cmpG f a b = -1 := by
  rw [cmpG_run i.toNat a b (fun j j0 j1 => hu j j0 (by omega)) (by omega) (by omega), drop_el (l := b) ⟨ha.1, hb⟩, show a.drop i.toNat = [] from List.drop_eq_nil_of_le (by omega)]
  rfl
theorem cmpG_same (hu : Upto i fun j => f (el a j) (el b j) = 0) (ha : 0 ≤ i ∧ i = (a.length : Int)) (hb : i = (b.length : Int)) : cmpG f a b = 0 := by
  rw [cmpG_run i.toNat a b (fun j j0 j1 => hu j j0 (by omega)) (by omega) (by omega), show a.drop i.toNat = [] from List.drop_eq_nil_of_le (by omega), show b.drop i.toNat = [] from List.drop_eq_nil_of_le (by omega)]
  rfl
end
theorem growF_mem {n : Int} : ∀ (k : Nat) (s e : List Int), s.Nodup → (∀ x ∈ s, 0 ≤ x ∧ x < n) → e ∈ growF k n s → e.length = s.length + k ∧ e.Nodup ∧ ∀ x ∈ e, 0 ≤ x ∧ x < n
  | 0, s, e, h1, h2, h => by
    simp only [growF, List.mem_singleton] at h
    subst h; exact ⟨rfl, h1, h2⟩
  | k + 1, s, e, h1, h2, h => by
    simp only [growF, List.mem_flatMap] at h
    obtain ⟨x, hx, h⟩ := h
    have hx2 := mem_ran.1 (show x ∈ ran n id from hx)
    split at h
    · cases h
    · rename_i hc
      have hc' : ¬ x ∈ s := fun g => hc (List.contains_iff_mem.2 g)
      have := growF_mem k (s ++ [x]) e (List.nodup_append.2 ⟨h1, by simp, fun a ha b hb => by simp at hb; subst hb; intro g; subst g; exact hc' ha⟩) (mem_app h2 hx2) h
      refine ⟨by have := this.1; simp at this; omega, this.2⟩
theorem growL_perm {n : Int} (hn : 0 ≤ n) {e : List Int} (h : e ∈ growL n []) : (e.length : Int) = n ∧ isPerm e = true := by
  obtain ⟨h1, h2, h3⟩ := growF_mem _ [] e List.nodup_nil (by simp) h
  have hl : (e.length : Int) = n := by simp at h1; omega
  exact ⟨hl, isPerm_iff.2 ⟨h2, fun x hx => by have := h3 x hx; omega⟩⟩
end
section
def lexL (a b : List Int) : Prop := ∃ j, (0 ≤ j ∧ j < (a.length : Int)) ∧ Upto j (fun m => el a m = el b m) ∧ el a j < el b j
theorem lexL_trans {a b c : List Int} (hl : a.length = b.length) (h1 : lexL a b) (h2 : lexL b c) : lexL a c := by
  obtain ⟨j, hj, hu, hlt⟩ := h1
  obtain ⟨k, hk, hv, hlt2⟩ := h2
  rcases Int.lt_trichotomy j k with h | h | h
  · exact ⟨j, hj, fun m m0 m1 => (hu m m0 m1).trans (hv m m0 (by omega)), by rw [← hv j hj.1 h]; exact hlt⟩
  · subst h; exact ⟨j, hj, fun m m0 m1 => (hu m m0 m1).trans (hv m m0 m1), by omega⟩
  · exact ⟨k, ⟨hk.1, by omega⟩, fun m m0 m1 => (hu m m0 (by omega)).trans (hv m m0 m1), by rw [hu k hk.1 h]; exact hlt2⟩
theorem lexL_irrefl {a : List Int} : ¬ lexL a a := fun ⟨_, _, _, h⟩ => by omega
section
variable {p : List Int} {i k : Int}
end
theorem growF_pre {n : Int} : ∀ (k : Nat) (s e : List Int), e ∈ growF k n s → ∃ u, e = s ++ u
  | 0, s, e, h => by simp only [growF, List.mem_singleton] at h; exact ⟨[], by simp [h]⟩
  | k + 1, s, e, h => by
    simp only [growF, List.mem_flatMap] at h
    obtain ⟨x, _, h⟩ := h
    split at h
    · cases h
    · obtain ⟨u, rfl⟩ := growF_pre k _ e h; exact ⟨[x] ++ u, by simp⟩
theorem growF_sort {n : Int} : ∀ (k : Nat) (s : List Int), (growF k n s).Pairwise lexL
  | 0, s => by simp [growF]
  | k + 1, s => by
    simp only [growF]
    rw [List.pairwise_flatMap]
    refine ⟨fun x _ => ?_, ?_⟩
    · split
      · exact List.Pairwise.nil
      · exact growF_sort k _
    · refine (ran_lt n).imp ?_
      intro x y hxy a ha b hb
      split at ha
      · cases ha
      · split at hb
        · cases hb
        · obtain ⟨u, rfl⟩ := growF_pre k _ a ha
          obtain ⟨v, rfl⟩ := growF_pre k _ b hb
          have e1 : el (s ++ [x] ++ u) (s.length : Int) = x := by simp [el]
          have e2 : el (s ++ [y] ++ v) (s.length : Int) = y := by simp [el]
          refine ⟨(s.length : Int), ⟨by omega, by simp; omega⟩, fun m m0 m1 => ?_, by rw [e1, e2]; exact hxy⟩
          show el (s ++ [x] ++ u) m = el (s ++ [y] ++ v) m
          rw [List.append_assoc, List.append_assoc, el_append_l ⟨m0, m1⟩, el_append_l ⟨m0, m1⟩]
theorem growF_all {n : Int} : ∀ (k : Nat) (s u : List Int), (s ++ u).Nodup → (∀ x ∈ u, 0 ≤ x ∧ x < n) → u.length = k → s ++ u ∈ growF k n s
  | 0, s, u, _, _, h => by have := List.eq_nil_of_length_eq_zero h; subst this; simp [growF]
  | k + 1, s, [], _, _, h => by simp at h
  | k + 1, s, x :: u, hn, hr, h => by
    simp only [growF, List.mem_flatMap]
    refine ⟨x, mem_ran.2 (hr x (by simp)), ?_⟩
    have hx : ¬ x ∈ s := fun g => (List.nodup_append.1 hn).2.2 x g x (by simp) rfl
    rw [if_neg (by rw [List.contains_iff_mem]; exact hx)]
    have := growF_all k (s ++ [x]) u (by simpa using hn) (fun y hy => hr y (by simp [hy])) (by simpa using h)
    simpa using this
section
variable {n : Int}
theorem growL_all (hn : 0 ≤ n) {q : List Int} (hq : isPerm q = true) (hl : (q.length : Int) = n) : q ∈ growL n [] := by
  obtain ⟨h1, h2⟩ := isPerm_iff.1 hq
  exact growF_all _ [] q h1 (fun x hx => by have := h2 x hx; omega) (by simp; omega)
theorem growL_sort : (growL n []).Pairwise lexL := growF_sort _ _
theorem sort_at {L : List (List Int)} (hs : L.Pairwise lexL) {a b : Nat} {x y : List Int} (hx : L[a]? = some x) (hy : L[b]? = some y) (h : a < b) : lexL x y := by
  obtain ⟨ha, ea⟩ := List.getElem?_eq_some_iff.1 hx
  obtain ⟨hb, eb⟩ := List.getElem?_eq_some_iff.1 hy
  have := List.pairwise_iff_getElem.1 hs a b ha hb h
  rwa [ea, eb] at this
end

end
section

end
section
theorem upto_cons {α : Type} [Inhabited α] {x y : α} {a b : List α} {j : Int} (hj : 0 ≤ j) : Upto (j + 1) (fun m => el (x :: a) m = el (y :: b) m) ↔ x = y ∧ Upto j (fun m => el a m = el b m) := by
  constructor
  · intro h
    refine ⟨by have := h 0 (by omega) (by omega); simpa [el_cons_0] using this, fun m m0 m1 => ?_⟩
    have : el (x :: a) (m + 1) = el (y :: b) (m + 1) := h (m + 1) (by omega) (by omega)
    rw [el_cons_s (by omega), el_cons_s (by omega), Int.add_sub_cancel] at this
    exact this
  · rintro ⟨rfl, h⟩ m m0 m1
    show el (x :: a) m = el (x :: b) m
    by_cases e : m = 0
    · subst e; rw [el_cons_0, el_cons_0]
    · rw [el_cons_s (by omega), el_cons_s (by omega)]; exact h _ (by omega) (by omega)
theorem lex_cons {x y : Int} {a b : List Int} : lexL (x :: a) (y :: b) ↔ x < y ∨ (x = y ∧ lexL a b) := by
  constructor
  · rintro ⟨j, hj, hu, hlt⟩
    by_cases e : j = 0
    · subst e; left; simpa [el_cons_0] using hlt
    · right
      obtain ⟨i, rfl⟩ : ∃ i, j = i + 1 := ⟨j - 1, by omega⟩
      obtain ⟨h1, h2⟩ := (upto_cons (by omega)).1 hu
      rw [el_cons_s (by omega), el_cons_s (by omega), Int.add_sub_cancel] at hlt
      exact ⟨h1, i, ⟨by omega, by have := hj.2; simp at this; omega⟩, h2, hlt⟩
  · rintro (h | ⟨rfl, j, hj, hu, hlt⟩)
    · exact ⟨0, ⟨by omega, by simp⟩, fun m _ _ => by omega, by rw [el_cons_0, el_cons_0]; exact h⟩
    · exact ⟨j + 1, ⟨by omega, by simp; omega⟩, (upto_cons hj.1).2 ⟨rfl, hu⟩, by rw [el_cons_s (by omega), el_cons_s (by omega), Int.add_sub_cancel]; exact hlt⟩
theorem lexL_total : ∀ {a b : List Int}, a.length = b.length → a ≠ b → lexL a b ∨ lexL b a
  | [], [], _, h => absurd rfl h
  | [], _ :: _, h, _ => by cases h
  | _ :: _, [], h, _ => by cases h
  | x :: a, y :: b, hl, h => by
    rcases Int.lt_trichotomy x y with g | rfl | g
    · exact .inl (lex_cons.2 (.inl g))
    · rcases lexL_total (a := a) (b := b) (by simpa using hl) (fun e => h (by rw [e])) with k | k
      · exact .inl (lex_cons.2 (.inr ⟨rfl, k⟩))
      · exact .inr (lex_cons.2 (.inr ⟨rfl, k⟩))
    · exact .inr (lex_cons.2 (.inl g))
theorem cmp_lex : ∀ {a b : List Int}, a.length = b.length → (cmpG cmp1 a b < 0 ↔ lexL a b)
  | [], [], _ => by simp only [cmpG]; exact ⟨fun h => by omega, fun h => absurd h lexL_irrefl⟩
  | [], _ :: _, h => by cases h
  | _ :: _, [], h => by cases h
  | x :: a, y :: b, hl => by
    rw [lex_cons, ← cmp_lex (a := a) (b := b) (by simpa using hl)]
    simp only [cmpG, cmp1_zero]
    split
    · rename_i h; subst h; exact ⟨fun h => .inr ⟨rfl, h⟩, fun h => h.elim (fun h => by omega) fun h => h.2⟩
    · rename_i h
      unfold cmp1
      split
      · exact ⟨fun _ => .inl (by assumption), fun _ => by omega⟩
      · split
        · exact ⟨fun _ => by omega, fun k => k.elim (fun _ => by omega) fun k => absurd k.1 h⟩
        · exact ⟨fun _ => by omega, fun k => k.elim (fun _ => by omega) fun k => absurd k.1 h⟩
def LexS (n : Nat) (l : List (List Int)) : Prop := l.Pairwise lexL ∧ ∀ x ∈ l, x.length = n
theorem LexS.nodup {n : Nat} {l : List (List Int)} (h : LexS n l) : l.Nodup := h.1.imp fun h e => by subst e; exact lexL_irrefl h
theorem el_takeG {α : Type} [Inhabited α] {l : List α} {j m : Int} (hj : 0 ≤ j ∧ j < m) : el (l.take m.toNat) j = el l j := by
  unfold el
  simp only [List.getD_eq_getElem?_getD, List.getElem?_take]
  rw [if_pos (by omega)]
theorem lexS_put {n : Nat} {s : List (List Int)} {x : List Int} {k : Int} (hs : LexS n s) (hx : x.length = n) (hk : 0 ≤ k ∧ k ≤ (s.length : Int)) (h1 : 0 < k → lexL (el s (k - 1)) x) (h2 : k < (s.length : Int) → lexL x (el s k)) :
    LexS n (sl s 0 k ++ x :: sl s k (s.length : Int)) ∧ ∀ z, z ∈ sl s 0 k ++ x :: sl s k (s.length : Int) ↔ z = x ∨ z ∈ s := by
  have e : s = s.take k.toNat ++ s.drop k.toNat := (List.take_append_drop _ _).symm
  have e1 : sl s 0 k = s.take k.toNat := by simp [sl]
  have e2 : sl s k (s.length : Int) = s.drop k.toNat := by simp [sl]
  rw [e1, e2]
  have hp := hs.1
  rw [e] at hp
  obtain ⟨p1, p2, p3⟩ := List.pairwise_append.1 hp
  have hlen : ∀ z ∈ s, z.length = x.length := fun z hz => by rw [hs.2 z hz, hx]
  have lo : ∀ z ∈ s.take k.toNat, lexL z x := fun z hz => by
    obtain ⟨i, hi, rfl⟩ := mem_el hz
    have hi2 : i < k := by have := hi.2; simp at this; omega
    rw [el_takeG ⟨hi.1, hi2⟩]
    have hkp := h1 (by omega)
    by_cases hik : i = k - 1
    · subst hik; exact hkp
    · have := sort_at (a := i.toNat) (b := (k - 1).toNat) (x := el s i) (y := el s (k - 1)) hs.1 (by unfold el; rw [List.getD_eq_getElem?_getD, List.getElem?_eq_getElem (by omega)]; rfl) (by unfold el; rw [List.getD_eq_getElem?_getD, List.getElem?_eq_getElem (by omega)]; rfl) (by omega)
      exact lexL_trans (by rw [hs.2 _ (el_mem ⟨hi.1, by omega⟩), hs.2 _ (el_mem ⟨by omega, by omega⟩)]) this hkp
  have hi : ∀ z ∈ s.drop k.toNat, lexL x z := fun z hz => by
    by_cases hkl : k < (s.length : Int)
    · rw [drop_el ⟨hk.1, hkl⟩] at hz p2
      rcases List.mem_cons.1 hz with rfl | hz
      · exact h2 hkl
      · exact lexL_trans (by rw [hx, hs.2 _ (el_mem ⟨hk.1, hkl⟩)]) (h2 hkl) ((List.pairwise_cons.1 p2).1 z hz)
    · rw [List.drop_of_length_le (by omega)] at hz; cases hz
  have hmem : ∀ z, z ∈ s.take k.toNat ++ x :: s.drop k.toNat ↔ z = x ∨ z ∈ s := fun z => by
    rw [show (z ∈ s) = (z ∈ s.take k.toNat ++ s.drop k.toNat) by rw [← e]]
    simp only [List.mem_append, List.mem_cons]
    constructor
    · rintro (h | h | h) <;> simp [h]
    · rintro (h | h | h) <;> simp [h]
  refine ⟨⟨List.pairwise_append.2 ⟨p1, List.pairwise_cons.2 ⟨hi, p2⟩, fun a ha b hb => ?_⟩, fun z hz => ?_⟩, hmem⟩
  · rcases List.mem_cons.1 hb with rfl | hb
    · exact lo a ha
    · exact p3 a ha b hb
  · rcases (hmem z).1 hz with rfl | hz
    · exact hx
    · exact hs.2 z hz
def thnI (p q : List Int) : List Int := p.map (el q)
theorem thn_len (p q : List Int) : (thnI p q).length = p.length := by simp [thnI]
theorem thn_el {p q : List Int} {i : Int} (hi : 0 ≤ i ∧ i < (p.length : Int)) : el (thnI p q) i = el q (el p i) := el_map hi
theorem perm_mk {p : List Int} (h : ∀ i, 0 ≤ i → i < (p.length : Int) → 0 ≤ el p i ∧ el p i < (p.length : Int)) (hi : ∀ i j, 0 ≤ i → i < j → j < (p.length : Int) → el p i ≠ el p j) : isPerm p = true :=
  isPerm_iff.2 ⟨nodup_el.2 hi, fun x hx => by obtain ⟨i, hi, rfl⟩ := mem_el hx; exact h i hi.1 hi.2⟩
theorem thn_perm {p q : List Int} (hp : isPerm p = true) (hq : isPerm q = true) (hl : p.length = q.length) : isPerm (thnI p q) = true := by
  have e := thn_len p q
  refine perm_mk (fun i i0 i1 => ?_) fun i j i0 ij j1 => ?_
  · rw [e] at i1 ⊢
    rw [thn_el ⟨i0, i1⟩]
    have h1 := isPerm_el hp ⟨i0, i1⟩
    have h2 := isPerm_el hq (i := el p i) ⟨h1.1, by omega⟩
    omega
  · rw [e] at j1
    rw [thn_el ⟨i0, by omega⟩, thn_el ⟨by omega, j1⟩]
    intro h
    have a1 := isPerm_el hp (i := i) ⟨i0, by omega⟩
    have a2 := isPerm_el hp (i := j) ⟨by omega, j1⟩
    have := isPerm_inj hq ⟨a1.1, by omega⟩ ⟨a2.1, by omega⟩ h
    have := isPerm_inj hp ⟨i0, by omega⟩ ⟨by omega, j1⟩ this
    omega
section
variable {x y : List Int}
end
theorem grow_iff {n : Int} (hn : 0 ≤ n) {q : List Int} : q ∈ growL n [] ↔ (q.length : Int) = n ∧ isPerm q = true := ⟨growL_perm hn, fun h => growL_all hn h.2 h.1⟩
section
variable {p : List Int} (hp : permB p = true)
include hp
end
end
section
inductive Gn (n : Int) (list : List (List Int)) : List Int → Prop
  | unit : Gn n list (unitI n)
  | step {p g : List Int} : Gn n list p → g ∈ list → Gn n list (thnI p g)
noncomputable def grpL (n : Int) (list : List (List Int)) : List (List Int) := (growL n []).filter fun p => dec (Gn n list p)
noncomputable def grpN (n : Int) (list : List (List Int)) : Int := ((grpL n list).length : Int)
theorem unit_perm {n : Int} (_hn : 0 ≤ n) : isPerm (unitI n) = true := isPerm_iff.2 ⟨nodup_ran n, fun x hx => by
  have := mem_ran.1 hx
  have hl : ((unitI n).length : Int) = n := by simp [unitI]; omega
  omega⟩
theorem unit_len {n : Int} (_hn : 0 ≤ n) : ((unitI n).length : Int) = n := by simp [unitI]; omega
section
variable {n : Int} {list : List (List Int)} (hn : 1 ≤ n ∧ n ≤ 12) (hP : permsN n list)
include hn hP
theorem gn_perm {p : List Int} (h : Gn n list p) : (p.length : Int) = n ∧ isPerm p = true := by
  induction h with
  | unit => exact ⟨unit_len (by omega), unit_perm (by omega)⟩
  | step _ hg ih =>
    have h2 := hP _ hg
    exact ⟨by rw [thn_len]; exact ih.1, thn_perm ih.2 h2.2 (by omega)⟩
theorem mem_grp {p : List Int} : p ∈ grpL n list ↔ Gn n list p := by
  unfold grpL
  rw [List.mem_filter, dec_iff]
  exact ⟨fun h => h.2, fun h => ⟨(grow_iff (by omega)).2 (gn_perm hn hP h), h⟩⟩
end
theorem grp_nodup (n : Int) (list : List (List Int)) : (grpL n list).Nodup := List.Pairwise.filter _ (growL_sort.imp fun h e => by subst e; exact lexL_irrefl h)
structure GrB (n : Int) (list q : List (List Int)) : Prop where
  nd : q.Nodup
  one : unitI n ∈ q
  gn : ∀ p ∈ q, Gn n list p
structure GrC (list q : List (List Int)) (i k : Int) : Prop where
  done : ∀ j, 0 ≤ j → j < i → ∀ g ∈ list, thnI (el q j) g ∈ q
  part : ∀ m, 0 ≤ m → m < k → thnI (el q i) (el list m) ∈ q
theorem grb_one (n : Int) (list : List (List Int)) : GrB n list [unitI n] := ⟨by simp, by simp, fun p hp => by rw [List.mem_singleton.1 hp]; exact .unit⟩
theorem grc_zero (list q : List (List Int)) : GrC list q 0 0 := ⟨fun j _ _ => by omega, fun m _ _ => by omega⟩
section
variable {n : Int} {list q : List (List Int)} {i k : Int}
theorem grc_old (h : GrC list q i k) (ho : thnI (el q i) (el list k) ∈ q) : GrC list q i (k + 1) := ⟨h.done, fun m m0 m1 => by
  by_cases e : m = k
  · subst e; exact ho
  · exact h.part m m0 (by omega)⟩
theorem grc_next (h : GrC list q i (list.length : Int)) : GrC list q (i + 1) 0 := ⟨fun j j0 j1 g hg => by
  by_cases e : j = i
  · subst e; obtain ⟨m, hm, rfl⟩ := mem_el hg; exact h.part m hm.1 hm.2
  · exact h.done j j0 (by omega) g hg, fun m _ _ => by omega⟩
theorem grc_app {x : List Int} (hi : 0 ≤ i ∧ i < (q.length : Int)) (h : GrC list q i k) : GrC list (q ++ [x]) i k := ⟨fun j j0 j1 g hg => by
  rw [el_append_l ⟨j0, by omega⟩]; exact List.mem_append_left _ (h.done j j0 j1 g hg), fun m m0 m1 => by
  rw [el_append_l hi]; exact List.mem_append_left _ (h.part m m0 m1)⟩
theorem grb_app {x : List Int} (h : GrB n list q) (hx : Gn n list x) (hn : x ∉ q) : GrB n list (q ++ [x]) := ⟨List.nodup_append.2 ⟨h.nd, by simp, fun a ha b hb e => by
  rw [List.mem_singleton.1 hb] at e; exact hn (e ▸ ha)⟩, List.mem_append_left _ h.one, fun p hp => by
  rcases List.mem_append.1 hp with hp | hp
  · exact h.gn p hp
  · rw [List.mem_singleton.1 hp]; exact hx⟩
theorem grc_add (hi : 0 ≤ i ∧ i < (q.length : Int)) (h : GrC list q i k) : GrC list (q ++ [thnI (el q i) (el list k)]) i (k + 1) :=
  grc_old (grc_app hi h) (by rw [el_append_l hi]; simp)
theorem gn_next (h : GrB n list q) (hi : 0 ≤ i ∧ i < (q.length : Int)) (hk : 0 ≤ k ∧ k < (list.length : Int)) : Gn n list (thnI (el q i) (el list k)) := .step (h.gn _ (el_mem hi)) (el_mem hk)
theorem grb_len (hn : 1 ≤ n ∧ n ≤ 12) (hP : permsN n list) (h : GrB n list q) : (q.length : Int) ≤ grpN n list := by
  have := nodup_len q (grpL n list) h.nd fun p hp => (mem_grp hn hP).2 (h.gn p hp)
  unfold grpN; omega
theorem grc_end (hn : 1 ≤ n ∧ n ≤ 12) (hP : permsN n list) (h : GrB n list q) (hc : GrC list q (q.length : Int) 0) : (q.length : Int) = grpN n list := by
  have h1 := grb_len hn hP h
  have key : ∀ p, Gn n list p → p ∈ q := fun p hp => by
    induction hp with
    | unit => exact h.one
    | step _ hg ih => obtain ⟨j, hj, rfl⟩ := mem_el ih; exact hc.done j hj.1 hj.2 _ hg
  have := nodup_len (grpL n list) q (grp_nodup n list) fun p hp => key p ((mem_grp hn hP).1 hp)
  unfold grpN at *; omega
end
theorem dgt_inj {x y : Int} (hx : 0 ≤ x ∧ x < 12) (hy : 0 ≤ y ∧ y < 12) (h : dgt x = dgt y) : x = y := by
  unfold dgt at h
  have h2 := congrArg UInt8.toNat h
  simp only [UInt8.toNat_ofNat'] at h2
  split at h2 <;> split at h2 <;> omega
theorem digI_inj : ∀ {a b : List Int}, (∀ x ∈ a, 0 ≤ x ∧ x < 12) → (∀ x ∈ b, 0 ≤ x ∧ x < 12) → digI a = digI b → a = b
  | [], [], _, _, _ => rfl
  | [], _ :: _, _, _, h => by simp [digI] at h
  | _ :: _, [], _, _, h => by simp [digI] at h
  | x :: a, y :: b, ha, hb, h => by
    simp only [digI, List.map_cons, List.cons.injEq] at h
    rw [dgt_inj (ha x List.mem_cons_self) (hb y List.mem_cons_self) h.1, digI_inj (fun z hz => ha z (List.mem_cons_of_mem _ hz)) (fun z hz => hb z (List.mem_cons_of_mem _ hz)) h.2]
theorem perm_dig {n : Int} (hn : 1 ≤ n ∧ n ≤ 12) {p : List Int} (h : (p.length : Int) = n ∧ isPerm p = true) : (small p ∧ digs p) ∧ ∀ x ∈ p, 0 ≤ x ∧ x < 12 := by
  have h2 := (isPerm_iff.1 h.2).2
  refine ⟨⟨by show _ ≤ (1000000000 : Int); omega, fun i i0 i1 => ?_⟩, fun x hx => ?_⟩
  · have := h2 _ (el_mem ⟨i0, i1⟩); omega
  · have := h2 x hx; omega
noncomputable def InoE (r : List (List Int)) : Int := if isRk r then (if 5000 < grpN (r.length : Int) r then 3 else 0) else 1
noncomputable def InoV (r : List (List Int)) : Int := if InoE r = 0 then grpN (r.length : Int) r else 0
theorem ino1 {r : List (List Int)} (h : isRk r = false) : 0 = InoV r ∧ 1 = InoE r := by
  have e : InoE r = 1 := by unfold InoE; rw [h]; rfl
  exact ⟨by unfold InoV; rw [e]; rfl, e.symm⟩
theorem ino3 {r : List (List Int)} (h : isRk r = true) (h2 : 5000 < grpN (r.length : Int) r) : 0 = InoV r ∧ 3 = InoE r := by
  have e : InoE r = 3 := by unfold InoE; rw [h, if_pos rfl, if_pos h2]
  exact ⟨by unfold InoV; rw [e]; rfl, e.symm⟩
theorem ino0 {r : List (List Int)} (h : isRk r = true) (h2 : ¬ 5000 < grpN (r.length : Int) r) : grpN (r.length : Int) r = InoV r ∧ 0 = InoE r := by
  have e : InoE r = 0 := by unfold InoE; rw [h, if_pos rfl, if_neg h2]
  exact ⟨by unfold InoV; rw [if_pos e], e.symm⟩

end
section
structure OkM (a b : List (List (List Int))) (f : List Int) (u : List Bool) (s : List Int) : Prop where
  la : a.length = b.length
  ha : ∀ k, 0 ≤ k → k < (a.length : Int) → isTab (el a k) = true ∧ (el a k).length = f.length
  hb : ∀ k, 0 ≤ k → k < (b.length : Int) → isTab (el b k) = true ∧ (el b k).length = f.length
  sm : (a.length : Int) ≤ 1000
  lu : u.length = f.length
  n12 : 1 ≤ (f.length : Int) ∧ (f.length : Int) ≤ 12
  nd : s.Nodup
  mem : ∀ x, x ∈ s ↔ (0 ≤ x ∧ x < (f.length : Int)) ∧ 0 ≤ el f x
  val : ∀ x, 0 ≤ x → x < (f.length : Int) → el f x = -1 ∨ (0 ≤ el f x ∧ el f x < (f.length : Int))
  use : ∀ v, 0 ≤ v → v < (f.length : Int) → (el u v = true ↔ ∃ x, x ∈ s ∧ el f x = v)
  inj : ∀ x ∈ s, ∀ y ∈ s, el f x = el f y → x = y
section
variable {a b : List (List (List Int))} {f f' : List Int} {u u' : List Bool} {s s' : List Int}
theorem OkM.in_s (h : OkM a b f u s) {x : Int} (hx : x ∈ s) : (0 ≤ x ∧ x < (f.length : Int)) ∧ 0 ≤ el f x ∧ el f x < (f.length : Int) := by
  have h1 := (h.mem x).1 hx
  have := h.val x h1.1.1 h1.1.2
  exact ⟨h1.1, h1.2, by omega⟩
theorem OkM.len (h : OkM a b f u s) : (s.length : Int) ≤ (f.length : Int) := nodup_len_ran (by omega) h.nd fun x hx => (h.in_s hx).1
theorem OkM.add (h : OkM a b f u s) {x v : Int} (hx : 0 ≤ x ∧ x < (f.length : Int)) (hn : ¬ 0 ≤ el f x) (hv : 0 ≤ v ∧ v < (f.length : Int)) (hu : el u v = false) : OkM a b (se f x v) (se u v true) (s ++ [x]) := by
  have hl : (se f x v).length = f.length := by simp
  have hx2 : x ∉ s := fun hm => hn ((h.mem x).1 hm).2
  have same : ∀ y, 0 ≤ y → y ≠ x → el (se f x v) y = el f y := fun y y0 hy => el_se_ne hx.1 y0 (Ne.symm hy)
  have here : el (se f x v) x = v := el_se_same hx
  have old : ∀ y ∈ s, el (se f x v) y = el f y := fun y hy => same y (h.in_s hy).1.1 fun e => hx2 (e ▸ hy)
  refine ⟨h.la, fun k a b => by rw [hl]; exact h.ha k a b, fun k a b => by rw [hl]; exact h.hb k a b, h.sm, by simp [h.lu], by rw [hl]; exact h.n12, List.nodup_append.2 ⟨h.nd, by simp, fun y hy z hz e => by rw [List.mem_singleton.1 hz] at e; exact hx2 (e ▸ hy)⟩, fun y => ?_, fun y y0 y1 => ?_, fun w w0 w1 => ?_, fun y hy z hz e => ?_⟩
  · rw [hl, List.mem_append, List.mem_singleton, h.mem]
    by_cases e : y = x
    · subst e; rw [here]; exact ⟨fun _ => ⟨hx, hv.1⟩, fun _ => .inr rfl⟩
    · constructor
      · rintro (k | k)
        · exact ⟨k.1, by rw [same y k.1.1 e]; exact k.2⟩
        · exact absurd k e
      · rintro ⟨k1, k2⟩; exact .inl ⟨k1, by rwa [same y k1.1 e] at k2⟩
  · rw [hl] at y1 ⊢
    by_cases e : y = x
    · subst e; rw [here]; exact .inr hv
    · rw [same y y0 e]; exact h.val y y0 y1
  · rw [hl] at w1
    by_cases e : w = v
    · subst e; rw [el_se_same ⟨w0, by rw [h.lu]; exact w1⟩]; exact ⟨fun _ => ⟨x, by simp, here⟩, fun _ => rfl⟩
    · rw [el_se_ne hv.1 w0 (Ne.symm e), h.use w w0 w1]
      constructor
      · rintro ⟨y, hy, e2⟩; exact ⟨y, List.mem_append_left _ hy, by rw [old y hy]; exact e2⟩
      · rintro ⟨y, hy, e2⟩
        rcases List.mem_append.1 hy with hy | hy
        · exact ⟨y, hy, by rw [← old y hy]; exact e2⟩
        · rw [List.mem_singleton.1 hy, here] at e2; exact absurd e2.symm e
  · have nov : ∀ y ∈ s, el f y ≠ v := fun y hy e => by
      have := (h.use v hv.1 hv.2).2 ⟨y, hy, e⟩
      rw [hu] at this; cases this
    rcases List.mem_append.1 hy with hy | hy <;> rcases List.mem_append.1 hz with hz | hz
    · rw [old y hy, old z hz] at e; exact h.inj y hy z hz e
    · rw [List.mem_singleton.1 hz, here, old y hy] at e; exact absurd e (nov y hy)
    · rw [List.mem_singleton.1 hy, here, old z hz] at e; exact absurd e.symm (nov z hz)
    · rw [List.mem_singleton.1 hy, List.mem_singleton.1 hz]
end

end
section
section
variable {a b : List (List (List Int))} {f : List Int}
theorem LexS.filter {n : Nat} {l : List (List Int)} (h : LexS n l) (q : List Int → Bool) : LexS n (l.filter q) := ⟨List.Pairwise.filter _ h.1, fun x hx => h.2 x (List.mem_filter.1 hx).1⟩
end

end
section
section
variable {a b : List (List (List Int))} {p c d : List Int}
end
end
section

end
section
theorem filter_parts {α : Type} (p : α → Bool) : ∀ l : List α, l.length = (l.filter p).length + (l.filter fun a => !p a).length
  | [] => rfl
  | a :: l => by
    have := filter_parts p l
    cases h : p a
    · rw [List.filter_cons_of_neg (by simp [h]), List.filter_cons_of_pos (by simp [h])]; simp; omega
    · rw [List.filter_cons_of_pos (by simp [h]), List.filter_cons_of_neg (by simp [h])]; simp; omega
theorem fib_mul {α β : Type} [DecidableEq β] (f : α → β) (c : Nat) : ∀ (X : List β) (L : List α), X.Nodup → (∀ a ∈ L, f a ∈ X) → (∀ x ∈ X, (L.filter fun a => decide (f a = x)).length = c) → L.length = X.length * c
  | [], L, _, h, _ => by
    have : L = [] := List.eq_nil_iff_forall_not_mem.2 fun a ha => by have := h a ha; cases this
    subst this; simp
  | x :: X, L, hn, h, hc => by
    have hx := List.nodup_cons.1 hn
    have h1 := filter_parts (fun a => decide (f a = x)) L
    have h2 := fib_mul f c X (L.filter fun a => !decide (f a = x)) hx.2 (fun a ha => by
        have ha := List.mem_filter.1 ha
        rcases List.mem_cons.1 (h a ha.1) with e | e
        · simp [e] at ha
        · exact e) fun y hy => by
        have e : (L.filter fun a => !decide (f a = x)).filter (fun a => decide (f a = y)) = L.filter fun a => decide (f a = y) := by
          rw [List.filter_filter]
          refine List.filter_congr fun a _ => ?_
          by_cases g : f a = y
          · have : f a ≠ x := fun k => hx.1 (by rw [← k, g]; exact hy)
            simp [g]
            rw [g] at this; exact this
          · simp [g]
        rw [e]; exact hc y (List.mem_cons_of_mem _ hy)
    rw [h1, h2, hc x List.mem_cons_self, List.length_cons, Nat.add_mul, Nat.one_mul]; omega
theorem inj_len {α β : Type} [DecidableEq β] {φ : α → β} {A : List α} {B : List β} (hA : A.Nodup) (h : ∀ a ∈ A, φ a ∈ B) (hi : ∀ a ∈ A, ∀ b ∈ A, φ a = φ b → a = b) : A.length ≤ B.length := by
  have hn : (A.map φ).Nodup := by
    rw [List.Nodup, List.pairwise_map]
    exact List.Pairwise.imp_of_mem (fun {a b} ha hb hne e => hne (hi a ha b hb e)) hA
  have := nodup_len (A.map φ) B hn fun z hz => by
    obtain ⟨a, ha, rfl⟩ := List.mem_map.1 hz
    exact h a ha
  rwa [List.length_map] at this
theorem orb_mul {α β : Type} [DecidableEq α] [DecidableEq β] {L : List α} {f : α → β} {X : List β} (hL : L.Nodup) (hX : X.Nodup) (hm : ∀ x, x ∈ X ↔ ∃ a ∈ L, f a = x)
    (mv : ∀ a ∈ L, ∀ b ∈ L, ∃ φ : α → α, (∀ q ∈ L, f q = f a → φ q ∈ L ∧ f (φ q) = f b) ∧ ∀ q ∈ L, ∀ r ∈ L, φ q = φ r → q = r) {e : α} (he : e ∈ L) : L.length = X.length * (L.filter fun a => decide (f a = f e)).length := by
  refine fib_mul f _ X L hX (fun a ha => (hm _).2 ⟨a, ha, rfl⟩) fun x hx => ?_
  obtain ⟨b, hb, rfl⟩ := (hm _).1 hx
  have key : ∀ a ∈ L, ∀ b ∈ L, (L.filter fun q => decide (f q = f a)).length ≤ (L.filter fun q => decide (f q = f b)).length := fun a ha b hb => by
    obtain ⟨φ, h1, h2⟩ := mv a ha b hb
    refine inj_len (φ := φ) (hL.filter _) (fun q hq => ?_) fun q hq r hr => h2 q (List.mem_filter.1 hq).1 r (List.mem_filter.1 hr).1
    have hq := List.mem_filter.1 hq
    have := h1 q hq.1 (of_decide_eq_true hq.2)
    exact List.mem_filter.2 ⟨this.1, decide_eq_true this.2⟩
  exact Nat.le_antisymm (key b hb e he) (key e he b hb)
theorem thn_right {p q g : List Int} (hg : isPerm g = true) (hp : isPerm p = true) (hq : isPerm q = true) (h1 : p.length = g.length) (h2 : q.length = g.length) (h : thnI p g = thnI q g) : p = q :=
  ext_el (by omega) fun i i0 i1 => by
    have e : el (thnI p g) i = el (thnI q g) i := by rw [h]
    rw [thn_el ⟨i0, i1⟩, thn_el ⟨i0, by omega⟩] at e
    have a1 := isPerm_el hp ⟨i0, i1⟩
    have a2 := isPerm_el hq (i := i) ⟨i0, by omega⟩
    exact isPerm_inj hg ⟨a1.1, by omega⟩ ⟨a2.1, by omega⟩ e
section
variable {l : List (List Int)} (h : CjqE l = 0)
include h
end
end
section
def MedP (t : List (List Int)) : Prop := ∀ x y z w : Int, (0 ≤ x ∧ x < (t.length : Int)) → (0 ≤ y ∧ y < (t.length : Int)) → (0 ≤ z ∧ z < (t.length : Int)) → (0 ≤ w ∧ w < (t.length : Int)) → el (el t (el (el t x) y)) (el (el t z) w) = el (el t (el (el t x) z)) (el (el t y) w)
noncomputable def medB (t : List (List Int)) : Bool := dec (MedP t)
theorem thn_assoc {p q g : List Int} (hp : isPerm p = true) (h : p.length = q.length) : thnI p (thnI q g) = thnI (thnI p q) g :=
  ext_el (by rw [thn_len, thn_len, thn_len]) fun i i0 i1 => by
    rw [thn_len] at i1
    have b := isPerm_el hp ⟨i0, i1⟩
    rw [thn_el ⟨i0, i1⟩, thn_el ⟨i0, by rw [thn_len]; exact i1⟩, thn_el ⟨i0, i1⟩, thn_el ⟨b.1, by omega⟩]
theorem thn_unit {p : List Int} (hp : isPerm p = true) : thnI p (unitI (p.length : Int)) = p :=
  ext_el (by rw [thn_len]) fun i i0 i1 => by
    rw [thn_len] at i1
    have b := isPerm_el hp ⟨i0, i1⟩
    rw [thn_el ⟨i0, i1⟩, el_unitI b]
theorem thn_left {p q a : List Int} (ha : isPerm a = true) (h1 : p.length = a.length) (h2 : q.length = a.length) (h : thnI a p = thnI a q) : p = q :=
  ext_el (by omega) fun i i0 i1 => by
    obtain ⟨j, hj, e⟩ := isPerm_surj ha (x := i) ⟨i0, by omega⟩
    have g : el (thnI a p) j = el (thnI a q) j := by rw [h]
    rw [thn_el hj, thn_el hj, e] at g
    exact g
section
variable {n : Int} {list : List (List Int)} (hn : 1 ≤ n ∧ n ≤ 12) (hP : permsN n list)
include hn hP
theorem gn_mul {p q : List Int} (hp : Gn n list p) (hq : Gn n list q) : Gn n list (thnI p q) := by
  have h1 := gn_perm hn hP hp
  induction hq with
  | unit => have e := thn_unit h1.2; rw [h1.1] at e; rw [e]; exact hp
  | step hq hg ih =>
    have h2 := gn_perm hn hP hq
    rw [thn_assoc h1.2 (by omega)]; exact .step ih hg
theorem gn_act {x y : Int} (hx : 0 ≤ x ∧ x < n) : Rch list x y ↔ ∃ g ∈ grpL n list, el g x = y := by
  constructor
  · intro h
    induction h with
    | base => exact ⟨unitI n, (mem_grp hn hP).2 .unit, el_unitI hx⟩
    | step _ hq ih =>
      obtain ⟨g, hg, rfl⟩ := ih
      have hg := (mem_grp hn hP).1 hg
      have := (gn_perm hn hP hg).1
      exact ⟨thnI g _, (mem_grp hn hP).2 (.step hg hq), thn_el ⟨hx.1, by omega⟩⟩
  · rintro ⟨g, hg, rfl⟩
    have hg := (mem_grp hn hP).1 hg
    induction hg with
    | unit => rw [el_unitI hx]; exact .base
    | step h hq ih =>
      rename_i hgg
      have := (gn_perm hn hP h).1
      rw [thn_el ⟨hx.1, by omega⟩]
      exact .step (ih ((mem_grp hn hP).2 h)) hq
theorem orb_div {x : Int} (hx : 0 ≤ x ∧ x < n) {X : List Int} (hX : X.Nodup) (hm : ∀ y, y ∈ X ↔ Rch list x y) : ∃ c : Nat, grpN n list = (X.length : Int) * (c : Int) := by
  have := orb_mul (L := grpL n list) (f := fun g => el g x) (X := X) (grp_nodup n list) hX (fun y => by rw [hm, gn_act hn hP hx]) (fun a ha b hb => by
    have ha := (mem_grp hn hP).1 ha
    have pa := gn_perm hn hP ha
    -- b = a then something
    have hinj : ((grpL n list).map fun q => thnI a q).Nodup := by
      rw [List.Nodup, List.pairwise_map]
      refine List.Pairwise.imp_of_mem (fun {p q} hp hq hne e => hne ?_) (grp_nodup n list)
      have hp := gn_perm hn hP ((mem_grp hn hP).1 hp)
      have hq := gn_perm hn hP ((mem_grp hn hP).1 hq)
      exact thn_left pa.2 (by omega) (by omega) e
    have hperm := nodup_perm ((grpL n list).map fun q => thnI a q) (grpL n list) hinj (fun z hz => by
      obtain ⟨q, hq, rfl⟩ := List.mem_map.1 hz
      exact (mem_grp hn hP).2 (gn_mul hn hP ha ((mem_grp hn hP).1 hq))) (by rw [List.length_map])
    obtain ⟨g, hg, e⟩ := List.mem_map.1 (hperm.mem_iff.1 hb)
    have hg := (mem_grp hn hP).1 hg
    have pg := gn_perm hn hP hg
    refine ⟨fun q => thnI q g, fun q hq e2 => ?_, fun q hq r hr e2 => ?_⟩
    · have hq := (mem_grp hn hP).1 hq
      have pq := gn_perm hn hP hq
      refine ⟨(mem_grp hn hP).2 (gn_mul hn hP hq hg), ?_⟩
      show el (thnI q g) x = el b x
      rw [← e, thn_el ⟨hx.1, by omega⟩, thn_el ⟨hx.1, by omega⟩]
      congr 1
    · have hq := gn_perm hn hP ((mem_grp hn hP).1 hq)
      have hr := gn_perm hn hP ((mem_grp hn hP).1 hr)
      exact thn_right pg.2 hq.2 hr.2 (by omega) (by omega) e2)
    (e := unitI n) ((mem_grp hn hP).2 .unit)
  refine ⟨((grpL n list).filter fun a => decide (el a x = el (unitI n) x)).length, ?_⟩
  unfold grpN
  rw [← Int.natCast_mul]
  exact congrArg Int.ofNat this
end
def labL (l : List Int) (k i : Int) : List Int := (ran i id).filter fun x => decide (el l x = k)
theorem labL_succ {l : List Int} {k i : Int} (hi : 0 ≤ i) : ((labL l k (i + 1)).length : Int) = ((labL l k i).length : Int) + (if el l i = k then 1 else 0) := by
  unfold labL
  rw [ran_succ _ hi, List.filter_append, List.length_append]
  by_cases e : el l i = k
  · rw [if_pos e]; simp [e]
  · rw [if_neg e]; simp [e]
theorem labL_le {l : List Int} {k i : Int} (hi : 0 ≤ i) : ((labL l k i).length : Int) ≤ i := by
  have := List.length_filter_le (fun x => decide (el l x = k)) (ran i id)
  rw [length_ran] at this
  unfold labL; omega
section
variable {r : List (List Int)} (h : isRk r = true)
include h
theorem ror_eq : RorT r = orbI (r.length : Int) r := by unfold RorT; rw [if_pos h]
theorem ror_is : IsOrb (r.length : Int) r (RorT r) := by rw [ror_eq h]; exact orbI_is (by omega) (isRk_permsN h)
theorem ror_len : ((RorT r).length : Int) = (r.length : Int) := (ror_is h).1
theorem ror_val {x : Int} (hx : x ∈ RorT r) : 0 ≤ x ∧ x < (r.length : Int) := by
  obtain ⟨i, hi, rfl⟩ := mem_el hx
  have hl := ror_len h
  have g := (ror_is h).2.1 i hi.1 hi.2
  refine ⟨g.1, Int.not_le.1 fun hge => ?_⟩
  -- each smaller label stands at an earlier element
  have : (r.length : Int) ≤ i := by
    have h1 : (ran (r.length : Int) id).length ≤ ((RorT r).take i.toNat).length := nodup_len _ _ (nodup_ran _) fun c hc => by
      have hc := mem_ran.1 hc
      obtain ⟨j, hj, e⟩ := g.2 c hc.1 (by omega)
      rw [← e]
      have hj2 : j.toNat < ((RorT r).take i.toNat).length := by rw [List.length_take]; omega
      have e3 : el (RorT r) j = ((RorT r).take i.toNat)[j.toNat] := by
        unfold el
        rw [List.getD_eq_getElem?_getD, List.getElem?_eq_getElem (by omega)]
        simp
      rw [e3]; exact List.getElem_mem _
    rw [length_ran, List.length_take] at h1
    omega
  omega
theorem ror_most : (RcoB r == decide (mostI (RorT r) = 1)) = true := by
  have hn := isTab_len (isRk_tab h)
  have hl := ror_len h
  have e : RcoB r = decide (mostI (RorT r) = 1) := by
    unfold RcoB
    rw [h, Bool.true_and, Bool.eq_iff_iff, dec_iff, decide_eq_true_eq]
    unfold OneOrb
    rw [← ror_eq h]
    constructor
    · intro g
      have h1 : mostI (RorT r) ≤ 1 := most_le (by omega) fun x hx => by
        obtain ⟨i, hi, rfl⟩ := mem_el hx
        rw [g i hi.1 (by omega)]; omega
      have h2 := most_lt (el_mem (l := RorT r) (i := 0) ⟨by omega, by omega⟩)
      rw [g 0 (by omega) (by omega)] at h2
      omega
    · intro g i i0 i1
      have h1 := most_lt (el_mem (l := RorT r) (i := i) ⟨i0, by omega⟩)
      have h2 := ((ror_is h).2.1 i i0 (by omega)).1
      omega
  rw [e]; simp
theorem lat_facts (hl : (trnT r).all isPerm = true) : RcoB r = true ∧ r.Nodup := by
  have hn := isTab_len (isRk_tab h)
  have ht : ((trnT r).length : Int) = (r.length : Int) := len_tab (by omega)
  have col : ∀ {y x : Int}, (0 ≤ y ∧ y < (r.length : Int)) → (0 ≤ x ∧ x < (r.length : Int)) → el (el (trnT r) y) x = el (el r x) y := fun hy hx => el_tab hy hx
  have cl : ∀ {y : Int}, (0 ≤ y ∧ y < (r.length : Int)) → ((el (trnT r) y).length : Int) = (r.length : Int) := fun {y} hy => by
    unfold trnT tab; rw [el_ran hy]; simp
  have cp : ∀ {y : Int}, (0 ≤ y ∧ y < (r.length : Int)) → isPerm (el (trnT r) y) = true := fun hy => all_perm_el hl ⟨hy.1, by omega⟩
  have h0 : (0 : Int) ≤ 0 ∧ (0 : Int) < (r.length : Int) := ⟨by omega, by omega⟩
  constructor
  · unfold RcoB
    rw [h, Bool.true_and, dec_iff]
    unfold OneOrb
    rw [← ror_eq h]
    intro i i0 i1
    have hL := ror_is h
    have e0 : el (RorT r) 0 = 0 := by
      have g := hL.2.1 0 (by omega) (by have := ror_len h; omega)
      refine Classical.byContradiction fun k => ?_
      obtain ⟨j, hj, _⟩ := g.2 0 (by omega) (by omega)
      omega
    rw [← e0]
    refine ((hL.2.2 0 i h0 ⟨i0, i1⟩).2 ?_).symm
    obtain ⟨x, hx, e⟩ := isPerm_surj (cp h0) (x := i) ⟨i0, by rw [cl h0]; exact i1⟩
    rw [cl h0] at hx
    rw [col h0 hx] at e
    rw [← e]
    exact .step .base (el_mem hx)
  · refine nodup_el.2 fun i j i0 ij j1 e => ?_
    have e2 : el (el (trnT r) 0) i = el (el (trnT r) 0) j := by rw [col h0 ⟨i0, by omega⟩, col h0 ⟨by omega, j1⟩, e]
    have := isPerm_inj (cp h0) ⟨i0, by rw [cl h0]; omega⟩ ⟨by omega, by rw [cl h0]; exact j1⟩ e2
    omega
theorem lab_div {k : Int} (hk : 0 ≤ k ∧ k < mostI (RorT r)) : ¬ ((labL (RorT r) k (r.length : Int)).length : Int) = 0 ∧ grpN (r.length : Int) r % ((labL (RorT r) k (r.length : Int)).length : Int) = 0 := by
  have hn := isTab_len (isRk_tab h)
  have hL := ror_is h
  have hl := ror_len h
  obtain ⟨x, hx, e⟩ := can_used hL.2.1 hk
  rw [hl] at hx
  have hmem : ∀ y, y ∈ labL (RorT r) k (r.length : Int) ↔ Rch r x y := fun y => by
    unfold labL
    rw [List.mem_filter, decide_eq_true_eq]
    constructor
    · rintro ⟨hy, e2⟩
      exact (hL.2.2 x y hx (mem_ran.1 hy)).1 (by rw [e, e2])
    · intro hr
      have hy := rch_in (isRk_permsN h) hx hr
      exact ⟨mem_ran.2 hy, by rw [← (hL.2.2 x y hx hy).2 hr, e]⟩
  obtain ⟨c, hc⟩ := orb_div hn (isRk_permsN h) hx (X := labL (RorT r) k (r.length : Int)) ((nodup_ran _).filter _) hmem
  refine ⟨fun h0 => ?_, by rw [hc]; exact Int.mul_emod_right _ _⟩
  have : x ∈ labL (RorT r) k (r.length : Int) := (hmem x).2 .base
  have := List.length_pos_of_mem this
  omega
end

end
section
section
variable {r s b : List (List Int)} (hr : isTab r = true) (hs : isTab s = true) (hb : isTab b = true)
include hs hb
omit hs in
include hr
end
section
variable {r : List (List Int)} (ht : isTab r = true)
include ht
end

end
end Go.Proofs.Ytggeeemecgmhiaa
