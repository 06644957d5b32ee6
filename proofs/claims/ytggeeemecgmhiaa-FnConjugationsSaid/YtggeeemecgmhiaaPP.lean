/- Plain definitions and what holds of them, all in one; no condition. -/
import Derived.Test.YtggeeemecgmhiaaWe
import Derived.Lib.SlicesCompact
import Derived.Lib.Join
import Derived.Test.YtggeeemecgmhiaaWc
namespace Go.Proofs.Ytggeeemecgmhiaa
section
theorem el_se_same {α : Type} [Inhabited α] {l : List α} {i : Int} {v : α} (h : 0 ≤ i ∧ i < (l.length : Int)) : el (se l i v) i = v := by
  have : i.toNat < l.length := by omega
  simp [el, se, List.getD_eq_getElem?_getD, this]
theorem el_se_ne {α : Type} [Inhabited α] {l : List α} {i j : Int} {v : α} (hi : 0 ≤ i) (hj : 0 ≤ j) (h : i ≠ j) : el (se l i v) j = el l j := by
  have : i.toNat ≠ j.toNat := by omega
  simp [el, se, List.getD_eq_getElem?_getD, this]
theorem ext_el {α : Type} [Inhabited α] {a b : List α} (hl : a.length = b.length) (h : ∀ i : Int, 0 ≤ i → i < (a.length : Int) → el a i = el b i) : a = b := by
  apply List.ext_getElem hl
  intro n h1 h2
  have := h n (by omega) (by omega)
  simpa [el, List.getD_eq_getElem?_getD, List.getElem?_eq_getElem h1, List.getElem?_eq_getElem h2] using this
theorem el_mem {α : Type} [Inhabited α] {l : List α} {i : Int} (h : 0 ≤ i ∧ i < (l.length : Int)) : el l i ∈ l := by
  have := el_get h
  exact List.mem_of_getElem? this
theorem mem_el {α : Type} [Inhabited α] {l : List α} {x : α} (h : x ∈ l) : ∃ i : Int, (0 ≤ i ∧ i < (l.length : Int)) ∧ el l i = x := by
  obtain ⟨n, hn, rfl⟩ := List.getElem_of_mem h
  exact ⟨n, ⟨by omega, by omega⟩, by simp [el, List.getD_eq_getElem?_getD, List.getElem?_eq_getElem hn]⟩
theorem el_map {α β : Type} [Inhabited α] [Inhabited β] {f : α → β} {l : List α} {i : Int} (h : 0 ≤ i ∧ i < (l.length : Int)) : el (l.map f) i = f (el l i) := by
  have := el_get h
  simp only [el, List.getD_eq_getElem?_getD, List.getElem?_map] at this ⊢
  rw [this]; rfl
theorem el_append_l {α : Type} [Inhabited α] {a b : List α} {i : Int} (h : 0 ≤ i ∧ i < (a.length : Int)) : el (a ++ b) i = el a i := by
  have : i.toNat < a.length := by omega
  simp [el, List.getD_eq_getElem?_getD, List.getElem?_append_left this]
theorem el_append_r {α : Type} [Inhabited α] {a b : List α} {i : Int} (h : (a.length : Int) ≤ i) : el (a ++ b) i = el b (i - (a.length : Int)) := by
  have h1 : a.length ≤ i.toNat := by omega
  have h2 : (i - (a.length : Int)).toNat = i.toNat - a.length := by omega
  unfold el
  rw [h2, List.getD_eq_getElem?_getD, List.getD_eq_getElem?_getD, List.getElem?_append_right h1]
theorem el_append_last {α : Type} [Inhabited α] {a : List α} {x : α} {i : Int} (h : i = (a.length : Int)) : el (a ++ [x]) i = x := by
  subst h; rw [el_append_r (by omega)]; simp [el]
theorem el_ran {α : Type} [Inhabited α] {n i : Int} {f : Int → α} (h : 0 ≤ i ∧ i < n) : el (ran n f) i = f i := by
  have h2 := get_ran f (i := i.toNat) (by omega : ((i.toNat : Nat) : Int) < n)
  have h3 : ((i.toNat : Nat) : Int) = i := by omega
  rw [h3] at h2
  simp [el, List.getD_eq_getElem?_getD, h2]
theorem el_rep {α : Type} [Inhabited α] {n : Nat} {v : α} {i : Int} (h : 0 ≤ i ∧ i < (n : Int)) : el (List.replicate n v) i = v := by
  have : i.toNat < n := by omega
  simp [el, List.getD_eq_getElem?_getD, this]
theorem el_sl {α : Type} [Inhabited α] {l : List α} {a b i : Int} (ha : 0 ≤ a) (hi : 0 ≤ i) (h : a + i < b) : el (sl l a b) i = el l (a + i) := by
  have h1 : a.toNat + i.toNat < b.toNat := by omega
  have h2 : (a + i).toNat = a.toNat + i.toNat := by omega
  simp [el, sl, List.getD_eq_getElem?_getD, List.getElem?_drop, h1, h2]
theorem length_sl {α : Type} {l : List α} {a b : Int} (h : 0 ≤ a ∧ a ≤ b ∧ b ≤ (l.length : Int)) : ((sl l a b).length : Int) = b - a := by
  simp [sl]; omega
theorem eq_ran {α : Type} [Inhabited α] {n : Int} {f : Int → α} {l : List α} (hl : l.length = n.toNat) (h : ∀ i, 0 ≤ i → i < n → el l i = f i) : l = ran n f :=
  ext_el (by simp [hl]) fun i h0 h1 => by rw [el_ran ⟨h0, by omega⟩]; exact h i h0 (by omega)
theorem all_el {α : Type} [Inhabited α] {l : List α} {p : α → Bool} : l.all p = true ↔ ∀ i : Int, 0 ≤ i → i < (l.length : Int) → p (el l i) = true := by
  rw [List.all_eq_true]
  exact ⟨fun h i h0 h1 => h _ (el_mem ⟨h0, h1⟩), fun h x hx => by obtain ⟨i, hi, rfl⟩ := mem_el hx; exact h i hi.1 hi.2⟩
theorem any_el {α : Type} [Inhabited α] {l : List α} {p : α → Bool} : l.any p = true ↔ ∃ i : Int, (0 ≤ i ∧ i < (l.length : Int)) ∧ p (el l i) = true := by
  rw [List.any_eq_true]
  exact ⟨fun ⟨x, hx, h⟩ => by obtain ⟨i, hi, rfl⟩ := mem_el hx; exact ⟨i, hi, h⟩, fun ⟨i, hi, h⟩ => ⟨_, el_mem hi, h⟩⟩
theorem nodup_el {α : Type} [Inhabited α] {l : List α} : l.Nodup ↔ ∀ i j : Int, 0 ≤ i → i < j → j < (l.length : Int) → el l i ≠ el l j := by
  unfold List.Nodup
  rw [List.pairwise_iff_getElem]
  constructor
  · intro h i j h0 h1 h2
    have e1 := el_get (l := l) (i := i) ⟨h0, by omega⟩
    have e2 := el_get (l := l) (i := j) ⟨by omega, h2⟩
    rw [List.getElem?_eq_getElem (by omega), Option.some.injEq] at e1 e2
    rw [← e1, ← e2]
    exact h _ _ _ _ (by omega)
  · intro h i j hi hj hij
    have := h i j (by omega) (by omega) (by omega)
    have e1 := el_get (l := l) (i := i) ⟨by omega, by omega⟩
    have e2 := el_get (l := l) (i := j) ⟨by omega, by omega⟩
    simp only [Int.toNat_natCast] at e1 e2
    rw [List.getElem?_eq_getElem (by omega), Option.some.injEq] at e1 e2
    rw [e1, e2]; exact this
theorem se_app {α : Type} {a b : List α} {x v : α} {i : Int} (h : i = (a.length : Int)) : se (a ++ x :: b) i v = a ++ v :: b := by
  subst h; simp [se]

@[reducible] def small {α : Type} (l : List α) : Prop := (l.length : Int) ≤ 1000000000
@[reducible] def small2 {α : Type} (t : List (List α)) : Prop := small t ∧ ∀ r ∈ t, small r
@[reducible] def InS (n : Int) : Prop := -1 ≤ n ∧ n ≤ 1000000000
@[reducible] def huge2 (t : List (List Int)) : Prop := t.length ≤ 9223372036854775807 ∧ ∀ r ∈ t, r.length ≤ 9223372036854775807
@[reducible] def okK (k : Int) : Prop := 0 ≤ k ∧ k ≤ 1000000000000
@[reducible] def okKT (k : Int) (t : List (List Int)) : Prop := 0 ≤ k ∧ k + tot t ≤ 1000000000000
def isPerm (p : List Int) : Bool := decide (p.Nodup ∧ ∀ x ∈ p, 0 ≤ x ∧ x < (p.length : Int))
def mkI : Int → List Int → List Int
  | _, [] => []
  | k, _ :: l => k :: mkI (k + 1) l
def mkII : Int → List (List Int) → List (List Int)
  | _, [] => []
  | k, r :: t => mkI k r :: mkII (k + (r.length : Int)) t
def idxF {α : Type} (t : List α) (f : α → Bool) : Int := if t.any f then (t.findIdx f : Int) else -1
def badRow (n : Int) (row : List Int) : Bool := !(decide ((row.length : Int) = n) && row.all (fun x => decide (0 ≤ x) && decide (x ≤ n - 1)))
def isTab (t : List (List Int)) : Bool := decide (1 ≤ (t.length : Int)) && decide ((t.length : Int) ≤ 12) && !t.any (badRow (t.length : Int))
def diag (t : List (List Int)) : List Int := ran (t.length : Int) fun x => el (el t x) x
def first3 (n : Int) (f : Int → Int → Int → Bool) : List Int :=
  match (ran n id).findSome? (fun x => (ran n id).findSome? fun y => (ran n id).findSome? fun z => if f x y z then some [x, y, z] else none) with
  | some l => l
  | none => []

theorem isTab_len {t : List (List Int)} (h : isTab t = true) : 1 ≤ (t.length : Int) ∧ (t.length : Int) ≤ 12 := by
  simp only [isTab, Bool.and_eq_true, decide_eq_true_eq] at h; exact h.1
theorem isTab_row {t : List (List Int)} (h : isTab t = true) {i : Int} (hi : 0 ≤ i ∧ i < (t.length : Int)) : ((el t i).length : Int) = (t.length : Int) ∧ ∀ j, 0 ≤ j → j < (t.length : Int) → 0 ≤ el (el t i) j ∧ el (el t i) j < (t.length : Int) := by
  simp only [isTab, Bool.and_eq_true, Bool.not_eq_true'] at h
  have h1 := h.2
  rw [List.any_eq_false] at h1
  have h2 := h1 _ (el_mem hi)
  simp only [badRow, Bool.not_eq_true', Bool.and_eq_true, decide_eq_true_eq, Bool.and_eq_false_iff, not_or, Bool.not_eq_false, all_el] at h2
  refine ⟨h2.1, fun j h0 h3 => ?_⟩
  have := h2.2 j h0 (by omega)
  omega
theorem isTab_mk {t : List (List Int)} (h1 : 1 ≤ (t.length : Int) ∧ (t.length : Int) ≤ 12) (h : ∀ i, 0 ≤ i → i < (t.length : Int) → ((el t i).length : Int) = (t.length : Int) ∧ ∀ j, 0 ≤ j → j < (t.length : Int) → 0 ≤ el (el t i) j ∧ el (el t i) j < (t.length : Int)) : isTab t = true := by
  simp only [isTab, Bool.and_eq_true, decide_eq_true_eq, Bool.not_eq_true', List.any_eq_false]
  refine ⟨h1, fun r hr => ?_⟩
  obtain ⟨i, hi, rfl⟩ := mem_el hr
  obtain ⟨h2, h3⟩ := h i hi.1 hi.2
  simp only [badRow, Bool.not_eq_true', Bool.and_eq_true, decide_eq_true_eq, Bool.and_eq_false_iff, not_or, Bool.not_eq_false, all_el]
  exact ⟨h2, fun j h0 h4 => by have := h3 j h0 (by omega); omega⟩
@[reducible] def Upto (i : Int) (P : Int → Prop) : Prop := ∀ j, 0 ≤ j → j < i → P j
theorem upto0 {P : Int → Prop} : Upto 0 P := fun j _ _ => by omega
theorem upto1 {P : Int → Prop} {i : Int} (h : Upto i P) (hi : P i) : Upto (i + 1) P := fun j h0 h1 => by
  by_cases e : j = i
  · subst e; exact hi
  · exact h j h0 (by omega)
theorem all_t {α : Type} [Inhabited α] {l : List α} {p : α → Bool} (h : Upto (l.length : Int) fun j => p (el l j) = true) : l.all p = true := all_el.2 h
theorem all_f {α : Type} [Inhabited α] {l : List α} {p : α → Bool} {i : Int} (hi : 0 ≤ i ∧ i < (l.length : Int)) (h : p (el l i) = false) : l.all p = false := by
  rw [Bool.eq_false_iff]
  intro h2
  rw [all_el.1 h2 i hi.1 hi.2] at h; cases h
theorem any_f {α : Type} [Inhabited α] {l : List α} {p : α → Bool} (h : Upto (l.length : Int) fun j => p (el l j) = false) : l.any p = false := by
  rw [Bool.eq_false_iff]
  intro h2
  obtain ⟨i, hi, h3⟩ := any_el.1 h2
  rw [h i hi.1 hi.2] at h3; cases h3
theorem any_t {α : Type} [Inhabited α] {l : List α} {p : α → Bool} {i : Int} (hi : 0 ≤ i ∧ i < (l.length : Int)) (h : p (el l i) = true) : l.any p = true := any_el.2 ⟨i, hi, h⟩
theorem idxF_found {α : Type} [Inhabited α] {t : List α} {f : α → Bool} {i : Int} (hi : 0 ≤ i ∧ i < (t.length : Int)) (h : Upto i fun j => f (el t j) = false) (h1 : f (el t i) = true) : idxF t f = i := by
  unfold idxF
  rw [if_pos (any_t hi h1)]
  have : t.findIdx f = i.toNat := by
    rw [List.findIdx_eq (by omega)]
    refine ⟨?_, fun k hk => ?_⟩
    · have := el_get hi
      rw [List.getElem?_eq_getElem (by omega), Option.some.injEq] at this
      rw [this]; exact h1
    · have e := el_get (l := t) (i := (k : Int)) ⟨by omega, by omega⟩
      simp only [Int.toNat_natCast] at e
      rw [List.getElem?_eq_getElem (by omega), Option.some.injEq] at e
      rw [e]; exact h k (by omega) (by omega)
  omega
theorem idxF_none {α : Type} [Inhabited α] {t : List α} {f : α → Bool} (h : Upto (t.length : Int) fun j => f (el t j) = false) : idxF t f = -1 := by
  unfold idxF
  rw [any_f h]; rfl
theorem idxF_nonneg {α : Type} {t : List α} {f : α → Bool} : decide (0 ≤ idxF t f) = t.any f := by
  unfold idxF
  cases h : t.any f <;> simp
theorem fill1 {α : Type} [Inhabited α] {o : List α} {f : Int → α} {i : Int} {v : α} (hi : 0 ≤ i ∧ i < (o.length : Int)) (h : Upto i fun j => el o j = f j) (hv : v = f i) : Upto (i + 1) fun j => el (se o i v) j = f j :=
  upto1 (fun j h0 h1 => by show el (se o i v) j = f j; rw [el_se_ne hi.1 h0 (by omega)]; exact h j h0 h1) (by show el (se o i v) i = f i; rw [el_se_same hi]; exact hv)
theorem app1 {α : Type} [Inhabited α] {o : List α} {f : Int → α} {i : Int} {v : α} (hi : i = (o.length : Int)) (h : Upto i fun j => el o j = f j) (hv : v = f i) : Upto (i + 1) fun j => el (o ++ [v]) j = f j :=
  upto1 (fun j h0 h1 => by show el (o ++ [v]) j = f j; rw [el_append_l ⟨h0, by omega⟩]; exact h j h0 h1) (by show el (o ++ [v]) i = f i; rw [el_append_last hi]; exact hv)
@[simp] theorem length_mkI : ∀ (k : Int) (l : List Int), (mkI k l).length = l.length
  | _, [] => rfl
  | k, _ :: l => by simp [mkI, length_mkI (k + 1) l]
@[simp] theorem length_mkII : ∀ (k : Int) (t : List (List Int)), (mkII k t).length = t.length
  | _, [] => rfl
  | k, r :: t => by simp [mkII, length_mkII _ t]
theorem el_cons_0 {α : Type} [Inhabited α] {x : α} {l : List α} : el (x :: l) 0 = x := by simp [el]
theorem el_cons_s {α : Type} [Inhabited α] {x : α} {l : List α} {i : Int} (h : 0 < i) : el (x :: l) i = el l (i - 1) := by
  have : i.toNat = (i - 1).toNat + 1 := by omega
  unfold el; rw [this]; rfl
end
section
def idxI (l : List Int) (n : Int) : Int := idxF l (fun x => x == n)
def permB (p : List Int) : Bool := decide (1 ≤ (p.length : Int)) && decide ((p.length : Int) ≤ 12) && isPerm p
theorem nodup_perm {α : Type} [DecidableEq α] : ∀ (l p : List α), l.Nodup → (∀ x ∈ l, x ∈ p) → l.length = p.length → p.Perm l
  | [], p, _, _, h => by
    have : p = [] := List.eq_nil_of_length_eq_zero h.symm
    subst this; exact List.Perm.refl _
  | a :: l, p, hn, hs, h => by
    have ha := hs a List.mem_cons_self
    have hn' := List.nodup_cons.1 hn
    have ih := nodup_perm l (p.erase a) hn'.2 (fun x hx => by
      have hne : x ≠ a := fun e => hn'.1 (e ▸ hx)
      exact (List.mem_erase_of_ne hne).2 (hs x (List.mem_cons_of_mem _ hx))) (by rw [List.length_erase_of_mem ha]; simp at h; omega)
    exact (List.perm_cons_erase ha).trans (ih.cons a)
theorem mem_ran {n x : Int} : x ∈ ran n id ↔ 0 ≤ x ∧ x < n := by
  unfold ran
  simp only [List.mem_map, List.mem_range, id]
  exact ⟨fun ⟨k, hk, e⟩ => by omega, fun h => ⟨x.toNat, by omega, by omega⟩⟩
theorem nodup_ran (n : Int) : (ran n id).Nodup := nodup_el.2 fun i j h0 h1 h2 => by
  simp at h2
  rw [el_ran ⟨h0, by omega⟩, el_ran ⟨by omega, by omega⟩]; simp [id]; omega
theorem isPerm_iff {p : List Int} : isPerm p = true ↔ p.Nodup ∧ ∀ x ∈ p, 0 ≤ x ∧ x < (p.length : Int) := by simp [isPerm]
theorem isPerm_of_all {p : List Int} (h : ∀ x, 0 ≤ x → x < (p.length : Int) → x ∈ p) : isPerm p = true := by
  have := nodup_perm (ran (p.length : Int) id) p (nodup_ran _) (fun x hx => by have := mem_ran.1 hx; exact h x this.1 this.2) (by simp)
  exact isPerm_iff.2 ⟨this.nodup_iff.2 (nodup_ran _), fun x hx => mem_ran.1 (this.mem_iff.1 hx)⟩
theorem isPerm_all {p : List Int} (h : isPerm p = true) {x : Int} (hx : 0 ≤ x ∧ x < (p.length : Int)) : x ∈ p := by
  obtain ⟨h1, h2⟩ := isPerm_iff.1 h
  have := nodup_perm p (ran (p.length : Int) id) h1 (fun x hx => mem_ran.2 (h2 x hx)) (by simp)
  exact this.mem_iff.1 (mem_ran.2 hx)
theorem idxI_has {l : List Int} {n : Int} : decide (0 ≤ idxI l n) = l.contains n := by
  unfold idxI
  rw [idxF_nonneg, Bool.eq_iff_iff, List.contains_iff_mem, List.any_eq_true]
  simp
theorem fs_none {α : Type} {n : Int} {g : Int → Option α} (h : ∀ i, 0 ≤ i → i < n → g i = none) : (ran n id).findSome? g = none := by
  rw [List.findSome?_eq_none_iff]
  intro x hx
  have := mem_ran.1 hx
  exact h x this.1 this.2
theorem fs_some {α : Type} {n i : Int} {g : Int → Option α} {v : α} (hi : 0 ≤ i ∧ i < n) (h : g i = some v) (h0 : Upto i fun j => g j = none) : (ran n id).findSome? g = some v := by
  have e : ran n id = ran i id ++ (ran n id).drop i.toNat := by
    rw [← List.take_append_drop i.toNat (ran n id)]
    congr 1
    · refine (eq_ran (f := id) (by simp; omega) fun j h1 h2 => ?_)
      have := el_sl (l := ran n id) (a := 0) (b := i) (i := j) (by omega) h1 (by omega)
      simp only [sl, Int.toNat_zero, List.drop_zero, Int.zero_add] at this
      rw [this, el_ran ⟨h1, by omega⟩]
    · simp
  have e2 : (ran n id).drop i.toNat = i :: (ran n id).drop (i.toNat + 1) := by
    have := el_get (l := ran n id) (i := i) ⟨hi.1, by simp; omega⟩
    rw [el_ran hi] at this
    rw [List.drop_eq_getElem_cons (by simp; omega)]
    rw [List.getElem?_eq_getElem (by simp; omega), Option.some.injEq] at this
    rw [this]; rfl
  rw [e, List.findSome?_append, fs_none h0, e2, List.findSome?_cons, h]; rfl
theorem first3_found {n : Int} {f : Int → Int → Int → Bool} {x y z : Int} (hx : 0 ≤ x ∧ x < n) (hy : 0 ≤ y ∧ y < n) (hz : 0 ≤ z ∧ z < n) (h : f x y z = true)
    (h1 : Upto x fun a => ∀ b, 0 ≤ b → b < n → ∀ c, 0 ≤ c → c < n → f a b c = false) (h2 : Upto y fun b => ∀ c, 0 ≤ c → c < n → f x b c = false) (h3 : Upto z fun c => f x y c = false) : first3 n f = [x, y, z] := by
  unfold first3
  rw [fs_some hx (v := [x, y, z]) (fs_some hy (fs_some hz (by simp [h]) fun c a b => by simp [h3 c a b]) fun b a c => fs_none fun d e g => by simp [h2 b a c d e g]) fun a b c => fs_none fun d e g => fs_none fun k l m => by simp [h1 a b c d e g k l m]]
theorem first3_none {n : Int} {f : Int → Int → Int → Bool} (h : ∀ a, 0 ≤ a → a < n → ∀ b, 0 ≤ b → b < n → ∀ c, 0 ≤ c → c < n → f a b c = false) : first3 n f = [] := by
  unfold first3
  rw [fs_none fun a b c => fs_none fun d e g => fs_none fun k l m => by simp [h a b c d e g k l m]]
def cycB (t : List (List Int)) (x y z : Int) : Bool := !decide (el (el t (el (el t x) y)) (el (el t x) z) = el (el t (el (el t y) x)) (el (el t y) z))
def cycF (t : List (List Int)) : List Int := first3 (t.length : Int) (cycB t)
@[reducible] def inR (n : Int) : Prop := 1 ≤ n ∧ n ≤ 12
theorem permB_len {p : List Int} (h : permB p = true) : 1 ≤ (p.length : Int) ∧ (p.length : Int) ≤ 12 := by
  simp only [permB, Bool.and_eq_true, decide_eq_true_eq] at h; exact h.1
theorem permB_isPerm {p : List Int} (h : permB p = true) : isPerm p = true := by
  simp only [permB, Bool.and_eq_true] at h; exact h.2
end
section
def unitI (n : Int) : List Int := ran n id
def backI (p : List Int) : List Int := ran (p.length : Int) fun x => idxI p x
def incB (l : List Int) : Bool := (ran ((l.length : Int) - 1) id).all fun i => decide (el l i < el l (i + 1))
def rackB (t : List (List Int)) (x y z : Int) : Bool := !decide (el (el t x) (el (el t y) z) = el (el t (el (el t x) y)) (el (el t x) z))
def rackF (t : List (List Int)) : List Int := first3 (t.length : Int) (rackB t)
def isRk (t : List (List Int)) : Bool := isTab t && t.all isPerm && (rackF t).isEmpty
def isCyc (t : List (List Int)) : Bool := isTab t && t.all isPerm && isPerm (diag t) && (cycF t).isEmpty
def rkE (t : List (List Int)) : Int := if isRk t then 0 else 1
theorem isRk_tab {t : List (List Int)} (h : isRk t = true) : isTab t = true := by simp only [isRk, Bool.and_eq_true] at h; exact h.1.1
theorem isPerm_el {p : List Int} (h : isPerm p = true) {i : Int} (hi : 0 ≤ i ∧ i < (p.length : Int)) : 0 ≤ el p i ∧ el p i < (p.length : Int) := (isPerm_iff.1 h).2 _ (el_mem hi)
theorem isPerm_inj {p : List Int} (h : isPerm p = true) {i j : Int} (hi : 0 ≤ i ∧ i < (p.length : Int)) (hj : 0 ≤ j ∧ j < (p.length : Int)) (e : el p i = el p j) : i = j := by
  have hn := nodup_el.1 (isPerm_iff.1 h).1
  rcases Int.lt_trichotomy i j with h1 | h1 | h1
  · exact absurd e (hn i j hi.1 h1 hj.2)
  · exact h1
  · exact absurd e.symm (hn j i hj.1 h1 hi.2)
theorem isPerm_surj {p : List Int} (h : isPerm p = true) {x : Int} (hx : 0 ≤ x ∧ x < (p.length : Int)) : ∃ i, (0 ≤ i ∧ i < (p.length : Int)) ∧ el p i = x := mem_el (isPerm_all h hx)
theorem idxI_el {p : List Int} (h : isPerm p = true) {i : Int} (hi : 0 ≤ i ∧ i < (p.length : Int)) : idxI p (el p i) = i :=
  idxF_found hi (fun j h0 h1 => by
    show (el p j == el p i) = false
    rw [beq_eq_false_iff_ne]
    intro e
    have := isPerm_inj h ⟨h0, by omega⟩ hi e
    omega) (by simp)
theorem idxI_spec {l : List Int} {x : Int} (h : x ∈ l) : (0 ≤ idxI l x ∧ idxI l x < (l.length : Int)) ∧ el l (idxI l x) = x := by
  have hc : l.any (fun y => y == x) = true := by simp [h]
  have hlt : l.findIdx (fun y => y == x) < l.length := List.findIdx_lt_length_of_exists ⟨x, h, by simp⟩
  have e : idxI l x = (l.findIdx (fun y => y == x) : Int) := by unfold idxI idxF; rw [if_pos hc]
  rw [e]
  refine ⟨⟨by omega, by omega⟩, ?_⟩
  have := List.findIdx_getElem (w := hlt)
  simp only [beq_iff_eq] at this
  simp [el, List.getD_eq_getElem?_getD, List.getElem?_eq_getElem hlt, this]
@[simp] theorem length_backI (p : List Int) : (backI p).length = p.length := by simp [backI]
theorem el_backI {p : List Int} (h : isPerm p = true) {i : Int} (hi : 0 ≤ i ∧ i < (p.length : Int)) : el (backI p) (el p i) = i := by
  have := isPerm_el h hi
  rw [backI, el_ran this, idxI_el h hi]
theorem el_backI' {p : List Int} (h : isPerm p = true) {x : Int} (hx : 0 ≤ x ∧ x < (p.length : Int)) : (0 ≤ el (backI p) x ∧ el (backI p) x < (p.length : Int)) ∧ el p (el (backI p) x) = x := by
  rw [backI, el_ran hx]
  exact idxI_spec (isPerm_all h hx)
theorem backI_uniq {p q : List Int} (h : isPerm p = true) (hl : q.length = p.length) (hq : ∀ i, 0 ≤ i → i < (p.length : Int) → el q (el p i) = i) : q = backI p :=
  ext_el (by simp [hl]) fun x h0 h1 => by
    obtain ⟨i, hi, rfl⟩ := isPerm_surj h (x := x) ⟨h0, by omega⟩
    rw [hq i hi.1 hi.2, el_backI h hi]
theorem isPerm_backI {p : List Int} (h : isPerm p = true) : isPerm (backI p) = true := by
  refine isPerm_iff.2 ⟨nodup_el.2 fun i j h0 h1 h2 e => ?_, fun x hx => ?_⟩
  · simp at h2
    have a := (el_backI' h (x := i) ⟨h0, by omega⟩).2
    have b := (el_backI' h (x := j) ⟨by omega, by omega⟩).2
    rw [e] at a; omega
  · obtain ⟨i, hi, rfl⟩ := mem_el hx
    simp at hi ⊢
    exact (el_backI' h hi).1
@[simp] theorem length_unitI (n : Int) : (unitI n).length = n.toNat := by simp [unitI]
theorem el_unitI {n i : Int} (h : 0 ≤ i ∧ i < n) : el (unitI n) i = i := by simp [unitI, el_ran h]
theorem isPerm_unitI (n : Int) : isPerm (unitI n) = true := by
  refine isPerm_iff.2 ⟨nodup_ran n, fun x hx => ?_⟩
  have := mem_ran.1 hx
  simp; omega
theorem eq_unitI {l : List Int} {n : Int} (hl : (l.length : Int) = n) : l = unitI n ↔ ∀ i, 0 ≤ i → i < n → el l i = i :=
  ⟨fun h i h0 h1 => by rw [h, el_unitI ⟨h0, h1⟩], fun h => eq_ran (by omega) h⟩
theorem incB_iff {l : List Int} : incB l = true ↔ ∀ i, 0 ≤ i → i + 1 < (l.length : Int) → el l i < el l (i + 1) := by
  unfold incB
  rw [List.all_eq_true]
  constructor
  · intro h i h0 h1
    simpa using h i (mem_ran.2 ⟨h0, by omega⟩)
  · intro h x hx
    have := mem_ran.1 hx
    simpa using h x this.1 (by omega)
theorem inc_lt {l : List Int} (h : ∀ i, 0 ≤ i → i + 1 < (l.length : Int) → el l i < el l (i + 1)) : ∀ (d : Nat) (i : Int), 0 ≤ i → i + d < (l.length : Int) → el l i + d ≤ el l (i + d)
  | 0, i, _, _ => by simp
  | d + 1, i, h0, h1 => by
    have a := inc_lt h d i h0 (by omega)
    have b := h (i + d) (by omega) (by omega)
    have e : i + ((d + 1 : Nat) : Int) = i + d + 1 := by omega
    rw [e]; omega
theorem incB_unit {l : List Int} (h : ∀ i, 0 ≤ i → i < (l.length : Int) → 0 ≤ el l i ∧ el l i < (l.length : Int)) : incB l = decide (l = unitI (l.length : Int)) := by
  rw [Bool.eq_iff_iff, incB_iff, decide_eq_true_eq, eq_unitI rfl]
  constructor
  · intro hi i h0 h1
    have a := inc_lt hi i.toNat 0 (by omega) (by omega)
    have b := inc_lt hi ((l.length : Int) - 1 - i).toNat i h0 (by omega)
    have e1 : (0 : Int) + (i.toNat : Int) = i := by omega
    have e2 : i + (((l.length : Int) - 1 - i).toNat : Int) = (l.length : Int) - 1 := by omega
    rw [e1] at a
    rw [e2] at b
    have c := h 0 (by omega) (by omega)
    have d := h ((l.length : Int) - 1) (by omega) (by omega)
    omega
  · intro hi i h0 h1
    rw [hi i h0 (by omega), hi (i + 1) (by omega) h1]; omega
@[simp] theorem length_diag (t : List (List Int)) : (diag t).length = t.length := by simp [diag]
theorem el_diag {t : List (List Int)} {i : Int} (hi : 0 ≤ i ∧ i < (t.length : Int)) : el (diag t) i = el (el t i) i := by rw [diag, el_ran hi]
theorem rk_el {t : List (List Int)} (h : isTab t = true) {x y : Int} (hx : 0 ≤ x ∧ x < (t.length : Int)) (hy : 0 ≤ y ∧ y < (t.length : Int)) : 0 ≤ el (el t x) y ∧ el (el t x) y < (t.length : Int) := (isTab_row h hx).2 y hy.1 hy.2
theorem rk_len {t : List (List Int)} (h : isTab t = true) {x : Int} (hx : 0 ≤ x ∧ x < (t.length : Int)) : ((el t x).length : Int) = (t.length : Int) := (isTab_row h hx).1
theorem perm_of_inj {l : List Int} (h1 : ∀ i, 0 ≤ i → i < (l.length : Int) → 0 ≤ el l i ∧ el l i < (l.length : Int)) (h2 : ∀ i j, 0 ≤ i → i < (l.length : Int) → 0 ≤ j → j < (l.length : Int) → el l i = el l j → i = j) : isPerm l = true := by
  refine isPerm_iff.2 ⟨nodup_el.2 fun i j a b c e => ?_, fun x hx => ?_⟩
  · have := h2 i j a (by omega) (by omega) c e; omega
  · obtain ⟨i, hi, rfl⟩ := mem_el hx; exact h1 i hi.1 hi.2
end
section
noncomputable def dec (P : Prop) : Bool := @decide P (Classical.propDecidable P)
theorem dec_t {P : Prop} (h : P) : dec P = true := @decide_eq_true P (Classical.propDecidable P) h
theorem dec_f {P : Prop} (h : ¬ P) : dec P = false := @decide_eq_false P (Classical.propDecidable P) h
theorem dec_iff {P : Prop} : dec P = true ↔ P := @decide_eq_true_iff P (Classical.propDecidable P)
noncomputable def the {α : Type} [Inhabited α] (P : α → Prop) : α := Classical.epsilon P
theorem the_spec {α : Type} [Inhabited α] {P : α → Prop} {a : α} (h : P a) : P (the P) := Classical.epsilon_spec ⟨a, h⟩
end
section
def permsN (n : Int) (list : List (List Int)) : Prop := ∀ p ∈ list, (p.length : Int) = n ∧ isPerm p = true
theorem nodup_len {α : Type} [DecidableEq α] : ∀ (l p : List α), l.Nodup → (∀ x ∈ l, x ∈ p) → l.length ≤ p.length
  | [], p, _, _ => Nat.zero_le _
  | a :: l, p, hn, hs => by
    have ha := hs a List.mem_cons_self
    have hn' := List.nodup_cons.1 hn
    have ih := nodup_len l (p.erase a) hn'.2 (fun x hx => by
      have hne : x ≠ a := fun e => hn'.1 (e ▸ hx)
      exact (List.mem_erase_of_ne hne).2 (hs x (List.mem_cons_of_mem _ hx)))
    rw [List.length_erase_of_mem ha] at ih
    have := List.length_pos_of_mem ha
    simp; omega
theorem nodup_len_ran {l : List Int} {n : Int} (hn : 0 ≤ n) (h : l.Nodup) (hr : ∀ x ∈ l, 0 ≤ x ∧ x < n) : (l.length : Int) ≤ n := by
  have := nodup_len l (ran n id) h fun x hx => mem_ran.2 (hr x hx)
  simp at this; omega
end
section

end
section
theorem el_tab {n : Int} {f : Int → Int → Int} {x y : Int} (hx : 0 ≤ x ∧ x < n) (hy : 0 ≤ y ∧ y < n) : el (el (tab n f) x) y = f x y := by
  unfold tab; rw [el_ran hx, el_ran hy]
theorem len_tab {n : Int} {f : Int → Int → Int} (hn : 0 ≤ n) : ((tab n f).length : Int) = n := by simp; omega
theorem tab_rowlen {n : Int} {f : Int → Int → Int} {x : Int} (hx : 0 ≤ x ∧ x < n) : ((el (tab n f) x).length : Int) = n := by
  unfold tab; rw [el_ran hx]; simp; omega
theorem isTab_tab {n : Int} {f : Int → Int → Int} (hn : 1 ≤ n ∧ n ≤ 12) (h : ∀ x y, 0 ≤ x → x < n → 0 ≤ y → y < n → 0 ≤ f x y ∧ f x y < n) : isTab (tab n f) = true := by
  have hl : ((tab n f).length : Int) = n := len_tab (by omega)
  refine isTab_mk (by omega) fun i i0 i1 => ⟨by rw [tab_rowlen ⟨i0, by omega⟩, hl], fun j j0 j1 => ?_⟩
  rw [el_tab ⟨i0, by omega⟩ ⟨j0, by omega⟩, hl]
  exact h i j i0 (by omega) j0 (by omega)
theorem small2_tab' {n : Int} {f : Int → Int → Int} (h : n ≤ 1000) : small2 (tab n f) := ⟨by show ((tab n f).length : Int) ≤ 1000000000; simp; omega, fun r hr => by
  obtain ⟨i, hi, rfl⟩ := mem_el hr
  have hl : ((tab n f).length : Int) ≤ n ∨ n < 0 := by simp; omega
  simp only [length_tab] at hi
  have := tab_rowlen (n := n) (f := f) (x := i) ⟨hi.1, by omega⟩
  show ((el (tab n f) i).length : Int) ≤ 1000000000; omega⟩
def idxL (lists : List (List Int)) (list : List Int) : Int := idxF lists (fun own => decide (own = list))
def conjI (x y : List Int) : List Int := ((backI x).map (el y)).map (el x)
def cjD (x y : List Int) : Prop := small x ∧ isPerm x = true ∧ x.length = y.length ∧ isPerm y = true
def GoodL (list : List (List Int)) : Prop := 1 ≤ (list.length : Int) ∧ ∀ i, 0 ≤ i → i < (list.length : Int) → permB (el list i) = true ∧ ((el list i).length : Int) = ((el list 0).length : Int) ∧ ∀ j, 0 ≤ j → j < i → el list j ≠ el list i
def cjV (list : List (List Int)) (x y : Int) : Int := idxL list (conjI (el list x) (el list y))
def cjT (list : List (List Int)) : List (List Int) := tab (list.length : Int) (cjV list)
noncomputable def CjqE (list : List (List Int)) : Int := if dec (GoodL list) then (if (12 : Int) < (list.length : Int) then 3 else if isTab (cjT list) then 0 else 5) else 1
noncomputable def CjqT (list : List (List Int)) : List (List Int) := if CjqE list = 0 then cjT list else []
end
section
inductive Eqv (R : Int → Int → Prop) : Int → Int → Prop
  | refl (a : Int) : Eqv R a a
  | step {a b : Int} (h : R a b) : Eqv R a b
  | symm {a b : Int} (h : Eqv R a b) : Eqv R b a
  | trans {a b c : Int} (h : Eqv R a b) (k : Eqv R b c) : Eqv R a c
theorem Eqv.mono {R S : Int → Int → Prop} (h : ∀ a b, R a b → S a b) {a b : Int} (k : Eqv R a b) : Eqv S a b := by
  induction k with
  | refl a => exact .refl a
  | step k => exact .step (h _ _ k)
  | symm _ ih => exact .symm ih
  | trans _ _ ih1 ih2 => exact .trans ih1 ih2
def Lst (one two : List Int) (a b : Int) : Prop := ∃ j, (0 ≤ j ∧ j < (one.length : Int)) ∧ el one j = a ∧ el two j = b
theorem Lst.app {one two s1 s2 : List Int} {a b : Int} (hl : one.length = two.length) (h : Lst one two a b) : Lst (one ++ s1) (two ++ s2) a b := by
  obtain ⟨j, hj, e1, e2⟩ := h
  exact ⟨j, ⟨hj.1, by simp; omega⟩, by rw [el_append_l hj]; exact e1, by rw [el_append_l ⟨hj.1, by omega⟩]; exact e2⟩
end
section
def dgt (x : Int) : UInt8 := UInt8.ofNat (if x < 10 then 48 + x else 97 + x - 10).toNat
def digI (l : List Int) : List UInt8 := l.map dgt
@[simp] theorem digI_len (l : List Int) : (digI l).length = l.length := by simp [digI]
end
section

end
section
inductive Sc (t : List (List Int)) (l : List Int) : Int → Prop
  | base {a : Int} : a ∈ l → Sc t l a
  | step {a b : Int} : Sc t l a → Sc t l b → Sc t l (el (el t a) b)
theorem ran_lt (n : Int) : (ran n id).Pairwise (· < ·) := by
  unfold ran
  rw [List.pairwise_map]
  exact (List.pairwise_lt_range).imp fun h => by simp; omega
end
section
def bytes (l : List Int) : Prop := ∀ i, 0 ≤ i → i < (l.length : Int) → 0 ≤ el l i ∧ el l i ≤ 255
def okS (c : List Int) (a h : Int) : Prop := (small c ∧ bytes c) ∧ (0 ≤ a ∧ a ≤ (c.length : Int)) ∧ 0 ≤ h ∧ h ≤ 18446744073709551615
def nxP (n r : Int) : Prop := (n < 1 → r = 0) ∧ (¬ n < 1 → 0 ≤ r ∧ r < n)
theorem and_bd (x : Nat) : 0 ≤ ((x &&& (16777215 : Int).toNat : Nat) : Int) ∧ ((x &&& (16777215 : Int).toNat : Nat) : Int) ≤ 16777215 := by
  have : x &&& (16777215 : Int).toNat ≤ (16777215 : Int).toNat := Nat.and_le_right
  omega
theorem shr_bd {u : Int} (h : 0 ≤ u ∧ u ≤ 18446744073709551615) (k : Nat) : 0 ≤ u / (2 : Int) ^ k ∧ u / (2 : Int) ^ k ≤ 18446744073709551615 := by
  have a : 0 ≤ u / (2 : Int) ^ k := Int.ediv_nonneg h.1 (Int.pow_nonneg (by omega))
  have b : u / (2 : Int) ^ k ≤ u := Int.ediv_le_self _ h.1
  omega
end
section
def growF : Nat → Int → List Int → List (List Int)
  | 0, _, s => [s]
  | k + 1, n, s => (unitI n).flatMap fun x => if s.contains x then [] else growF k n (s ++ [x])
def growL (n : Int) (s : List Int) : List (List Int) := growF (n - (s.length : Int)).toNat n s
theorem growL_end {n : Int} {s : List Int} (h : (s.length : Int) = n) : growL n s = [s] := by
  unfold growL; rw [show (n - (s.length : Int)).toNat = 0 by omega]; rfl
def growT (n : Int) (s : List Int) (x : Int) : List (List Int) := (unitI x).flatMap fun x => if s.contains x then [] else growL n (s ++ [x])
theorem growL_step {n : Int} {s : List Int} (h : (s.length : Int) < n) : growL n s = growT n s n := by
  unfold growL growT
  obtain ⟨k, hk⟩ : ∃ k, (n - (s.length : Int)).toNat = k + 1 := ⟨(n - (s.length : Int)).toNat - 1, by omega⟩
  rw [hk]
  show ((unitI n).flatMap fun x => if s.contains x then [] else growF k n (s ++ [x])) = _
  congr 1; funext x
  unfold growL
  rw [show (n - ((s ++ [x]).length : Int)).toNat = k by simp; omega]
theorem growT_succ {n : Int} {s : List Int} {x : Int} (h : 0 ≤ x) : growT n s (x + 1) = growT n s x ++ (if s.contains x then [] else growL n (s ++ [x])) := by
  unfold growT unitI
  rw [ran_succ _ h]
  simp
theorem growT_zero {n : Int} {s : List Int} : growT n s 0 = [] := rfl
theorem growT_len {n : Int} {s : List Int} {x y : Int} (h : 0 ≤ x ∧ x ≤ y) : (growT n s x).length ≤ (growT n s y).length := by
  obtain ⟨k, rfl⟩ : ∃ k : Nat, y = x + k := ⟨(y - x).toNat, by omega⟩
  induction k with
  | zero => simp
  | succ k ih =>
    have := ih ⟨h.1, by omega⟩
    rw [show x + ((k + 1 : Nat) : Int) = (x + (k : Int)) + 1 by omega, growT_succ (by omega)]
    simp; omega
theorem growF_len (n : Int) : ∀ (k : Nat) (s : List Int), (growF k n s).length ≤ n.toNat ^ k
  | 0, s => by simp [growF]
  | k + 1, s => by
    have key : ∀ l : List Int, (l.flatMap fun x => if s.contains x then [] else growF k n (s ++ [x])).length ≤ l.length * n.toNat ^ k := by
      intro l
      induction l with
      | nil => simp
      | cons a l ih =>
        rw [List.flatMap_cons, List.length_append, List.length_cons, Nat.succ_mul]
        have h1 : (if s.contains a then ([] : List (List Int)) else growF k n (s ++ [a])).length ≤ n.toNat ^ k := by
          split
          · simp
          · exact growF_len n k _
        omega
    have := key (unitI n)
    rw [length_unitI] at this
    show ((unitI n).flatMap fun x => if s.contains x then [] else growF k n (s ++ [x])).length ≤ _
    rw [Nat.pow_succ, Nat.mul_comm]; exact this
theorem growL_len8 {n : Int} (h : 0 ≤ n ∧ n ≤ 8) : ((growL n []).length : Int) ≤ 16777216 := by
  have h1 := growF_len n (n - (([] : List Int).length : Int)).toNat []
  have h2 : n.toNat ^ (n - (([] : List Int).length : Int)).toNat ≤ 8 ^ 8 :=
    Nat.le_trans (Nat.pow_le_pow_left (show n.toNat ≤ 8 by omega) _) (Nat.pow_le_pow_right (by omega) (by simp; omega))
  have h3 : (8 : Nat) ^ 8 = 16777216 := by decide
  unfold growL
  omega
theorem mem_app {α : Type} {l : List α} {x : α} {P : α → Prop} (h : ∀ z ∈ l, P z) (hx : P x) : ∀ z ∈ l ++ [x], P z := fun z hz => by
  rcases List.mem_append.1 hz with h1 | h1
  · exact h z h1
  · rw [List.mem_singleton.1 h1]; exact hx
end
section
theorem isRk_mk {t : List (List Int)} (ht : isTab t = true) (hp : t.all isPerm = true) (h : ∀ x y z : Int, (0 ≤ x ∧ x < (t.length : Int)) → (0 ≤ y ∧ y < (t.length : Int)) → (0 ≤ z ∧ z < (t.length : Int)) → el (el t x) (el (el t y) z) = el (el t (el (el t x) y)) (el (el t x) z)) : isRk t = true := by
  have : rackF t = [] := first3_none fun a a0 a1 b b0 b1 c c0 c1 => by simp [rackB, h a b c ⟨a0, a1⟩ ⟨b0, b1⟩ ⟨c0, c1⟩]
  simp [isRk, ht, hp, this]
theorem all_perm_mk {t : List (List Int)} (ht : isTab t = true) (h : ∀ x y z : Int, (0 ≤ x ∧ x < (t.length : Int)) → (0 ≤ y ∧ y < (t.length : Int)) → (0 ≤ z ∧ z < (t.length : Int)) → el (el t x) y = el (el t x) z → y = z) : t.all isPerm = true :=
  all_el.2 fun i i0 i1 => by
    have hl := rk_len ht ⟨i0, i1⟩
    exact perm_of_inj (fun j a b => by have := rk_el ht ⟨i0, i1⟩ (y := j) ⟨a, by omega⟩; omega) fun j k a b c d e => h i j k ⟨i0, i1⟩ ⟨a, by omega⟩ ⟨c, by omega⟩ e
section
variable {a b : List (List Int)}
end
end
section
section
variable {t : List (List Int)} {p : List Int} {x y : Int} {o : List (List Int)}
end
section
variable {r : List (List Int)} (h : isRk r = true)
include h
end

end
section
/-! Least congruences. -/
section
variable {r : List (List Int)} (h : isRk r = true) {x y : Int} (hx : 0 ≤ x ∧ x < (r.length : Int)) (hy : 0 ≤ y ∧ y < (r.length : Int))
include h hx hy
end
/-! Least subracks. -/
section
variable {r : List (List Int)} (h : isRk r = true) {l : List Int} (hl : ∀ x ∈ l, 0 ≤ x ∧ x < (r.length : Int))
include h hl
end
end
section
theorem swap_perm {l : List Int} (h : isPerm l = true) {i j : Int} (hi : 0 ≤ i ∧ i < (l.length : Int)) (hj : 0 ≤ j ∧ j < (l.length : Int)) : isPerm (se (se l i (el l j)) j (el l i)) = true := by
  have ln : ((se (se l i (el l j)) j (el l i)).length : Int) = (l.length : Int) := by simp
  refine isPerm_of_all fun x x0 x1 => ?_
  obtain ⟨k, hk, rfl⟩ := isPerm_surj h (x := x) ⟨x0, by omega⟩
  by_cases e1 : k = i
  · subst e1
    have : el (se (se l k (el l j)) j (el l k)) j = el l k := el_se_same ⟨hj.1, by simp; omega⟩
    have hm := el_mem (l := se (se l k (el l j)) j (el l k)) (i := j) ⟨hj.1, by omega⟩; rw [this] at hm; exact hm
  · by_cases e2 : k = j
    · subst e2
      have : el (se (se l i (el l k)) k (el l i)) i = el l k := by rw [el_se_ne hk.1 hi.1 e1, el_se_same hi]
      have hm := el_mem (l := se (se l i (el l k)) k (el l i)) (i := i) ⟨hi.1, by omega⟩; rw [this] at hm; exact hm
    · have : el (se (se l i (el l j)) j (el l i)) k = el l k := by rw [el_se_ne hj.1 hk.1 (Ne.symm e2), el_se_ne hi.1 hk.1 (Ne.symm e1)]
      have hm := el_mem (l := se (se l i (el l j)) j (el l i)) (i := k) ⟨hk.1, by omega⟩; rw [this] at hm; exact hm
section
variable {c : List (List Int)} (h : isCyc c = true)
include h
end
end
section
def cmp1 (x y : Int) : Int := if x < y then -1 else if y < x then 1 else 0
def cmpG {α : Type} (f : α → α → Int) : List α → List α → Int
  | [], [] => 0
  | [], _ :: _ => -1
  | _ :: _, [] => 1
  | x :: xs, y :: ys => if f x y = 0 then cmpG f xs ys else f x y
theorem cmp1_zero {x y : Int} : cmp1 x y = 0 ↔ x = y := by unfold cmp1; split <;> (try split) <;> omega
theorem cmpG_run {α : Type} [Inhabited α] {f : α → α → Int} : ∀ (i : Nat) (a b : List α), (∀ j : Int, 0 ≤ j → j < (i : Int) → f (el a j) (el b j) = 0) → i ≤ a.length → i ≤ b.length → cmpG f a b = cmpG f (a.drop i) (b.drop i)
  | 0, _, _, _, _, _ => rfl
  | i + 1, [], _, _, h, _ => by simp at h
  | i + 1, _ :: _, [], _, _, h => by simp at h
  | i + 1, x :: xs, y :: ys, h, h1, h2 => by
    have h0 : f x y = 0 := h 0 (by omega) (by omega)
    show cmpG f (x :: xs) (y :: ys) = cmpG f (xs.drop i) (ys.drop i)
    rw [← cmpG_run i xs ys (fun j j0 j1 => by
      have := h (j + 1) (by omega) (by omega)
      simpa [el, show (j + 1).toNat = j.toNat + 1 by omega] using this) (by simpa using h1) (by simpa using h2)]
    simp [cmpG, h0]
theorem drop_el {α : Type} [Inhabited α] {l : List α} {i : Int} (h : 0 ≤ i ∧ i < (l.length : Int)) : l.drop i.toNat = el l i :: l.drop (i.toNat + 1) := by
  have hi : i.toNat < l.length := by omega
  rw [List.drop_eq_getElem_cons hi]
  simp [el, List.getD_eq_getElem?_getD, List.getElem?_eq_getElem hi]
section
variable {α : Type} [Inhabited α] {f : α → α → Int} {a b : List α} {i : Int}
theorem cmpG_ne (hu : Upto i fun j => f (el a j) (el b j) = 0) (ha : 0 ≤ i ∧ i < (a.length : Int)) (hb : i < (b.length : Int)) (h : ¬ f (el a i) (el b i) = 0) : cmpG f a b = f (el a i) (el b i) := by
  rw [cmpG_run i.toNat a b (fun j j0 j1 => hu j j0 (by omega)) (by omega) (by omega), drop_el ha, drop_el ⟨ha.1, hb⟩]
  simp [cmpG, h]
theorem cmpG_long (hu : Upto i fun j => f (el a j) (el b j) = 0) (ha : 0 ≤ i ∧ i < (a.length : Int)) (hb : i = (b.length : Int)) : cmpG f a b = 1 := by
  rw [cmpG_run i.toNat a b (fun j j0 j1 => hu j j0 (by omega)) (by omega) (by omega), drop_el ha, show b.drop i.toNat = [] from List.drop_eq_nil_of_le (by omega)]
  rfl
theorem cmpG_short (hu : Upto i fun j => f (el a j) (el b j) = 0) (ha : 0 ≤ i ∧ i = (a.length : Int)) (hb : i < (b.length : Int)) : cmpG f a b = -1 := by
  rw [cmpG_run i.toNat a b (fun j j0 j1 => hu j j0 (by omega)) (by omega) (by omega), drop_el (l := b) ⟨ha.1, hb⟩, show a.drop i.toNat = [] from List.drop_eq_nil_of_le (by omega)]
  rfl
theorem cmpG_same (hu : Upto i fun j => f (el a j) (el b j) = 0) (ha : 0 ≤ i ∧ i = (a.length : Int)) (hb : i = (b.length : Int)) : cmpG f a b = 0 := by
  rw [cmpG_run i.toNat a b (fun j j0 j1 => hu j j0 (by omega)) (by omega) (by omega), show a.drop i.toNat = [] from List.drop_eq_nil_of_le (by omega), show b.drop i.toNat = [] from List.drop_eq_nil_of_le (by omega)]
  rfl
end
theorem growF_mem {n : Int} : ∀ (k : Nat) (s e : List Int), s.Nodup → (∀ x ∈ s, 0 ≤ x ∧ x < n) → e ∈ growF k n s → e.length = s.length + k ∧ e.Nodup ∧ ∀ x ∈ e, 0 ≤ x ∧ x < n
  | 0, s, e, h1, h2, h => by
    simp only [growF, List.mem_singleton] at h
    subst h; exact ⟨rfl, h1, h2⟩
  | k + 1, s, e, h1, h2, h => by
    simp only [growF, List.mem_flatMap] at h
    obtain ⟨x, hx, h⟩ := h
    have hx2 := mem_ran.1 (show x ∈ ran n id from hx)
    split at h
    · cases h
    · rename_i hc
      have hc' : ¬ x ∈ s := fun g => hc (List.contains_iff_mem.2 g)
      have := growF_mem k (s ++ [x]) e (List.nodup_append.2 ⟨h1, by simp, fun a ha b hb => by simp at hb; subst hb; intro g; subst g; exact hc' ha⟩) (mem_app h2 hx2) h
      refine ⟨by have := this.1; simp at this; omega, this.2⟩
theorem growL_perm {n : Int} (hn : 0 ≤ n) {e : List Int} (h : e ∈ growL n []) : (e.length : Int) = n ∧ isPerm e = true := by
  obtain ⟨h1, h2, h3⟩ := growF_mem _ [] e List.nodup_nil (by simp) h
  have hl : (e.length : Int) = n := by simp at h1; omega
  exact ⟨hl, isPerm_iff.2 ⟨h2, fun x hx => by have := h3 x hx; omega⟩⟩
end
section
def lexL (a b : List Int) : Prop := ∃ j, (0 ≤ j ∧ j < (a.length : Int)) ∧ Upto j (fun m => el a m = el b m) ∧ el a j < el b j
theorem lexL_trans {a b c : List Int} (hl : a.length = b.length) (h1 : lexL a b) (h2 : lexL b c) : lexL a c := by
  obtain ⟨j, hj, hu, hlt⟩ := h1
  obtain ⟨k, hk, hv, hlt2⟩ := h2
  rcases Int.lt_trichotomy j k with h | h | h
  · exact ⟨j, hj, fun m m0 m1 => (hu m m0 m1).trans (hv m m0 (by omega)), by rw [← hv j hj.1 h]; exact hlt⟩
  · subst h; exact ⟨j, hj, fun m m0 m1 => (hu m m0 m1).trans (hv m m0 m1), by omega⟩
  · exact ⟨k, ⟨hk.1, by omega⟩, fun m m0 m1 => (hu m m0 (by omega)).trans (hv m m0 m1), by rw [hu k hk.1 h]; exact hlt2⟩
theorem lexL_irrefl {a : List Int} : ¬ lexL a a := fun ⟨_, _, _, h⟩ => by omega
structure NxI (p : List Int) (i k : Int) : Prop where
  hi : 0 ≤ i ∧ i + 1 < (p.length : Int)
  up : el p i < el p (i + 1)
  dn : ∀ j, i < j → j + 1 < (p.length : Int) → el p (j + 1) < el p j
  hk : i < k ∧ k < (p.length : Int)
  kup : el p i < el p k
  kdn : ∀ j, k < j → j < (p.length : Int) → el p j < el p i
def nxtL (p : List Int) (i k : Int) : List Int := (se (se p i (el p k)) k (el p i)).take (i + 1).toNat ++ ((se (se p i (el p k)) k (el p i)).drop (i + 1).toNat).reverse
section
variable {p : List Int} {i k : Int}
theorem dn_all {p : List Int} {i : Int} (dn : ∀ j, i < j → j + 1 < (p.length : Int) → el p (j + 1) < el p j) {a b : Int} (ha : i < a) (hab : a < b) (hb : b < (p.length : Int)) : el p b < el p a := by
  obtain ⟨n, rfl⟩ : ∃ n : Nat, b = a + 1 + n := ⟨(b - a - 1).toNat, by omega⟩
  induction n with
  | zero => simpa using dn a ha (by omega)
  | succ n ih =>
    have h1 := ih (by omega) (by omega)
    have h2 := dn (a + 1 + n) (by omega) (by omega)
    rw [show a + 1 + ((n + 1 : Nat) : Int) = a + 1 + (n : Int) + 1 by omega]
    omega
theorem nxtL_len : (nxtL p i k).length = p.length := by simp [nxtL]; omega
theorem sw_el (h : NxI p i k) {j : Int} (hj : 0 ≤ j ∧ j < (p.length : Int)) : el (se (se p i (el p k)) k (el p i)) j = if j = k then el p i else if j = i then el p k else el p j := by
  have h1 := h.hi; have h2 := h.hk
  by_cases e : j = k
  · subst e; rw [if_pos rfl, el_se_same ⟨by omega, by simp; omega⟩]
  · rw [if_neg e, el_se_ne (by omega) hj.1 (Ne.symm e)]
    by_cases e2 : j = i
    · subst e2; rw [if_pos rfl, el_se_same ⟨by omega, by omega⟩]
    · rw [if_neg e2, el_se_ne (by omega) hj.1 (Ne.symm e2)]
theorem el_take' {l : List Int} {j m : Int} (hj : 0 ≤ j ∧ j < m) : el (l.take m.toNat) j = el l j := by
  unfold el
  simp only [List.getD_eq_getElem?_getD, List.getElem?_take]
  rw [if_pos (by omega)]
theorem nxt_el (h : NxI p i k) {j : Int} (hj : 0 ≤ j ∧ j < (p.length : Int)) : el (nxtL p i k) j = if j ≤ i then el (se (se p i (el p k)) k (el p i)) j else el (se (se p i (el p k)) k (el p i)) ((p.length : Int) - (j - i)) := by
  have h1 := h.hi
  have hl : (se (se p i (el p k)) k (el p i)).length = p.length := by simp
  generalize hS : se (se p i (el p k)) k (el p i) = S at *
  unfold nxtL
  rw [hS]
  have ht : ((S.take (i + 1).toNat).length : Int) = i + 1 := by simp; omega
  split
  · rw [el_append_l ⟨hj.1, by omega⟩, el_take' ⟨hj.1, by omega⟩]
  · rw [el_append_r (by omega), ht]
    have hd : (S.drop (i + 1).toNat).length = p.length - (i + 1).toNat := by simp [hl]
    unfold el
    simp only [List.getD_eq_getElem?_getD]
    rw [List.getElem?_reverse (by rw [hd]; omega), hd, List.getElem?_drop]
    congr 2
    omega
theorem nxt_lo (h : NxI p i k) {j : Int} (hj : 0 ≤ j ∧ j < i) : el (nxtL p i k) j = el p j := by
  have h1 := h.hi; have h2 := h.hk
  rw [nxt_el h ⟨hj.1, by omega⟩, if_pos (by omega), sw_el h ⟨hj.1, by omega⟩, if_neg (by omega), if_neg (by omega)]
theorem nxt_at (h : NxI p i k) : el (nxtL p i k) i = el p k := by
  have h1 := h.hi; have h2 := h.hk
  rw [nxt_el h ⟨h1.1, by omega⟩, if_pos (by omega), sw_el h ⟨h1.1, by omega⟩, if_neg (by omega), if_pos rfl]
theorem nxt_up (h : NxI p i k) {a b : Int} (ha : i < a) (hab : a < b) (hb : b < (p.length : Int)) : el (nxtL p i k) a < el (nxtL p i k) b := by
  have h1 := h.hi; have h2 := h.hk
  rw [nxt_el h ⟨by omega, by omega⟩, nxt_el h ⟨by omega, hb⟩, if_neg (by omega), if_neg (by omega), sw_el h ⟨by omega, by omega⟩, sw_el h ⟨by omega, by omega⟩]
  generalize hu : (p.length : Int) - (a - i) = u
  generalize hv : (p.length : Int) - (b - i) = v
  have huv : v < u := by omega
  rw [if_neg (show ¬ u = i by omega), if_neg (show ¬ v = i by omega)]
  split
  · rename_i e
    rw [if_neg (by omega)]
    have := dn_all h.dn (a := v) (b := k) (by omega) (by omega) (by omega)
    have := h.kup; omega
  · split
    · exact h.kdn u (by omega) (by omega)
    · exact dn_all h.dn (by omega) huv (by omega)
theorem nxt_perm (hp : isPerm p = true) (h : NxI p i k) : isPerm (nxtL p i k) = true := by
  have h1 := h.hi; have h2 := h.hk
  have hs := swap_perm hp (i := i) (j := k) ⟨h1.1, by omega⟩ ⟨by omega, h2.2⟩
  have hP : List.Perm (nxtL p i k) (se (se p i (el p k)) k (el p i)) := by
    unfold nxtL
    have := (List.reverse_perm ((se (se p i (el p k)) k (el p i)).drop (i + 1).toNat)).append_left ((se (se p i (el p k)) k (el p i)).take (i + 1).toNat)
    rwa [List.take_append_drop] at this
  obtain ⟨n1, n2⟩ := isPerm_iff.1 hs
  exact isPerm_iff.2 ⟨hP.nodup_iff.2 n1, fun x hx => by rw [hP.length_eq]; exact n2 x (hP.mem_iff.1 hx)⟩
theorem nxt_lt (h : NxI p i k) : lexL p (nxtL p i k) := ⟨i, ⟨h.hi.1, by have := h.hi; omega⟩, fun m m0 m1 => (nxt_lo h ⟨m0, m1⟩).symm, by rw [nxt_at h]; exact h.kup⟩
theorem perm_behind {a b : List Int} (ha : isPerm a = true) (hb : isPerm b = true) (hl : a.length = b.length) {j : Int} (hj : 0 ≤ j ∧ j < (a.length : Int)) (hu : Upto j fun m => el a m = el b m) : ∃ m, (j ≤ m ∧ m < (a.length : Int)) ∧ el b j = el a m := by
  have hx := isPerm_el hb (i := j) ⟨hj.1, by omega⟩
  obtain ⟨m, hm, e⟩ := isPerm_surj ha (x := el b j) ⟨hx.1, by omega⟩
  refine ⟨m, ⟨?_, hm.2⟩, e.symm⟩
  rcases Int.lt_or_le m j with g | g
  · have := hu m hm.1 g
    have e2 : el b m = el b j := by rw [← this]; exact e
    have := isPerm_inj hb ⟨hm.1, by omega⟩ ⟨hj.1, by omega⟩ e2
    omega
  · exact g
theorem nxt_least (hp : isPerm p = true) (h : NxI p i k) {q : List Int} (hq : isPerm q = true) (hl : q.length = p.length) (h1 : lexL p q) : ¬ lexL q (nxtL p i k) := by
  have hi := h.hi; have hk := h.hk
  obtain ⟨j, hj, hu, hlt⟩ := h1
  rintro ⟨j', hj', hu', hlt'⟩
  have hj'2 : j' < (p.length : Int) := by omega
  obtain ⟨m, hm, em⟩ := perm_behind hp hq hl.symm hj hu
  have hmj : j ≠ m := fun e => by rw [← e] at em; omega
  rcases Int.lt_trichotomy j i with g | g | g
  · rcases Int.lt_trichotomy j' j with g' | g' | g'
    · have := hu j' hj'.1 g'; rw [nxt_lo h ⟨hj'.1, by omega⟩] at hlt'; omega
    · subst g'; rw [nxt_lo h ⟨hj'.1, g⟩] at hlt'; omega
    · have e3 : el q j = el (nxtL p i k) j := hu' j hj.1 g'
      rw [nxt_lo h ⟨hj.1, g⟩] at e3; omega
  · subst g
    have hmk : m ≤ k := by
      rcases Int.lt_or_le k m with c | c
      · have := h.kdn m c hm.2; omega
      · exact c
    have hge : el p k ≤ el q j := by
      rw [em]
      rcases Int.lt_or_le m k with c | c
      · have := dn_all h.dn (a := m) (b := k) (by omega) c hk.2; omega
      · rw [show m = k by omega]; omega
    rcases Int.lt_trichotomy j' j with g' | g' | g'
    · have := hu j' hj'.1 g'; rw [nxt_lo h ⟨hj'.1, g'⟩] at hlt'; omega
    · subst g'; rw [nxt_at h] at hlt'; omega
    · obtain ⟨m', hm', em'⟩ := perm_behind (nxt_perm hp h) hq (by rw [nxtL_len, hl]) (j := j') ⟨hj'.1, by rw [nxtL_len]; omega⟩ fun z z0 z1 => (hu' z z0 z1).symm
      rw [nxtL_len] at hm'
      have hne : j' ≠ m' := fun e => by rw [← e] at em'; omega
      have := nxt_up h (a := j') (b := m') g' (by omega) hm'.2
      omega
  · have := dn_all h.dn (a := j) (b := m) g (by omega) hm.2
    omega
theorem last_perm (hp : isPerm p = true) (dn : ∀ j, -1 < j → j + 1 < (p.length : Int) → el p (j + 1) < el p j) {q : List Int} (hq : isPerm q = true) (hl : q.length = p.length) : ¬ lexL p q := by
  rintro ⟨j, hj, hu, hlt⟩
  obtain ⟨m, hm, em⟩ := perm_behind hp hq hl.symm hj hu
  have hmj : j ≠ m := fun e => by rw [← e] at em; omega
  have := dn_all dn (a := j) (b := m) (by omega) (by omega) hm.2
  omega
end
theorem growF_pre {n : Int} : ∀ (k : Nat) (s e : List Int), e ∈ growF k n s → ∃ u, e = s ++ u
  | 0, s, e, h => by simp only [growF, List.mem_singleton] at h; exact ⟨[], by simp [h]⟩
  | k + 1, s, e, h => by
    simp only [growF, List.mem_flatMap] at h
    obtain ⟨x, _, h⟩ := h
    split at h
    · cases h
    · obtain ⟨u, rfl⟩ := growF_pre k _ e h; exact ⟨[x] ++ u, by simp⟩
theorem growF_sort {n : Int} : ∀ (k : Nat) (s : List Int), (growF k n s).Pairwise lexL
  | 0, s => by simp [growF]
  | k + 1, s => by
    simp only [growF]
    rw [List.pairwise_flatMap]
    refine ⟨fun x _ => ?_, ?_⟩
    · split
      · exact List.Pairwise.nil
      · exact growF_sort k _
    · refine (ran_lt n).imp ?_
      intro x y hxy a ha b hb
      split at ha
      · cases ha
      · split at hb
        · cases hb
        · obtain ⟨u, rfl⟩ := growF_pre k _ a ha
          obtain ⟨v, rfl⟩ := growF_pre k _ b hb
          have e1 : el (s ++ [x] ++ u) (s.length : Int) = x := by simp [el]
          have e2 : el (s ++ [y] ++ v) (s.length : Int) = y := by simp [el]
          refine ⟨(s.length : Int), ⟨by omega, by simp; omega⟩, fun m m0 m1 => ?_, by rw [e1, e2]; exact hxy⟩
          show el (s ++ [x] ++ u) m = el (s ++ [y] ++ v) m
          rw [List.append_assoc, List.append_assoc, el_append_l ⟨m0, m1⟩, el_append_l ⟨m0, m1⟩]
theorem growF_all {n : Int} : ∀ (k : Nat) (s u : List Int), (s ++ u).Nodup → (∀ x ∈ u, 0 ≤ x ∧ x < n) → u.length = k → s ++ u ∈ growF k n s
  | 0, s, u, _, _, h => by have := List.eq_nil_of_length_eq_zero h; subst this; simp [growF]
  | k + 1, s, [], _, _, h => by simp at h
  | k + 1, s, x :: u, hn, hr, h => by
    simp only [growF, List.mem_flatMap]
    refine ⟨x, mem_ran.2 (hr x (by simp)), ?_⟩
    have hx : ¬ x ∈ s := fun g => (List.nodup_append.1 hn).2.2 x g x (by simp) rfl
    rw [if_neg (by rw [List.contains_iff_mem]; exact hx)]
    have := growF_all k (s ++ [x]) u (by simpa using hn) (fun y hy => hr y (by simp [hy])) (by simpa using h)
    simpa using this
section
variable {n : Int}
theorem growL_all (hn : 0 ≤ n) {q : List Int} (hq : isPerm q = true) (hl : (q.length : Int) = n) : q ∈ growL n [] := by
  obtain ⟨h1, h2⟩ := isPerm_iff.1 hq
  exact growF_all _ [] q h1 (fun x hx => by have := h2 x hx; omega) (by simp; omega)
theorem growL_sort : (growL n []).Pairwise lexL := growF_sort _ _
theorem sort_at {L : List (List Int)} (hs : L.Pairwise lexL) {a b : Nat} {x y : List Int} (hx : L[a]? = some x) (hy : L[b]? = some y) (h : a < b) : lexL x y := by
  obtain ⟨ha, ea⟩ := List.getElem?_eq_some_iff.1 hx
  obtain ⟨hb, eb⟩ := List.getElem?_eq_some_iff.1 hy
  have := List.pairwise_iff_getElem.1 hs a b ha hb h
  rwa [ea, eb] at this
theorem growL_next (hn : 0 ≤ n) {m : Nat} {p : List Int} (hp : (growL n [])[m]? = some p) {i k : Int} (h : NxI p i k) : (growL n [])[m + 1]? = some (nxtL p i k) := by
  obtain ⟨pl, pP⟩ := growL_perm hn (List.mem_of_getElem? hp)
  have rP := nxt_perm pP h
  have rl : ((nxtL p i k).length : Int) = n := by rw [nxtL_len]; exact pl
  obtain ⟨j, hj⟩ := List.mem_iff_getElem?.1 (growL_all hn rP rl)
  have hlt := nxt_lt h
  rcases Nat.lt_trichotomy j m with g | g | g
  · exact absurd (lexL_trans (by rw [nxtL_len]) hlt (sort_at growL_sort hj hp g)) lexL_irrefl
  · subst g; rw [hp] at hj; have e := Option.some.inj hj; rw [← e] at hlt; exact absurd hlt lexL_irrefl
  · rcases Nat.lt_or_ge (m + 1) j with g2 | g2
    · obtain ⟨q, hq⟩ : ∃ q, (growL n [])[m + 1]? = some q := ⟨_, List.getElem?_eq_getElem (by have := (List.getElem?_eq_some_iff.1 hj).1; omega)⟩
      obtain ⟨ql, qP⟩ := growL_perm hn (List.mem_of_getElem? hq)
      exact absurd (sort_at growL_sort hq hj g2) (nxt_least pP h qP (by omega) (sort_at growL_sort hp hq (by omega)))
    · rw [show m + 1 = j by omega]; exact hj
theorem growL_last (hn : 0 ≤ n) {m : Nat} {p : List Int} (hp : (growL n [])[m]? = some p) (dn : ∀ j, -1 < j → j + 1 < (p.length : Int) → el p (j + 1) < el p j) : m + 1 = (growL n []).length := by
  obtain ⟨pl, pP⟩ := growL_perm hn (List.mem_of_getElem? hp)
  have hm := (List.getElem?_eq_some_iff.1 hp).1
  rcases Nat.lt_or_ge (m + 1) (growL n []).length with g | g
  · obtain ⟨q, hq⟩ : ∃ q, (growL n [])[m + 1]? = some q := ⟨_, List.getElem?_eq_getElem g⟩
    obtain ⟨ql, qP⟩ := growL_perm hn (List.mem_of_getElem? hq)
    exact absurd (sort_at growL_sort hp hq (by omega)) (last_perm pP dn qP (by omega))
  · omega
theorem growL_first (hn : 0 ≤ n) : (growL n [])[0]? = some (unitI n) := by
  have ul : ((unitI n).length : Int) = n := by simp; omega
  obtain ⟨j, hj⟩ := List.mem_iff_getElem?.1 (growL_all hn (isPerm_unitI n) ul)
  rcases Nat.eq_zero_or_pos j with g | g
  · rw [← g]; exact hj
  · obtain ⟨q, hq⟩ : ∃ q, (growL n [])[0]? = some q := ⟨_, List.getElem?_eq_getElem (by have := (List.getElem?_eq_some_iff.1 hj).1; omega)⟩
    obtain ⟨ql, qP⟩ := growL_perm hn (List.mem_of_getElem? hq)
    obtain ⟨m, hm, hu, hlt⟩ := sort_at growL_sort hq hj g
    rw [el_unitI ⟨hm.1, by omega⟩] at hlt
    have h0 := isPerm_el qP hm
    have h1 : el q (el q m) = el q m := by
      have e : el q (el q m) = el (unitI n) (el q m) := hu (el q m) h0.1 hlt
      rw [el_unitI ⟨h0.1, by omega⟩] at e; exact e
    have := isPerm_inj qP h0 hm h1
    omega
end

end
section

end
section
theorem upto_cons {α : Type} [Inhabited α] {x y : α} {a b : List α} {j : Int} (hj : 0 ≤ j) : Upto (j + 1) (fun m => el (x :: a) m = el (y :: b) m) ↔ x = y ∧ Upto j (fun m => el a m = el b m) := by
  constructor
  · intro h
    refine ⟨by have := h 0 (by omega) (by omega); simpa [el_cons_0] using this, fun m m0 m1 => ?_⟩
    have : el (x :: a) (m + 1) = el (y :: b) (m + 1) := h (m + 1) (by omega) (by omega)
    rw [el_cons_s (by omega), el_cons_s (by omega), Int.add_sub_cancel] at this
    exact this
  · rintro ⟨rfl, h⟩ m m0 m1
    show el (x :: a) m = el (x :: b) m
    by_cases e : m = 0
    · subst e; rw [el_cons_0, el_cons_0]
    · rw [el_cons_s (by omega), el_cons_s (by omega)]; exact h _ (by omega) (by omega)
theorem lex_cons {x y : Int} {a b : List Int} : lexL (x :: a) (y :: b) ↔ x < y ∨ (x = y ∧ lexL a b) := by
  constructor
  · rintro ⟨j, hj, hu, hlt⟩
    by_cases e : j = 0
    · subst e; left; simpa [el_cons_0] using hlt
    · right
      obtain ⟨i, rfl⟩ : ∃ i, j = i + 1 := ⟨j - 1, by omega⟩
      obtain ⟨h1, h2⟩ := (upto_cons (by omega)).1 hu
      rw [el_cons_s (by omega), el_cons_s (by omega), Int.add_sub_cancel] at hlt
      exact ⟨h1, i, ⟨by omega, by have := hj.2; simp at this; omega⟩, h2, hlt⟩
  · rintro (h | ⟨rfl, j, hj, hu, hlt⟩)
    · exact ⟨0, ⟨by omega, by simp⟩, fun m _ _ => by omega, by rw [el_cons_0, el_cons_0]; exact h⟩
    · exact ⟨j + 1, ⟨by omega, by simp; omega⟩, (upto_cons hj.1).2 ⟨rfl, hu⟩, by rw [el_cons_s (by omega), el_cons_s (by omega), Int.add_sub_cancel]; exact hlt⟩
theorem lexL_total : ∀ {a b : List Int}, a.length = b.length → a ≠ b → lexL a b ∨ lexL b a
  | [], [], _, h => absurd rfl h
  | [], _ :: _, h, _ => by cases h
  | _ :: _, [], h, _ => by cases h
  | x :: a, y :: b, hl, h => by
    rcases Int.lt_trichotomy x y with g | rfl | g
    · exact .inl (lex_cons.2 (.inl g))
    · rcases lexL_total (a := a) (b := b) (by simpa using hl) (fun e => h (by rw [e])) with k | k
      · exact .inl (lex_cons.2 (.inr ⟨rfl, k⟩))
      · exact .inr (lex_cons.2 (.inr ⟨rfl, k⟩))
    · exact .inr (lex_cons.2 (.inl g))
theorem cmp_lex : ∀ {a b : List Int}, a.length = b.length → (cmpG cmp1 a b < 0 ↔ lexL a b)
  | [], [], _ => by simp only [cmpG]; exact ⟨fun h => by omega, fun h => absurd h lexL_irrefl⟩
  | [], _ :: _, h => by cases h
  | _ :: _, [], h => by cases h
  | x :: a, y :: b, hl => by
    rw [lex_cons, ← cmp_lex (a := a) (b := b) (by simpa using hl)]
    simp only [cmpG, cmp1_zero]
    split
    · rename_i h; subst h; exact ⟨fun h => .inr ⟨rfl, h⟩, fun h => h.elim (fun h => by omega) fun h => h.2⟩
    · rename_i h
      unfold cmp1
      split
      · exact ⟨fun _ => .inl (by assumption), fun _ => by omega⟩
      · split
        · exact ⟨fun _ => by omega, fun k => k.elim (fun _ => by omega) fun k => absurd k.1 h⟩
        · exact ⟨fun _ => by omega, fun k => k.elim (fun _ => by omega) fun k => absurd k.1 h⟩
theorem cmp1_anti (x y : Int) : cmp1 x y = - cmp1 y x := by unfold cmp1; split <;> split <;> (try split) <;> omega
theorem cmp_anti : ∀ a b : List Int, cmpG cmp1 a b = - cmpG cmp1 b a
  | [], [] => rfl
  | [], _ :: _ => rfl
  | _ :: _, [] => rfl
  | x :: a, y :: b => by
    have h := cmp_anti a b
    have h1 := cmp1_anti x y
    simp only [cmpG]
    split <;> split <;> omega
def LexS (n : Nat) (l : List (List Int)) : Prop := l.Pairwise lexL ∧ ∀ x ∈ l, x.length = n
theorem LexS.tail {n : Nat} {a : List Int} {l : List (List Int)} (h : LexS n (a :: l)) : LexS n l := ⟨(List.pairwise_cons.1 h.1).2, fun x hx => h.2 x (List.mem_cons_of_mem _ hx)⟩
theorem LexS.nodup {n : Nat} {l : List (List Int)} (h : LexS n l) : l.Nodup := h.1.imp fun h e => by subst e; exact lexL_irrefl h
theorem lexS_uniq {n : Nat} : ∀ {a b : List (List Int)}, LexS n a → LexS n b → (∀ x, x ∈ a ↔ x ∈ b) → a = b
  | [], [], _, _, _ => rfl
  | [], y :: b, _, _, h => by have := (h y).2 List.mem_cons_self; cases this
  | x :: a, [], _, _, h => by have := (h x).1 List.mem_cons_self; cases this
  | x :: a, y :: b, ha, hb, h => by
    have pa := List.pairwise_cons.1 ha.1
    have pb := List.pairwise_cons.1 hb.1
    have e : x = y := by
      rcases List.mem_cons.1 ((h x).1 List.mem_cons_self) with e | h1
      · exact e
      · rcases List.mem_cons.1 ((h y).2 List.mem_cons_self) with e | h2
        · exact e.symm
        · exact absurd (lexL_trans (by rw [ha.2 x List.mem_cons_self, hb.2 y List.mem_cons_self]) (pa.1 y h2) (pb.1 x h1)) lexL_irrefl
    subst e
    rw [lexS_uniq ha.tail hb.tail fun z => ?_]
    constructor
    · intro hz
      rcases List.mem_cons.1 ((h z).1 (List.mem_cons_of_mem _ hz)) with e | h1
      · subst e; exact absurd (pa.1 z hz) lexL_irrefl
      · exact h1
    · intro hz
      rcases List.mem_cons.1 ((h z).2 (List.mem_cons_of_mem _ hz)) with e | h1
      · subst e; exact absurd (pb.1 z hz) lexL_irrefl
      · exact h1
theorem lexS_ins {n : Nat} {x : List Int} (hx : x.length = n) : ∀ {l : List (List Int)}, LexS n l → x ∉ l → ∃ o, LexS n o ∧ ∀ z, z ∈ o ↔ z = x ∨ z ∈ l
  | [], _, _ => ⟨[x], ⟨List.pairwise_singleton _ _, fun z hz => by rw [List.mem_singleton.1 hz]; exact hx⟩, fun z => by simp⟩
  | b :: r, hl, hn => by
    have pl := List.pairwise_cons.1 hl.1
    have hb := hl.2 b List.mem_cons_self
    rcases lexL_total (a := x) (b := b) (by omega) (fun e => hn (by rw [e]; exact List.mem_cons_self)) with h | h
    · refine ⟨x :: b :: r, ⟨List.pairwise_cons.2 ⟨fun z hz => ?_, hl.1⟩, fun z hz => ?_⟩, fun z => by simp⟩
      · rcases List.mem_cons.1 hz with rfl | hz
        · exact h
        · exact lexL_trans (by omega) h (pl.1 z hz)
      · rcases List.mem_cons.1 hz with rfl | hz
        · exact hx
        · exact hl.2 z hz
    · obtain ⟨o, ho, hm⟩ := lexS_ins hx hl.tail fun h => hn (List.mem_cons_of_mem _ h)
      refine ⟨b :: o, ⟨List.pairwise_cons.2 ⟨fun z hz => ?_, ho.1⟩, fun z hz => ?_⟩, fun z => by simp only [List.mem_cons, hm]; constructor <;> (rintro (h | h | h) <;> simp [h])⟩
      · rcases (hm z).1 hz with rfl | hz
        · exact h
        · exact pl.1 z hz
      · rcases List.mem_cons.1 hz with rfl | hz
        · exact hb
        · exact ho.2 z hz
theorem lexS_ex {n : Nat} : ∀ (l : List (List Int)), (∀ x ∈ l, x.length = n) → ∃ o, LexS n o ∧ ∀ z, z ∈ o ↔ z ∈ l
  | [], _ => ⟨[], ⟨List.Pairwise.nil, fun _ h => by cases h⟩, fun _ => Iff.rfl⟩
  | a :: l, h => by
    obtain ⟨o, ho, hm⟩ := lexS_ex l fun x hx => h x (List.mem_cons_of_mem _ hx)
    by_cases ha : a ∈ o
    · exact ⟨o, ho, fun z => by rw [List.mem_cons, hm]; exact ⟨.inr, fun k => k.elim (fun e => by subst e; exact (hm _).1 ha) id⟩⟩
    · obtain ⟨o2, h2, m2⟩ := lexS_ins (h a List.mem_cons_self) ho ha
      exact ⟨o2, h2, fun z => by rw [m2, List.mem_cons, hm]⟩
theorem el_takeG {α : Type} [Inhabited α] {l : List α} {j m : Int} (hj : 0 ≤ j ∧ j < m) : el (l.take m.toNat) j = el l j := by
  unfold el
  simp only [List.getD_eq_getElem?_getD, List.getElem?_take]
  rw [if_pos (by omega)]
theorem lexS_put {n : Nat} {s : List (List Int)} {x : List Int} {k : Int} (hs : LexS n s) (hx : x.length = n) (hk : 0 ≤ k ∧ k ≤ (s.length : Int)) (h1 : 0 < k → lexL (el s (k - 1)) x) (h2 : k < (s.length : Int) → lexL x (el s k)) :
    LexS n (sl s 0 k ++ x :: sl s k (s.length : Int)) ∧ ∀ z, z ∈ sl s 0 k ++ x :: sl s k (s.length : Int) ↔ z = x ∨ z ∈ s := by
  have e : s = s.take k.toNat ++ s.drop k.toNat := (List.take_append_drop _ _).symm
  have e1 : sl s 0 k = s.take k.toNat := by simp [sl]
  have e2 : sl s k (s.length : Int) = s.drop k.toNat := by simp [sl]
  rw [e1, e2]
  have hp := hs.1
  rw [e] at hp
  obtain ⟨p1, p2, p3⟩ := List.pairwise_append.1 hp
  have hlen : ∀ z ∈ s, z.length = x.length := fun z hz => by rw [hs.2 z hz, hx]
  have lo : ∀ z ∈ s.take k.toNat, lexL z x := fun z hz => by
    obtain ⟨i, hi, rfl⟩ := mem_el hz
    have hi2 : i < k := by have := hi.2; simp at this; omega
    rw [el_takeG ⟨hi.1, hi2⟩]
    have hkp := h1 (by omega)
    by_cases hik : i = k - 1
    · subst hik; exact hkp
    · have := sort_at (a := i.toNat) (b := (k - 1).toNat) (x := el s i) (y := el s (k - 1)) hs.1 (by unfold el; rw [List.getD_eq_getElem?_getD, List.getElem?_eq_getElem (by omega)]; rfl) (by unfold el; rw [List.getD_eq_getElem?_getD, List.getElem?_eq_getElem (by omega)]; rfl) (by omega)
      exact lexL_trans (by rw [hs.2 _ (el_mem ⟨hi.1, by omega⟩), hs.2 _ (el_mem ⟨by omega, by omega⟩)]) this hkp
  have hi : ∀ z ∈ s.drop k.toNat, lexL x z := fun z hz => by
    by_cases hkl : k < (s.length : Int)
    · rw [drop_el ⟨hk.1, hkl⟩] at hz p2
      rcases List.mem_cons.1 hz with rfl | hz
      · exact h2 hkl
      · exact lexL_trans (by rw [hx, hs.2 _ (el_mem ⟨hk.1, hkl⟩)]) (h2 hkl) ((List.pairwise_cons.1 p2).1 z hz)
    · rw [List.drop_of_length_le (by omega)] at hz; cases hz
  have hmem : ∀ z, z ∈ s.take k.toNat ++ x :: s.drop k.toNat ↔ z = x ∨ z ∈ s := fun z => by
    rw [show (z ∈ s) = (z ∈ s.take k.toNat ++ s.drop k.toNat) by rw [← e]]
    simp only [List.mem_append, List.mem_cons]
    constructor
    · rintro (h | h | h) <;> simp [h]
    · rintro (h | h | h) <;> simp [h]
  refine ⟨⟨List.pairwise_append.2 ⟨p1, List.pairwise_cons.2 ⟨hi, p2⟩, fun a ha b hb => ?_⟩, fun z hz => ?_⟩, hmem⟩
  · rcases List.mem_cons.1 hb with rfl | hb
    · exact lo a ha
    · exact p3 a ha b hb
  · rcases (hmem z).1 hz with rfl | hz
    · exact hx
    · exact hs.2 z hz
theorem adj_lex {n : Nat} : ∀ {l : List (List Int)}, (∀ x ∈ l, x.length = n) → (∀ i : Int, 0 ≤ i → i + 1 < (l.length : Int) → lexL (el l i) (el l (i + 1))) → l.Pairwise lexL
  | [], _, _ => List.Pairwise.nil
  | a :: l, hn, h => by
    have ih := adj_lex (l := l) (fun x hx => hn x (List.mem_cons_of_mem _ hx)) fun i i0 i1 => by
      have := h (i + 1) (by omega) (by simp; omega)
      rw [el_cons_s (by omega), el_cons_s (by omega), Int.add_sub_cancel, show i + 1 + 1 - 1 = i + 1 by omega] at this
      exact this
    refine List.pairwise_cons.2 ⟨fun z hz => ?_, ih⟩
    cases l with
    | nil => cases hz
    | cons b r =>
      have h0 := h 0 (by omega) (by simp; omega)
      rw [el_cons_0, el_cons_s (by omega), show (0 : Int) + 1 - 1 = 0 by omega, el_cons_0] at h0
      rcases List.mem_cons.1 hz with rfl | hz
      · exact h0
      · exact lexL_trans (by rw [hn a List.mem_cons_self, hn b (by simp)]) h0 ((List.pairwise_cons.1 ih).1 z hz)
theorem idxL_mem {l : List (List Int)} {v : List Int} (h : v ∈ l) : 0 ≤ idxL l v ∧ idxL l v < (l.length : Int) := by
  unfold idxL idxF
  have hany : l.any (fun own => decide (own = v)) = true := List.any_eq_true.2 ⟨v, h, decide_eq_true rfl⟩
  rw [if_pos hany]
  have := List.findIdx_lt_length_of_exists (p := fun own => decide (own = v)) ⟨v, h, decide_eq_true rfl⟩
  omega
theorem idxL_neg {l : List (List Int)} {v : List Int} : idxL l v < 0 ↔ v ∉ l := by
  constructor
  · intro h hm; have := idxL_mem hm; omega
  · intro h
    unfold idxL idxF
    rw [if_neg (by
      intro ha
      obtain ⟨x, hx, e⟩ := List.any_eq_true.1 ha
      exact h (by rw [← of_decide_eq_true e]; exact hx))]
    omega
def thnI (p q : List Int) : List Int := p.map (el q)
theorem thn_len (p q : List Int) : (thnI p q).length = p.length := by simp [thnI]
theorem thn_el {p q : List Int} {i : Int} (hi : 0 ≤ i ∧ i < (p.length : Int)) : el (thnI p q) i = el q (el p i) := el_map hi
theorem perm_mk {p : List Int} (h : ∀ i, 0 ≤ i → i < (p.length : Int) → 0 ≤ el p i ∧ el p i < (p.length : Int)) (hi : ∀ i j, 0 ≤ i → i < j → j < (p.length : Int) → el p i ≠ el p j) : isPerm p = true :=
  isPerm_iff.2 ⟨nodup_el.2 hi, fun x hx => by obtain ⟨i, hi, rfl⟩ := mem_el hx; exact h i hi.1 hi.2⟩
theorem thn_perm {p q : List Int} (hp : isPerm p = true) (hq : isPerm q = true) (hl : p.length = q.length) : isPerm (thnI p q) = true := by
  have e := thn_len p q
  refine perm_mk (fun i i0 i1 => ?_) fun i j i0 ij j1 => ?_
  · rw [e] at i1 ⊢
    rw [thn_el ⟨i0, i1⟩]
    have h1 := isPerm_el hp ⟨i0, i1⟩
    have h2 := isPerm_el hq (i := el p i) ⟨h1.1, by omega⟩
    omega
  · rw [e] at j1
    rw [thn_el ⟨i0, by omega⟩, thn_el ⟨by omega, j1⟩]
    intro h
    have a1 := isPerm_el hp (i := i) ⟨i0, by omega⟩
    have a2 := isPerm_el hp (i := j) ⟨by omega, j1⟩
    have := isPerm_inj hq ⟨a1.1, by omega⟩ ⟨a2.1, by omega⟩ h
    have := isPerm_inj hp ⟨i0, by omega⟩ ⟨by omega, j1⟩ this
    omega
section
variable {x y : List Int}
theorem cj_len : (conjI x y).length = x.length := by simp [conjI]
theorem cj_el (hx : isPerm x = true) (_hy : isPerm y = true) (hl : x.length = y.length) {i : Int} (hi : 0 ≤ i ∧ i < (x.length : Int)) : el (conjI x y) (el x i) = el x (el y i) := by
  have h1 := isPerm_el hx hi
  unfold conjI
  rw [el_map ⟨h1.1, by simp; omega⟩, el_map ⟨h1.1, by simp; omega⟩, el_backI hx hi]
theorem cj_uniq {z : List Int} (hx : isPerm x = true) (hy : isPerm y = true) (hl : x.length = y.length) (hz : z.length = x.length) (h : ∀ i, 0 ≤ i → i < (x.length : Int) → el z (el x i) = el x (el y i)) : z = conjI x y := by
  refine ext_el (by rw [cj_len]; exact hz) fun j j0 j1 => ?_
  obtain ⟨i, hi, rfl⟩ := isPerm_surj hx (x := j) ⟨j0, by omega⟩
  rw [h i hi.1 hi.2, cj_el hx hy hl hi]
theorem cj_perm (hx : isPerm x = true) (hy : isPerm y = true) (hl : x.length = y.length) : isPerm (conjI x y) = true := by
  have hb := isPerm_backI hx
  have e : conjI x y = thnI (thnI (backI x) y) x := rfl
  rw [e]
  exact thn_perm (thn_perm hb hy (by simp; exact hl)) hx (by rw [thn_len]; simp)
theorem cj_cj {p : List Int} (hx : isPerm x = true) (hy : isPerm y = true) (hp : isPerm p = true) (h1 : x.length = y.length) (h2 : y.length = p.length) : conjI x (conjI y p) = conjI (thnI y x) p := by
  have hc := cj_perm hy hp h2
  refine cj_uniq (thn_perm hy hx h1.symm) hp (by rw [thn_len]; exact h2) (by rw [cj_len, thn_len]; exact h1) fun i i0 i1 => ?_
  rw [thn_len] at i1
  have g1 := isPerm_el hy ⟨i0, i1⟩
  have g2 := isPerm_el hp (i := i) ⟨i0, by omega⟩
  rw [thn_el ⟨i0, i1⟩, cj_el hx hc (by rw [cj_len]; exact h1) (by omega), cj_el hy hp h2 ⟨i0, i1⟩, thn_el (by omega)]
end
def ClsP (p : List Int) (o : List (List Int)) : Prop := LexS p.length o ∧ ∀ z, z ∈ o ↔ ∃ q ∈ growL (p.length : Int) [], conjI q p = z
noncomputable def clsL (p : List Int) : List (List Int) := the (ClsP p)
theorem grow_iff {n : Int} (hn : 0 ≤ n) {q : List Int} : q ∈ growL n [] ↔ (q.length : Int) = n ∧ isPerm q = true := ⟨growL_perm hn, fun h => growL_all hn h.2 h.1⟩
theorem cls_ex (p : List Int) : ClsP p (clsL p) := by
  obtain ⟨o, h1, h2⟩ := lexS_ex (n := p.length) ((growL (p.length : Int) []).map fun q => conjI q p) fun z hz => by
    obtain ⟨q, hq, rfl⟩ := List.mem_map.1 hz
    have := (grow_iff (by omega)).1 hq
    rw [cj_len]; omega
  exact the_spec (a := o) ⟨h1, fun z => by rw [h2, List.mem_map]⟩
theorem cls_mem {p z : List Int} : z ∈ clsL p ↔ ∃ q, (q.length = p.length ∧ isPerm q = true) ∧ conjI q p = z := by
  rw [(cls_ex p).2]
  constructor
  · rintro ⟨q, hq, e⟩; have := (grow_iff (by omega)).1 hq; exact ⟨q, ⟨by omega, this.2⟩, e⟩
  · rintro ⟨q, hq, e⟩; exact ⟨q, (grow_iff (by omega)).2 ⟨by omega, hq.2⟩, e⟩
noncomputable def ClqE (p : List Int) : Int := if permB p then (if 7 < (p.length : Int) then 3 else if 12 < ((clsL p).length : Int) then 3 else 0) else 1
noncomputable def ClqT (p : List Int) : List (List Int) := if ClqE p = 0 then cjT (clsL p) else []
section
variable {p : List Int} (hp : permB p = true)
include hp
theorem cls_perm {z : List Int} (h : z ∈ clsL p) : permB z = true ∧ z.length = p.length := by
  obtain ⟨q, ⟨h1, h2⟩, rfl⟩ := cls_mem.1 h
  have h3 := cj_perm h2 (permB_isPerm hp) h1
  have h4 := permB_len hp
  have h5 : (conjI q p).length = p.length := by rw [cj_len, h1]
  refine ⟨?_, h5⟩
  unfold permB
  rw [h3, h5]; simp; omega
theorem cls_one : 1 ≤ ((clsL p).length : Int) := by
  have h1 := permB_isPerm hp
  have : conjI p p ∈ clsL p := cls_mem.2 ⟨p, ⟨rfl, h1⟩, rfl⟩
  have := List.length_pos_of_mem this
  omega
theorem cls_good : GoodL (clsL p) := by
  have h1 := cls_one hp
  refine ⟨h1, fun i i0 i1 => ⟨(cls_perm hp (el_mem ⟨i0, i1⟩)).1, ?_, fun j j0 j1 => ?_⟩⟩
  · rw [(cls_perm hp (el_mem ⟨i0, i1⟩)).2, (cls_perm hp (el_mem ⟨by omega, by omega⟩)).2]
  · exact nodup_el.1 (cls_ex p).1.nodup j i j0 j1 i1
theorem cls_closed {u v : List Int} (hu : u ∈ clsL p) (hv : v ∈ clsL p) : conjI u v ∈ clsL p := by
  have h1 := cls_perm hp hu
  obtain ⟨q, ⟨h2, h3⟩, rfl⟩ := cls_mem.1 hv
  rw [cj_cj (permB_isPerm h1.1) h3 (permB_isPerm hp) (by omega) h2]
  exact cls_mem.2 ⟨_, ⟨by rw [thn_len]; exact h2, thn_perm h3 (permB_isPerm h1.1) (by omega)⟩, rfl⟩
theorem cls_tab (h : ((clsL p).length : Int) ≤ 12) : isTab (cjT (clsL p)) = true :=
  isTab_tab ⟨cls_one hp, h⟩ fun _ _ x0 x1 y0 y1 => idxL_mem (cls_closed hp (el_mem ⟨x0, x1⟩) (el_mem ⟨y0, y1⟩))
theorem cls_cjq (h : ((clsL p).length : Int) ≤ 12) : CjqT (clsL p) = cjT (clsL p) ∧ CjqE (clsL p) = 0 := by
  have e : CjqE (clsL p) = 0 := by
    unfold CjqE
    rw [dec_t (cls_good hp), cls_tab hp h, if_pos rfl, if_neg (by omega), if_pos rfl]
  exact ⟨by unfold CjqT; rw [if_pos e], e⟩
end
theorem clq1 {p : List Int} (h : permB p = false) : [] = ClqT p ∧ 1 = ClqE p := by
  have e : ClqE p = 1 := by unfold ClqE; rw [h]; rfl
  exact ⟨by unfold ClqT; rw [e]; rfl, e.symm⟩
theorem clq3 {p : List Int} (h : permB p = true) (h2 : 7 < (p.length : Int) ∨ 12 < ((clsL p).length : Int)) : [] = ClqT p ∧ 3 = ClqE p := by
  have e : ClqE p = 3 := by
    unfold ClqE; rw [h, if_pos rfl]
    split
    · rfl
    · rw [if_pos (by omega)]
  exact ⟨by unfold ClqT; rw [e]; rfl, e.symm⟩
theorem clq0 {p : List Int} (h : permB p = true) (h2 : ¬ 7 < (p.length : Int)) (h3 : ((clsL p).length : Int) ≤ 12) : cjT (clsL p) = ClqT p ∧ 0 = ClqE p := by
  have e : ClqE p = 0 := by unfold ClqE; rw [h, if_pos rfl, if_neg h2, if_neg (by omega)]
  exact ⟨by unfold ClqT; rw [if_pos e], e.symm⟩
theorem cls_more {p : List Int} {o : List (List Int)} (hn : o.Nodup) (h : ∀ z ∈ o, z ∈ clsL p) : o.length ≤ (clsL p).length := nodup_len _ _ hn h

end
section
section
variable {n : Int} {list : List (List Int)} (hn : 1 ≤ n ∧ n ≤ 12) (hP : permsN n list)
include hn hP
end
section
variable {n : Int} {list q : List (List Int)} {i k : Int}
end
end
section
structure OkM (a b : List (List (List Int))) (f : List Int) (u : List Bool) (s : List Int) : Prop where
  la : a.length = b.length
  ha : ∀ k, 0 ≤ k → k < (a.length : Int) → isTab (el a k) = true ∧ (el a k).length = f.length
  hb : ∀ k, 0 ≤ k → k < (b.length : Int) → isTab (el b k) = true ∧ (el b k).length = f.length
  sm : (a.length : Int) ≤ 1000
  lu : u.length = f.length
  n12 : 1 ≤ (f.length : Int) ∧ (f.length : Int) ≤ 12
  nd : s.Nodup
  mem : ∀ x, x ∈ s ↔ (0 ≤ x ∧ x < (f.length : Int)) ∧ 0 ≤ el f x
  val : ∀ x, 0 ≤ x → x < (f.length : Int) → el f x = -1 ∨ (0 ≤ el f x ∧ el f x < (f.length : Int))
  use : ∀ v, 0 ≤ v → v < (f.length : Int) → (el u v = true ↔ ∃ x, x ∈ s ∧ el f x = v)
  inj : ∀ x ∈ s, ∀ y ∈ s, el f x = el f y → x = y
section
variable {a b : List (List (List Int))} {f f' : List Int} {u u' : List Bool} {s s' : List Int}
theorem OkM.in_s (h : OkM a b f u s) {x : Int} (hx : x ∈ s) : (0 ≤ x ∧ x < (f.length : Int)) ∧ 0 ≤ el f x ∧ el f x < (f.length : Int) := by
  have h1 := (h.mem x).1 hx
  have := h.val x h1.1.1 h1.1.2
  exact ⟨h1.1, h1.2, by omega⟩
theorem OkM.len (h : OkM a b f u s) : (s.length : Int) ≤ (f.length : Int) := nodup_len_ran (by omega) h.nd fun x hx => (h.in_s hx).1
theorem OkM.add (h : OkM a b f u s) {x v : Int} (hx : 0 ≤ x ∧ x < (f.length : Int)) (hn : ¬ 0 ≤ el f x) (hv : 0 ≤ v ∧ v < (f.length : Int)) (hu : el u v = false) : OkM a b (se f x v) (se u v true) (s ++ [x]) := by
  have hl : (se f x v).length = f.length := by simp
  have hx2 : x ∉ s := fun hm => hn ((h.mem x).1 hm).2
  have same : ∀ y, 0 ≤ y → y ≠ x → el (se f x v) y = el f y := fun y y0 hy => el_se_ne hx.1 y0 (Ne.symm hy)
  have here : el (se f x v) x = v := el_se_same hx
  have old : ∀ y ∈ s, el (se f x v) y = el f y := fun y hy => same y (h.in_s hy).1.1 fun e => hx2 (e ▸ hy)
  refine ⟨h.la, fun k a b => by rw [hl]; exact h.ha k a b, fun k a b => by rw [hl]; exact h.hb k a b, h.sm, by simp [h.lu], by rw [hl]; exact h.n12, List.nodup_append.2 ⟨h.nd, by simp, fun y hy z hz e => by rw [List.mem_singleton.1 hz] at e; exact hx2 (e ▸ hy)⟩, fun y => ?_, fun y y0 y1 => ?_, fun w w0 w1 => ?_, fun y hy z hz e => ?_⟩
  · rw [hl, List.mem_append, List.mem_singleton, h.mem]
    by_cases e : y = x
    · subst e; rw [here]; exact ⟨fun _ => ⟨hx, hv.1⟩, fun _ => .inr rfl⟩
    · constructor
      · rintro (k | k)
        · exact ⟨k.1, by rw [same y k.1.1 e]; exact k.2⟩
        · exact absurd k e
      · rintro ⟨k1, k2⟩; exact .inl ⟨k1, by rwa [same y k1.1 e] at k2⟩
  · rw [hl] at y1 ⊢
    by_cases e : y = x
    · subst e; rw [here]; exact .inr hv
    · rw [same y y0 e]; exact h.val y y0 y1
  · rw [hl] at w1
    by_cases e : w = v
    · subst e; rw [el_se_same ⟨w0, by rw [h.lu]; exact w1⟩]; exact ⟨fun _ => ⟨x, by simp, here⟩, fun _ => rfl⟩
    · rw [el_se_ne hv.1 w0 (Ne.symm e), h.use w w0 w1]
      constructor
      · rintro ⟨y, hy, e2⟩; exact ⟨y, List.mem_append_left _ hy, by rw [old y hy]; exact e2⟩
      · rintro ⟨y, hy, e2⟩
        rcases List.mem_append.1 hy with hy | hy
        · exact ⟨y, hy, by rw [← old y hy]; exact e2⟩
        · rw [List.mem_singleton.1 hy, here] at e2; exact absurd e2.symm e
  · have nov : ∀ y ∈ s, el f y ≠ v := fun y hy e => by
      have := (h.use v hv.1 hv.2).2 ⟨y, hy, e⟩
      rw [hu] at this; cases this
    rcases List.mem_append.1 hy with hy | hy <;> rcases List.mem_append.1 hz with hz | hz
    · rw [old y hy, old z hz] at e; exact h.inj y hy z hz e
    · rw [List.mem_singleton.1 hz, here, old y hy] at e; exact absurd e (nov y hy)
    · rw [List.mem_singleton.1 hy, here, old z hz] at e; exact absurd e.symm (nov z hz)
    · rw [List.mem_singleton.1 hy, List.mem_singleton.1 hz]
end

end
section
section
variable {a b : List (List (List Int))} {f : List Int}
theorem LexS.filter {n : Nat} {l : List (List Int)} (h : LexS n l) (q : List Int → Bool) : LexS n (l.filter q) := ⟨List.Pairwise.filter _ h.1, fun x hx => h.2 x (List.mem_filter.1 hx).1⟩
end

end
section
section
variable {a b : List (List (List Int))} {p c d : List Int}
end
end
section

end
section
theorem filter_parts {α : Type} (p : α → Bool) : ∀ l : List α, l.length = (l.filter p).length + (l.filter fun a => !p a).length
  | [] => rfl
  | a :: l => by
    have := filter_parts p l
    cases h : p a
    · rw [List.filter_cons_of_neg (by simp [h]), List.filter_cons_of_pos (by simp [h])]; simp; omega
    · rw [List.filter_cons_of_pos (by simp [h]), List.filter_cons_of_neg (by simp [h])]; simp; omega
theorem fib_mul {α β : Type} [DecidableEq β] (f : α → β) (c : Nat) : ∀ (X : List β) (L : List α), X.Nodup → (∀ a ∈ L, f a ∈ X) → (∀ x ∈ X, (L.filter fun a => decide (f a = x)).length = c) → L.length = X.length * c
  | [], L, _, h, _ => by
    have : L = [] := List.eq_nil_iff_forall_not_mem.2 fun a ha => by have := h a ha; cases this
    subst this; simp
  | x :: X, L, hn, h, hc => by
    have hx := List.nodup_cons.1 hn
    have h1 := filter_parts (fun a => decide (f a = x)) L
    have h2 := fib_mul f c X (L.filter fun a => !decide (f a = x)) hx.2 (fun a ha => by
        have ha := List.mem_filter.1 ha
        rcases List.mem_cons.1 (h a ha.1) with e | e
        · simp [e] at ha
        · exact e) fun y hy => by
        have e : (L.filter fun a => !decide (f a = x)).filter (fun a => decide (f a = y)) = L.filter fun a => decide (f a = y) := by
          rw [List.filter_filter]
          refine List.filter_congr fun a _ => ?_
          by_cases g : f a = y
          · have : f a ≠ x := fun k => hx.1 (by rw [← k, g]; exact hy)
            simp [g]
            rw [g] at this; exact this
          · simp [g]
        rw [e]; exact hc y (List.mem_cons_of_mem _ hy)
    rw [h1, h2, hc x List.mem_cons_self, List.length_cons, Nat.add_mul, Nat.one_mul]; omega
theorem inj_len {α β : Type} [DecidableEq β] {φ : α → β} {A : List α} {B : List β} (hA : A.Nodup) (h : ∀ a ∈ A, φ a ∈ B) (hi : ∀ a ∈ A, ∀ b ∈ A, φ a = φ b → a = b) : A.length ≤ B.length := by
  have hn : (A.map φ).Nodup := by
    rw [List.Nodup, List.pairwise_map]
    exact List.Pairwise.imp_of_mem (fun {a b} ha hb hne e => hne (hi a ha b hb e)) hA
  have := nodup_len (A.map φ) B hn fun z hz => by
    obtain ⟨a, ha, rfl⟩ := List.mem_map.1 hz
    exact h a ha
  rwa [List.length_map] at this
theorem orb_mul {α β : Type} [DecidableEq α] [DecidableEq β] {L : List α} {f : α → β} {X : List β} (hL : L.Nodup) (hX : X.Nodup) (hm : ∀ x, x ∈ X ↔ ∃ a ∈ L, f a = x)
    (mv : ∀ a ∈ L, ∀ b ∈ L, ∃ φ : α → α, (∀ q ∈ L, f q = f a → φ q ∈ L ∧ f (φ q) = f b) ∧ ∀ q ∈ L, ∀ r ∈ L, φ q = φ r → q = r) {e : α} (he : e ∈ L) : L.length = X.length * (L.filter fun a => decide (f a = f e)).length := by
  refine fib_mul f _ X L hX (fun a ha => (hm _).2 ⟨a, ha, rfl⟩) fun x hx => ?_
  obtain ⟨b, hb, rfl⟩ := (hm _).1 hx
  have key : ∀ a ∈ L, ∀ b ∈ L, (L.filter fun q => decide (f q = f a)).length ≤ (L.filter fun q => decide (f q = f b)).length := fun a ha b hb => by
    obtain ⟨φ, h1, h2⟩ := mv a ha b hb
    refine inj_len (φ := φ) (hL.filter _) (fun q hq => ?_) fun q hq r hr => h2 q (List.mem_filter.1 hq).1 r (List.mem_filter.1 hr).1
    have hq := List.mem_filter.1 hq
    have := h1 q hq.1 (of_decide_eq_true hq.2)
    exact List.mem_filter.2 ⟨this.1, decide_eq_true this.2⟩
  exact Nat.le_antisymm (key b hb e he) (key e he b hb)
def facN : Nat → Nat
  | 0 => 1
  | n + 1 => (n + 1) * facN n
def facI (n : Int) : Int := (facN n.toNat : Int)
theorem growF_fac {n : Int} : ∀ (k : Nat) (s : List Int), s.Nodup → (∀ x ∈ s, 0 ≤ x ∧ x < n) → (s.length : Int) + k = n → (growF k n s).length = facN k
  | 0, s, _, _, _ => rfl
  | k + 1, s, hn, hr, hl => by
    have key : ∀ l : List Int, (∀ x ∈ l, 0 ≤ x ∧ x < n) → (l.flatMap fun x => if s.contains x then [] else growF k n (s ++ [x])).length = (l.filter fun x => !s.contains x).length * facN k := by
      intro l
      induction l with
      | nil => intro _; simp
      | cons a l ih =>
        intro h
        rw [List.flatMap_cons, List.length_append, ih fun x hx => h x (List.mem_cons_of_mem _ hx)]
        by_cases g : a ∈ s
        · have g2 := List.contains_iff_mem.2 g
          rw [if_pos g2, List.filter_cons_of_neg (by simp [g])]
          simp
        · have g2 : ¬ s.contains a = true := fun k => g (List.contains_iff_mem.1 k)
          rw [if_neg g2, List.filter_cons_of_pos (by simp [g]), List.length_cons, Nat.add_mul, Nat.one_mul,
            growF_fac k (s ++ [a]) (List.nodup_append.2 ⟨hn, by simp, fun y hy z hz e => by rw [List.mem_singleton.1 hz] at e; exact g (e ▸ hy)⟩)
              (fun x hx => (List.mem_append.1 hx).elim (hr x) fun k => by rw [List.mem_singleton.1 k]; exact h a (by simp)) (by simp; omega)]
          omega
    show ((unitI n).flatMap fun x => if s.contains x then [] else growF k n (s ++ [x])).length = _
    rw [key (unitI n) fun x hx => mem_ran.1 hx]
    have h1 := filter_parts (fun x => s.contains x) (unitI n)
    have h2 : ((unitI n).filter fun x => s.contains x).length = s.length := by
      refine Nat.le_antisymm (nodup_len _ _ ((nodup_ran n).filter _) fun x hx => List.contains_iff_mem.1 (List.mem_filter.1 hx).2) (nodup_len _ _ hn fun x hx => List.mem_filter.2 ⟨mem_ran.2 (hr x hx), List.contains_iff_mem.2 hx⟩)
    have h3 : (unitI n).length = n.toNat := by simp
    rw [show ((unitI n).filter fun x => !s.contains x).length = k + 1 by omega]
    rfl
theorem growL_fac {n : Int} (hn : 0 ≤ n) : (growL n []).length = facN n.toNat := by
  unfold growL
  rw [show (n - (([] : List Int).length : Int)).toNat = n.toNat by simp]
  exact growF_fac _ _ List.nodup_nil (fun x hx => by cases hx) (by simp; omega)
theorem growL_nodup {n : Int} : (growL n []).Nodup := growL_sort.imp fun h e => by subst e; exact lexL_irrefl h
theorem thn_right {p q g : List Int} (hg : isPerm g = true) (hp : isPerm p = true) (hq : isPerm q = true) (h1 : p.length = g.length) (h2 : q.length = g.length) (h : thnI p g = thnI q g) : p = q :=
  ext_el (by omega) fun i i0 i1 => by
    have e : el (thnI p g) i = el (thnI q g) i := by rw [h]
    rw [thn_el ⟨i0, i1⟩, thn_el ⟨i0, by omega⟩] at e
    have a1 := isPerm_el hp ⟨i0, i1⟩
    have a2 := isPerm_el hq (i := i) ⟨i0, by omega⟩
    exact isPerm_inj hg ⟨a1.1, by omega⟩ ⟨a2.1, by omega⟩ e
theorem thn_back {a b : List Int} (ha : isPerm a = true) (hl : a.length = b.length) : thnI a (thnI (backI a) b) = b :=
  ext_el (by rw [thn_len]; exact hl) fun i i0 i1 => by
    rw [thn_len] at i1
    have h1 := isPerm_el ha ⟨i0, i1⟩
    rw [thn_el ⟨i0, i1⟩, thn_el ⟨h1.1, by rw [length_backI]; exact h1.2⟩, el_backI ha ⟨i0, i1⟩]
theorem cls_div {p : List Int} (hp : permB p = true) : ∃ c, facN p.length = (clsL p).length * c := by
  have hP := permB_isPerm hp
  have hL : ∀ {q : List Int}, q ∈ growL (p.length : Int) [] ↔ q.length = p.length ∧ isPerm q = true := fun {q} => by rw [grow_iff (by omega)]; exact and_congr_left fun _ => by omega
  have := orb_mul (L := growL (p.length : Int) []) (f := fun q => conjI q p) (X := clsL p) growL_nodup (cls_ex p).1.nodup (fun z => by rw [cls_mem]; exact ⟨fun ⟨q, hq, e⟩ => ⟨q, hL.2 hq, e⟩, fun ⟨q, hq, e⟩ => ⟨q, hL.1 hq, e⟩⟩)
    (fun a ha b hb => by
      obtain ⟨a1, a2⟩ := hL.1 ha
      obtain ⟨b1, b2⟩ := hL.1 hb
      have gB : isPerm (backI a) = true := isPerm_backI a2
      have gl : (thnI (backI a) b).length = p.length := by rw [thn_len, length_backI]; exact a1
      have gP : isPerm (thnI (backI a) b) = true := thn_perm gB b2 (by rw [length_backI]; omega)
      refine ⟨fun q => thnI q (thnI (backI a) b), fun q hq e => ?_, fun q hq r hr e => thn_right gP (hL.1 hq).2 (hL.1 hr).2 (by rw [gl]; exact (hL.1 hq).1) (by rw [gl]; exact (hL.1 hr).1) e⟩
      obtain ⟨q1, q2⟩ := hL.1 hq
      refine ⟨hL.2 ⟨by rw [thn_len]; exact q1, thn_perm q2 gP (by omega)⟩, ?_⟩
      have e1 := cj_cj gP q2 hP (by omega) q1
      have e2 := cj_cj gP a2 hP (by omega) a1
      show conjI (thnI q (thnI (backI a) b)) p = conjI b p
      rw [← e1, show conjI q p = conjI a p from e, e2, thn_back a2 (by omega)])
    (e := p) (hL.2 ⟨rfl, hP⟩)
  rw [growL_fac (by omega)] at this
  exact ⟨_, by simpa using this⟩
theorem idxL_at {l : List (List Int)} {v : List Int} (h : 0 ≤ idxL l v) : idxL l v < (l.length : Int) ∧ el l (idxL l v) = v := by
  have hm : v ∈ l := Classical.byContradiction fun hn => by have := idxL_neg.2 hn; omega
  have hk := idxL_mem hm
  refine ⟨hk.2, ?_⟩
  unfold idxL idxF at hk ⊢
  have hany : l.any (fun own => decide (own = v)) = true := List.any_eq_true.2 ⟨v, hm, decide_eq_true rfl⟩
  rw [if_pos hany] at hk ⊢
  have hl := List.findIdx_lt_length_of_exists (p := fun own => decide (own = v)) ⟨v, hm, decide_eq_true rfl⟩
  have := List.findIdx_getElem (w := hl)
  unfold el
  rw [List.getD_eq_getElem?_getD, Int.toNat_natCast, List.getElem?_eq_getElem hl]
  exact of_decide_eq_true this
section
variable {l : List (List Int)} (h : CjqE l = 0)
include h
theorem cjq_facts : GoodL l ∧ (l.length : Int) ≤ 12 ∧ isTab (cjT l) = true := by
  unfold CjqE at h
  split at h
  · rename_i g
    split at h
    · cases h
    · split at h
      · rename_i g2 g3; exact ⟨dec_iff.1 g, by omega, g3⟩
      · cases h
  · cases h
theorem cjq_at {x y : Int} (hx : 0 ≤ x ∧ x < (l.length : Int)) (hy : 0 ≤ y ∧ y < (l.length : Int)) :
    (0 ≤ el (el (cjT l) x) y ∧ el (el (cjT l) x) y < (l.length : Int)) ∧ el l (el (el (cjT l) x) y) = conjI (el l x) (el l y) := by
  obtain ⟨g1, g2, g3⟩ := cjq_facts h
  have hl : ((cjT l).length : Int) = (l.length : Int) := len_tab (by omega)
  have e : el (el (cjT l) x) y = cjV l x y := el_tab hx hy
  have b := (isTab_row g3 (i := x) ⟨hx.1, by omega⟩).2 y hy.1 (by omega)
  rw [e] at b ⊢
  have := idxL_at b.1
  exact ⟨⟨b.1, this.1⟩, this.2⟩
theorem cjq_perm {x : Int} (hx : 0 ≤ x ∧ x < (l.length : Int)) : isPerm (el l x) = true ∧ (el l x).length = (el l 0).length := by
  have := (cjq_facts h).1.2 x hx.1 hx.2
  exact ⟨permB_isPerm this.1, by omega⟩
theorem cjq_inj {x y : Int} (hx : 0 ≤ x ∧ x < (l.length : Int)) (hy : 0 ≤ y ∧ y < (l.length : Int)) (e : el l x = el l y) : x = y := by
  have g := (cjq_facts h).1.2
  rcases Int.lt_trichotomy x y with k | k | k
  · exact absurd e ((g y hy.1 hy.2).2.2 x hx.1 k)
  · exact k
  · exact absurd e.symm ((g x hx.1 hx.2).2.2 y hy.1 k)
theorem cjq_quandle : isRk (cjT l) = true ∧ diag (cjT l) = unitI (l.length : Int) := by
  obtain ⟨g1, g2, g3⟩ := cjq_facts h
  have hl : ((cjT l).length : Int) = (l.length : Int) := len_tab (by omega)
  have lenE : ∀ {x y : Int}, (0 ≤ x ∧ x < (l.length : Int)) → (0 ≤ y ∧ y < (l.length : Int)) → (el l x).length = (el l y).length := fun hx hy => by rw [(cjq_perm h hx).2, (cjq_perm h hy).2]
  refine ⟨isRk_mk g3 (all_perm_mk g3 fun x y z hx hy hz e => ?_) fun x y z hx hy hz => ?_, ?_⟩
  · rw [hl] at hx hy hz
    have p1 := (cjq_perm h hx).1; have p2 := (cjq_perm h hy).1; have p3 := (cjq_perm h hz).1
    have e2 : conjI (el l x) (el l y) = conjI (el l x) (el l z) := by rw [← (cjq_at h hx hy).2, ← (cjq_at h hx hz).2, e]
    refine cjq_inj h hy hz (ext_el (lenE hy hz) fun i i0 i1 => ?_)
    have l1 := lenE hx hy; have l2 := lenE hx hz
    have a1 := cj_el p1 p2 l1 (i := i) ⟨i0, by omega⟩
    have a2 := cj_el p1 p3 l2 (i := i) ⟨i0, by omega⟩
    rw [e2, a2] at a1
    have b1 := isPerm_el p2 ⟨i0, i1⟩
    have b2 := isPerm_el p3 (i := i) ⟨i0, by omega⟩
    exact (isPerm_inj p1 ⟨b2.1, by omega⟩ ⟨b1.1, by omega⟩ a1).symm
  · rw [hl] at hx hy hz
    have p1 := (cjq_perm h hx).1; have p2 := (cjq_perm h hy).1; have p3 := (cjq_perm h hz).1
    have l1 := lenE hx hy; have l2 := lenE hy hz
    have u1 := cjq_at h hy hz
    have u2 := cjq_at h hx hy
    have u3 := cjq_at h hx hz
    have v1 := cjq_at h hx u1.1
    have v2 := cjq_at h u2.1 u3.1
    refine cjq_inj h v1.1 v2.1 ?_
    rw [v1.2, v2.2, u1.2, u2.2, u3.2, cj_cj p1 p2 p3 l1 l2, cj_cj (cj_perm p1 p2 l1) p1 p3 (by rw [cj_len]) (by omega)]
    congr 1
    refine ext_el (by rw [thn_len, thn_len]; omega) fun i i0 i1 => ?_
    rw [thn_len] at i1
    have b1 := isPerm_el p2 ⟨i0, i1⟩
    rw [thn_el ⟨i0, i1⟩, thn_el ⟨i0, by omega⟩, cj_el p1 p2 l1 ⟨i0, by omega⟩]
  · refine ext_el (by simp [diag]; omega) fun i i0 i1 => ?_
    have hi : 0 ≤ i ∧ i < (l.length : Int) := ⟨i0, by simp [diag] at i1; omega⟩
    rw [el_unitI hi]
    unfold diag
    rw [el_ran ⟨i0, by omega⟩]
    have u := cjq_at h hi hi
    have p1 := (cjq_perm h hi).1
    refine cjq_inj h u.1 hi ?_
    rw [u.2]
    exact (cj_uniq p1 p1 rfl rfl fun j j0 j1 => rfl).symm
end
theorem clq_facts {p : List Int} (h : ClqE p = 0) : permB p = true ∧ ¬ 7 < (p.length : Int) ∧ ((clsL p).length : Int) ≤ 12 ∧ ClqT p = cjT (clsL p) ∧ CjqE (clsL p) = 0 := by
  have e : ClqT p = cjT (clsL p) := by unfold ClqT; rw [if_pos h]
  unfold ClqE at h
  split at h
  · rename_i g
    split at h
    · cases h
    · split at h
      · cases h
      · rename_i g2 g3; exact ⟨g, g2, by omega, e, (cls_cjq g (by omega)).2⟩
  · cases h

end
section
section
variable {n : Int} {list : List (List Int)} (hn : 1 ≤ n ∧ n ≤ 12) (hP : permsN n list)
include hn hP
end
section
variable {r : List (List Int)} (h : isRk r = true)
include h
end

end
section
section
variable {r s b : List (List Int)} (hr : isTab r = true) (hs : isTab s = true) (hb : isTab b = true)
include hs hb
omit hs in
include hr
end
section
variable {r : List (List Int)} (ht : isTab r = true)
include ht
end

end
end Go.Proofs.Ytggeeemecgmhiaa
