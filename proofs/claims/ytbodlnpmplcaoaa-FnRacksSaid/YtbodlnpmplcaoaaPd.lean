/- Plain definitions, the fourth part: truth of propositions, the one thing with a property, partitions, congruences, products; no condition. -/
import Derived.Test.YtbodlnpmplcaoaaPc
namespace Go.Proofs.Ytbodlnpmplcaoaa
/-- A proposition's truth. -/
noncomputable def dec (P : Prop) : Bool := @decide P (Classical.propDecidable P)
theorem dec_t {P : Prop} (h : P) : dec P = true := @decide_eq_true P (Classical.propDecidable P) h
theorem dec_f {P : Prop} (h : ¬ P) : dec P = false := @decide_eq_false P (Classical.propDecidable P) h
theorem dec_iff {P : Prop} : dec P = true ↔ P := @decide_eq_true_iff P (Classical.propDecidable P)
theorem dec_iff_f {P : Prop} : dec P = false ↔ ¬ P := @decide_eq_false_iff_not P (Classical.propDecidable P)
theorem dec_congr {P Q : Prop} (h : P ↔ Q) : dec P = dec Q := by rw [propext h]
/-- The one thing with a property. -/
noncomputable def the {α : Type} [Inhabited α] (P : α → Prop) : α := Classical.epsilon P
theorem the_eq {α : Type} [Inhabited α] {P : α → Prop} {a : α} (h : P a) (hu : ∀ x y, P x → P y → x = y) : a = the P := hu _ _ h (Classical.epsilon_spec ⟨a, h⟩)
theorem the_spec {α : Type} [Inhabited α] {P : α → Prop} {a : α} (h : P a) : P (the P) := Classical.epsilon_spec ⟨a, h⟩
/-- What is left of a list behind its first numbers. -/
def dr {α : Type} (l : List α) (i : Int) : List α := l.drop i.toNat
theorem dr0 {α : Type} (l : List α) : dr l 0 = l := rfl
theorem dr_cons {α : Type} [Inhabited α] {l : List α} {i : Int} (h : 0 ≤ i ∧ i < (l.length : Int)) : dr l i = el l i :: dr l (i + 1) := by
  have e := el_get h
  rw [List.getElem?_eq_getElem (by omega), Option.some.injEq] at e
  unfold dr
  rw [List.drop_eq_getElem_cons (by omega), e, show (i + 1).toNat = i.toNat + 1 by omega]
theorem dr_nil {α : Type} {l : List α} {i : Int} (h : (l.length : Int) ≤ i) : dr l i = [] := List.drop_of_length_le (by omega)
/-- Numbered in the order in which they come first, from k on. -/
def canB : Int → List Int → Bool
  | _, [] => true
  | k, c :: l => decide (0 ≤ c) && decide (c ≤ k) && canB (if c = k then k + 1 else k) l
def canN : Int → List Int → Int
  | k, [] => k
  | k, c :: l => canN (if c = k then k + 1 else k) l
def partB (n : Int) (l : List Int) : Bool := canB 0 l && decide ((l.length : Int) = n)
def firI (l : List Int) : List Int := ran (canN 0 l) (idxI l)
theorem canB_facts : ∀ (l : List Int) (k : Int), 0 ≤ k → canB k l = true → k ≤ canN k l ∧ canN k l ≤ k + (l.length : Int) ∧ (∀ c ∈ l, 0 ≤ c ∧ c < canN k l) ∧ ∀ q, k ≤ q → q < canN k l → q ∈ l
  | [], k, _, _ => ⟨Int.le_refl _, by simp [canN], ⟨fun c hc => (List.not_mem_nil hc).elim, fun q h1 h2 => by simp [canN] at h2; omega⟩⟩
  | c :: l, k, hk, h => by
    simp only [canB, Bool.and_eq_true, decide_eq_true_eq] at h
    obtain ⟨⟨h1, h2⟩, h3⟩ := h
    simp only [canN]
    by_cases e : c = k
    · rw [if_pos e] at h3 ⊢
      obtain ⟨a, b, d, f⟩ := canB_facts l (k + 1) (by omega) h3
      refine ⟨by omega, by simp; omega, fun x hx => ?_, fun q h4 h5 => ?_⟩
      · rcases List.mem_cons.1 hx with rfl | hx
        · omega
        · exact d x hx
      · by_cases e2 : q = c
        · subst e2; exact List.mem_cons_self
        · exact List.mem_cons_of_mem _ (f q (by omega) h5)
    · rw [if_neg e] at h3 ⊢
      obtain ⟨a, b, d, f⟩ := canB_facts l k hk h3
      refine ⟨by omega, by simp; omega, fun x hx => ?_, fun q h4 h5 => List.mem_cons_of_mem _ (f q h4 h5)⟩
      rcases List.mem_cons.1 hx with rfl | hx
      · omega
      · exact d x hx
theorem partB_can {n : Int} {l : List Int} (h : partB n l = true) : canB 0 l = true := by simp only [partB, Bool.and_eq_true] at h; exact h.1
theorem partB_len {n : Int} {l : List Int} (h : partB n l = true) : (l.length : Int) = n := by simp only [partB, Bool.and_eq_true, decide_eq_true_eq] at h; exact h.2
theorem can_el {l : List Int} (h : canB 0 l = true) {i : Int} (hi : 0 ≤ i ∧ i < (l.length : Int)) : 0 ≤ el l i ∧ el l i < canN 0 l := (canB_facts l 0 (by omega) h).2.2.1 _ (el_mem hi)
theorem can_fir {l : List Int} (h : canB 0 l = true) {k : Int} (hk : 0 ≤ k ∧ k < canN 0 l) : (0 ≤ idxI l k ∧ idxI l k < (l.length : Int)) ∧ el l (idxI l k) = k := idxI_spec ((canB_facts l 0 (by omega) h).2.2.2 k hk.1 hk.2)
theorem canN_le {l : List Int} (h : canB 0 l = true) : 0 ≤ canN 0 l ∧ canN 0 l ≤ (l.length : Int) := by
  have := canB_facts l 0 (by omega) h; omega
/-- Equal classes lead to equal classes. -/
def CongP (t : List (List Int)) (c : List Int) : Prop := ∀ x y u v : Int, (0 ≤ x ∧ x < (t.length : Int)) → (0 ≤ y ∧ y < (t.length : Int)) → (0 ≤ u ∧ u < (t.length : Int)) → (0 ≤ v ∧ v < (t.length : Int)) → el c x = el c u → el c y = el c v → el c (el (el t x) y) = el c (el (el t u) v)
noncomputable def IcoV (r : List (List Int)) (c : List Int) : Bool := isRk r && partB (r.length : Int) c && dec (CongP r c)
def IcoE (r : List (List Int)) (c : List Int) : Int := if isRk r && partB (r.length : Int) c then 0 else 1
def proT (a b : List (List Int)) : List (List Int) := tab ((a.length : Int) * (b.length : Int)) fun x y => el (el a (x / (b.length : Int))) (y / (b.length : Int)) * (b.length : Int) + el (el b (x % (b.length : Int))) (y % (b.length : Int))
def ProE (a b : List (List Int)) : Int := if isRk a && isRk b then (if (12 : Int) < (a.length : Int) * (b.length : Int) then 3 else 0) else 1
def ProT (a b : List (List Int)) : List (List Int) := if ProE a b = 0 then proT a b else []
def uniV (a b : List (List Int)) (x y : Int) : Int := if x < (a.length : Int) ∧ y < (a.length : Int) then el (el a x) y else if (a.length : Int) ≤ x ∧ (a.length : Int) ≤ y then (a.length : Int) + el (el b (x - (a.length : Int))) (y - (a.length : Int)) else y
def uniT (a b : List (List Int)) : List (List Int) := tab ((a.length : Int) + (b.length : Int)) (uniV a b)
def UniE (a b : List (List Int)) : Int := if isRk a && isRk b then (if (12 : Int) < (a.length : Int) + (b.length : Int) then 3 else 0) else 1
def UniT (a b : List (List Int)) : List (List Int) := if UniE a b = 0 then uniT a b else []
/-- A sum over 0 .. n - 1. -/
def sumN (g : Int → Int) : Nat → Int
  | 0 => 0
  | k + 1 => sumN g k + g k
def sumI (n : Int) (g : Int → Int) : Int := sumN g n.toNat
theorem sumI_succ {g : Int → Int} {v : Int} (h : 0 ≤ v) : sumI (v + 1) g = sumI v g + g v := by
  unfold sumI
  rw [show (v + 1).toNat = v.toNat + 1 by omega, sumN, show ((v.toNat : Nat) : Int) = v by omega]
theorem sumN_le {g : Int → Int} {m : Int} (h : ∀ i, 0 ≤ g i ∧ g i ≤ m) : ∀ k : Nat, 0 ≤ sumN g k ∧ sumN g k ≤ (k : Int) * m
  | 0 => by simp [sumN]
  | k + 1 => by
    have a := sumN_le h k
    have b := h k
    simp only [sumN, Int.natCast_add, Int.add_mul]
    omega
/-- What is known of a map of tables fits. -/
def conP (r s : List (List Int)) (f : List Int) : Prop := ∀ x y, 0 ≤ x → x < (f.length : Int) → 0 ≤ y → y < (f.length : Int) → el (el r x) y < (f.length : Int) → el f (el (el r x) y) = el (el s (el f x)) (el f y)
noncomputable def cntN (r s : List (List Int)) : Nat → List Int → Int
  | 0, f => if dec (conP r s f) then 1 else 0
  | k + 1, f => if dec (conP r s f) then sumI (s.length : Int) (fun v => cntN r s k (f ++ [v])) else 0
noncomputable def cntI (r s : List (List Int)) (f : List Int) : Int := cntN r s ((r.length : Int) - (f.length : Int)).toNat f
theorem cntN_le {r s : List (List Int)} (hs : (s.length : Int) ≤ 12) : ∀ (k : Nat) (f : List Int), 0 ≤ cntN r s k f ∧ cntN r s k f ≤ (12 : Int) ^ k
  | 0, f => by
    unfold cntN
    split <;> simp
  | k + 1, f => by
    unfold cntN
    have hp : (0 : Int) ≤ 12 ^ k := Int.pow_nonneg (by omega)
    have e : (12 : Int) ^ (k + 1) = 12 * 12 ^ k := by rw [Int.pow_succ, Int.mul_comm]
    rw [e]
    split
    · have := sumN_le (g := fun v => cntN r s k (f ++ [v])) (fun i => cntN_le hs k (f ++ [i])) (s.length : Int).toNat
      have e2 : (((s.length : Int).toNat : Nat) : Int) * 12 ^ k ≤ 12 * 12 ^ k := Int.mul_le_mul_of_nonneg_right (by omega) hp
      unfold sumI
      omega
    · omega
theorem pow12_le : ∀ k : Nat, k ≤ 12 → (12 : Int) ^ k ≤ 8916100448256 := fun k hk => by
  have h : ∀ k, k < 13 → (12 : Int) ^ k ≤ 8916100448256 := by decide
  exact h k (by omega)
/-- m to the n, as far as it stays at most 1000000. -/
def CrmE (r s : List (List Int)) : Int := if isRk r && isRk s then (if (1000000 : Int) < (s.length : Int) ^ r.length then 3 else 0) else 1
noncomputable def CrmV (r s : List (List Int)) : Int := if CrmE r s = 0 then cntI r s [] else 0
/-- The same of lists of tables. -/
def conA (a b : List (List (List Int))) (f : List Int) : Prop := ∀ k, 0 ≤ k → k < (a.length : Int) → conP (el a k) (el b k) f
def fitD (a b : List (List (List Int))) (f : List Int) : Prop := small a ∧ small f ∧ b.length = a.length ∧ ∀ k, 0 ≤ k → k < (a.length : Int) → isTab (el a k) = true ∧ isTab (el b k) = true ∧ (f.length : Int) ≤ ((el a k).length : Int) ∧ (∀ x ∈ f, 0 ≤ x ∧ x < ((el b k).length : Int)) ∧
  ∀ x y, 0 ≤ x → x < (f.length : Int) - 1 → 0 ≤ y → y < (f.length : Int) - 1 → el (el (el a k) x) y < (f.length : Int) - 1 → el f (el (el (el a k) x) y) = el (el (el b k) (el f x)) (el f y)
def cntD (a b : List (List (List Int))) (f : List Int) : Prop := a.length = 1 ∧ b.length = 1 ∧ isTab (el a 0) = true ∧ isTab (el b 0) = true ∧ (f.length : Int) ≤ ((el a 0).length : Int) ∧ (∀ x ∈ f, 0 ≤ x ∧ x < ((el b 0).length : Int)) ∧ conP (el a 0) (el b 0) f
theorem cntI_no {r s : List (List Int)} {f : List Int} (h : ¬ conP r s f) : cntI r s f = 0 := by
  unfold cntI
  cases ((r.length : Int) - (f.length : Int)).toNat <;> simp [cntN, dec_f h]
theorem cntI_full {r s : List (List Int)} {f : List Int} (h : conP r s f) (hl : (f.length : Int) = (r.length : Int)) : cntI r s f = 1 := by
  unfold cntI
  rw [show ((r.length : Int) - (f.length : Int)).toNat = 0 by omega]
  simp [cntN, dec_t h]
theorem cntI_step {r s : List (List Int)} {f : List Int} (h : conP r s f) (hl : (f.length : Int) < (r.length : Int)) : cntI r s f = sumI (s.length : Int) (fun v => cntI r s (f ++ [v])) := by
  unfold cntI
  have e : ((r.length : Int) - (f.length : Int)).toNat = ((r.length : Int) - ((f.length : Int) + 1)).toNat + 1 := by omega
  rw [e, cntN, dec_t h, if_pos rfl]
  congr 1
  funext v
  rw [show ((f ++ [v]).length : Int) = (f.length : Int) + 1 by simp]
theorem cntI_le {r s : List (List Int)} {f : List Int} (hr : isTab r = true) (hs : isTab s = true) : 0 ≤ cntI r s f ∧ cntI r s f ≤ 8916100448256 := by
  have h1 := isTab_len hr
  have h2 := isTab_len hs
  have h3 := cntN_le (r := r) (s := s) h2.2 ((r.length : Int) - (f.length : Int)).toNat f
  have h4 := pow12_le ((r.length : Int) - (f.length : Int)).toNat (by omega)
  unfold cntI
  omega
theorem sumI_le {g : Int → Int} {v m M : Int} (h : ∀ i, 0 ≤ g i ∧ g i ≤ M) (hv : v ≤ m) (hm : 0 ≤ m) : 0 ≤ sumI v g ∧ sumI v g ≤ m * M := by
  have a := sumN_le h v.toNat
  have b : ((v.toNat : Nat) : Int) * M ≤ m * M := Int.mul_le_mul_of_nonneg_right (by omega) (by have := h 0; omega)
  unfold sumI
  omega
theorem el_single {α : Type} [Inhabited α] {x : α} : el [x] 0 = x := by simp [el]
theorem conP_app {r s : List (List Int)} {f : List Int} {v : Int} (h : conP r s f) {x y : Int} (x0 : 0 ≤ x) (x1 : x < (f.length : Int)) (y0 : 0 ≤ y) (y1 : y < (f.length : Int)) (z0 : 0 ≤ el (el r x) y) (z1 : el (el r x) y < (f.length : Int)) :
    el (f ++ [v]) (el (el r x) y) = el (el s (el (f ++ [v]) x)) (el (f ++ [v]) y) := by
  rw [el_append_l ⟨z0, z1⟩, el_append_l ⟨x0, x1⟩, el_append_l ⟨y0, y1⟩]
  exact h x y x0 x1 y0 y1 z1
theorem conP_nil (r s : List (List Int)) : conP r s [] := fun x y h0 h1 => by simp at h1; omega
theorem pow_mono {m : Int} (hm : 1 ≤ m) : ∀ (k n : Nat), k ≤ n → m ^ k ≤ m ^ n := fun k n h => by
  induction n with
  | zero => rw [show k = 0 by omega]; exact Int.le_refl _
  | succ n ih =>
    by_cases e : k = n + 1
    · subst e; exact Int.le_refl _
    · have h1 := ih (by omega)
      have h2 : (0 : Int) ≤ m ^ n := Int.pow_nonneg (by omega)
      rw [Int.pow_succ]
      have h3 : m ^ n * 1 ≤ m ^ n * m := Int.mul_le_mul_of_nonneg_left hm h2
      omega
end Go.Proofs.Ytbodlnpmplcaoaa
