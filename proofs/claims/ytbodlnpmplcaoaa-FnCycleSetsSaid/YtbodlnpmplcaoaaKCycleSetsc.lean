/- Contracts of functions that the law FnCycleSets reaches: conditions, plain proofs, walks; no condition. -/
import Derived.Test.YtbodlnpmplcaoaaKCycleSetsb
import Derived.Test.YtbodlnpmplcaoaaPg
namespace Go.Proofs.Ytbodlnpmplcaoaa

def wp_spec_l01Own2 (lists : List (List Int)) (Q : List (List Int) → Prop) : Prop :=
 ∃ (H1 : Int → List (List Int) → Prop) (m1 : Int → List (List Int) → Nat),
 H1 0 ([] : List (List Int)) ∧
 ∀ (v4_1 : Int) (o5_1 : List (List Int)), H1 v4_1 o5_1 →
 ( ((v4_1 < (lists.length : Int) →
 (0 ≤ v4_1 ∧ v4_1 < (lists.length : Int)) ∧
 (small (el lists v4_1)) ∧
 ((o5_1.length : Int) + (([(el lists v4_1)]).length : Int) ≤ 1000000000) ∧
 (InI (v4_1 + 1)) ∧
 (H1 (v4_1 + 1) (o5_1 ++ ([(el lists v4_1)])) ∧ m1 (v4_1 + 1) (o5_1 ++ ([(el lists v4_1)])) < m1 v4_1 o5_1)) ∧
 (¬ (v4_1 < (lists.length : Int)) →
 Q o5_1)))

def wp_impl_solutionBy_1 (x : Int) (y : Int) (value : Int → Int → Int × Int) (value_D : Int → Int → Prop) (Q : Int → Prop) : Prop :=
 (value_D x y) ∧
 Q ((value x y).1)

def wp_impl_solutionBy_2 (x : Int) (y : Int) (value : Int → Int → Int × Int) (value_D : Int → Int → Prop) (Q : Int → Prop) : Prop :=
 (value_D x y) ∧
 Q ((value x y).2)

def wp_impl_solutionBy (n : Int) (value : Int → Int → Int × Int) (value_D : Int → Int → Prop) (Q : List (List Int) → List (List Int) → Prop) : Prop :=
 (0 ≤ n ∧ n ≤ 1000000 ∧ ∀ x_ y_, 0 ≤ x_ → x_ < n → 0 ≤ y_ → y_ < n → (fun z0 z1 => value_D z0 z1) x_ y_) ∧
 (0 ≤ n ∧ n ≤ 1000000 ∧ ∀ x_ y_, 0 ≤ x_ → x_ < n → 0 ≤ y_ → y_ < n → (fun z0 z1 => value_D z0 z1) x_ y_) ∧
 Q (tab n (fun z0 z1 => (value z0 z1).1)) (tab n (fun z0 z1 => (value z0 z1).2))

def wp_impl_cycleSolution_1 (x : Int) (y : Int) (c : List (List Int)) (Q : Int → Int → Prop) : Prop :=
 (0 ≤ x ∧ x < (c.length : Int)) ∧
 (small (el c x)) ∧
 (0 ≤ idxI (el c x) y ∧ idxI (el c x) y < (c.length : Int)) ∧
 (0 ≤ x ∧ x < ((el c (idxI (el c x) y)).length : Int)) ∧
 Q (idxI (el c x) y) (el (el c (idxI (el c x) y)) x)

def wp_impl_cycleSolution (c : List (List Int)) (Q : List (List Int) → List (List Int) → Prop) : Prop :=
 (0 ≤ (c.length : Int) ∧ (c.length : Int) ≤ 1000000 ∧ ∀ x_ y_, 0 ≤ x_ → x_ < (c.length : Int) → 0 ≤ y_ → y_ < (c.length : Int) → (fun z0 z1 => isTab c = true ∧ c.all isPerm = true ∧ 0 ≤ z0 ∧ z0 < (c.length : Int) ∧ 0 ≤ z1 ∧ z1 < (c.length : Int)) x_ y_) ∧
 Q (tab (c.length : Int) (fun z0_ z1_ => ((fun z0 z1 => (cyA c z0 z1, cyB c z0 z1)) z0_ z1_).1)) (tab (c.length : Int) (fun z0_ z1_ => ((fun z0 z1 => (cyA c z0 z1, cyB c z0 z1)) z0_ z1_).2))

def wp_spec_l02Empty (n : Int) (Q : List (List Int) → List (List Int) → Prop) : Prop :=
 ∃ (H1 : Int → List (List Int) → List (List Int) → Prop) (m1 : Int → List (List Int) → List (List Int) → Nat),
 H1 0 ([] : List (List Int)) ([] : List (List Int)) ∧
 ∀ (v4_1 : Int) (o200048_1 : List (List Int)) (o200049_1 : List (List Int)), H1 v4_1 o200048_1 o200049_1 →
 ( ((v4_1 < n →
 (0 ≤ n ∧ n ≤ 1000000000) ∧
 ((o200048_1.length : Int) + (([List.replicate n.toNat (0 : Int)]).length : Int) ≤ 1000000000) ∧
 (0 ≤ n ∧ n ≤ 1000000000) ∧
 ((o200049_1.length : Int) + (([List.replicate n.toNat (0 : Int)]).length : Int) ≤ 1000000000) ∧
 (InI (v4_1 + 1)) ∧
 (H1 (v4_1 + 1) (o200048_1 ++ ([List.replicate n.toNat (0 : Int)])) (o200049_1 ++ ([List.replicate n.toNat (0 : Int)])) ∧ m1 (v4_1 + 1) (o200048_1 ++ ([List.replicate n.toNat (0 : Int)])) (o200049_1 ++ ([List.replicate n.toNat (0 : Int)])) < m1 v4_1 o200048_1 o200049_1)) ∧
 (¬ (v4_1 < n) →
 Q o200048_1 o200049_1)))

def wp_spec_l05Solution (c : List (List Int)) (Q : List (List Int) → List (List Int) → Prop) : Prop :=
 (0 ≤ (c.length : Int) ∧ (c.length : Int) ≤ 1000000) ∧
 ∃ (H1 : Int → List (List Int) → List (List Int) → Prop) (m1 : Int → List (List Int) → List (List Int) → Nat),
 H1 0 (tab (c.length : Int) (fun _ _ => 0)) (tab (c.length : Int) (fun _ _ => 0)) ∧
 ∀ (v5_1 : Int) (o14_1 : List (List Int)) (o1001_1 : List (List Int)), H1 v5_1 o14_1 o1001_1 →
 ( ((v5_1 < (c.length : Int) →
 (0 ≤ v5_1 ∧ v5_1 < (o14_1.length : Int)) ∧
 (0 ≤ v5_1 ∧ v5_1 < (o1001_1.length : Int)) ∧
 ∃ (H2 : Int → List Int → List Int → Prop) (m2 : Int → List Int → List Int → Nat),
 H2 0 (el o14_1 v5_1) (el o1001_1 v5_1) ∧
 ∀ (v8_2 : Int) (o1002_2 : List Int) (o1003_2 : List Int), H2 v8_2 o1002_2 o1003_2 →
 ( ((v8_2 < (c.length : Int) →
 (0 ≤ v5_1 ∧ v5_1 < (c.length : Int)) ∧
 (small (el c v5_1)) ∧
 (0 ≤ v8_2 ∧ v8_2 < (o1002_2.length : Int)) ∧
 (0 ≤ idxI (el c v5_1) v8_2 ∧ idxI (el c v5_1) v8_2 < (c.length : Int)) ∧
 (0 ≤ v5_1 ∧ v5_1 < ((el c (idxI (el c v5_1) v8_2)).length : Int)) ∧
 (0 ≤ v8_2 ∧ v8_2 < (o1003_2.length : Int)) ∧
 (InI (v8_2 + 1)) ∧
 (H2 (v8_2 + 1) (se o1002_2 v8_2 (idxI (el c v5_1) v8_2)) (se o1003_2 v8_2 (el (el c (idxI (el c v5_1) v8_2)) v5_1)) ∧ m2 (v8_2 + 1) (se o1002_2 v8_2 (idxI (el c v5_1) v8_2)) (se o1003_2 v8_2 (el (el c (idxI (el c v5_1) v8_2)) v5_1)) < m2 v8_2 o1002_2 o1003_2)) ∧
 (¬ (v8_2 < (c.length : Int)) →
 (InI (v5_1 + 1)) ∧
 (0 ≤ v5_1 ∧ v5_1 < (o14_1.length : Int)) ∧
 (0 ≤ v5_1 ∧ v5_1 < (o1001_1.length : Int)) ∧
 (H1 (v5_1 + 1) (se o14_1 v5_1 o1002_2) (se o1001_1 v5_1 o1003_2) ∧ m1 (v5_1 + 1) (se o14_1 v5_1 o1002_2) (se o1001_1 v5_1 o1003_2) < m1 v5_1 o14_1 o1001_1))))) ∧
 (¬ (v5_1 < (c.length : Int)) →
 Q o14_1 o1001_1)))

def wp_spec_l01Column (t : List (List Int)) (y : Int) (Q : List Int → Prop) : Prop :=
 ∃ (H1 : Int → List Int → Prop) (m1 : Int → List Int → Nat),
 H1 0 ([] : List Int) ∧
 ∀ (v6_1 : Int) (o7_1 : List Int), H1 v6_1 o7_1 →
 ( ((v6_1 < (t.length : Int) →
 (0 ≤ v6_1 ∧ v6_1 < (t.length : Int)) ∧
 (0 ≤ y ∧ y < ((el t v6_1).length : Int)) ∧
 ((o7_1.length : Int) + (([el (el t v6_1) y]).length : Int) ≤ 1000000000) ∧
 (InI (v6_1 + 1)) ∧
 (H1 (v6_1 + 1) (o7_1 ++ ([el (el t v6_1) y])) ∧ m1 (v6_1 + 1) (o7_1 ++ ([el (el t v6_1) y])) < m1 v6_1 o7_1)) ∧
 (¬ (v6_1 < (t.length : Int)) →
 Q o7_1)))

def wp_spec_l01Turn (t : List (List Int)) (Q : List (List Int) → Prop) : Prop :=
 ∃ (H1 : Int → List (List Int) → Prop) (m1 : Int → List (List Int) → Nat),
 H1 0 ([] : List (List Int)) ∧
 ∀ (v4_1 : Int) (o5_1 : List (List Int)), H1 v4_1 o5_1 →
 ( ((v4_1 < (t.length : Int) →
 (isTab t = true ∧ 0 ≤ v4_1 ∧ v4_1 < (t.length : Int)) ∧
 ((o5_1.length : Int) + (([colI t v4_1]).length : Int) ≤ 1000000000) ∧
 (InI (v4_1 + 1)) ∧
 (H1 (v4_1 + 1) (o5_1 ++ ([colI t v4_1])) ∧ m1 (v4_1 + 1) (o5_1 ++ ([colI t v4_1])) < m1 v4_1 o5_1)) ∧
 (¬ (v4_1 < (t.length : Int)) →
 Q o5_1)))

def wp_impl_transposed_1 (x : Int) (y : Int) (t : List (List Int)) (Q : Int → Prop) : Prop :=
 (0 ≤ y ∧ y < (t.length : Int)) ∧
 (0 ≤ x ∧ x < ((el t y).length : Int)) ∧
 Q (el (el t y) x)

def wp_impl_transposed (t : List (List Int)) (Q : List (List Int) → Prop) : Prop :=
 (0 ≤ (t.length : Int) ∧ (t.length : Int) ≤ 1000000 ∧ ∀ x_ y_, 0 ≤ x_ → x_ < (t.length : Int) → 0 ≤ y_ → y_ < (t.length : Int) → (fun z0 z1 => isTab t = true ∧ 0 ≤ z0 ∧ z0 < (t.length : Int) ∧ 0 ≤ z1 ∧ z1 < (t.length : Int)) x_ y_) ∧
 Q (tab (t.length : Int) (fun z0 z1 => el (el t z1) z0))

def wp_impl_IsPairMap (s1 : List (List Int)) (s2 : List (List Int)) (Q : Bool → Prop) : Prop :=
 (small2 s1) ∧
 (((isTab s1) = true →
 (small2 s2) ∧
 (((isTab s2) = true →
 Q (decide ((s1.length : Int) = (s2.length : Int)))) ∧
 ((isTab s2) = false →
 Q false))) ∧
 ((isTab s1) = false →
 Q false))

def wp_impl_solutionCycle (s1 : List (List Int)) (_s2 : List (List Int)) (Q : List (List Int) → Prop) : Prop :=
 ∃ (H1 : Int → List (List Int) → Prop) (m1 : Int → List (List Int) → Nat),
 H1 0 ([] : List (List Int)) ∧
 ∀ (v9_1 : Int) (o200048_1 : List (List Int)), H1 v9_1 o200048_1 →
 ( ((v9_1 < (s1.length : Int) →
 (0 ≤ v9_1 ∧ v9_1 < (s1.length : Int)) ∧
 (small (el s1 v9_1) ∧ isPerm (el s1 v9_1) = true) ∧
 ((o200048_1.length : Int) + (([backI (el s1 v9_1)]).length : Int) ≤ 1000000000) ∧
 (InI (v9_1 + 1)) ∧
 (H1 (v9_1 + 1) (o200048_1 ++ ([backI (el s1 v9_1)])) ∧ m1 (v9_1 + 1) (o200048_1 ++ ([backI (el s1 v9_1)])) < m1 v9_1 o200048_1)) ∧
 (¬ (v9_1 < (s1.length : Int)) →
 Q o200048_1)))

def wp_spec_l05Cycle (s1 : List (List Int)) (_s2 : List (List Int)) (Q : List (List Int) → Prop) : Prop :=
 ∃ (H1 : Int → List (List Int) → Prop) (m1 : Int → List (List Int) → Nat),
 H1 0 ([] : List (List Int)) ∧
 ∀ (v4_1 : Int) (o200048_1 : List (List Int)), H1 v4_1 o200048_1 →
 ( ((v4_1 < (s1.length : Int) →
 (0 ≤ v4_1 ∧ v4_1 < (s1.length : Int)) ∧
 (small (el s1 v4_1) ∧ isPerm (el s1 v4_1) = true) ∧
 ((o200048_1.length : Int) + (([backI (el s1 v4_1)]).length : Int) ≤ 1000000000) ∧
 (InI (v4_1 + 1)) ∧
 (H1 (v4_1 + 1) (o200048_1 ++ ([backI (el s1 v4_1)])) ∧ m1 (v4_1 + 1) (o200048_1 ++ ([backI (el s1 v4_1)])) < m1 v4_1 o200048_1)) ∧
 (¬ (v4_1 < (s1.length : Int)) →
 Q o200048_1)))

def wp_spec_SolutionOfCycleSet (c : List (List Int)) (Q : List (List Int) → List (List Int) → Int → Prop) : Prop :=
 (small2 c) ∧
 (((isCyc c) = false →
 Q ([]) ([]) 1) ∧
 ((isCyc c) = true →
 (isTab c = true ∧ c.all isPerm = true) ∧
 Q (cyAT c) (cyBT c) 0))

def wp_impl_SolutionOfCycleSet (c : List (List Int)) (Q : List (List Int) → List (List Int) → Int → Prop) : Prop :=
 (small2 c) ∧
 (((isCyc c) = false →
 Q ([]) ([]) 1) ∧
 ((isCyc c) = true →
 (isTab c = true ∧ c.all isPerm = true) ∧
 Q (cyAT c) (cyBT c) 0))

theorem p_spec_l01Own2 (lists : List (List Int)) (hp : small2 lists) : wp_spec_l01Own2 lists (fun y0 => y0 = lists) := by
  unfold wp_spec_l01Own2
  have h1 := hp.1
  refine ⟨fun i o => 0 ≤ i ∧ i ≤ (lists.length : Int) ∧ o.length = i.toNat ∧ Upto i fun x => el o x = el lists x, fun i _ => ((lists.length : Int) - i).toNat, ⟨by omega, by omega, by simp, upto0⟩, ?_⟩
  rintro i o ⟨i0, i1, il, iI⟩
  dsimp only
  exact ⟨fun ilt => ⟨⟨i0, ilt⟩, hp.2 _ (el_mem ⟨i0, ilt⟩), by simp; omega, ⟨by omega, by omega⟩, ⟨by omega, by omega, by simp; omega, app1 (f := fun x => el lists x) (by omega) iI rfl⟩, by omega⟩, fun ige => ext_el (by omega) fun j a b => iI j a (by omega)⟩
theorem p_impl_solutionBy_1 (x y : Int) (value : Int → Int → Int × Int) (value_D : Int → Int → Prop) (hp : value_D x y) : wp_impl_solutionBy_1 x y value value_D (fun y0 => y0 = (value x y).1) := ⟨hp, rfl⟩
theorem p_impl_solutionBy_2 (x y : Int) (value : Int → Int → Int × Int) (value_D : Int → Int → Prop) (hp : value_D x y) : wp_impl_solutionBy_2 x y value value_D (fun y0 => y0 = (value x y).2) := ⟨hp, rfl⟩
theorem p_impl_solutionBy (n : Int) (value : Int → Int → Int × Int) (value_D : Int → Int → Prop) (hp : 0 ≤ n ∧ n ≤ 1000000 ∧ ∀ x_ y_, 0 ≤ x_ → x_ < n → 0 ≤ y_ → y_ < n → value_D x_ y_) : wp_impl_solutionBy n value value_D (fun y0 y1 => y0 = tab n (fun z0_ z1_ => (value z0_ z1_).1) ∧ y1 = tab n (fun z0_ z1_ => (value z0_ z1_).2)) := ⟨hp, hp, rfl, rfl⟩
theorem p_impl_cycleSolution_1 (x y : Int) (c : List (List Int)) (hp : isTab c = true ∧ c.all isPerm = true ∧ 0 ≤ x ∧ x < (c.length : Int) ∧ 0 ≤ y ∧ y < (c.length : Int)) : wp_impl_cycleSolution_1 x y c (fun y0 y1 => y0 = cyA c x y ∧ y1 = cyB c x y) := by
  obtain ⟨ht, hpm, x0, x1, y0, y1⟩ := hp
  obtain ⟨⟨u1, u2⟩, _⟩ := cy_in ht hpm ⟨x0, x1⟩ ⟨y0, y1⟩
  have l := rk_len ht u1
  exact ⟨⟨x0, x1⟩, tab_rows ht _ (el_mem ⟨x0, x1⟩), u1, ⟨x0, by unfold cyA at l; omega⟩, rfl, rfl⟩
theorem p_impl_cycleSolution (c : List (List Int)) (hp : isTab c = true ∧ c.all isPerm = true) : wp_impl_cycleSolution c (fun y0 y1 => y0 = cyAT c ∧ y1 = cyBT c) := by
  have hn := isTab_len hp.1
  exact ⟨⟨by omega, by omega, fun x y a b d e => ⟨hp.1, hp.2, a, b, d, e⟩⟩, rfl, rfl⟩
theorem p_spec_l02Empty (n : Int) (hp : 0 ≤ n ∧ n ≤ 1000000) : wp_spec_l02Empty n (fun y0 y1 => y0 = tab n (fun _ _ => 0) ∧ y1 = tab n (fun _ _ => 0)) := by
  unfold wp_spec_l02Empty
  have hr : List.replicate n.toNat (0 : Int) = ran n fun _ => 0 := eq_ran (by simp) fun i a b => el_rep ⟨a, by omega⟩
  refine ⟨fun i o q => 0 ≤ i ∧ i ≤ n ∧ (o.length = i.toNat ∧ Upto i fun x => el o x = ran n fun _ => 0) ∧ (q.length = i.toNat ∧ Upto i fun x => el q x = ran n fun _ => 0), fun i _ _ => (n - i).toNat, ⟨by omega, by omega, ⟨by simp, upto0⟩, by simp, upto0⟩, ?_⟩
  rintro i o q ⟨i0, i1, ⟨il, iI⟩, ql, qI⟩
  dsimp only
  refine ⟨fun ilt => ⟨⟨by omega, by omega⟩, by simp; omega, ⟨by omega, by omega⟩, by simp; omega, ⟨by omega, by omega⟩, ⟨by omega, by omega, ⟨by simp; omega, app1 (f := fun _ => ran n fun _ => 0) (by omega) iI hr⟩, by simp; omega, app1 (f := fun _ => ran n fun _ => 0) (by omega) qI hr⟩, by omega⟩, fun ige => ⟨eq_ran (by omega) fun j a b => iI j a (by omega), eq_ran (by omega) fun j a b => qI j a (by omega)⟩⟩
theorem p_spec_l05Solution (c : List (List Int)) (hp : isTab c = true ∧ c.all isPerm = true) : wp_spec_l05Solution c (fun y0 y1 => y0 = cyAT c ∧ y1 = cyBT c) := by
  unfold wp_spec_l05Solution
  obtain ⟨ht, hpm⟩ := hp
  have hn := isTab_len ht
  have e0 : ∀ x, 0 ≤ x → x < (c.length : Int) → el (tab (c.length : Int) (fun _ _ => 0)) x = ran (c.length : Int) fun _ => 0 := fun x a b => by unfold tab; rw [el_ran ⟨a, b⟩]
  have hl0 : ((tab (c.length : Int) (fun _ _ => 0)).length : Int) = (c.length : Int) := len_tab (by omega)
  refine ⟨⟨by omega, by omega⟩, fun x o q => 0 ≤ x ∧ x ≤ (c.length : Int) ∧ ((o.length : Int) = (c.length : Int) ∧ (Upto x fun x => el o x = ran (c.length : Int) (cyA c x)) ∧ ∀ j, x ≤ j → j < (c.length : Int) → ((el o j).length : Int) = (c.length : Int)) ∧ (q.length : Int) = (c.length : Int) ∧ (Upto x fun x => el q x = ran (c.length : Int) (cyB c x)) ∧ ∀ j, x ≤ j → j < (c.length : Int) → ((el q j).length : Int) = (c.length : Int),
    fun x _ _ => ((c.length : Int) - x).toNat, ⟨by omega, by omega, ⟨hl0, upto0, fun j a b => by rw [e0 j (by omega) b]; simp⟩, hl0, upto0, fun j a b => by rw [e0 j (by omega) b]; simp⟩, ?_⟩
  rintro x o q ⟨x0, x1, ⟨ol, oI, oR⟩, ql, qI, qR⟩
  dsimp only
  refine ⟨fun xlt => ⟨⟨x0, by omega⟩, ⟨x0, by omega⟩, ?_⟩, fun xge => ⟨eq_ran (by omega) fun j a b => oI j a (by omega), eq_ran (by omega) fun j a b => qI j a (by omega)⟩⟩
  refine ⟨fun y a b => 0 ≤ y ∧ y ≤ (c.length : Int) ∧ ((a.length : Int) = (c.length : Int) ∧ Upto y fun y => el a y = cyA c x y) ∧ (b.length : Int) = (c.length : Int) ∧ Upto y fun y => el b y = cyB c x y, fun y _ _ => ((c.length : Int) - y).toNat, ⟨by omega, by omega, ⟨oR x (by omega) xlt, upto0⟩, qR x (by omega) xlt, upto0⟩, ?_⟩
  rintro y a b ⟨y0, y1, ⟨al, aI⟩, bl, bI⟩
  dsimp only
  refine ⟨fun ylt => ?_, fun yge => ?_⟩
  · obtain ⟨⟨u1, u2⟩, _⟩ := cy_in ht hpm ⟨x0, xlt⟩ ⟨y0, ylt⟩
    have l := rk_len ht u1
    exact ⟨⟨x0, xlt⟩, tab_rows ht _ (el_mem ⟨x0, xlt⟩), ⟨y0, by omega⟩, u1, ⟨x0, by unfold cyA at l; omega⟩, ⟨y0, by omega⟩, ⟨by omega, by omega⟩, ⟨by omega, by omega, ⟨by simpa using al, fill1 (f := cyA c x) ⟨y0, by omega⟩ aI rfl⟩, by simpa using bl, fill1 (f := cyB c x) ⟨y0, by omega⟩ bI rfl⟩, by omega⟩
  · have ha : a = ran (c.length : Int) (cyA c x) := eq_ran (by omega) fun k u v => aI k u (by omega)
    have hb : b = ran (c.length : Int) (cyB c x) := eq_ran (by omega) fun k u v => bI k u (by omega)
    refine ⟨⟨by omega, by omega⟩, ⟨x0, by omega⟩, ⟨x0, by omega⟩, ⟨by omega, by omega, ⟨by simpa using ol, fill1 (f := fun x => ran (c.length : Int) (cyA c x)) ⟨x0, by omega⟩ oI ha, fun j u v => ?_⟩, by simpa using ql, fill1 (f := fun x => ran (c.length : Int) (cyB c x)) ⟨x0, by omega⟩ qI hb, fun j u v => ?_⟩, by omega⟩
    · rw [el_se_ne x0 (by omega) (by omega)]; exact oR j (by omega) v
    · rw [el_se_ne x0 (by omega) (by omega)]; exact qR j (by omega) v
theorem p_spec_l01Column (t : List (List Int)) (y : Int) (hp : isTab t = true ∧ 0 ≤ y ∧ y < (t.length : Int)) : wp_spec_l01Column t y (fun y0 => y0 = colI t y) := by
  unfold wp_spec_l01Column
  obtain ⟨ht, y0, y1⟩ := hp
  have hn := isTab_len ht
  refine ⟨fun i o => 0 ≤ i ∧ i ≤ (t.length : Int) ∧ o.length = i.toNat ∧ Upto i fun x => el o x = el (el t x) y, fun i _ => ((t.length : Int) - i).toNat, ⟨by omega, by omega, by simp, upto0⟩, ?_⟩
  rintro i o ⟨i0, i1, il, iI⟩
  dsimp only
  refine ⟨fun ilt => ?_, fun ige => eq_ran (by omega) fun j a b => iI j a (by omega)⟩
  have l := rk_len ht (x := i) ⟨i0, ilt⟩
  exact ⟨⟨i0, ilt⟩, ⟨y0, by omega⟩, by simp; omega, ⟨by omega, by omega⟩, ⟨by omega, by omega, by simp; omega, app1 (f := fun x => el (el t x) y) (by omega) iI rfl⟩, by omega⟩
theorem p_spec_l01Turn (t : List (List Int)) (hp : isTab t = true) : wp_spec_l01Turn t (fun y0 => y0 = trnT t) := by
  unfold wp_spec_l01Turn
  have hn := isTab_len hp
  refine ⟨fun i o => 0 ≤ i ∧ i ≤ (t.length : Int) ∧ o.length = i.toNat ∧ Upto i fun x => el o x = colI t x, fun i _ => ((t.length : Int) - i).toNat, ⟨by omega, by omega, by simp, upto0⟩, ?_⟩
  rintro i o ⟨i0, i1, il, iI⟩
  dsimp only
  exact ⟨fun ilt => ⟨⟨hp, i0, ilt⟩, by simp; omega, ⟨by omega, by omega⟩, ⟨by omega, by omega, by simp; omega, app1 (f := colI t) (by omega) iI rfl⟩, by omega⟩, fun ige => eq_ran (by omega) fun j a b => iI j a (by omega)⟩
theorem p_impl_transposed_1 (x y : Int) (t : List (List Int)) (hp : isTab t = true ∧ 0 ≤ x ∧ x < (t.length : Int) ∧ 0 ≤ y ∧ y < (t.length : Int)) : wp_impl_transposed_1 x y t (fun y0 => y0 = el (el t y) x) := by
  obtain ⟨ht, x0, x1, y0, y1⟩ := hp
  have l := rk_len ht (x := y) ⟨y0, y1⟩
  exact ⟨⟨y0, y1⟩, ⟨x0, by omega⟩, rfl⟩
theorem p_impl_transposed (t : List (List Int)) (hp : isTab t = true) : wp_impl_transposed t (fun y0 => y0 = trnT t) := by
  have hn := isTab_len hp
  exact ⟨⟨by omega, by omega, fun x y a b c d => ⟨hp, a, b, c, d⟩⟩, rfl⟩
theorem p_impl_IsPairMap (s1 s2 : List (List Int)) (hp : small2 s1 ∧ small2 s2) : wp_impl_IsPairMap s1 s2 (fun y0 => y0 = pmB s1 s2) := by
  unfold wp_impl_IsPairMap pmB
  exact ⟨hp.1, fun h => ⟨hp.2, fun h2 => by rw [h, h2]; rfl, fun h2 => by rw [h, h2]; rfl⟩, fun h => by rw [h]; rfl⟩
theorem p_impl_solutionCycle (s1 s2 : List (List Int)) (hp : isTab s1 = true ∧ s1.all isPerm = true) : wp_impl_solutionCycle s1 s2 (fun y0 => y0 = s1.map backI) := by
  unfold wp_impl_solutionCycle
  obtain ⟨ht, hr⟩ := hp
  have hn := isTab_len ht
  refine ⟨fun i o => 0 ≤ i ∧ i ≤ (s1.length : Int) ∧ o.length = i.toNat ∧ Upto i fun x => el o x = backI (el s1 x), fun i _ => ((s1.length : Int) - i).toNat, ⟨by omega, by omega, by simp, upto0⟩, ?_⟩
  rintro i o ⟨i0, i1, il, iI⟩
  dsimp only
  exact ⟨fun ilt => ⟨⟨i0, ilt⟩, ⟨tab_rows ht _ (el_mem ⟨i0, ilt⟩), all_perm_el hr ⟨i0, ilt⟩⟩, by simp; omega, ⟨by omega, by omega⟩, ⟨by omega, by omega, by simp; omega, app1 (f := fun x => backI (el s1 x)) (by omega) iI rfl⟩, by omega⟩, fun ige => dual_loop ht hr il ⟨by omega, by omega⟩ iI⟩
theorem p_spec_l05Cycle (s1 s2 : List (List Int)) (hp : isTab s1 = true ∧ s1.all isPerm = true) : wp_spec_l05Cycle s1 s2 (fun y0 => y0 = s1.map backI) := p_impl_solutionCycle s1 s2 hp
theorem p_spec_SolutionOfCycleSet (c : List (List Int)) (hp : small2 c) : wp_spec_SolutionOfCycleSet c (fun y0 y1 y2 => y0 = SocA c ∧ y1 = SocB c ∧ y2 = cyE c) := by
  unfold wp_spec_SolutionOfCycleSet SocA SocB cyE
  exact ⟨hp, fun h => by rw [h]; exact ⟨rfl, rfl, rfl⟩, fun h => ⟨⟨isCyc_tab h, isCyc_perm h⟩, by rw [h]; exact ⟨rfl, rfl, rfl⟩⟩⟩
theorem p_impl_SolutionOfCycleSet (c : List (List Int)) (hp : small2 c) : wp_impl_SolutionOfCycleSet c (fun y0 y1 y2 => y0 = SocA c ∧ y1 = SocB c ∧ y2 = cyE c) := p_spec_SolutionOfCycleSet c hp
set_option maxRecDepth 100000 in
set_option maxHeartbeats 4000000 in
theorem w_spec_l01Own2 (lists : List (List Int)) (Q : List (List Int) → Prop) (h : wp_spec_l01Own2 lists Q) : AF Try.prog 208 [.lst (rows lists)] (fun R_ => ∃ y0, Q y0 ∧ R_ = .own (orows y0)) := by
  refine AF.ofWQ (af_enter (n := 21) Try.func208 rfl (by rfl) rfl (Nat.le_of_ble_eq_true rfl) ?_)
  unfold wp_spec_l01Own2 at h
  refine aw_seq ?_
  refine aw_gh (gh_to (n := 21) (σ' := []) (env' := [(0, .c (.lst (rows lists)))]) rfl rfl ⟨rfl, trivial⟩) ?_
  refine aw_region ?_
  refine run_s (ss_assign rfl) rfl ?_
  refine run_nil ?_
  refine aw_seq ?_
  refine aw_region ?_
  refine run_w (ws_buildSlice (id := 5) (ps := []) rfl rfl (Nat.le_of_ble_eq_true rfl) rfl ⟨rfl, ?_⟩)
  refine run_s (ss_assign rfl) rfl ?_
  refine run_nil ?_
  refine aw_seq ?_
  refine aw_seq ?_
  refine aw_region ?_
  refine run_s (ss_assign rfl) rfl ?_
  refine run_nil ?_
  refine aw_block ?_
  obtain ⟨H1, m1, q1, h⟩ := h
  refine aw_loop2 (fun (v4_1 : Int) (o5_1 : List (List Int)) => ⟨[(5, ⟨orows o5_1, []⟩)], [(0, .c (.lst (rows lists))), (3, .ref 5), (4, .c (ci v4_1))], 21⟩) H1 m1 ⟨0, ([] : List (List Int)), ghe_to (n := 21) rfl rfl ⟨rfl, rfl, rfl, trivial⟩, q1⟩ ?_
  rintro v4_1 o5_1 q1
  replace h := h v4_1 o5_1 q1
  refine aw_seq ?_
  refine aw_seq ?_
  refine aw_region ?_
  refine run_s (ss_move rfl) rfl ?_
  refine run_s (ss_move rfl) rfl ?_
  refine run_s (ss_lenL (f := (fun r => C.lst (ints r))) rfl) rfl ?_
  refine run_s (ss_lss rfl rfl) rfl ?_
  refine run_nil ?_
  refine aw_cond rfl (fun q2 => ?_) (fun q2 => ?_)
  ·replace h := h.1 (of_decide_eq_true q2)
   refine aw_skip ?_
   refine aw_seq ?_
   refine aw_block ?_
   refine aw_region ?_
   refine run_s (ss_move rfl) rfl ?_
   refine run_s (ss_move rfl) rfl ?_
   refine run_s (ss_move rfl) rfl ?_
   obtain ⟨q3, h⟩ := h
   refine run_s (ss_idxL rfl rfl q3) rfl ?_
   refine run_s (ss_loadL (f := (fun r => C.lst (ints r))) rfl q3) rfl ?_
   obtain ⟨q4, h⟩ := h
   refine run_w (ws_call (xs := [.tmp 16]) (ids := [17]) rfl rfl rfl rfl (c_spec_l01Own (el lists v4_1) q4) rfl ?_ )
   rintro _ rfl
   refine ⟨rfl, ?_⟩
   refine run_w (ws_buildSlice (id := 18) (ps := [(0, .tmp 17)]) rfl rfl (Nat.le_of_ble_eq_true rfl) rfl ⟨rfl, ?_⟩)
   refine run_gh (gh_fill (id := 18) (id2 := 17) (j := 0) rfl rfl (Nat.le_of_ble_eq_true rfl) rfl rfl rfl) ?_
   obtain ⟨q6, h⟩ := h
   refine run_w (ws_app1 (fun r => C.own (ints r)) (l := o5_1) (m := [(el lists v4_1)]) rfl rfl rfl rfl rfl (Nat.le_of_ble_eq_true rfl) q6 ⟨rfl, ?_⟩)
   refine run_s (ss_assign rfl) rfl ?_
   refine run_nil ?_
   refine aw_gh (gh_to (n := 21) (σ' := [(5, ⟨orows (o5_1 ++ ([(el lists v4_1)])), []⟩)]) (env' := [(0, .c (.lst (rows lists))), (3, .ref 5), (4, .c (ci v4_1))]) rfl rfl ⟨rfl, rfl, rfl, trivial⟩) ?_
   refine aw_region ?_
   refine run_s (ss_move rfl) rfl ?_
   obtain ⟨q7, h⟩ := h
   refine run_s (ss_add rfl rfl q7) rfl ?_
   refine run_s (ss_assign rfl) rfl ?_
   refine run_nil ?_
   exact ⟨v4_1 + 1, o5_1 ++ ([(el lists v4_1)]), ghe_to (n := 21) rfl rfl ⟨rfl, rfl, rfl, trivial⟩, h.1, h.2⟩
  ·replace h := h.2 (of_decide_eq_false q2)
   refine aw_exit ?_
   refine aw_seq ?_
   refine aw_gh (gh_to (n := 21) (σ' := [(5, ⟨orows o5_1, []⟩)]) (env' := [(3, .ref 5)]) rfl rfl ⟨rfl, trivial⟩) ?_
   refine aw_region ?_
   refine run_s (ss_move rfl) rfl ?_
   refine run_s (ss_assign rfl) rfl ?_
   refine run_nil ?_
   refine aw_ret ?_
   exact retAF_mk (retv1 rfl (rv_tmp rfl)) rfl rfl ⟨_, (cle_refl _), _, h, rfl⟩

theorem c_spec_l01Own2 (lists : List (List Int)) (hp : small2 lists) : AF Try.prog 208 [.lst (rows lists)] (fun R_ => R_ = .own (orows lists)) :=
  (w_spec_l01Own2 lists (fun y0 => y0 = lists) (p_spec_l01Own2 lists hp)).mono (by rintro r ⟨_, rfl, rfl⟩; rfl)

set_option maxRecDepth 100000 in
set_option maxHeartbeats 4000000 in
theorem w_impl_solutionBy_1 (x : Int) (y : Int) (value_g : Nat) (value_c : List C) (value : Int → Int → Int × Int) (value_D : Int → Int → Prop) (value_h : ∀ x0 x1, value_D x0 x1 → AF Try.prog value_g ([ci x0, ci x1] ++ value_c) (fun R_ => R_ = .tup [ci ((value x0 x1).1), ci ((value x0 x1).2)])) (Q : Int → Prop) (h : wp_impl_solutionBy_1 x y value value_D Q) : AF Try.prog 193 [ci x, ci y, .ptr [.clo value_g value_c]] (fun R_ => ∃ y0, Q y0 ∧ R_ = ci y0) := by
  refine AF.ofWQ (af_enter (n := 16) Try.func193 rfl (by rfl) rfl (Nat.le_of_ble_eq_true rfl) ?_)
  unfold wp_impl_solutionBy_1 at h
  refine aw_seq ?_
  refine aw_gh (gh_to (n := 16) (σ' := []) (env' := [(0, .c (ci x)), (1, .c (ci y)), (2, .c (.ptr [.clo value_g value_c]))]) rfl rfl ⟨rfl, rfl, rfl, trivial⟩) ?_
  refine aw_region ?_
  refine run_s (ss_assign rfl) rfl ?_
  refine run_nil ?_
  refine aw_seq ?_
  refine aw_region ?_
  refine run_s (ss_load_ptr rfl rfl) rfl ?_
  refine run_s (ss_move rfl) rfl ?_
  refine run_s (ss_move rfl) rfl ?_
  obtain ⟨q1, h⟩ := h
  refine run_w (ws_call (xs := [.tmp 10, .tmp 11]) (ids := []) rfl rfl rfl rfl (value_h x y q1) rfl ?_ )
  rintro _ rfl
  refine ⟨rfl, ?_⟩
  refine run_s (ss_move rfl) rfl ?_
  refine run_s (ss_extract rfl rfl) rfl ?_
  refine run_s (ss_extract rfl rfl) rfl ?_
  refine run_s (ss_assign rfl) rfl ?_
  refine run_s (ss_assign rfl) rfl ?_
  refine run_nil ?_
  refine aw_seq ?_
  refine aw_gh (gh_to (n := 16) (σ' := []) (env' := [(5, .c (ci 0)), (6, .c (ci ((value x y).1)))]) rfl rfl ⟨rfl, rfl, trivial⟩) ?_
  refine aw_region ?_
  refine run_s (ss_move rfl) rfl ?_
  refine run_s (ss_assign rfl) rfl ?_
  refine run_nil ?_
  refine aw_ret ?_
  exact retAF_mk (retv1 rfl (rv_tmp rfl)) rfl rfl ⟨_, (cle_refl _), _, h, rfl⟩

theorem c_impl_solutionBy_1 (x : Int) (y : Int) (value_g : Nat) (value_c : List C) (value : Int → Int → Int × Int) (value_D : Int → Int → Prop) (value_h : ∀ x0 x1, value_D x0 x1 → AF Try.prog value_g ([ci x0, ci x1] ++ value_c) (fun R_ => R_ = .tup [ci ((value x0 x1).1), ci ((value x0 x1).2)])) (hp : value_D x y) : AF Try.prog 193 [ci x, ci y, .ptr [.clo value_g value_c]] (fun R_ => R_ = ci ((value x y).1)) :=
  (w_impl_solutionBy_1 x y value_g value_c value value_D value_h (fun y0 => y0 = (value x y).1) (p_impl_solutionBy_1 x y value value_D hp)).mono (by rintro r ⟨_, rfl, rfl⟩; rfl)

set_option maxRecDepth 100000 in
set_option maxHeartbeats 4000000 in
theorem w_impl_solutionBy_2 (x : Int) (y : Int) (value_g : Nat) (value_c : List C) (value : Int → Int → Int × Int) (value_D : Int → Int → Prop) (value_h : ∀ x0 x1, value_D x0 x1 → AF Try.prog value_g ([ci x0, ci x1] ++ value_c) (fun R_ => R_ = .tup [ci ((value x0 x1).1), ci ((value x0 x1).2)])) (Q : Int → Prop) (h : wp_impl_solutionBy_2 x y value value_D Q) : AF Try.prog 194 [ci x, ci y, .ptr [.clo value_g value_c]] (fun R_ => ∃ y0, Q y0 ∧ R_ = ci y0) := by
  refine AF.ofWQ (af_enter (n := 16) Try.func194 rfl (by rfl) rfl (Nat.le_of_ble_eq_true rfl) ?_)
  unfold wp_impl_solutionBy_2 at h
  refine aw_seq ?_
  refine aw_gh (gh_to (n := 16) (σ' := []) (env' := [(0, .c (ci x)), (1, .c (ci y)), (2, .c (.ptr [.clo value_g value_c]))]) rfl rfl ⟨rfl, rfl, rfl, trivial⟩) ?_
  refine aw_region ?_
  refine run_s (ss_assign rfl) rfl ?_
  refine run_nil ?_
  refine aw_seq ?_
  refine aw_region ?_
  refine run_s (ss_load_ptr rfl rfl) rfl ?_
  refine run_s (ss_move rfl) rfl ?_
  refine run_s (ss_move rfl) rfl ?_
  obtain ⟨q1, h⟩ := h
  refine run_w (ws_call (xs := [.tmp 10, .tmp 11]) (ids := []) rfl rfl rfl rfl (value_h x y q1) rfl ?_ )
  rintro _ rfl
  refine ⟨rfl, ?_⟩
  refine run_s (ss_move rfl) rfl ?_
  refine run_s (ss_extract rfl rfl) rfl ?_
  refine run_s (ss_extract rfl rfl) rfl ?_
  refine run_s (ss_assign rfl) rfl ?_
  refine run_s (ss_assign rfl) rfl ?_
  refine run_nil ?_
  refine aw_seq ?_
  refine aw_gh (gh_to (n := 16) (σ' := []) (env' := [(5, .c (ci 0)), (7, .c (ci ((value x y).2)))]) rfl rfl ⟨rfl, rfl, trivial⟩) ?_
  refine aw_region ?_
  refine run_s (ss_move rfl) rfl ?_
  refine run_s (ss_assign rfl) rfl ?_
  refine run_nil ?_
  refine aw_ret ?_
  exact retAF_mk (retv1 rfl (rv_tmp rfl)) rfl rfl ⟨_, (cle_refl _), _, h, rfl⟩

theorem c_impl_solutionBy_2 (x : Int) (y : Int) (value_g : Nat) (value_c : List C) (value : Int → Int → Int × Int) (value_D : Int → Int → Prop) (value_h : ∀ x0 x1, value_D x0 x1 → AF Try.prog value_g ([ci x0, ci x1] ++ value_c) (fun R_ => R_ = .tup [ci ((value x0 x1).1), ci ((value x0 x1).2)])) (hp : value_D x y) : AF Try.prog 194 [ci x, ci y, .ptr [.clo value_g value_c]] (fun R_ => R_ = ci ((value x y).2)) :=
  (w_impl_solutionBy_2 x y value_g value_c value value_D value_h (fun y0 => y0 = (value x y).2) (p_impl_solutionBy_2 x y value value_D hp)).mono (by rintro r ⟨_, rfl, rfl⟩; rfl)

set_option maxRecDepth 100000 in
set_option maxHeartbeats 4000000 in
theorem w_impl_solutionBy (n : Int) (value_g : Nat) (value_c : List C) (value : Int → Int → Int × Int) (value_D : Int → Int → Prop) (value_h : ∀ x0 x1, value_D x0 x1 → AF Try.prog value_g ([ci x0, ci x1] ++ value_c) (fun R_ => R_ = .tup [ci ((value x0 x1).1), ci ((value x0 x1).2)])) (Q : List (List Int) → List (List Int) → Prop) (h : wp_impl_solutionBy n value value_D Q) : AF Try.prog 163 [ci n, .clo value_g value_c] (fun R_ => ∃ y0 y1, Q y0 y1 ∧ R_ = .agg [.own (orows y0), .own (orows y1)]) := by
  refine AF.ofWQ (af_enter (n := 12) Try.func163 rfl (by rfl) rfl (Nat.le_of_ble_eq_true rfl) ?_)
  unfold wp_impl_solutionBy at h
  refine aw_seq ?_
  refine aw_gh (gh_to (n := 12) (σ' := []) (env' := [(0, .c (ci n)), (1, .c (.clo value_g value_c))]) rfl rfl ⟨rfl, rfl, trivial⟩) ?_
  refine aw_region ?_
  refine run_w (ws_boxR rfl (.inr rfl) rfl ⟨rfl, ?_⟩)
  refine run_w (ws_alloc (id := 4) rfl (Nat.le_of_ble_eq_true rfl) ⟨rfl, ?_⟩)
  refine run_nil ?_
  refine aw_seq ?_
  refine aw_region ?_
  refine run_s (ss_move rfl) rfl ?_
  refine run_s (ss_makeFunc (os := [.tmp 3]) rfl) rfl ?_
  obtain ⟨q1, h⟩ := h
  refine run_w (ws_call (xs := [.tmp 5, .tmp 6]) (ids := [7]) rfl rfl rfl rfl (c_impl_tableBy n 193 [.ptr [.clo value_g value_c]] (fun z0 z1 => (value z0 z1).1) (fun z0 z1 => value_D z0 z1) (fun z0 z1 hD => c_impl_solutionBy_1 z0 z1 value_g value_c value value_D value_h hD) q1) rfl ?_ )
  rintro _ rfl
  refine ⟨rfl, ?_⟩
  refine run_s (ss_move rfl) rfl ?_
  refine run_s (ss_makeFunc (os := [.tmp 3]) rfl) rfl ?_
  obtain ⟨q3, h⟩ := h
  refine run_w (ws_call (xs := [.tmp 8, .tmp 9]) (ids := [10]) rfl rfl rfl rfl (c_impl_tableBy n 194 [.ptr [.clo value_g value_c]] (fun z0 z1 => (value z0 z1).2) (fun z0 z1 => value_D z0 z1) (fun z0 z1 hD => c_impl_solutionBy_2 z0 z1 value_g value_c value value_D value_h hD) q3) rfl ?_ )
  rintro _ rfl
  refine ⟨rfl, ?_⟩
  refine run_s (ss_build (ps := [(0, .tmp 7), (1, .tmp 10)]) rfl rfl) rfl ?_
  refine run_w (ws_storeN rfl rfl (Nat.le_of_ble_eq_true rfl) rfl rfl rfl rfl ⟨rfl, ?_⟩)
  refine run_nil ?_
  refine aw_ret ?_
  exact retAF_mk (retv1 rfl (rv_struct rfl rfl rfl)) rfl rfl ⟨_, (cle_refl _), _, _, h, rfl⟩

theorem c_impl_solutionBy (n : Int) (value_g : Nat) (value_c : List C) (value : Int → Int → Int × Int) (value_D : Int → Int → Prop) (value_h : ∀ x0 x1, value_D x0 x1 → AF Try.prog value_g ([ci x0, ci x1] ++ value_c) (fun R_ => R_ = .tup [ci ((value x0 x1).1), ci ((value x0 x1).2)])) (hp : 0 ≤ n ∧ n ≤ 1000000 ∧ ∀ x_ y_, 0 ≤ x_ → x_ < n → 0 ≤ y_ → y_ < n → value_D x_ y_) : AF Try.prog 163 [ci n, .clo value_g value_c] (fun R_ => R_ = .agg [.own (orows (tab n (fun z0_ z1_ => (value z0_ z1_).1))), .own (orows (tab n (fun z0_ z1_ => (value z0_ z1_).2)))]) :=
  (w_impl_solutionBy n value_g value_c value value_D value_h (fun y0 y1 => y0 = tab n (fun z0_ z1_ => (value z0_ z1_).1) ∧ y1 = tab n (fun z0_ z1_ => (value z0_ z1_).2)) (p_impl_solutionBy n value value_D hp)).mono (by rintro r ⟨_, _, ⟨rfl, rfl⟩, rfl⟩; rfl)

set_option maxRecDepth 100000 in
set_option maxHeartbeats 4000000 in
theorem w_impl_cycleSolution_1 (x : Int) (y : Int) (c : List (List Int)) (Q : Int → Int → Prop) (h : wp_impl_cycleSolution_1 x y c Q) : AF Try.prog 164 [ci x, ci y, .ptr [.lst (rows c)]] (fun R_ => ∃ y0 y1, Q y0 y1 ∧ R_ = .tup [ci y0, ci y1]) := by
  refine AF.ofWQ (af_enter (n := 24) Try.func164 rfl (by rfl) rfl (Nat.le_of_ble_eq_true rfl) ?_)
  unfold wp_impl_cycleSolution_1 at h
  refine aw_seq ?_
  refine aw_gh (gh_to (n := 24) (σ' := []) (env' := [(0, .c (ci x)), (1, .c (ci y)), (2, .c (.ptr [.lst (rows c)]))]) rfl rfl ⟨rfl, rfl, rfl, trivial⟩) ?_
  refine aw_region ?_
  refine run_s (ss_assign rfl) rfl ?_
  refine run_s (ss_assign rfl) rfl ?_
  refine run_nil ?_
  refine aw_seq ?_
  refine aw_region ?_
  refine run_s (ss_field_ptr rfl) rfl ?_
  refine run_s (ss_load_ptr rfl rfl) rfl ?_
  refine run_s (ss_move rfl) rfl ?_
  obtain ⟨q1, h⟩ := h
  refine run_s (ss_idxL rfl rfl q1) rfl ?_
  refine run_s (ss_loadL (f := (fun r => C.lst (ints r))) rfl q1) rfl ?_
  refine run_s (ss_move rfl) rfl ?_
  obtain ⟨q2, h⟩ := h
  refine run_w (ws_call (xs := [.tmp 12, .tmp 13]) (ids := []) rfl rfl rfl rfl (c_impl_indexIn (el c x) y q2) rfl ?_ )
  rintro _ rfl
  refine ⟨rfl, ?_⟩
  refine run_s (ss_assign rfl) rfl ?_
  refine run_nil ?_
  refine aw_seq ?_
  refine aw_gh (gh_to (n := 24) (σ' := []) (env' := [(0, .c (ci x)), (2, .c (.ptr [.lst (rows c)])), (5, .c (ci 0)), (6, .c (ci 0)), (7, .c (ci (idxI (el c x) y)))]) rfl rfl ⟨rfl, rfl, rfl, rfl, rfl, trivial⟩) ?_
  refine aw_regionD (kd := kdl [0, 0, 1, 0, 0, 1, 0, 0, 1, 0, 0]) (ord := [0, 1, 3, 6, 9, 2, 4, 5, 7, 8, 10]) [] mixed (by kernel_rfl) ?_
  refine rd_s rfl rfl trivial (ss_move rfl) rfl ?_
  refine rd_s rfl rfl trivial (ss_field_ptr rfl) rfl ?_
  refine rd_s rfl rfl trivial (ss_move rfl) rfl ?_
  refine rd_s rfl rfl trivial (ss_move rfl) rfl ?_
  refine rd_s rfl rfl trivial (ss_assign rfl) rfl ?_
  refine rd_l rfl rfl trivial (ss_load_ptr rfl rfl) rfl ?_
  obtain ⟨q4, h⟩ := h
  refine rd_s rfl rfl trivial (ss_idxL rfl rfl q4) rfl ?_
  refine rd_l rfl rfl trivial (ss_loadL (f := (fun r => C.lst (ints r))) rfl q4) rfl ?_
  obtain ⟨q5, h⟩ := h
  refine rd_s rfl rfl trivial (ss_idxL rfl rfl q5) rfl ?_
  refine rd_l rfl rfl trivial (ss_loadL (f := ci) rfl q5) rfl ?_
  refine rd_s rfl rfl trivial (ss_assign rfl) rfl ?_
  refine rd_nil ?_
  refine aw_ret ?_
  exact retAF_mk (retv2 rfl (rv_tmp rfl) (rv_tmp rfl)) rfl rfl ⟨_, (cle_refl _), _, _, h, rfl⟩

theorem c_impl_cycleSolution_1 (x : Int) (y : Int) (c : List (List Int)) (hp : isTab c = true ∧ c.all isPerm = true ∧ 0 ≤ x ∧ x < (c.length : Int) ∧ 0 ≤ y ∧ y < (c.length : Int)) : AF Try.prog 164 [ci x, ci y, .ptr [.lst (rows c)]] (fun R_ => R_ = .tup [ci (cyA c x y), ci (cyB c x y)]) :=
  (w_impl_cycleSolution_1 x y c (fun y0 y1 => y0 = cyA c x y ∧ y1 = cyB c x y) (p_impl_cycleSolution_1 x y c hp)).mono (by rintro r ⟨_, _, ⟨rfl, rfl⟩, rfl⟩; rfl)

set_option maxRecDepth 100000 in
set_option maxHeartbeats 4000000 in
theorem w_impl_cycleSolution (c : List (List Int)) (Q : List (List Int) → List (List Int) → Prop) (h : wp_impl_cycleSolution c Q) : AF Try.prog 131 [.agg [.lst (rows c)]] (fun R_ => ∃ y0 y1, Q y0 y1 ∧ R_ = .agg [.own (orows y0), .own (orows y1)]) := by
  refine AF.ofWQ (af_enter (n := 8) Try.func131 rfl (by rfl) rfl (Nat.le_of_ble_eq_true rfl) ?_)
  unfold wp_impl_cycleSolution at h
  refine aw_seq ?_
  refine aw_gh (gh_to (n := 8) (σ' := []) (env' := [(0, .c (.agg [.lst (rows c)]))]) rfl rfl ⟨rfl, trivial⟩) ?_
  refine aw_region ?_
  refine run_w (ws_boxR rfl (.inl rfl) rfl ⟨rfl, ?_⟩)
  refine run_w (ws_alloc (id := 2) rfl (Nat.le_of_ble_eq_true rfl) ⟨rfl, ?_⟩)
  refine run_nil ?_
  refine aw_seq ?_
  refine aw_region ?_
  refine run_s (ss_field_ptr rfl) rfl ?_
  refine run_s (ss_load_ptr rfl rfl) rfl ?_
  refine run_s (ss_lenL (f := (fun r => C.lst (ints r))) rfl) rfl ?_
  refine run_s (ss_makeFunc (os := [.tmp 1]) rfl) rfl ?_
  obtain ⟨q1, h⟩ := h
  refine run_w (ws_call (xs := [.tmp 5, .tmp 6]) (ids := [7, 1001]) rfl rfl rfl rfl (c_impl_solutionBy (c.length : Int) 164 [.ptr [.lst (rows c)]] (fun z0 z1 => (cyA c z0 z1, cyB c z0 z1)) (fun z0 z1 => isTab c = true ∧ c.all isPerm = true ∧ 0 ≤ z0 ∧ z0 < (c.length : Int) ∧ 0 ≤ z1 ∧ z1 < (c.length : Int)) (fun z0 z1 hD => c_impl_cycleSolution_1 z0 z1 c hD) q1) rfl ?_ )
  rintro _ rfl
  refine ⟨rfl, ?_⟩
  refine run_w (ws_storeN rfl rfl (Nat.le_of_ble_eq_true rfl) rfl rfl rfl rfl ⟨rfl, ?_⟩)
  refine run_nil ?_
  refine aw_ret ?_
  exact retAF_mk (retv1 rfl (rv_struct rfl rfl rfl)) rfl rfl ⟨_, (cle_refl _), _, _, h, rfl⟩

theorem c_impl_cycleSolution (c : List (List Int)) (hp : isTab c = true ∧ c.all isPerm = true) : AF Try.prog 131 [.agg [.lst (rows c)]] (fun R_ => R_ = .agg [.own (orows (cyAT c)), .own (orows (cyBT c))]) :=
  (w_impl_cycleSolution c (fun y0 y1 => y0 = cyAT c ∧ y1 = cyBT c) (p_impl_cycleSolution c hp)).mono (by rintro r ⟨_, _, ⟨rfl, rfl⟩, rfl⟩; rfl)

set_option maxRecDepth 100000 in
set_option maxHeartbeats 4000000 in
theorem w_spec_l02Empty (n : Int) (Q : List (List Int) → List (List Int) → Prop) (h : wp_spec_l02Empty n Q) : AF Try.prog 167 [ci n] (fun R_ => ∃ y0 y1, Q y0 y1 ∧ R_ = .agg [.own (orows y0), .own (orows y1)]) := by
  refine AF.ofWQ (af_enter (n := 26) Try.func167 rfl (by rfl) rfl (Nat.le_of_ble_eq_true rfl) ?_)
  unfold wp_spec_l02Empty at h
  refine aw_seq ?_
  refine aw_gh (gh_to (n := 26) (σ' := []) (env' := [(0, .c (ci n))]) rfl rfl ⟨rfl, trivial⟩) ?_
  refine aw_region ?_
  refine run_w (ws_alloc (id := 2) rfl (Nat.le_of_ble_eq_true rfl) ⟨rfl, ?_⟩)
  refine run_nil ?_
  refine aw_seq ?_
  refine aw_region ?_
  refine run_s (ss_build0) rfl ?_
  refine run_w (ws_alloc (id := 3) rfl (Nat.le_of_ble_eq_true rfl) ⟨rfl, ?_⟩)
  refine run_w (ws_storeN rfl rfl (Nat.le_of_ble_eq_true rfl) rfl rfl rfl rfl ⟨rfl, ?_⟩)
  refine run_nil ?_
  refine aw_seq ?_
  refine aw_seq ?_
  refine aw_region ?_
  refine run_s (ss_assign rfl) rfl ?_
  refine run_nil ?_
  refine aw_block ?_
  obtain ⟨H1, m1, q1, h⟩ := h
  refine aw_loop3 (fun (v4_1 : Int) (o200048_1 : List (List Int)) (o200049_1 : List (List Int)) => ⟨[(200049, ⟨orows o200049_1, []⟩), (200048, ⟨orows o200048_1, []⟩), (3, ⟨[.hole, .hole], [(1, .ref 200049), (0, .ref 200048)]⟩), (2, ⟨[cnil, cnil], []⟩)], [(0, .c (ci n)), (2, .cell 2 0), (3, .cell 3 0), (4, .c (ci v4_1))], 26⟩) H1 m1 ⟨0, ([] : List (List Int)), ([] : List (List Int)), ghe_step (gh_nilH (id0 := 3) (j := 0) (id := 200048) rfl rfl rfl rfl) (ghe_step (gh_nilH (id0 := 3) (j := 1) (id := 200049) rfl rfl rfl rfl) (ghe_to (n := 26) rfl rfl ⟨rfl, rfl, rfl, rfl, trivial⟩)), q1⟩ ?_
  rintro v4_1 o200048_1 o200049_1 q1
  replace h := h v4_1 o200048_1 o200049_1 q1
  refine aw_seq ?_
  refine aw_seq ?_
  refine aw_region ?_
  refine run_s (ss_move rfl) rfl ?_
  refine run_s (ss_move rfl) rfl ?_
  refine run_s (ss_lss rfl rfl) rfl ?_
  refine run_nil ?_
  refine aw_cond rfl (fun q2 => ?_) (fun q2 => ?_)
  ·replace h := h.1 (of_decide_eq_true q2)
   refine aw_skip ?_
   refine aw_seq ?_
   refine aw_block ?_
   refine aw_seq ?_
   refine aw_gh (gh_to (n := 26) (σ' := [(200049, ⟨orows o200049_1, []⟩), (200048, ⟨orows o200048_1, []⟩), (3, ⟨[.hole, .hole], [(1, .ref 200049), (0, .ref 200048)]⟩), (2, ⟨[cnil, cnil], []⟩)]) (env' := [(0, .c (ci n)), (2, .cell 2 0), (3, .cell 3 0), (4, .c (ci v4_1))]) rfl rfl ⟨rfl, rfl, rfl, rfl, trivial⟩) ?_
   refine aw_regionD (kd := kdl [0, 1, 0, 2, 2, 2, 0, 3]) (ord := [0, 2, 1, 3, 4, 5, 6, 7]) [14, 15, 200048] mixed (by kernel_rfl) ?_
   refine rd_s rfl rfl trivial (ss_field_cell rfl) rfl ?_
   refine rd_s rfl rfl trivial (ss_move rfl) rfl ?_
   refine rd_l rfl rfl trivial (ss_loadH rfl rfl rfl rfl) rfl ?_
   obtain ⟨q3, h⟩ := h
   refine rd_w rfl rfl trivial rfl rfl (ws_mk (id := 14) ci (0 : Int) rfl rfl rfl q3 (Nat.le_of_ble_eq_true rfl) rfl ⟨rfl, ?_⟩)
   refine rd_w rfl rfl trivial rfl rfl (ws_buildSlice (id := 15) (ps := [(0, .tmp 14)]) rfl rfl (Nat.le_of_ble_eq_true rfl) rfl ⟨rfl, ?_⟩)
   obtain ⟨q4, h⟩ := h
   refine rd_w rfl rfl trivial rfl rfl (ws_gh (gh_fill (id := 15) (id2 := 14) (j := 0) rfl rfl (Nat.le_of_ble_eq_true rfl) rfl rfl rfl) (ws_app1 (fun r => C.own (ints r)) (l := o200048_1) (m := [List.replicate n.toNat (0 : Int)]) rfl rfl rfl rfl rfl (Nat.le_of_ble_eq_true rfl) q4 ⟨rfl, ?_⟩))
   refine rd_s rfl rfl trivial (ss_field_cell rfl) rfl ?_
   refine rd_f rfl rfl trivial (ws_store rfl rfl (Nat.le_of_ble_eq_true rfl) rfl rfl ⟨rfl, ?_⟩)
   refine rd_nil ?_
   refine aw_gh (gh_to (n := 26) (σ' := [(200049, ⟨orows o200049_1, []⟩), (200048, ⟨orows (o200048_1 ++ ([List.replicate n.toNat (0 : Int)])), []⟩), (3, ⟨[.hole, .hole], [(0, .ref 200048), (1, .ref 200049)]⟩), (2, ⟨[cnil, cnil], []⟩)]) (env' := [(0, .c (ci n)), (2, .cell 2 0), (3, .cell 3 0), (4, .c (ci v4_1))]) rfl rfl ⟨rfl, rfl, rfl, rfl, trivial⟩) ?_
   refine aw_regionD (kd := kdl [0, 1, 0, 2, 2, 2, 0, 3]) (ord := [0, 2, 1, 3, 4, 5, 6, 7]) [21, 22, 200049] mixed (by kernel_rfl) ?_
   refine rd_s rfl rfl trivial (ss_field_cell rfl) rfl ?_
   refine rd_s rfl rfl trivial (ss_move rfl) rfl ?_
   refine rd_l rfl rfl trivial (ss_loadH rfl rfl rfl rfl) rfl ?_
   obtain ⟨q5, h⟩ := h
   refine rd_w rfl rfl trivial rfl rfl (ws_mk (id := 21) ci (0 : Int) rfl rfl rfl q5 (Nat.le_of_ble_eq_true rfl) rfl ⟨rfl, ?_⟩)
   refine rd_w rfl rfl trivial rfl rfl (ws_buildSlice (id := 22) (ps := [(0, .tmp 21)]) rfl rfl (Nat.le_of_ble_eq_true rfl) rfl ⟨rfl, ?_⟩)
   obtain ⟨q6, h⟩ := h
   refine rd_w rfl rfl trivial rfl rfl (ws_gh (gh_fill (id := 22) (id2 := 21) (j := 0) rfl rfl (Nat.le_of_ble_eq_true rfl) rfl rfl rfl) (ws_app1 (fun r => C.own (ints r)) (l := o200049_1) (m := [List.replicate n.toNat (0 : Int)]) rfl rfl rfl rfl rfl (Nat.le_of_ble_eq_true rfl) q6 ⟨rfl, ?_⟩))
   refine rd_s rfl rfl trivial (ss_field_cell rfl) rfl ?_
   refine rd_f rfl rfl trivial (ws_store rfl rfl (Nat.le_of_ble_eq_true rfl) rfl rfl ⟨rfl, ?_⟩)
   refine rd_nil ?_
   refine aw_gh (gh_to (n := 26) (σ' := [(200049, ⟨orows (o200049_1 ++ ([List.replicate n.toNat (0 : Int)])), []⟩), (200048, ⟨orows (o200048_1 ++ ([List.replicate n.toNat (0 : Int)])), []⟩), (3, ⟨[.hole, .hole], [(1, .ref 200049), (0, .ref 200048)]⟩), (2, ⟨[cnil, cnil], []⟩)]) (env' := [(0, .c (ci n)), (2, .cell 2 0), (3, .cell 3 0), (4, .c (ci v4_1))]) rfl rfl ⟨rfl, rfl, rfl, rfl, trivial⟩) ?_
   refine aw_region ?_
   refine run_s (ss_move rfl) rfl ?_
   obtain ⟨q7, h⟩ := h
   refine run_s (ss_add rfl rfl q7) rfl ?_
   refine run_s (ss_assign rfl) rfl ?_
   refine run_nil ?_
   exact ⟨v4_1 + 1, o200048_1 ++ ([List.replicate n.toNat (0 : Int)]), o200049_1 ++ ([List.replicate n.toNat (0 : Int)]), ghe_to (n := 26) rfl rfl ⟨rfl, rfl, rfl, rfl, trivial⟩, h.1, h.2⟩
  ·replace h := h.2 (of_decide_eq_false q2)
   refine aw_exit ?_
   refine aw_seq ?_
   refine aw_gh (gh_to (n := 26) (σ' := [(200049, ⟨orows o200049_1, []⟩), (200048, ⟨orows o200048_1, []⟩), (3, ⟨[.hole, .hole], [(1, .ref 200049), (0, .ref 200048)]⟩), (2, ⟨[cnil, cnil], []⟩)]) (env' := [(2, .cell 2 0), (3, .cell 3 0)]) rfl rfl ⟨rfl, rfl, trivial⟩) ?_
   refine aw_region ?_
   refine run_s (ss_loadS rfl rfl rfl rfl) rfl ?_
   refine run_w (ws_storeN rfl rfl (Nat.le_of_ble_eq_true rfl) rfl rfl rfl rfl ⟨rfl, ?_⟩)
   refine run_nil ?_
   refine aw_ret ?_
   exact retAF_mk (retv1 rfl (rv_struct rfl rfl rfl)) rfl rfl ⟨_, (cle_refl _), _, _, h, rfl⟩

theorem c_spec_l02Empty (n : Int) (hp : 0 ≤ n ∧ n ≤ 1000000) : AF Try.prog 167 [ci n] (fun R_ => R_ = .agg [.own (orows (tab n (fun _ _ => 0))), .own (orows (tab n (fun _ _ => 0)))]) :=
  (w_spec_l02Empty n (fun y0 y1 => y0 = tab n (fun _ _ => 0) ∧ y1 = tab n (fun _ _ => 0)) (p_spec_l02Empty n hp)).mono (by rintro r ⟨_, _, ⟨rfl, rfl⟩, rfl⟩; rfl)

set_option maxRecDepth 100000 in
set_option maxHeartbeats 4000000 in
theorem w_spec_l05Solution (c : List (List Int)) (Q : List (List Int) → List (List Int) → Prop) (h : wp_spec_l05Solution c Q) : AF Try.prog 133 [.agg [.lst (rows c)]] (fun R_ => ∃ y0 y1, Q y0 y1 ∧ R_ = .agg [.own (orows y0), .own (orows y1)]) := by
  refine AF.ofWQ (af_enter (n := 58) Try.func133 rfl (by rfl) rfl (Nat.le_of_ble_eq_true rfl) ?_)
  unfold wp_spec_l05Solution at h
  refine aw_seq ?_
  refine aw_gh (gh_to (n := 58) (σ' := []) (env' := [(0, .c (.agg [.lst (rows c)]))]) rfl rfl ⟨rfl, trivial⟩) ?_
  refine aw_region ?_
  refine run_w (ws_boxR rfl (.inl rfl) rfl ⟨rfl, ?_⟩)
  refine run_w (ws_alloc (id := 2) rfl (Nat.le_of_ble_eq_true rfl) ⟨rfl, ?_⟩)
  refine run_nil ?_
  refine aw_seq ?_
  refine aw_region ?_
  refine run_s (ss_field_ptr rfl) rfl ?_
  refine run_s (ss_load_ptr rfl rfl) rfl ?_
  refine run_s (ss_lenL (f := (fun r => C.lst (ints r))) rfl) rfl ?_
  refine run_s (ss_assign rfl) rfl ?_
  refine run_nil ?_
  refine aw_seq ?_
  refine aw_region ?_
  refine run_s (ss_move rfl) rfl ?_
  obtain ⟨q1, h⟩ := h
  refine run_w (ws_call (xs := [.tmp 13]) (ids := [14, 1001]) rfl rfl rfl rfl (c_spec_l02Empty (c.length : Int) q1) rfl ?_ )
  rintro _ rfl
  refine ⟨rfl, ?_⟩
  refine run_w (ws_alloc (id := 4) rfl (Nat.le_of_ble_eq_true rfl) ⟨rfl, ?_⟩)
  refine run_w (ws_storeN rfl rfl (Nat.le_of_ble_eq_true rfl) rfl rfl rfl rfl ⟨rfl, ?_⟩)
  refine run_nil ?_
  refine aw_seq ?_
  refine aw_seq ?_
  refine aw_gh (gh_to (n := 58) (σ' := [(4, ⟨[.hole, .hole], [(1, .ref 1001), (0, .ref 14)]⟩), (14, ⟨orows (tab (c.length : Int) (fun _ _ => 0)), []⟩), (1001, ⟨orows (tab (c.length : Int) (fun _ _ => 0)), []⟩), (2, ⟨[cnil, cnil], []⟩)]) (env' := [(1, .c (.ptr [.lst (rows c)])), (2, .cell 2 0), (3, .c (ci (c.length : Int))), (4, .cell 4 0)]) rfl rfl ⟨rfl, rfl, rfl, rfl, trivial⟩) ?_
  refine aw_region ?_
  refine run_s (ss_assign rfl) rfl ?_
  refine run_nil ?_
  refine aw_block ?_
  obtain ⟨H1, m1, q3, h⟩ := h
  refine aw_loop3 (fun (v5_1 : Int) (o14_1 : List (List Int)) (o1001_1 : List (List Int)) => ⟨[(4, ⟨[.hole, .hole], [(1, .ref 1001), (0, .ref 14)]⟩), (14, ⟨orows o14_1, []⟩), (1001, ⟨orows o1001_1, []⟩), (2, ⟨[cnil, cnil], []⟩)], [(1, .c (.ptr [.lst (rows c)])), (2, .cell 2 0), (3, .c (ci (c.length : Int))), (4, .cell 4 0), (5, .c (ci v5_1))], 58⟩) H1 m1 ⟨0, tab (c.length : Int) (fun _ _ => 0), tab (c.length : Int) (fun _ _ => 0), ghe_to (n := 58) rfl rfl ⟨rfl, rfl, rfl, rfl, rfl, trivial⟩, q3⟩ ?_
  rintro v5_1 o14_1 o1001_1 q3
  replace h := h v5_1 o14_1 o1001_1 q3
  refine aw_seq ?_
  refine aw_seq ?_
  refine aw_region ?_
  refine run_s (ss_move rfl) rfl ?_
  refine run_s (ss_move rfl) rfl ?_
  refine run_s (ss_lss rfl rfl) rfl ?_
  refine run_nil ?_
  refine aw_cond rfl (fun q4 => ?_) (fun q4 => ?_)
  ·replace h := h.1 (of_decide_eq_true q4)
   refine aw_skip ?_
   refine aw_seq ?_
   refine aw_block ?_
   refine aw_seq ?_
   refine aw_gh (gh_to (n := 58) (σ' := [(4, ⟨[.hole, .hole], [(1, .ref 1001), (0, .ref 14)]⟩), (14, ⟨orows o14_1, []⟩), (1001, ⟨orows o1001_1, []⟩), (2, ⟨[cnil, cnil], []⟩)]) (env' := [(1, .c (.ptr [.lst (rows c)])), (2, .cell 2 0), (3, .c (ci (c.length : Int))), (4, .cell 4 0), (5, .c (ci v5_1))]) rfl rfl ⟨rfl, rfl, rfl, rfl, rfl, trivial⟩) ?_
   refine aw_regionD (kd := kdl [0, 1, 0, 0, 1, 0, 1, 0, 0, 1, 0, 0]) (ord := [0, 2, 5, 7, 1, 3, 4, 10, 6, 8, 9, 11]) [] mixed (by kernel_rfl) ?_
   refine rd_s rfl rfl trivial (ss_field_cell rfl) rfl ?_
   refine rd_s rfl rfl trivial (ss_move rfl) rfl ?_
   refine rd_s rfl rfl trivial (ss_field_cell rfl) rfl ?_
   refine rd_s rfl rfl trivial (ss_move rfl) rfl ?_
   refine rd_l rfl rfl trivial (ss_loadH rfl rfl rfl rfl) rfl ?_
   obtain ⟨q5, h⟩ := h
   refine rd_s rfl rfl trivial (ss_idxR (f := (fun r => C.own (ints r))) rfl rfl rfl q5) rfl ?_
   refine rd_open 1002 (id := 14) (j := v5_1.toNat) rfl (map_get (f := (fun r => C.own (ints r))) q5) rfl rfl rfl ?_
   refine rd_l rfl rfl trivial (ss_loadH rfl rfl lk_self rfl) rfl ?_
   refine rd_s rfl rfl trivial (ss_assign rfl) rfl ?_
   refine rd_l rfl rfl trivial (ss_loadH rfl rfl rfl rfl) rfl ?_
   obtain ⟨q6, h⟩ := h
   refine rd_s rfl rfl trivial (ss_idxR (f := (fun r => C.own (ints r))) rfl rfl rfl q6) rfl ?_
   refine rd_open 1003 (id := 1001) (j := v5_1.toNat) rfl (map_get (f := (fun r => C.own (ints r))) q6) rfl rfl rfl ?_
   refine rd_l rfl rfl trivial (ss_loadH rfl rfl lk_self rfl) rfl ?_
   refine rd_s rfl rfl trivial (ss_assign rfl) rfl ?_
   refine rd_nil ?_
   refine aw_seq ?_
   refine aw_gh (gh_to (n := 58) (σ' := [(1003, ⟨ints (el o1001_1 v5_1), []⟩), (1002, ⟨ints (el o14_1 v5_1), []⟩), (4, ⟨[.hole, .hole], [(1, .ref 1001), (0, .ref 14)]⟩), (14, ⟨(orows o14_1).set v5_1.toNat .hole, [(v5_1.toNat, .ref 1002)]⟩), (1001, ⟨(orows o1001_1).set v5_1.toNat .hole, [(v5_1.toNat, .ref 1003)]⟩), (2, ⟨[cnil, cnil], []⟩)]) (env' := [(1, .c (.ptr [.lst (rows c)])), (2, .cell 2 0), (3, .c (ci (c.length : Int))), (4, .cell 4 0), (5, .c (ci v5_1)), (6, .ref 1002), (7, .ref 1003)]) rfl rfl ⟨rfl, rfl, rfl, rfl, rfl, rfl, rfl, trivial⟩) ?_
   refine aw_region ?_
   refine run_s (ss_assign rfl) rfl ?_
   refine run_nil ?_
   refine aw_block ?_
   obtain ⟨H2, m2, q7, h⟩ := h
   refine aw_loop3 (fun (v8_2 : Int) (o1002_2 : List Int) (o1003_2 : List Int) => ⟨[(1003, ⟨ints o1003_2, []⟩), (1002, ⟨ints o1002_2, []⟩), (4, ⟨[.hole, .hole], [(1, .ref 1001), (0, .ref 14)]⟩), (14, ⟨(orows o14_1).set v5_1.toNat .hole, [(v5_1.toNat, .ref 1002)]⟩), (1001, ⟨(orows o1001_1).set v5_1.toNat .hole, [(v5_1.toNat, .ref 1003)]⟩), (2, ⟨[cnil, cnil], []⟩)], [(1, .c (.ptr [.lst (rows c)])), (2, .cell 2 0), (3, .c (ci (c.length : Int))), (4, .cell 4 0), (5, .c (ci v5_1)), (6, .ref 1002), (7, .ref 1003), (8, .c (ci v8_2))], 58⟩) H2 m2 ⟨0, el o14_1 v5_1, el o1001_1 v5_1, ghe_to (n := 58) rfl rfl ⟨rfl, rfl, rfl, rfl, rfl, rfl, rfl, rfl, trivial⟩, q7⟩ ?_
   rintro v8_2 o1002_2 o1003_2 q7
   replace h := h v8_2 o1002_2 o1003_2 q7
   refine aw_seq ?_
   refine aw_seq ?_
   refine aw_region ?_
   refine run_s (ss_move rfl) rfl ?_
   refine run_s (ss_move rfl) rfl ?_
   refine run_s (ss_lss rfl rfl) rfl ?_
   refine run_nil ?_
   refine aw_cond rfl (fun q8 => ?_) (fun q8 => ?_)
   ·replace h := h.1 (of_decide_eq_true q8)
    refine aw_skip ?_
    refine aw_seq ?_
    refine aw_block ?_
    refine aw_seq ?_
    refine aw_region ?_
    refine run_s (ss_field_ptr rfl) rfl ?_
    refine run_s (ss_load_ptr rfl rfl) rfl ?_
    refine run_s (ss_move rfl) rfl ?_
    obtain ⟨q9, h⟩ := h
    refine run_s (ss_idxL rfl rfl q9) rfl ?_
    refine run_s (ss_loadL (f := (fun r => C.lst (ints r))) rfl q9) rfl ?_
    refine run_s (ss_move rfl) rfl ?_
    obtain ⟨q10, h⟩ := h
    refine run_w (ws_call (xs := [.tmp 39, .tmp 40]) (ids := []) rfl rfl rfl rfl (c_spec_l01Index (el c v5_1) v8_2 q10) rfl ?_ )
    rintro _ rfl
    refine ⟨rfl, ?_⟩
    refine run_s (ss_assign rfl) rfl ?_
    refine run_nil ?_
    refine aw_seq ?_
    refine aw_gh (gh_to (n := 58) (σ' := [(1003, ⟨ints o1003_2, []⟩), (1002, ⟨ints o1002_2, []⟩), (4, ⟨[.hole, .hole], [(1, .ref 1001), (0, .ref 14)]⟩), (14, ⟨(orows o14_1).set v5_1.toNat .hole, [(v5_1.toNat, .ref 1002)]⟩), (1001, ⟨(orows o1001_1).set v5_1.toNat .hole, [(v5_1.toNat, .ref 1003)]⟩), (2, ⟨[cnil, cnil], []⟩)]) (env' := [(1, .c (.ptr [.lst (rows c)])), (2, .cell 2 0), (3, .c (ci (c.length : Int))), (4, .cell 4 0), (5, .c (ci v5_1)), (6, .ref 1002), (7, .ref 1003), (8, .c (ci v8_2)), (9, .c (ci (idxI (el c v5_1) v8_2)))]) rfl rfl ⟨rfl, rfl, rfl, rfl, rfl, rfl, rfl, rfl, rfl, trivial⟩) ?_
    refine aw_region ?_
    refine run_s (ss_move rfl) rfl ?_
    refine run_s (ss_move rfl) rfl ?_
    refine run_s (ss_move rfl) rfl ?_
    obtain ⟨q12, h⟩ := h
    refine run_s (ss_idxR (f := ci) rfl rfl rfl q12) rfl ?_
    refine run_w (ws_storeE rfl rfl (map_lt q12) rfl rfl (map_se (f := ci)) rfl ⟨rfl, ?_⟩)
    refine run_nil ?_
    refine aw_region ?_
    refine run_s (ss_move rfl) rfl ?_
    refine run_s (ss_move rfl) rfl ?_
    refine run_s (ss_field_ptr rfl) rfl ?_
    refine run_s (ss_load_ptr rfl rfl) rfl ?_
    refine run_s (ss_move rfl) rfl ?_
    obtain ⟨q13, h⟩ := h
    refine run_s (ss_idxL rfl rfl q13) rfl ?_
    refine run_s (ss_loadL (f := (fun r => C.lst (ints r))) rfl q13) rfl ?_
    refine run_s (ss_move rfl) rfl ?_
    obtain ⟨q14, h⟩ := h
    refine run_s (ss_idxL rfl rfl q14) rfl ?_
    refine run_s (ss_loadL (f := ci) rfl q14) rfl ?_
    obtain ⟨q15, h⟩ := h
    refine run_s (ss_idxR (f := ci) rfl rfl rfl q15) rfl ?_
    refine run_w (ws_storeE rfl rfl (map_lt q15) rfl rfl (map_se (f := ci)) rfl ⟨rfl, ?_⟩)
    refine run_nil ?_
    refine aw_gh (gh_to (n := 58) (σ' := [(1003, ⟨ints (se o1003_2 v8_2 (el (el c (idxI (el c v5_1) v8_2)) v5_1)), []⟩), (1002, ⟨ints (se o1002_2 v8_2 (idxI (el c v5_1) v8_2)), []⟩), (4, ⟨[.hole, .hole], [(1, .ref 1001), (0, .ref 14)]⟩), (14, ⟨(orows o14_1).set v5_1.toNat .hole, [(v5_1.toNat, .ref 1002)]⟩), (1001, ⟨(orows o1001_1).set v5_1.toNat .hole, [(v5_1.toNat, .ref 1003)]⟩), (2, ⟨[cnil, cnil], []⟩)]) (env' := [(1, .c (.ptr [.lst (rows c)])), (2, .cell 2 0), (3, .c (ci (c.length : Int))), (4, .cell 4 0), (5, .c (ci v5_1)), (6, .ref 1002), (7, .ref 1003), (8, .c (ci v8_2))]) rfl rfl ⟨rfl, rfl, rfl, rfl, rfl, rfl, rfl, rfl, trivial⟩) ?_
    refine aw_region ?_
    refine run_s (ss_move rfl) rfl ?_
    obtain ⟨q16, h⟩ := h
    refine run_s (ss_add rfl rfl q16) rfl ?_
    refine run_s (ss_assign rfl) rfl ?_
    refine run_nil ?_
    exact ⟨v8_2 + 1, se o1002_2 v8_2 (idxI (el c v5_1) v8_2), se o1003_2 v8_2 (el (el c (idxI (el c v5_1) v8_2)) v5_1), ghe_to (n := 58) rfl rfl ⟨rfl, rfl, rfl, rfl, rfl, rfl, rfl, rfl, trivial⟩, h.1, h.2⟩
   ·replace h := h.2 (of_decide_eq_false q8)
    refine aw_exit ?_
    refine aw_gh (gh_to (n := 58) (σ' := [(1003, ⟨ints o1003_2, []⟩), (1002, ⟨ints o1002_2, []⟩), (4, ⟨[.hole, .hole], [(1, .ref 1001), (0, .ref 14)]⟩), (14, ⟨(orows o14_1).set v5_1.toNat .hole, [(v5_1.toNat, .ref 1002)]⟩), (1001, ⟨(orows o1001_1).set v5_1.toNat .hole, [(v5_1.toNat, .ref 1003)]⟩), (2, ⟨[cnil, cnil], []⟩)]) (env' := [(1, .c (.ptr [.lst (rows c)])), (2, .cell 2 0), (3, .c (ci (c.length : Int))), (4, .cell 4 0), (5, .c (ci v5_1))]) rfl rfl ⟨rfl, rfl, rfl, rfl, rfl, trivial⟩) ?_
    refine aw_region ?_
    refine run_s (ss_move rfl) rfl ?_
    obtain ⟨q17, h⟩ := h
    refine run_s (ss_add rfl rfl q17) rfl ?_
    refine run_s (ss_assign rfl) rfl ?_
    refine run_nil ?_
    obtain ⟨q18, h⟩ := h
    obtain ⟨q19, h⟩ := h
    exact ⟨v5_1 + 1, se o14_1 v5_1 o1002_2, se o1001_1 v5_1 o1003_2, ghe_step (gh_fillA (id := 14) (id2 := 1002) (f := (fun r => C.own (ints r))) (v := o1002_2) rfl lk_self rfl q18 rfl rfl kr_self) (ghe_step (gh_fillA (id := 1001) (id2 := 1003) (f := (fun r => C.own (ints r))) (v := o1003_2) rfl lk_self rfl q19 rfl rfl kr_self) (ghe_to (n := 58) rfl rfl ⟨rfl, rfl, rfl, rfl, rfl, trivial⟩)), h.1, h.2⟩
  ·replace h := h.2 (of_decide_eq_false q4)
   refine aw_exit ?_
   refine aw_seq ?_
   refine aw_gh (gh_to (n := 58) (σ' := [(4, ⟨[.hole, .hole], [(1, .ref 1001), (0, .ref 14)]⟩), (14, ⟨orows o14_1, []⟩), (1001, ⟨orows o1001_1, []⟩), (2, ⟨[cnil, cnil], []⟩)]) (env' := [(2, .cell 2 0), (4, .cell 4 0)]) rfl rfl ⟨rfl, rfl, trivial⟩) ?_
   refine aw_region ?_
   refine run_s (ss_loadS rfl rfl rfl rfl) rfl ?_
   refine run_w (ws_storeN rfl rfl (Nat.le_of_ble_eq_true rfl) rfl rfl rfl rfl ⟨rfl, ?_⟩)
   refine run_nil ?_
   refine aw_ret ?_
   exact retAF_mk (retv1 rfl (rv_struct rfl rfl rfl)) rfl rfl ⟨_, (cle_refl _), _, _, h, rfl⟩

theorem c_spec_l05Solution (c : List (List Int)) (hp : isTab c = true ∧ c.all isPerm = true) : AF Try.prog 133 [.agg [.lst (rows c)]] (fun R_ => R_ = .agg [.own (orows (cyAT c)), .own (orows (cyBT c))]) :=
  (w_spec_l05Solution c (fun y0 y1 => y0 = cyAT c ∧ y1 = cyBT c) (p_spec_l05Solution c hp)).mono (by rintro r ⟨_, _, ⟨rfl, rfl⟩, rfl⟩; rfl)

set_option maxRecDepth 100000 in
set_option maxHeartbeats 4000000 in
theorem w_spec_l01Column (t : List (List Int)) (y : Int) (Q : List Int → Prop) (h : wp_spec_l01Column t y Q) : AF Try.prog 202 [.lst (rows t), ci y] (fun R_ => ∃ y0, Q y0 ∧ R_ = .own (ints y0)) := by
  refine AF.ofWQ (af_enter (n := 25) Try.func202 rfl (by rfl) rfl (Nat.le_of_ble_eq_true rfl) ?_)
  unfold wp_spec_l01Column at h
  refine aw_seq ?_
  refine aw_gh (gh_to (n := 25) (σ' := []) (env' := [(0, .c (.lst (rows t))), (1, .c (ci y))]) rfl rfl ⟨rfl, rfl, trivial⟩) ?_
  refine aw_region ?_
  refine run_s (ss_assign rfl) rfl ?_
  refine run_nil ?_
  refine aw_seq ?_
  refine aw_region ?_
  refine run_w (ws_buildSlice (id := 7) (ps := []) rfl rfl (Nat.le_of_ble_eq_true rfl) rfl ⟨rfl, ?_⟩)
  refine run_s (ss_assign rfl) rfl ?_
  refine run_nil ?_
  refine aw_seq ?_
  refine aw_seq ?_
  refine aw_region ?_
  refine run_s (ss_assign rfl) rfl ?_
  refine run_nil ?_
  refine aw_block ?_
  obtain ⟨H1, m1, q1, h⟩ := h
  refine aw_loop2 (fun (v6_1 : Int) (o7_1 : List Int) => ⟨[(7, ⟨ints o7_1, []⟩)], [(0, .c (.lst (rows t))), (1, .c (ci y)), (5, .ref 7), (6, .c (ci v6_1))], 25⟩) H1 m1 ⟨0, ([] : List Int), ghe_to (n := 25) rfl rfl ⟨rfl, rfl, rfl, rfl, trivial⟩, q1⟩ ?_
  rintro v6_1 o7_1 q1
  replace h := h v6_1 o7_1 q1
  refine aw_seq ?_
  refine aw_seq ?_
  refine aw_region ?_
  refine run_s (ss_move rfl) rfl ?_
  refine run_s (ss_move rfl) rfl ?_
  refine run_s (ss_lenL (f := (fun r => C.lst (ints r))) rfl) rfl ?_
  refine run_s (ss_lss rfl rfl) rfl ?_
  refine run_nil ?_
  refine aw_cond rfl (fun q2 => ?_) (fun q2 => ?_)
  ·replace h := h.1 (of_decide_eq_true q2)
   refine aw_skip ?_
   refine aw_seq ?_
   refine aw_block ?_
   refine aw_region ?_
   refine run_s (ss_move rfl) rfl ?_
   refine run_s (ss_move rfl) rfl ?_
   refine run_s (ss_move rfl) rfl ?_
   obtain ⟨q3, h⟩ := h
   refine run_s (ss_idxL rfl rfl q3) rfl ?_
   refine run_s (ss_loadL (f := (fun r => C.lst (ints r))) rfl q3) rfl ?_
   refine run_s (ss_move rfl) rfl ?_
   obtain ⟨q4, h⟩ := h
   refine run_s (ss_idxL rfl rfl q4) rfl ?_
   refine run_s (ss_loadL (f := ci) rfl q4) rfl ?_
   refine run_w (ws_buildSlice (id := 22) (ps := [(0, .tmp 21)]) rfl rfl (Nat.le_of_ble_eq_true rfl) rfl ⟨rfl, ?_⟩)
   obtain ⟨q5, h⟩ := h
   refine run_w (ws_app1 ci (l := o7_1) (m := [el (el t v6_1) y]) rfl rfl rfl rfl rfl (Nat.le_of_ble_eq_true rfl) q5 ⟨rfl, ?_⟩)
   refine run_s (ss_assign rfl) rfl ?_
   refine run_nil ?_
   refine aw_gh (gh_to (n := 25) (σ' := [(7, ⟨ints (o7_1 ++ ([el (el t v6_1) y])), []⟩)]) (env' := [(0, .c (.lst (rows t))), (1, .c (ci y)), (5, .ref 7), (6, .c (ci v6_1))]) rfl rfl ⟨rfl, rfl, rfl, rfl, trivial⟩) ?_
   refine aw_region ?_
   refine run_s (ss_move rfl) rfl ?_
   obtain ⟨q6, h⟩ := h
   refine run_s (ss_add rfl rfl q6) rfl ?_
   refine run_s (ss_assign rfl) rfl ?_
   refine run_nil ?_
   exact ⟨v6_1 + 1, o7_1 ++ ([el (el t v6_1) y]), ghe_to (n := 25) rfl rfl ⟨rfl, rfl, rfl, rfl, trivial⟩, h.1, h.2⟩
  ·replace h := h.2 (of_decide_eq_false q2)
   refine aw_exit ?_
   refine aw_seq ?_
   refine aw_gh (gh_to (n := 25) (σ' := [(7, ⟨ints o7_1, []⟩)]) (env' := [(5, .ref 7)]) rfl rfl ⟨rfl, trivial⟩) ?_
   refine aw_region ?_
   refine run_s (ss_move rfl) rfl ?_
   refine run_s (ss_assign rfl) rfl ?_
   refine run_nil ?_
   refine aw_ret ?_
   exact retAF_mk (retv1 rfl (rv_tmp rfl)) rfl rfl ⟨_, (cle_refl _), _, h, rfl⟩

theorem c_spec_l01Column (t : List (List Int)) (y : Int) (hp : isTab t = true ∧ 0 ≤ y ∧ y < (t.length : Int)) : AF Try.prog 202 [.lst (rows t), ci y] (fun R_ => R_ = .own (ints (colI t y))) :=
  (w_spec_l01Column t y (fun y0 => y0 = colI t y) (p_spec_l01Column t y hp)).mono (by rintro r ⟨_, rfl, rfl⟩; rfl)

set_option maxRecDepth 100000 in
set_option maxHeartbeats 4000000 in
theorem w_spec_l01Turn (t : List (List Int)) (Q : List (List Int) → Prop) (h : wp_spec_l01Turn t Q) : AF Try.prog 177 [.lst (rows t)] (fun R_ => ∃ y0, Q y0 ∧ R_ = .own (orows y0)) := by
  refine AF.ofWQ (af_enter (n := 19) Try.func177 rfl (by rfl) rfl (Nat.le_of_ble_eq_true rfl) ?_)
  unfold wp_spec_l01Turn at h
  refine aw_seq ?_
  refine aw_gh (gh_to (n := 19) (σ' := []) (env' := [(0, .c (.lst (rows t)))]) rfl rfl ⟨rfl, trivial⟩) ?_
  refine aw_region ?_
  refine run_s (ss_assign rfl) rfl ?_
  refine run_nil ?_
  refine aw_seq ?_
  refine aw_region ?_
  refine run_w (ws_buildSlice (id := 5) (ps := []) rfl rfl (Nat.le_of_ble_eq_true rfl) rfl ⟨rfl, ?_⟩)
  refine run_s (ss_assign rfl) rfl ?_
  refine run_nil ?_
  refine aw_seq ?_
  refine aw_seq ?_
  refine aw_region ?_
  refine run_s (ss_assign rfl) rfl ?_
  refine run_nil ?_
  refine aw_block ?_
  obtain ⟨H1, m1, q1, h⟩ := h
  refine aw_loop2 (fun (v4_1 : Int) (o5_1 : List (List Int)) => ⟨[(5, ⟨orows o5_1, []⟩)], [(0, .c (.lst (rows t))), (3, .ref 5), (4, .c (ci v4_1))], 19⟩) H1 m1 ⟨0, ([] : List (List Int)), ghe_to (n := 19) rfl rfl ⟨rfl, rfl, rfl, trivial⟩, q1⟩ ?_
  rintro v4_1 o5_1 q1
  replace h := h v4_1 o5_1 q1
  refine aw_seq ?_
  refine aw_seq ?_
  refine aw_region ?_
  refine run_s (ss_move rfl) rfl ?_
  refine run_s (ss_move rfl) rfl ?_
  refine run_s (ss_lenL (f := (fun r => C.lst (ints r))) rfl) rfl ?_
  refine run_s (ss_lss rfl rfl) rfl ?_
  refine run_nil ?_
  refine aw_cond rfl (fun q2 => ?_) (fun q2 => ?_)
  ·replace h := h.1 (of_decide_eq_true q2)
   refine aw_skip ?_
   refine aw_seq ?_
   refine aw_block ?_
   refine aw_region ?_
   refine run_s (ss_move rfl) rfl ?_
   refine run_s (ss_move rfl) rfl ?_
   refine run_s (ss_move rfl) rfl ?_
   obtain ⟨q3, h⟩ := h
   refine run_w (ws_call (xs := [.tmp 13, .tmp 14]) (ids := [15]) rfl rfl rfl rfl (c_spec_l01Column t v4_1 q3) rfl ?_ )
   rintro _ rfl
   refine ⟨rfl, ?_⟩
   refine run_w (ws_buildSlice (id := 16) (ps := [(0, .tmp 15)]) rfl rfl (Nat.le_of_ble_eq_true rfl) rfl ⟨rfl, ?_⟩)
   refine run_gh (gh_fill (id := 16) (id2 := 15) (j := 0) rfl rfl (Nat.le_of_ble_eq_true rfl) rfl rfl rfl) ?_
   obtain ⟨q5, h⟩ := h
   refine run_w (ws_app1 (fun r => C.own (ints r)) (l := o5_1) (m := [colI t v4_1]) rfl rfl rfl rfl rfl (Nat.le_of_ble_eq_true rfl) q5 ⟨rfl, ?_⟩)
   refine run_s (ss_assign rfl) rfl ?_
   refine run_nil ?_
   refine aw_gh (gh_to (n := 19) (σ' := [(5, ⟨orows (o5_1 ++ ([colI t v4_1])), []⟩)]) (env' := [(0, .c (.lst (rows t))), (3, .ref 5), (4, .c (ci v4_1))]) rfl rfl ⟨rfl, rfl, rfl, trivial⟩) ?_
   refine aw_region ?_
   refine run_s (ss_move rfl) rfl ?_
   obtain ⟨q6, h⟩ := h
   refine run_s (ss_add rfl rfl q6) rfl ?_
   refine run_s (ss_assign rfl) rfl ?_
   refine run_nil ?_
   exact ⟨v4_1 + 1, o5_1 ++ ([colI t v4_1]), ghe_to (n := 19) rfl rfl ⟨rfl, rfl, rfl, trivial⟩, h.1, h.2⟩
  ·replace h := h.2 (of_decide_eq_false q2)
   refine aw_exit ?_
   refine aw_seq ?_
   refine aw_gh (gh_to (n := 19) (σ' := [(5, ⟨orows o5_1, []⟩)]) (env' := [(3, .ref 5)]) rfl rfl ⟨rfl, trivial⟩) ?_
   refine aw_region ?_
   refine run_s (ss_move rfl) rfl ?_
   refine run_s (ss_assign rfl) rfl ?_
   refine run_nil ?_
   refine aw_ret ?_
   exact retAF_mk (retv1 rfl (rv_tmp rfl)) rfl rfl ⟨_, (cle_refl _), _, h, rfl⟩

theorem c_spec_l01Turn (t : List (List Int)) (hp : isTab t = true) : AF Try.prog 177 [.lst (rows t)] (fun R_ => R_ = .own (orows (trnT t))) :=
  (w_spec_l01Turn t (fun y0 => y0 = trnT t) (p_spec_l01Turn t hp)).mono (by rintro r ⟨_, rfl, rfl⟩; rfl)

set_option maxRecDepth 100000 in
set_option maxHeartbeats 4000000 in
theorem w_impl_transposed_1 (x : Int) (y : Int) (t : List (List Int)) (Q : Int → Prop) (h : wp_impl_transposed_1 x y t Q) : AF Try.prog 195 [ci x, ci y, .ptr [.lst (rows t)]] (fun R_ => ∃ y0, Q y0 ∧ R_ = ci y0) := by
  refine AF.ofWQ (af_enter (n := 13) Try.func195 rfl (by rfl) rfl (Nat.le_of_ble_eq_true rfl) ?_)
  unfold wp_impl_transposed_1 at h
  refine aw_seq ?_
  refine aw_gh (gh_to (n := 13) (σ' := []) (env' := [(0, .c (ci x)), (1, .c (ci y)), (2, .c (.ptr [.lst (rows t)]))]) rfl rfl ⟨rfl, rfl, rfl, trivial⟩) ?_
  refine aw_region ?_
  refine run_s (ss_assign rfl) rfl ?_
  refine run_nil ?_
  refine aw_seq ?_
  refine aw_region ?_
  refine run_s (ss_load_ptr rfl rfl) rfl ?_
  refine run_s (ss_move rfl) rfl ?_
  obtain ⟨q1, h⟩ := h
  refine run_s (ss_idxL rfl rfl q1) rfl ?_
  refine run_s (ss_loadL (f := (fun r => C.lst (ints r))) rfl q1) rfl ?_
  refine run_s (ss_move rfl) rfl ?_
  obtain ⟨q2, h⟩ := h
  refine run_s (ss_idxL rfl rfl q2) rfl ?_
  refine run_s (ss_loadL (f := ci) rfl q2) rfl ?_
  refine run_s (ss_assign rfl) rfl ?_
  refine run_nil ?_
  refine aw_ret ?_
  exact retAF_mk (retv1 rfl (rv_tmp rfl)) rfl rfl ⟨_, (cle_refl _), _, h, rfl⟩

theorem c_impl_transposed_1 (x : Int) (y : Int) (t : List (List Int)) (hp : isTab t = true ∧ 0 ≤ x ∧ x < (t.length : Int) ∧ 0 ≤ y ∧ y < (t.length : Int)) : AF Try.prog 195 [ci x, ci y, .ptr [.lst (rows t)]] (fun R_ => R_ = ci (el (el t y) x)) :=
  (w_impl_transposed_1 x y t (fun y0 => y0 = el (el t y) x) (p_impl_transposed_1 x y t hp)).mono (by rintro r ⟨_, rfl, rfl⟩; rfl)

set_option maxRecDepth 100000 in
set_option maxHeartbeats 4000000 in
theorem w_impl_transposed (t : List (List Int)) (Q : List (List Int) → Prop) (h : wp_impl_transposed t Q) : AF Try.prog 169 [.lst (rows t)] (fun R_ => ∃ y0, Q y0 ∧ R_ = .own (orows y0)) := by
  refine AF.ofWQ (af_enter (n := 7) Try.func169 rfl (by rfl) rfl (Nat.le_of_ble_eq_true rfl) ?_)
  unfold wp_impl_transposed at h
  refine aw_seq ?_
  refine aw_gh (gh_to (n := 7) (σ' := []) (env' := [(0, .c (.lst (rows t)))]) rfl rfl ⟨rfl, trivial⟩) ?_
  refine aw_region ?_
  refine run_w (ws_boxR rfl (.inr rfl) rfl ⟨rfl, ?_⟩)
  refine run_s (ss_assign rfl) rfl ?_
  refine run_nil ?_
  refine aw_seq ?_
  refine aw_region ?_
  refine run_s (ss_load_ptr rfl rfl) rfl ?_
  refine run_s (ss_lenL (f := (fun r => C.lst (ints r))) rfl) rfl ?_
  refine run_s (ss_makeFunc (os := [.tmp 1]) rfl) rfl ?_
  obtain ⟨q1, h⟩ := h
  refine run_w (ws_call (xs := [.tmp 4, .tmp 5]) (ids := [6]) rfl rfl rfl rfl (c_impl_tableBy (t.length : Int) 195 [.ptr [.lst (rows t)]] (fun z0 z1 => el (el t z1) z0) (fun z0 z1 => isTab t = true ∧ 0 ≤ z0 ∧ z0 < (t.length : Int) ∧ 0 ≤ z1 ∧ z1 < (t.length : Int)) (fun z0 z1 hD => c_impl_transposed_1 z0 z1 t hD) q1) rfl ?_ )
  rintro _ rfl
  refine ⟨rfl, ?_⟩
  refine run_s (ss_assign rfl) rfl ?_
  refine run_nil ?_
  refine aw_ret ?_
  exact retAF_mk (retv1 rfl (rv_tmp rfl)) rfl rfl ⟨_, (cle_refl _), _, h, rfl⟩

theorem c_impl_transposed (t : List (List Int)) (hp : isTab t = true) : AF Try.prog 169 [.lst (rows t)] (fun R_ => R_ = .own (orows (trnT t))) :=
  (w_impl_transposed t (fun y0 => y0 = trnT t) (p_impl_transposed t hp)).mono (by rintro r ⟨_, rfl, rfl⟩; rfl)

set_option maxRecDepth 100000 in
set_option maxHeartbeats 4000000 in
theorem w_impl_IsPairMap (s1 : List (List Int)) (s2 : List (List Int)) (Q : Bool → Prop) (h : wp_impl_IsPairMap s1 s2 Q) : AF Try.prog 137 [.agg [.lst (rows s1), .lst (rows s2)]] (fun R_ => ∃ y0, Q y0 ∧ R_ = cb y0) := by
  refine AF.ofWQ (af_enter (n := 20) Try.func137 rfl (by rfl) rfl (Nat.le_of_ble_eq_true rfl) ?_)
  unfold wp_impl_IsPairMap at h
  refine aw_seq ?_
  refine aw_gh (gh_to (n := 20) (σ' := []) (env' := [(0, .c (.agg [.lst (rows s1), .lst (rows s2)]))]) rfl rfl ⟨rfl, trivial⟩) ?_
  refine aw_region ?_
  refine run_w (ws_boxR rfl (.inl rfl) rfl ⟨rfl, ?_⟩)
  refine run_s (ss_assign rfl) rfl ?_
  refine run_nil ?_
  refine aw_seq ?_
  refine aw_region ?_
  refine run_s (ss_field_ptr rfl) rfl ?_
  refine run_s (ss_load_ptr rfl rfl) rfl ?_
  obtain ⟨q1, h⟩ := h
  refine run_w (ws_call (xs := [.tmp 4]) (ids := []) rfl rfl rfl rfl (c_impl_IsTable s1 q1) rfl ?_ )
  rintro _ rfl
  refine ⟨rfl, ?_⟩
  refine run_s (ss_move rfl) rfl ?_
  refine run_split (s := 6) rfl (fun q3 => ?_) (fun q3 => ?_)
  ·replace h := h.1 (q3)
   refine run_gt rfl rfl q3 ?_
   refine run_s (ss_field_ptr rfl) rfl ?_
   refine run_gt rfl rfl q3 ?_
   refine run_s (ss_load_ptr rfl rfl) rfl ?_
   refine run_gt rfl rfl q3 ?_
   obtain ⟨q4, h⟩ := h
   refine run_w (ws_call (xs := [.tmp 8]) (ids := []) rfl rfl rfl rfl (c_impl_IsTable s2 q4) rfl ?_ )
   rintro _ rfl
   refine ⟨rfl, ?_⟩
   refine run_s (ss_pickT rfl q3 rfl) rfl ?_
   refine run_s (ss_move rfl) rfl ?_
   refine run_split (s := 11) rfl (fun q6 => ?_) (fun q6 => ?_)
   ·replace h := h.1 (q6)
    refine run_gt rfl rfl q6 ?_
    refine run_s (ss_field_ptr rfl) rfl ?_
    refine run_gt rfl rfl q6 ?_
    refine run_s (ss_load_ptr rfl rfl) rfl ?_
    refine run_gt rfl rfl q6 ?_
    refine run_s (ss_lenL (f := (fun r => C.lst (ints r))) rfl) rfl ?_
    refine run_gt rfl rfl q6 ?_
    refine run_s (ss_field_ptr rfl) rfl ?_
    refine run_gt rfl rfl q6 ?_
    refine run_s (ss_load_ptr rfl rfl) rfl ?_
    refine run_gt rfl rfl q6 ?_
    refine run_s (ss_lenL (f := (fun r => C.lst (ints r))) rfl) rfl ?_
    refine run_gt rfl rfl q6 ?_
    refine run_s (ss_eql rfl rfl) rfl ?_
    refine run_s (ss_pickT rfl q6 rfl) rfl ?_
    refine run_s (ss_assign rfl) rfl ?_
    refine run_nil ?_
    refine aw_ret ?_
    exact retAF_mk (retv1 rfl (rv_tmp rfl)) rfl rfl ⟨_, (cle_refl _), _, h, rfl⟩
   ·replace h := h.2 (q6)
    refine run_gf rfl rfl q6 rfl ?_
    refine run_gf rfl rfl q6 rfl ?_
    refine run_gf rfl rfl q6 rfl ?_
    refine run_gf rfl rfl q6 rfl ?_
    refine run_gf rfl rfl q6 rfl ?_
    refine run_gf rfl rfl q6 rfl ?_
    refine run_gf rfl rfl q6 rfl ?_
    refine run_s (ss_pickF rfl q6 rfl) rfl ?_
    refine run_s (ss_assign rfl) rfl ?_
    refine run_nil ?_
    refine aw_ret ?_
    exact retAF_mk (retv1 rfl (rv_tmp rfl)) rfl rfl ⟨_, (cle_refl _), _, h, rfl⟩
  ·replace h := h.2 (q3)
   refine run_gf rfl rfl q3 rfl ?_
   refine run_gf rfl rfl q3 rfl ?_
   refine run_gf rfl rfl q3 rfl ?_
   refine run_s (ss_pickF rfl q3 rfl) rfl ?_
   refine run_s (ss_move rfl) rfl ?_
   refine run_split (s := 11) rfl (fun q7 => ?_) (fun q7 => ?_)
   ·cases q7
   ·skip
    refine run_gf rfl rfl q7 rfl ?_
    refine run_gf rfl rfl q7 rfl ?_
    refine run_gf rfl rfl q7 rfl ?_
    refine run_gf rfl rfl q7 rfl ?_
    refine run_gf rfl rfl q7 rfl ?_
    refine run_gf rfl rfl q7 rfl ?_
    refine run_gf rfl rfl q7 rfl ?_
    refine run_s (ss_pickF rfl q7 rfl) rfl ?_
    refine run_s (ss_assign rfl) rfl ?_
    refine run_nil ?_
    refine aw_ret ?_
    exact retAF_mk (retv1 rfl (rv_tmp rfl)) rfl rfl ⟨_, (cle_refl _), _, h, rfl⟩

theorem c_impl_IsPairMap (s1 : List (List Int)) (s2 : List (List Int)) (hp : small2 s1 ∧ small2 s2) : AF Try.prog 137 [.agg [.lst (rows s1), .lst (rows s2)]] (fun R_ => R_ = cb (pmB s1 s2)) :=
  (w_impl_IsPairMap s1 s2 (fun y0 => y0 = pmB s1 s2) (p_impl_IsPairMap s1 s2 hp)).mono (by rintro r ⟨_, rfl, rfl⟩; rfl)

set_option maxRecDepth 100000 in
set_option maxHeartbeats 4000000 in
theorem w_impl_solutionCycle (s1 : List (List Int)) (s2 : List (List Int)) (Q : List (List Int) → Prop) (h : wp_impl_solutionCycle s1 s2 Q) : AF Try.prog 136 [.agg [.lst (rows s1), .lst (rows s2)]] (fun R_ => ∃ y0, Q y0 ∧ R_ = .agg [.own (orows y0)]) := by
  refine AF.ofWQ (af_enter (n := 22) Try.func136 rfl (by rfl) rfl (Nat.le_of_ble_eq_true rfl) ?_)
  unfold wp_impl_solutionCycle at h
  refine aw_seq ?_
  refine aw_gh (gh_to (n := 22) (σ' := []) (env' := [(0, .c (.agg [.lst (rows s1), .lst (rows s2)]))]) rfl rfl ⟨rfl, trivial⟩) ?_
  refine aw_region ?_
  refine run_w (ws_boxR rfl (.inl rfl) rfl ⟨rfl, ?_⟩)
  refine run_w (ws_alloc (id := 2) rfl (Nat.le_of_ble_eq_true rfl) ⟨rfl, ?_⟩)
  refine run_nil ?_
  refine aw_seq ?_
  refine aw_region ?_
  refine run_w (ws_alloc (id := 3) rfl (Nat.le_of_ble_eq_true rfl) ⟨rfl, ?_⟩)
  refine run_nil ?_
  refine aw_seq ?_
  refine aw_seq ?_
  refine aw_region ?_
  refine run_s (ss_field_ptr rfl) rfl ?_
  refine run_s (ss_load_ptr rfl rfl) rfl ?_
  refine run_s (ss_lenL (f := (fun r => C.lst (ints r))) rfl) rfl ?_
  refine run_s (ss_move rfl) rfl ?_
  refine run_nil ?_
  refine aw_block ?_
  obtain ⟨H1, m1, q1, h⟩ := h
  refine aw_loop2 (fun (v9_1 : Int) (o200048_1 : List (List Int)) => ⟨[(200048, ⟨orows o200048_1, []⟩), (3, ⟨[.hole], [(0, .ref 200048)]⟩), (2, ⟨[cnil], []⟩)], [(2, .cell 2 0), (3, .cell 3 0), (7, .c (.lst (rows s1))), (8, .c (ci (s1.length : Int))), (9, .c (ci v9_1))], 22⟩) H1 m1 ⟨0, ([] : List (List Int)), ghe_step (gh_nilH (id0 := 3) (j := 0) (id := 200048) rfl rfl rfl rfl) (ghe_to (n := 22) rfl rfl ⟨rfl, rfl, rfl, rfl, rfl, trivial⟩), q1⟩ ?_
  rintro v9_1 o200048_1 q1
  replace h := h v9_1 o200048_1 q1
  refine aw_seq ?_
  refine aw_region ?_
  refine run_s (ss_lss rfl rfl) rfl ?_
  refine run_nil ?_
  refine aw_seq ?_
  refine aw_cond rfl (fun q2 => ?_) (fun q2 => ?_)
  ·replace h := h.1 (of_decide_eq_true q2)
   refine aw_skip ?_
   refine aw_seq ?_
   refine aw_block ?_
   refine aw_seq ?_
   refine aw_region ?_
   obtain ⟨q3, h⟩ := h
   refine run_s (ss_idxL rfl rfl q3) rfl ?_
   refine run_s (ss_loadL (f := (fun r => C.lst (ints r))) rfl q3) rfl ?_
   refine run_s (ss_assign rfl) rfl ?_
   refine run_nil ?_
   refine aw_gh (gh_to (n := 22) (σ' := [(200048, ⟨orows o200048_1, []⟩), (3, ⟨[.hole], [(0, .ref 200048)]⟩), (2, ⟨[cnil], []⟩)]) (env' := [(2, .cell 2 0), (3, .cell 3 0), (5, .c (.lst (ints (el s1 v9_1)))), (7, .c (.lst (rows s1))), (8, .c (ci (s1.length : Int))), (9, .c (ci v9_1))]) rfl rfl ⟨rfl, rfl, rfl, rfl, rfl, rfl, trivial⟩) ?_
   refine aw_regionD (kd := kdl [0, 1, 0, 2, 2, 2, 0, 3]) (ord := [0, 2, 1, 3, 4, 5, 6, 7]) [16, 17, 200048] mixed (by kernel_rfl) ?_
   refine rd_s rfl rfl trivial (ss_field_cell rfl) rfl ?_
   refine rd_s rfl rfl trivial (ss_move rfl) rfl ?_
   refine rd_l rfl rfl trivial (ss_loadH rfl rfl rfl rfl) rfl ?_
   obtain ⟨q4, h⟩ := h
   refine rd_w rfl rfl trivial rfl rfl (ws_call (xs := [.tmp 15]) (ids := [16]) rfl rfl rfl rfl (c_impl_inverse (el s1 v9_1) q4) rfl ?_ )
   rintro _ rfl
   refine ⟨rfl, ?_⟩
   refine rd_w rfl rfl trivial rfl rfl (ws_buildSlice (id := 17) (ps := [(0, .tmp 16)]) rfl rfl (Nat.le_of_ble_eq_true rfl) rfl ⟨rfl, ?_⟩)
   obtain ⟨q6, h⟩ := h
   refine rd_w rfl rfl trivial rfl rfl (ws_gh (gh_fill (id := 17) (id2 := 16) (j := 0) rfl rfl (Nat.le_of_ble_eq_true rfl) rfl rfl rfl) (ws_app1 (fun r => C.own (ints r)) (l := o200048_1) (m := [backI (el s1 v9_1)]) rfl rfl rfl rfl rfl (Nat.le_of_ble_eq_true rfl) q6 ⟨rfl, ?_⟩))
   refine rd_s rfl rfl trivial (ss_field_cell rfl) rfl ?_
   refine rd_f rfl rfl trivial (ws_store rfl rfl (Nat.le_of_ble_eq_true rfl) rfl rfl ⟨rfl, ?_⟩)
   refine rd_nil ?_
   refine aw_gh (gh_to (n := 22) (σ' := [(200048, ⟨orows (o200048_1 ++ ([backI (el s1 v9_1)])), []⟩), (3, ⟨[.hole], [(0, .ref 200048)]⟩), (2, ⟨[cnil], []⟩)]) (env' := [(2, .cell 2 0), (3, .cell 3 0), (7, .c (.lst (rows s1))), (8, .c (ci (s1.length : Int))), (9, .c (ci v9_1))]) rfl rfl ⟨rfl, rfl, rfl, rfl, rfl, trivial⟩) ?_
   refine aw_region ?_
   obtain ⟨q7, h⟩ := h
   refine run_s (ss_add rfl rfl q7) rfl ?_
   refine run_s (ss_move rfl) rfl ?_
   refine run_nil ?_
   exact ⟨v9_1 + 1, o200048_1 ++ ([backI (el s1 v9_1)]), ghe_to (n := 22) rfl rfl ⟨rfl, rfl, rfl, rfl, rfl, trivial⟩, h.1, h.2⟩
  ·replace h := h.2 (of_decide_eq_false q2)
   refine aw_exit ?_
   refine aw_seq ?_
   refine aw_gh (gh_to (n := 22) (σ' := [(200048, ⟨orows o200048_1, []⟩), (3, ⟨[.hole], [(0, .ref 200048)]⟩), (2, ⟨[cnil], []⟩)]) (env' := [(2, .cell 2 0), (3, .cell 3 0)]) rfl rfl ⟨rfl, rfl, trivial⟩) ?_
   refine aw_region ?_
   refine run_s (ss_loadS rfl rfl rfl rfl) rfl ?_
   refine run_w (ws_storeS rfl rfl (Nat.le_of_ble_eq_true rfl) rfl rfl rfl ⟨rfl, ?_⟩)
   refine run_nil ?_
   refine aw_ret ?_
   exact retAF_mk (retv1 rfl (rv_struct rfl rfl rfl)) rfl rfl ⟨_, (cle_refl _), _, h, rfl⟩

theorem c_impl_solutionCycle (s1 : List (List Int)) (s2 : List (List Int)) (hp : isTab s1 = true ∧ s1.all isPerm = true) : AF Try.prog 136 [.agg [.lst (rows s1), .lst (rows s2)]] (fun R_ => R_ = .agg [.own (orows (s1.map backI))]) :=
  (w_impl_solutionCycle s1 s2 (fun y0 => y0 = s1.map backI) (p_impl_solutionCycle s1 s2 hp)).mono (by rintro r ⟨_, rfl, rfl⟩; rfl)

set_option maxRecDepth 100000 in
set_option maxHeartbeats 4000000 in
theorem w_spec_l05Cycle (s1 : List (List Int)) (s2 : List (List Int)) (Q : List (List Int) → Prop) (h : wp_spec_l05Cycle s1 s2 Q) : AF Try.prog 145 [.agg [.lst (rows s1), .lst (rows s2)]] (fun R_ => ∃ y0, Q y0 ∧ R_ = .agg [.own (orows y0)]) := by
  refine AF.ofWQ (af_enter (n := 25) Try.func145 rfl (by rfl) rfl (Nat.le_of_ble_eq_true rfl) ?_)
  unfold wp_spec_l05Cycle at h
  refine aw_seq ?_
  refine aw_gh (gh_to (n := 25) (σ' := []) (env' := [(0, .c (.agg [.lst (rows s1), .lst (rows s2)]))]) rfl rfl ⟨rfl, trivial⟩) ?_
  refine aw_region ?_
  refine run_w (ws_boxR rfl (.inl rfl) rfl ⟨rfl, ?_⟩)
  refine run_w (ws_alloc (id := 2) rfl (Nat.le_of_ble_eq_true rfl) ⟨rfl, ?_⟩)
  refine run_nil ?_
  refine aw_seq ?_
  refine aw_region ?_
  refine run_s (ss_build0) rfl ?_
  refine run_w (ws_alloc (id := 3) rfl (Nat.le_of_ble_eq_true rfl) ⟨rfl, ?_⟩)
  refine run_w (ws_storeS rfl rfl (Nat.le_of_ble_eq_true rfl) rfl rfl rfl ⟨rfl, ?_⟩)
  refine run_nil ?_
  refine aw_seq ?_
  refine aw_seq ?_
  refine aw_region ?_
  refine run_s (ss_assign rfl) rfl ?_
  refine run_nil ?_
  refine aw_block ?_
  obtain ⟨H1, m1, q1, h⟩ := h
  refine aw_loop2 (fun (v4_1 : Int) (o200048_1 : List (List Int)) => ⟨[(200048, ⟨orows o200048_1, []⟩), (3, ⟨[.hole], [(0, .ref 200048)]⟩), (2, ⟨[cnil], []⟩)], [(1, .c (.ptr [.lst (rows s1), .lst (rows s2)])), (2, .cell 2 0), (3, .cell 3 0), (4, .c (ci v4_1))], 25⟩) H1 m1 ⟨0, ([] : List (List Int)), ghe_step (gh_nilH (id0 := 3) (j := 0) (id := 200048) rfl rfl rfl rfl) (ghe_to (n := 25) rfl rfl ⟨rfl, rfl, rfl, rfl, trivial⟩), q1⟩ ?_
  rintro v4_1 o200048_1 q1
  replace h := h v4_1 o200048_1 q1
  refine aw_seq ?_
  refine aw_seq ?_
  refine aw_region ?_
  refine run_s (ss_move rfl) rfl ?_
  refine run_s (ss_field_ptr rfl) rfl ?_
  refine run_s (ss_load_ptr rfl rfl) rfl ?_
  refine run_s (ss_lenL (f := (fun r => C.lst (ints r))) rfl) rfl ?_
  refine run_s (ss_lss rfl rfl) rfl ?_
  refine run_nil ?_
  refine aw_cond rfl (fun q2 => ?_) (fun q2 => ?_)
  ·replace h := h.1 (of_decide_eq_true q2)
   refine aw_skip ?_
   refine aw_seq ?_
   refine aw_block ?_
   refine aw_gh (gh_to (n := 25) (σ' := [(200048, ⟨orows o200048_1, []⟩), (3, ⟨[.hole], [(0, .ref 200048)]⟩), (2, ⟨[cnil], []⟩)]) (env' := [(1, .c (.ptr [.lst (rows s1), .lst (rows s2)])), (2, .cell 2 0), (3, .cell 3 0), (4, .c (ci v4_1))]) rfl rfl ⟨rfl, rfl, rfl, rfl, trivial⟩) ?_
   refine aw_regionD (kd := kdl [0, 1, 0, 1, 0, 0, 1, 2, 2, 2, 0, 3]) (ord := [0, 2, 4, 1, 3, 5, 6, 7, 8, 9, 10, 11]) [20, 21, 200048] mixed (by kernel_rfl) ?_
   refine rd_s rfl rfl trivial (ss_field_cell rfl) rfl ?_
   refine rd_s rfl rfl trivial (ss_field_ptr rfl) rfl ?_
   refine rd_s rfl rfl trivial (ss_move rfl) rfl ?_
   refine rd_l rfl rfl trivial (ss_loadH rfl rfl rfl rfl) rfl ?_
   refine rd_l rfl rfl trivial (ss_load_ptr rfl rfl) rfl ?_
   obtain ⟨q3, h⟩ := h
   refine rd_s rfl rfl trivial (ss_idxL rfl rfl q3) rfl ?_
   refine rd_l rfl rfl trivial (ss_loadL (f := (fun r => C.lst (ints r))) rfl q3) rfl ?_
   obtain ⟨q4, h⟩ := h
   refine rd_w rfl rfl trivial rfl rfl (ws_call (xs := [.tmp 19]) (ids := [20]) rfl rfl rfl rfl (c_spec_l01Back (el s1 v4_1) q4) rfl ?_ )
   rintro _ rfl
   refine ⟨rfl, ?_⟩
   refine rd_w rfl rfl trivial rfl rfl (ws_buildSlice (id := 21) (ps := [(0, .tmp 20)]) rfl rfl (Nat.le_of_ble_eq_true rfl) rfl ⟨rfl, ?_⟩)
   obtain ⟨q6, h⟩ := h
   refine rd_w rfl rfl trivial rfl rfl (ws_gh (gh_fill (id := 21) (id2 := 20) (j := 0) rfl rfl (Nat.le_of_ble_eq_true rfl) rfl rfl rfl) (ws_app1 (fun r => C.own (ints r)) (l := o200048_1) (m := [backI (el s1 v4_1)]) rfl rfl rfl rfl rfl (Nat.le_of_ble_eq_true rfl) q6 ⟨rfl, ?_⟩))
   refine rd_s rfl rfl trivial (ss_field_cell rfl) rfl ?_
   refine rd_f rfl rfl trivial (ws_store rfl rfl (Nat.le_of_ble_eq_true rfl) rfl rfl ⟨rfl, ?_⟩)
   refine rd_nil ?_
   refine aw_gh (gh_to (n := 25) (σ' := [(200048, ⟨orows (o200048_1 ++ ([backI (el s1 v4_1)])), []⟩), (3, ⟨[.hole], [(0, .ref 200048)]⟩), (2, ⟨[cnil], []⟩)]) (env' := [(1, .c (.ptr [.lst (rows s1), .lst (rows s2)])), (2, .cell 2 0), (3, .cell 3 0), (4, .c (ci v4_1))]) rfl rfl ⟨rfl, rfl, rfl, rfl, trivial⟩) ?_
   refine aw_region ?_
   refine run_s (ss_move rfl) rfl ?_
   obtain ⟨q7, h⟩ := h
   refine run_s (ss_add rfl rfl q7) rfl ?_
   refine run_s (ss_assign rfl) rfl ?_
   refine run_nil ?_
   exact ⟨v4_1 + 1, o200048_1 ++ ([backI (el s1 v4_1)]), ghe_to (n := 25) rfl rfl ⟨rfl, rfl, rfl, rfl, trivial⟩, h.1, h.2⟩
  ·replace h := h.2 (of_decide_eq_false q2)
   refine aw_exit ?_
   refine aw_seq ?_
   refine aw_gh (gh_to (n := 25) (σ' := [(200048, ⟨orows o200048_1, []⟩), (3, ⟨[.hole], [(0, .ref 200048)]⟩), (2, ⟨[cnil], []⟩)]) (env' := [(2, .cell 2 0), (3, .cell 3 0)]) rfl rfl ⟨rfl, rfl, trivial⟩) ?_
   refine aw_region ?_
   refine run_s (ss_loadS rfl rfl rfl rfl) rfl ?_
   refine run_w (ws_storeS rfl rfl (Nat.le_of_ble_eq_true rfl) rfl rfl rfl ⟨rfl, ?_⟩)
   refine run_nil ?_
   refine aw_ret ?_
   exact retAF_mk (retv1 rfl (rv_struct rfl rfl rfl)) rfl rfl ⟨_, (cle_refl _), _, h, rfl⟩

theorem c_spec_l05Cycle (s1 : List (List Int)) (s2 : List (List Int)) (hp : isTab s1 = true ∧ s1.all isPerm = true) : AF Try.prog 145 [.agg [.lst (rows s1), .lst (rows s2)]] (fun R_ => R_ = .agg [.own (orows (s1.map backI))]) :=
  (w_spec_l05Cycle s1 s2 (fun y0 => y0 = s1.map backI) (p_spec_l05Cycle s1 s2 hp)).mono (by rintro r ⟨_, rfl, rfl⟩; rfl)

set_option maxRecDepth 100000 in
set_option maxHeartbeats 4000000 in
theorem w_spec_SolutionOfCycleSet (c : List (List Int)) (Q : List (List Int) → List (List Int) → Int → Prop) (h : wp_spec_SolutionOfCycleSet c Q) : AF Try.prog 62 [.agg [.lst (rows c)]] (fun R_ => ∃ y0 y1 y2, Q y0 y1 y2 ∧ R_ = .tup [.agg [.own (orows y0), .own (orows y1)], ci y2]) := by
  refine AF.ofWQ (af_enter (n := 10) Try.func62 rfl (by rfl) rfl (Nat.le_of_ble_eq_true rfl) ?_)
  unfold wp_spec_SolutionOfCycleSet at h
  refine aw_seq ?_
  refine aw_gh (gh_to (n := 10) (σ' := []) (env' := [(0, .c (.agg [.lst (rows c)]))]) rfl rfl ⟨rfl, trivial⟩) ?_
  refine aw_region ?_
  refine run_w (ws_boxR rfl (.inl rfl) rfl ⟨rfl, ?_⟩)
  refine run_w (ws_alloc (id := 2) rfl (Nat.le_of_ble_eq_true rfl) ⟨rfl, ?_⟩)
  refine run_s (ss_assign rfl) rfl ?_
  refine run_nil ?_
  refine aw_seq ?_
  refine aw_seq ?_
  refine aw_region ?_
  refine run_s (ss_load_struct rfl (Nat.le_of_ble_eq_true rfl)) rfl ?_
  obtain ⟨q1, h⟩ := h
  refine run_w (ws_call (xs := [.tmp 4]) (ids := []) rfl rfl rfl rfl (c_spec_l05Is c q1) rfl ?_ )
  rintro _ rfl
  refine ⟨rfl, ?_⟩
  refine run_s (ss_not rfl) rfl ?_
  refine run_nil ?_
  refine aw_cond rfl (fun q3 => ?_) (fun q3 => ?_)
  ·replace h := h.1 ((bnot_t q3))
   refine aw_seq ?_
   refine aw_gh (gh_to (n := 10) (σ' := [(2, ⟨[cnil, cnil], []⟩)]) (env' := [(2, .cell 2 0), (3, .c (ci 0))]) rfl rfl ⟨rfl, rfl, trivial⟩) ?_
   refine aw_region ?_
   refine run_s (ss_build0) rfl ?_
   refine run_w (ws_storeN rfl rfl (Nat.le_of_ble_eq_true rfl) rfl rfl rfl rfl ⟨rfl, ?_⟩)
   refine run_s (ss_assign rfl) rfl ?_
   refine run_nil ?_
   refine aw_ret ?_
   exact retAF_mk (retv2 rfl (rv_struct rfl rfl rfl) (rv_tmp rfl)) rfl rfl ⟨_, (cle_tup (cleL_cons (cle_agg (cleL_cons cle_nilO (cleL_cons cle_nilO cleL_nil))) (cleL_cons (cle_refl _) cleL_nil))), _, _, _, h, rfl⟩
  ·replace h := h.2 ((bnot_f q3))
   refine aw_skip ?_
   refine aw_seq ?_
   refine aw_region ?_
   refine run_s (ss_load_struct rfl (Nat.le_of_ble_eq_true rfl)) rfl ?_
   obtain ⟨q4, h⟩ := h
   refine run_w (ws_call (xs := [.tmp 8]) (ids := [9, 1001]) rfl rfl rfl rfl (c_spec_l05Solution c q4) rfl ?_ )
   rintro _ rfl
   refine ⟨rfl, ?_⟩
   refine run_w (ws_storeN rfl rfl (Nat.le_of_ble_eq_true rfl) rfl rfl rfl rfl ⟨rfl, ?_⟩)
   refine run_s (ss_assign rfl) rfl ?_
   refine run_nil ?_
   refine aw_ret ?_
   exact retAF_mk (retv2 rfl (rv_struct rfl rfl rfl) (rv_tmp rfl)) rfl rfl ⟨_, (cle_refl _), _, _, _, h, rfl⟩

theorem c_spec_SolutionOfCycleSet (c : List (List Int)) (hp : small2 c) : AF Try.prog 62 [.agg [.lst (rows c)]] (fun R_ => R_ = .tup [.agg [.own (orows (SocA c)), .own (orows (SocB c))], ci (cyE c)]) :=
  (w_spec_SolutionOfCycleSet c (fun y0 y1 y2 => y0 = SocA c ∧ y1 = SocB c ∧ y2 = cyE c) (p_spec_SolutionOfCycleSet c hp)).mono (by rintro r ⟨_, _, _, ⟨rfl, rfl, rfl⟩, rfl⟩; rfl)

set_option maxRecDepth 100000 in
set_option maxHeartbeats 4000000 in
theorem w_impl_SolutionOfCycleSet (c : List (List Int)) (Q : List (List Int) → List (List Int) → Int → Prop) (h : wp_impl_SolutionOfCycleSet c Q) : AF Try.prog 61 [.agg [.lst (rows c)]] (fun R_ => ∃ y0 y1 y2, Q y0 y1 y2 ∧ R_ = .tup [.agg [.own (orows y0), .own (orows y1)], ci y2]) := by
  refine AF.ofWQ (af_enter (n := 10) Try.func61 rfl (by rfl) rfl (Nat.le_of_ble_eq_true rfl) ?_)
  unfold wp_impl_SolutionOfCycleSet at h
  refine aw_seq ?_
  refine aw_gh (gh_to (n := 10) (σ' := []) (env' := [(0, .c (.agg [.lst (rows c)]))]) rfl rfl ⟨rfl, trivial⟩) ?_
  refine aw_region ?_
  refine run_w (ws_boxR rfl (.inl rfl) rfl ⟨rfl, ?_⟩)
  refine run_w (ws_alloc (id := 2) rfl (Nat.le_of_ble_eq_true rfl) ⟨rfl, ?_⟩)
  refine run_s (ss_assign rfl) rfl ?_
  refine run_nil ?_
  refine aw_seq ?_
  refine aw_seq ?_
  refine aw_region ?_
  refine run_s (ss_load_struct rfl (Nat.le_of_ble_eq_true rfl)) rfl ?_
  obtain ⟨q1, h⟩ := h
  refine run_w (ws_call (xs := [.tmp 4]) (ids := []) rfl rfl rfl rfl (c_impl_IsCycleSet c q1) rfl ?_ )
  rintro _ rfl
  refine ⟨rfl, ?_⟩
  refine run_s (ss_not rfl) rfl ?_
  refine run_nil ?_
  refine aw_cond rfl (fun q3 => ?_) (fun q3 => ?_)
  ·replace h := h.1 ((bnot_t q3))
   refine aw_seq ?_
   refine aw_gh (gh_to (n := 10) (σ' := [(2, ⟨[cnil, cnil], []⟩)]) (env' := [(2, .cell 2 0), (3, .c (ci 0))]) rfl rfl ⟨rfl, rfl, trivial⟩) ?_
   refine aw_region ?_
   refine run_s (ss_build0) rfl ?_
   refine run_w (ws_storeN rfl rfl (Nat.le_of_ble_eq_true rfl) rfl rfl rfl rfl ⟨rfl, ?_⟩)
   refine run_s (ss_assign rfl) rfl ?_
   refine run_nil ?_
   refine aw_ret ?_
   exact retAF_mk (retv2 rfl (rv_struct rfl rfl rfl) (rv_tmp rfl)) rfl rfl ⟨_, (cle_tup (cleL_cons (cle_agg (cleL_cons cle_nilO (cleL_cons cle_nilO cleL_nil))) (cleL_cons (cle_refl _) cleL_nil))), _, _, _, h, rfl⟩
  ·replace h := h.2 ((bnot_f q3))
   refine aw_skip ?_
   refine aw_seq ?_
   refine aw_region ?_
   refine run_s (ss_load_struct rfl (Nat.le_of_ble_eq_true rfl)) rfl ?_
   obtain ⟨q4, h⟩ := h
   refine run_w (ws_call (xs := [.tmp 8]) (ids := [9, 1001]) rfl rfl rfl rfl (c_impl_cycleSolution c q4) rfl ?_ )
   rintro _ rfl
   refine ⟨rfl, ?_⟩
   refine run_w (ws_storeN rfl rfl (Nat.le_of_ble_eq_true rfl) rfl rfl rfl rfl ⟨rfl, ?_⟩)
   refine run_s (ss_assign rfl) rfl ?_
   refine run_nil ?_
   refine aw_ret ?_
   exact retAF_mk (retv2 rfl (rv_struct rfl rfl rfl) (rv_tmp rfl)) rfl rfl ⟨_, (cle_refl _), _, _, _, h, rfl⟩

theorem c_impl_SolutionOfCycleSet (c : List (List Int)) (hp : small2 c) : AF Try.prog 61 [.agg [.lst (rows c)]] (fun R_ => R_ = .tup [.agg [.own (orows (SocA c)), .own (orows (SocB c))], ci (cyE c)]) :=
  (w_impl_SolutionOfCycleSet c (fun y0 y1 y2 => y0 = SocA c ∧ y1 = SocB c ∧ y2 = cyE c) (p_impl_SolutionOfCycleSet c hp)).mono (by rintro r ⟨_, _, _, ⟨rfl, rfl, rfl⟩, rfl⟩; rfl)

end Go.Proofs.Ytbodlnpmplcaoaa
