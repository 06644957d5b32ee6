/- Contracts of functions that the law FnExactAffineCycleSet reaches: conditions, plain proofs, walks; no condition. -/
import Derived.Test.YtmofdccagnbccabKEAffineCycleSetb
import Derived.Test.YtmofdccagnbccabPc
namespace Go.Proofs.Ytmofdccagnbccab

def wp_spec_l01Rows (t : List (List Int)) (Q : Bool → Prop) : Prop :=
 ∃ (H1 : Int → Prop) (m1 : Int → Nat),
 H1 0 ∧
 ∀ (v3 : Int), H1 v3 →
 ( ((v3 < (t.length : Int) →
   (0 ≤ v3 ∧ v3 < (t.length : Int)) ∧
   (small (el t v3)) ∧
   (((permB (el t v3)) = false →
    Q false) ∧
   ((permB (el t v3)) = true →
    (InI (v3 + 1)) ∧
    (H1 (v3 + 1) ∧ m1 (v3 + 1) < m1 v3)))) ∧
  (¬ (v3 < (t.length : Int)) →
   Q true)))

def wp_impl_permutationRows_1 (row : List Int) (Q : Bool → Prop) : Prop :=
 (small row) ∧
 Q (!((isPerm row)))

def wp_impl_permutationRows (t : List (List Int)) (Q : Bool → Prop) : Prop :=
 (small t ∧ ∀ r_ ∈ t, (fun z0 => small z0) r_) ∧
 Q (!((t.any (fun z0 => !isPerm z0))))

def wp_impl_IsCycleSet (c : List (List Int)) (Q : Bool → Prop) : Prop :=
 (small2 c) ∧
 (((isTab c) = true →
  (small2 c) ∧
  (((c.all isPerm) = true →
   (isTab c = true) ∧
   (small (diag c)) ∧
   (((isPerm (diag c)) = true →
    (((cycF c) = [] →
     (isTab c = true) ∧
     Q true) ∧
    (¬ (cycF c) = [] →
     (isTab c = true) ∧
     Q false))) ∧
   ((isPerm (diag c)) = false →
    Q false))) ∧
  ((c.all isPerm) = false →
   Q false))) ∧
 ((isTab c) = false →
  Q false))

def wp_spec_l05Is (c : List (List Int)) (Q : Bool → Prop) : Prop :=
 (small2 c) ∧
 (((isTab c) = true →
  (small2 c) ∧
  (((c.all permB) = true →
   (isTab c = true) ∧
   (small (diag c)) ∧
   (((permB (diag c)) = true →
    (isTab c = true) ∧
    Q (decide (((cycF c).length : Int) = 0))) ∧
   ((permB (diag c)) = false →
    Q false))) ∧
  ((c.all permB) = false →
   Q false))) ∧
 ((isTab c) = false →
  Q false))

def wp_impl_AffineCycleSet_1 (x : Int) (y : Int) (a : Int) (b : Int) (c : Int) (n : Int) (Q : Int → Prop) : Prop :=
 (InI (a * x)) ∧
 (InI (b * y)) ∧
 (InI ((a * x) + (b * y))) ∧
 (InI (((a * x) + (b * y)) + c)) ∧
 ((0 : Int) ≤ ((a * x) + (b * y)) + c ∧ (0 : Int) < n) ∧
 Q ((((a * x) + (b * y)) + c) % n)

def wp_spec_l05Affine (n : Int) (a : Int) (b : Int) (c : Int) (Q : List (List Int) → Prop) : Prop :=
 ∃ (H1 : Int → List (List Int) → Prop) (m1 : Int → List (List Int) → Nat),
 H1 0 ([] : List (List Int)) ∧
 ∀ (v10 : Int) (o769 : List (List Int)), H1 v10 o769 →
 ( ((v10 < n →
   ∃ (H2 : Int → List Int → Prop) (m2 : Int → List Int → Nat),
   H2 0 ([] : List Int) ∧
   ∀ (v12 : Int) (o19 : List Int), H2 v12 o19 →
   ( ((v12 < n →
     (InI (a * v10)) ∧
     (InI (b * v12)) ∧
     (InI ((a * v10) + (b * v12))) ∧
     (InI (((a * v10) + (b * v12)) + c)) ∧
     ((0 : Int) ≤ ((a * v10) + (b * v12)) + c ∧ (0 : Int) < n) ∧
     ((o19.length : Int) + (([(((a * v10) + (b * v12)) + c) % n]).length : Int) ≤ 1000000000) ∧
     (InI (v12 + 1)) ∧
     (H2 (v12 + 1) (o19 ++ ([(((a * v10) + (b * v12)) + c) % n])) ∧ m2 (v12 + 1) (o19 ++ ([(((a * v10) + (b * v12)) + c) % n])) < m2 v12 o19)) ∧
    (¬ (v12 < n) →
     ((o769.length : Int) + (([o19]).length : Int) ≤ 1000000000) ∧
     (InI (v10 + 1)) ∧
     (H1 (v10 + 1) (o769 ++ ([o19])) ∧ m1 (v10 + 1) (o769 ++ ([o19])) < m1 v10 o769))))) ∧
  (¬ (v10 < n) →
   Q o769)))

def wp_spec_AffineCycleSet (n : Int) (a : Int) (b : Int) (c : Int) (Q : List (List Int) → Int → Prop) : Prop :=
 (((decide ((1 : Int) ≤ n) && decide (n ≤ (12 : Int))) = false →
  Q ([]) 2) ∧
 ((decide ((1 : Int) ≤ n) && decide (n ≤ (12 : Int))) = true →
  (InI (n - 1)) ∧
  (((decide ((0 : Int) ≤ a) && decide (a ≤ (n - 1))) = false →
   Q ([]) 2) ∧
  ((decide ((0 : Int) ≤ a) && decide (a ≤ (n - 1))) = true →
   (InI (n - 1)) ∧
   (((decide ((0 : Int) ≤ b) && decide (b ≤ (n - 1))) = false →
    Q ([]) 2) ∧
   ((decide ((0 : Int) ≤ b) && decide (b ≤ (n - 1))) = true →
    (InI (n - 1)) ∧
    (((decide ((0 : Int) ≤ c) && decide (c ≤ (n - 1))) = false →
     Q ([]) 2) ∧
    ((decide ((0 : Int) ≤ c) && decide (c ≤ (n - 1))) = true →
     (1 ≤ n ∧ n ≤ 12 ∧ 0 ≤ a ∧ a < n ∧ 0 ≤ b ∧ b < n ∧ 0 ≤ c ∧ c < n) ∧
     (small2 (tab n (fun x_ y_ => (a * x_ + b * y_ + c) % n))) ∧
     (((isCyc (tab n (fun x_ y_ => (a * x_ + b * y_ + c) % n))) = false →
      Q ([]) 5) ∧
     ((isCyc (tab n (fun x_ y_ => (a * x_ + b * y_ + c) % n))) = true →
      Q (tab n (fun x_ y_ => (a * x_ + b * y_ + c) % n)) 0))))))))))

def wp_impl_AffineCycleSet (n : Int) (a : Int) (b : Int) (c : Int) (Q : List (List Int) → Int → Prop) : Prop :=
 (((decide ((1 : Int) ≤ n) && decide (n ≤ (12 : Int))) = false →
  Q ([]) 2) ∧
 ((decide ((1 : Int) ≤ n) && decide (n ≤ (12 : Int))) = true →
  (InI (n - 1)) ∧
  (((decide ((0 : Int) ≤ a) && decide (a ≤ (n - 1))) = false →
   Q ([]) 2) ∧
  ((decide ((0 : Int) ≤ a) && decide (a ≤ (n - 1))) = true →
   (InI (n - 1)) ∧
   (((decide ((0 : Int) ≤ b) && decide (b ≤ (n - 1))) = false →
    Q ([]) 2) ∧
   ((decide ((0 : Int) ≤ b) && decide (b ≤ (n - 1))) = true →
    (InI (n - 1)) ∧
    (((decide ((0 : Int) ≤ c) && decide (c ≤ (n - 1))) = false →
     Q ([]) 2) ∧
    ((decide ((0 : Int) ≤ c) && decide (c ≤ (n - 1))) = true →
     (0 ≤ n ∧ n ≤ 1000000 ∧ ∀ x_ y_, 0 ≤ x_ → x_ < n → 0 ≤ y_ → y_ < n → (fun z0 z1 => 1 ≤ n ∧ n ≤ 12 ∧ 0 ≤ a ∧ a < n ∧ 0 ≤ b ∧ b < n ∧ 0 ≤ c ∧ c < n ∧ 0 ≤ z0 ∧ z0 < n ∧ 0 ≤ z1 ∧ z1 < n) x_ y_) ∧
     (small2 (tab n (fun z0 z1 => (a * z0 + b * z1 + c) % n))) ∧
     (((isCyc (tab n (fun z0 z1 => (a * z0 + b * z1 + c) % n))) = false →
      Q ([]) 5) ∧
     ((isCyc (tab n (fun z0 z1 => (a * z0 + b * z1 + c) % n))) = true →
      Q (tab n (fun z0 z1 => (a * z0 + b * z1 + c) % n)) 0))))))))))


theorem maxI_step (l : List Int) (a : Int) : ∀ (i : Nat), i < l.length → (l.take (i + 1)).foldl (fun a b => if a < b then b else a) a = (if (l.take i).foldl (fun a b => if a < b then b else a) a < el l i then el l i else (l.take i).foldl (fun a b => if a < b then b else a) a) := fun i hi => by
  rw [List.take_succ_eq_append_getElem hi, List.foldl_append]
  have : el l i = l[i] := by simp [el, List.getD_eq_getElem?_getD, List.getElem?_eq_getElem hi]
  rw [this]; rfl
theorem p_spec_l01Rows (t : List (List Int)) (hp : small2 t) : wp_spec_l01Rows t (fun y0 => y0 = t.all permB) := by
  unfold wp_spec_l01Rows
  obtain ⟨h1, h2⟩ := hp
  refine ⟨fun i => 0 ≤ i ∧ i ≤ (t.length : Int) ∧ Upto i fun j => permB (el t j) = true, fun i => ((t.length : Int) - i).toNat, ⟨by omega, by omega, upto0⟩, ?_⟩
  rintro i ⟨h0, h3, hI⟩
  dsimp only
  refine ⟨fun hlt => ⟨⟨h0, hlt⟩, h2 _ (el_mem ⟨h0, hlt⟩), fun hf => (all_f ⟨h0, hlt⟩ hf).symm, fun ht => ⟨⟨by omega, by omega⟩, ⟨by omega, by omega, upto1 hI ht⟩, by omega⟩⟩, fun hge => ?_⟩
  exact (all_t (by rwa [show i = (t.length : Int) by omega] at hI)).symm
theorem p_impl_permutationRows_1 (row : List Int) (hp : small row) : wp_impl_permutationRows_1 row (fun y0 => y0 = !isPerm row) := ⟨hp, rfl⟩
theorem p_impl_permutationRows (t : List (List Int)) (hp : small2 t) : wp_impl_permutationRows t (fun y0 => y0 = t.all isPerm) := by
  refine ⟨⟨hp.1, hp.2⟩, ?_⟩
  rw [List.not_any_eq_all_not]; simp
theorem isEmpty_iff_nil {l : List Int} : l.isEmpty = decide ((l.length : Int) = 0) := by cases l <;> simp; omega
theorem small_diag {c : List (List Int)} (h : isTab c = true) : small (diag c) := by have := isTab_len h; show ((diag c).length : Int) ≤ 1000000000; simp; omega
theorem p_impl_IsCycleSet (c : List (List Int)) (hp : small2 c) : wp_impl_IsCycleSet c (fun y0 => y0 = isCyc c) := by
  unfold wp_impl_IsCycleSet isCyc
  refine ⟨hp, fun h => ⟨hp, fun h2 => ⟨h, small_diag h, fun h3 => ⟨fun h4 => ⟨h, ?_⟩, fun h4 => ⟨h, ?_⟩⟩, fun h3 => ?_⟩, fun h2 => ?_⟩, fun h => ?_⟩
  · rw [h, h2, h3, h4]; rfl
  · rw [h, h2, h3]; cases e : cycF c with
    | nil => exact absurd e h4
    | cons x l => rfl
  · rw [h, h2, h3]; rfl
  · rw [h, h2]; rfl
  · rw [h]; rfl
theorem permB_diag {c : List (List Int)} (h : isTab c = true) : permB (diag c) = isPerm (diag c) := by
  have := isTab_len h
  unfold permB
  have e1 : decide (1 ≤ ((diag c).length : Int)) = true := decide_eq_true (by simp; omega)
  have e2 : decide (((diag c).length : Int) ≤ 12) = true := decide_eq_true (by simp; omega)
  rw [e1, e2]; rfl
theorem p_spec_l05Is (c : List (List Int)) (hp : small2 c) : wp_spec_l05Is c (fun y0 => y0 = isCyc c) := by
  unfold wp_spec_l05Is isCyc
  refine ⟨hp, fun h => ⟨hp, fun h2 => ⟨h, small_diag h, fun h3 => ⟨h, ?_⟩, fun h3 => ?_⟩, fun h2 => ?_⟩, fun h => ?_⟩
  · rw [isTab_perm h] at h2
    rw [permB_diag h] at h3
    rw [h, h2, h3, isEmpty_iff_nil]; rfl
  · rw [isTab_perm h] at h2
    rw [permB_diag h] at h3
    rw [h, h2, h3]; rfl
  · rw [isTab_perm h] at h2
    rw [h, h2]; rfl
  · rw [h]; rfl
theorem tab_rows {r : List (List Int)} (h : isTab r = true) : ∀ q ∈ r, small q := (isTab_small h).2
theorem dual_loop {r : List (List Int)} (ht : isTab r = true) (hr : r.all isPerm = true) {o : List (List Int)} {i : Int} (il : o.length = i.toNat) (hi : (r.length : Int) ≤ i ∧ i ≤ (r.length : Int)) (hI : Upto i fun x => el o x = backI (el r x)) : o = r.map backI :=
  ext_el (by simp; omega) fun j a b => by rw [el_map ⟨a, by omega⟩]; exact hI j a (by omega)
theorem inv_back {row : List Int} (h : isPerm row = true) : (row = backI row) ↔ invB row = true := by
  rw [invB_iff]
  constructor
  · intro e i a b
    have := el_backI h (i := i) ⟨a, b⟩
    rw [← e] at this; exact this
  · intro hI; exact backI_uniq h rfl hI
theorem p_impl_AffineCycleSet_1 (x y a b c n : Int) (hp : 1 ≤ n ∧ n ≤ 12 ∧ 0 ≤ a ∧ a < n ∧ 0 ≤ b ∧ b < n ∧ 0 ≤ c ∧ c < n ∧ 0 ≤ x ∧ x < n ∧ 0 ≤ y ∧ y < n) : wp_impl_AffineCycleSet_1 x y a b c n (fun y0 => y0 = (a * x + b * y + c) % n) := by
  unfold wp_impl_AffineCycleSet_1
  have m1 := mulA (a := a) (i := x) ⟨by omega, by omega⟩ ⟨by omega, by omega⟩
  have m2 := mulA (a := b) (i := y) ⟨by omega, by omega⟩ ⟨by omega, by omega⟩
  exact ⟨⟨by omega, by omega⟩, ⟨by omega, by omega⟩, ⟨by omega, by omega⟩, ⟨by omega, by omega⟩, ⟨by omega, by omega⟩, rfl⟩
theorem p_spec_l05Affine (n a b c : Int) (hp : 1 ≤ n ∧ n ≤ 12 ∧ 0 ≤ a ∧ a < n ∧ 0 ≤ b ∧ b < n ∧ 0 ≤ c ∧ c < n) : wp_spec_l05Affine n a b c (fun y0 => y0 = tab n (fun x_ y_ => (a * x_ + b * y_ + c) % n)) := by
  unfold wp_spec_l05Affine
  refine ⟨fun i o => 0 ≤ i ∧ i ≤ n ∧ o.length = i.toNat ∧ Upto i fun x => el o x = ran n fun y => (a * x + b * y + c) % n, fun i _ => (n - i).toNat, ⟨by omega, by omega, by simp, upto0⟩, ?_⟩
  rintro i o ⟨i0, i1, il, iI⟩
  dsimp only
  refine ⟨fun ilt => ?_, fun ige => eq_ran (by omega) fun j a b => iI j a (by omega)⟩
  refine ⟨fun j q => 0 ≤ j ∧ j ≤ n ∧ q.length = j.toNat ∧ Upto j fun y => el q y = (a * i + b * y + c) % n, fun j _ => (n - j).toNat, ⟨by omega, by omega, by simp, upto0⟩, ?_⟩
  rintro j q ⟨j0, j1, jl, jI⟩
  dsimp only
  have m1 := mulA (a := a) (i := i) ⟨by omega, by omega⟩ ⟨by omega, by omega⟩
  have m2 := mulA (a := b) (i := j) ⟨by omega, by omega⟩ ⟨by omega, by omega⟩
  refine ⟨fun jlt => ⟨⟨by omega, by omega⟩, ⟨by omega, by omega⟩, ⟨by omega, by omega⟩, ⟨by omega, by omega⟩, ⟨by omega, by omega⟩, by simp; omega, ⟨by omega, by omega⟩, ⟨by omega, by omega, by simp; omega, app1 (f := fun y => (a * i + b * y + c) % n) (by omega) jI rfl⟩, by omega⟩, fun jge => ?_⟩
  have hq : q = ran n fun y => (a * i + b * y + c) % n := eq_ran (by omega) fun k a b => jI k a (by omega)
  exact ⟨by simp; omega, ⟨by omega, by omega⟩, ⟨by omega, by omega, by simp; omega, app1 (f := fun x => ran n fun y => (a * x + b * y + c) % n) (by omega) iI hq⟩, by omega⟩
theorem small2_tab {n : Int} {f : Int → Int → Int} (h : n ≤ 1000) : small2 (tab n f) := ⟨by show ((tab n f).length : Int) ≤ 1000000000; simp [tab]; omega, fun r hr => by
  unfold tab at hr
  unfold ran at hr
  obtain ⟨k, hk, rfl⟩ := List.mem_map.1 hr
  simp; omega⟩
theorem inN_t {n x : Int} (h : (decide (0 ≤ x) && decide (x ≤ n - 1)) = true) : inN n x = true := h
theorem aff2 {n a b c : Int} (h : (inN 12 (n - 1) && inN n a && inN n b && inN n c) = false) : [] = AffT n a b c ∧ 2 = AffE n a b c := by
  have e : AffE n a b c = 2 := by unfold AffE; rw [h]; rfl
  exact ⟨by unfold AffT; rw [e]; rfl, e.symm⟩
theorem aff5 {n a b c : Int} (h : (inN 12 (n - 1) && inN n a && inN n b && inN n c) = true) (hc : isCyc (affT n a b c) = false) : [] = AffT n a b c ∧ 5 = AffE n a b c := by
  have e : AffE n a b c = 5 := by unfold AffE; rw [h, hc]; rfl
  exact ⟨by unfold AffT; rw [e]; rfl, e.symm⟩
theorem aff0 {n a b c : Int} (h : (inN 12 (n - 1) && inN n a && inN n b && inN n c) = true) (hc : isCyc (affT n a b c) = true) : affT n a b c = AffT n a b c ∧ 0 = AffE n a b c := by
  have e : AffE n a b c = 0 := by unfold AffE; rw [h, hc]; rfl
  exact ⟨by unfold AffT; rw [e]; rfl, e.symm⟩
theorem inN_12 {n : Int} : inN 12 (n - 1) = (decide (1 ≤ n) && decide (n ≤ 12)) := by
  unfold inN
  rw [Bool.eq_iff_iff]; simp; omega
theorem p_spec_AffineCycleSet (n a b c : Int) (hp : InI n ∧ InI a ∧ InI b ∧ InI c) : wp_spec_AffineCycleSet n a b c (fun y0 y1 => y0 = AffT n a b c ∧ y1 = AffE n a b c) := by
  unfold wp_spec_AffineCycleSet
  refine ⟨fun h => aff2 (by rw [inN_12, h]; rfl), fun h => ?_⟩
  have hn : 1 ≤ n ∧ n ≤ 12 := by simpa using h
  refine ⟨⟨by omega, by omega⟩, fun ha => aff2 (by rw [inN_12, h, show inN n a = false from ha]; rfl), fun ha => ⟨⟨by omega, by omega⟩, fun hb => aff2 (by rw [inN_12, h, show inN n a = true from ha, show inN n b = false from hb]; rfl), fun hb => ⟨⟨by omega, by omega⟩, fun hc => aff2 (by rw [inN_12, h, show inN n a = true from ha, show inN n b = true from hb, show inN n c = false from hc]; rfl), fun hc => ?_⟩⟩⟩
  have hall : (inN 12 (n - 1) && inN n a && inN n b && inN n c) = true := by rw [inN_12, h, show inN n a = true from ha, show inN n b = true from hb, show inN n c = true from hc]; rfl
  simp only [Bool.and_eq_true, decide_eq_true_eq] at ha hb hc
  exact ⟨⟨by omega, by omega, by omega, by omega, by omega, by omega, by omega, by omega⟩, small2_tab (by omega), fun h5 => aff5 hall h5, fun h0 => aff0 hall h0⟩
theorem p_impl_AffineCycleSet (n a b c : Int) (hp : InI n ∧ InI a ∧ InI b ∧ InI c) : wp_impl_AffineCycleSet n a b c (fun y0 y1 => y0 = AffT n a b c ∧ y1 = AffE n a b c) := by
  unfold wp_impl_AffineCycleSet
  refine ⟨fun h => aff2 (by rw [inN_12, h]; rfl), fun h => ?_⟩
  have hn : 1 ≤ n ∧ n ≤ 12 := by simpa using h
  refine ⟨⟨by omega, by omega⟩, fun ha => aff2 (by rw [inN_12, h, show inN n a = false from ha]; rfl), fun ha => ⟨⟨by omega, by omega⟩, fun hb => aff2 (by rw [inN_12, h, show inN n a = true from ha, show inN n b = false from hb]; rfl), fun hb => ⟨⟨by omega, by omega⟩, fun hc => aff2 (by rw [inN_12, h, show inN n a = true from ha, show inN n b = true from hb, show inN n c = false from hc]; rfl), fun hc => ?_⟩⟩⟩
  have hall : (inN 12 (n - 1) && inN n a && inN n b && inN n c) = true := by rw [inN_12, h, show inN n a = true from ha, show inN n b = true from hb, show inN n c = true from hc]; rfl
  simp only [Bool.and_eq_true, decide_eq_true_eq] at ha hb hc
  exact ⟨⟨by omega, by omega, fun x y x0 x1 y0 y1 => ⟨by omega, by omega, by omega, by omega, by omega, by omega, by omega, by omega, x0, x1, y0, y1⟩⟩, small2_tab (by omega), fun h5 => aff5 hall h5, fun h0 => aff0 hall h0⟩
theorem rkf1 {r : List (List Int)} (h : isTab r = false) : [] = RkfT r ∧ 1 = RkfE r := by
  have e : RkfE r = 1 := by unfold RkfE; rw [h]; rfl
  exact ⟨by unfold RkfT; rw [e]; rfl, e.symm⟩
theorem rkf5 {r : List (List Int)} (h : isTab r = true) (h2 : r.all isPerm = false) : [] = RkfT r ∧ 5 = RkfE r := by
  have e : RkfE r = 5 := by unfold RkfE; rw [h, h2]; rfl
  exact ⟨by unfold RkfT; rw [e]; rfl, e.symm⟩
theorem rkf4 {r : List (List Int)} (h : isTab r = true) (h2 : r.all isPerm = true) (h3 : rackF r = []) : [] = RkfT r ∧ 4 = RkfE r := by
  have e : RkfE r = 4 := by unfold RkfE; rw [h, h2, if_pos h3]; rfl
  exact ⟨by unfold RkfT; rw [e]; rfl, e.symm⟩
theorem rkf0 {r : List (List Int)} (h : isTab r = true) (h2 : r.all isPerm = true) (h3 : ¬ rackF r = []) : rackF r = RkfT r ∧ 0 = RkfE r := by
  have e : RkfE r = 0 := by unfold RkfE; rw [h, h2, if_neg h3]; rfl
  exact ⟨by unfold RkfT; rw [e]; rfl, e.symm⟩
theorem dpw1 {c : List (List Int)} {x k : Int} (h : isCyc c = false) : 0 = DpwV c x k ∧ 1 = DpwE c x k := by
  have e : DpwE c x k = 1 := by unfold DpwE; rw [h]; rfl
  exact ⟨by unfold DpwV; rw [e]; rfl, e.symm⟩
theorem dpw2 {c : List (List Int)} {x k : Int} (h : isCyc c = true) (h2 : (inN (c.length : Int) x && inN 1001 k) = false) : 0 = DpwV c x k ∧ 2 = DpwE c x k := by
  have e : DpwE c x k = 2 := by unfold DpwE; rw [h, h2]; rfl
  exact ⟨by unfold DpwV; rw [e]; rfl, e.symm⟩
theorem dpw0 {c : List (List Int)} {x k : Int} (h : isCyc c = true) (h2 : (inN (c.length : Int) x && inN 1001 k) = true) : iterN (fun x => el (el c x) x) k.toNat x = DpwV c x k ∧ 0 = DpwE c x k := by
  have e : DpwE c x k = 0 := by unfold DpwE; rw [h, h2]; rfl
  exact ⟨by unfold DpwV; rw [e]; rfl, e.symm⟩
theorem inN_1001 {k : Int} : inN 1001 k = (decide (0 ≤ k) && decide (k ≤ 1000)) := by unfold inN; rfl
theorem dso1 {c : List (List Int)} {x z : Int} (h : isCyc c = false) : 0 = DsoV c x z ∧ 1 = DsoE c x z := by
  have e : DsoE c x z = 1 := by unfold DsoE; rw [h]; rfl
  exact ⟨by unfold DsoV; rw [e]; rfl, e.symm⟩
theorem dso2 {c : List (List Int)} {x z : Int} (h : isCyc c = true) (h2 : (inN (c.length : Int) x && inN (c.length : Int) z) = false) : 0 = DsoV c x z ∧ 2 = DsoE c x z := by
  have e : DsoE c x z = 2 := by unfold DsoE; rw [h, h2]; rfl
  exact ⟨by unfold DsoV; rw [e]; rfl, e.symm⟩
theorem dso0 {c : List (List Int)} {x z : Int} (h : isCyc c = true) (h2 : (inN (c.length : Int) x && inN (c.length : Int) z) = true) : idxI (el c x) z = DsoV c x z ∧ 0 = DsoE c x z := by
  have e : DsoE c x z = 0 := by unfold DsoE; rw [h, h2]; rfl
  exact ⟨by unfold DsoV; rw [e]; rfl, e.symm⟩
set_option maxRecDepth 100000 in
set_option maxHeartbeats 1000000 in
theorem w_spec_l01Rows (t : List (List Int)) (Q : Bool → Prop) (h : wp_spec_l01Rows t Q) : AF Try.prog 119 [.lst (rows t)] (fun R_ => ∃ y0, Q y0 ∧ R_ = cb y0) := by
  refine AF.ofWQ (af_enter (n := 16) Try.func119 rfl (by rfl) rfl (Nat.le_of_ble_eq_true rfl) ?_)
  unfold wp_spec_l01Rows at h
  refine aw_seq ?_
  refine aw_gh (gh_to (n := 16) (σ' := []) (env' := [(0, .c (.lst (rows t)))]) rfl rfl ⟨rfl, trivial⟩) ?_
  refine aw_region ?_
  refine run_s (ss_assign rfl) rfl ?_
  refine run_nil ?_
  refine aw_seq ?_
  refine aw_seq ?_
  refine aw_region ?_
  refine run_s (ss_assign rfl) rfl ?_
  refine run_nil ?_
  refine aw_block ?_
  obtain ⟨H1, m1, q1, h⟩ := h
  refine aw_loop1 (fun (v3 : Int) => ⟨[], [(0, .c (.lst (rows t))), (3, .c (ci v3))], 16⟩) H1 m1 ⟨0, ghe_to (n := 16) rfl rfl ⟨rfl, rfl, trivial⟩, q1⟩ ?_
  rintro v3 q1
  replace h := h v3 q1
  refine aw_seq ?_
  refine aw_seq ?_
  refine aw_region ?_
  refine run_s (ss_move rfl) rfl ?_
  refine run_s (ss_move rfl) rfl ?_
  refine run_s (ss_lenL (f := (fun r => C.lst (ints r))) rfl) rfl ?_
  refine run_s (ss_lss rfl rfl) rfl ?_
  refine run_nil ?_
  refine aw_cond rfl (fun q2 => ?_) (fun q2 => ?_)
  · replace h := h.1 (of_decide_eq_true q2)
    refine aw_skip ?_
    refine aw_seq ?_
    refine aw_block ?_
    refine aw_seq ?_
    refine aw_region ?_
    refine run_s (ss_move rfl) rfl ?_
    refine run_s (ss_move rfl) rfl ?_
    obtain ⟨q3, h⟩ := h
    refine run_s (ss_idxL rfl rfl q3) rfl ?_
    refine run_s (ss_loadL (f := (fun r => C.lst (ints r))) rfl q3) rfl ?_
    obtain ⟨q4, h⟩ := h
    refine run_w (ws_call (xs := [.tmp 13]) (ids := []) rfl rfl rfl rfl (c_spec_l01Perm (el t v3) q4) rfl ?_ )
    rintro _ rfl
    refine ⟨rfl, ?_⟩
    refine run_s (ss_not rfl) rfl ?_
    refine run_nil ?_
    refine aw_cond rfl (fun q6 => ?_) (fun q6 => ?_)
    · replace h := h.1 ((bnot_t q6))
      refine aw_seq ?_
      refine aw_gh (gh_to (n := 16) (σ' := []) (env' := []) rfl rfl trivial) ?_
      refine aw_region ?_
      refine run_s (ss_assign rfl) rfl ?_
      refine run_nil ?_
      refine aw_ret ?_
      exact retAF_mk (retv1 rfl (rv_tmp rfl)) rfl rfl ⟨_, (cle_refl _), _, h, rfl⟩
    · replace h := h.2 ((bnot_f q6))
      refine aw_skip ?_
      refine aw_gh (gh_to (n := 16) (σ' := []) (env' := [(0, .c (.lst (rows t))), (3, .c (ci v3))]) rfl rfl ⟨rfl, rfl, trivial⟩) ?_
      refine aw_region ?_
      refine run_s (ss_move rfl) rfl ?_
      obtain ⟨q7, h⟩ := h
      refine run_s (ss_add rfl rfl q7) rfl ?_
      refine run_s (ss_assign rfl) rfl ?_
      refine run_nil ?_
      exact ⟨v3 + 1, ghe_to (n := 16) rfl rfl ⟨rfl, rfl, trivial⟩, h.1, h.2⟩
  · replace h := h.2 (of_decide_eq_false q2)
    refine aw_exit ?_
    refine aw_seq ?_
    refine aw_gh (gh_to (n := 16) (σ' := []) (env' := []) rfl rfl trivial) ?_
    refine aw_region ?_
    refine run_s (ss_assign rfl) rfl ?_
    refine run_nil ?_
    refine aw_ret ?_
    exact retAF_mk (retv1 rfl (rv_tmp rfl)) rfl rfl ⟨_, (cle_refl _), _, h, rfl⟩

theorem c_spec_l01Rows (t : List (List Int)) (hp : small2 t) : AF Try.prog 119 [.lst (rows t)] (fun R_ => R_ = cb (t.all permB)) :=
  (w_spec_l01Rows t (fun y0 => y0 = t.all permB) (p_spec_l01Rows t hp)).mono (by rintro r ⟨_, rfl, rfl⟩; rfl)

set_option maxRecDepth 100000 in
set_option maxHeartbeats 1000000 in
theorem w_impl_permutationRows_1 (row : List Int) (Q : Bool → Prop) (h : wp_impl_permutationRows_1 row Q) : AF Try.prog 132 [.lst (ints row)] (fun R_ => ∃ y0, Q y0 ∧ R_ = cb y0) := by
  refine AF.ofWQ (af_enter (n := 6) Try.func132 rfl (by rfl) rfl (Nat.le_of_ble_eq_true rfl) ?_)
  unfold wp_impl_permutationRows_1 at h
  refine aw_seq ?_
  refine aw_gh (gh_to (n := 6) (σ' := []) (env' := [(0, .c (.lst (ints row)))]) rfl rfl ⟨rfl, trivial⟩) ?_
  refine aw_region ?_
  refine run_s (ss_assign rfl) rfl ?_
  refine run_nil ?_
  refine aw_seq ?_
  refine aw_region ?_
  refine run_s (ss_move rfl) rfl ?_
  obtain ⟨q1, h⟩ := h
  refine run_w (ws_call (xs := [.tmp 3]) (ids := []) rfl rfl rfl rfl (c_impl_isPermuted row q1) rfl ?_ )
  rintro _ rfl
  refine ⟨rfl, ?_⟩
  refine run_s (ss_not rfl) rfl ?_
  refine run_s (ss_assign rfl) rfl ?_
  refine run_nil ?_
  refine aw_ret ?_
  exact retAF_mk (retv1 rfl (rv_tmp rfl)) rfl rfl ⟨_, (cle_refl _), _, h, rfl⟩

theorem c_impl_permutationRows_1 (row : List Int) (hp : small row) : AF Try.prog 132 [.lst (ints row)] (fun R_ => R_ = cb (!isPerm row)) :=
  (w_impl_permutationRows_1 row (fun y0 => y0 = !isPerm row) (p_impl_permutationRows_1 row hp)).mono (by rintro r ⟨_, rfl, rfl⟩; rfl)

set_option maxRecDepth 100000 in
set_option maxHeartbeats 1000000 in
theorem w_impl_permutationRows (t : List (List Int)) (Q : Bool → Prop) (h : wp_impl_permutationRows t Q) : AF Try.prog 89 [.lst (rows t)] (fun R_ => ∃ y0, Q y0 ∧ R_ = cb y0) := by
  refine AF.ofWQ (af_enter (n := 6) Try.func89 rfl (by rfl) rfl (Nat.le_of_ble_eq_true rfl) ?_)
  unfold wp_impl_permutationRows at h
  refine aw_seq ?_
  refine aw_gh (gh_to (n := 6) (σ' := []) (env' := [(0, .c (.lst (rows t)))]) rfl rfl ⟨rfl, trivial⟩) ?_
  refine aw_region ?_
  refine run_s (ss_assign rfl) rfl ?_
  refine run_nil ?_
  refine aw_seq ?_
  refine aw_region ?_
  refine run_s (ss_move rfl) rfl ?_
  obtain ⟨q1, h⟩ := h
  refine run_w (ws_call (xs := [.tmp 3, .func 132]) (ids := []) rfl rfl rfl rfl (c_k_ContainsFunc_rows t 132 [] (fun z0 => !isPerm z0) (fun z0 => small z0) (fun z0 hD => c_impl_permutationRows_1 z0 hD) q1) rfl ?_ )
  rintro _ rfl
  refine ⟨rfl, ?_⟩
  refine run_s (ss_not rfl) rfl ?_
  refine run_s (ss_assign rfl) rfl ?_
  refine run_nil ?_
  refine aw_ret ?_
  exact retAF_mk (retv1 rfl (rv_tmp rfl)) rfl rfl ⟨_, (cle_refl _), _, h, rfl⟩

theorem c_impl_permutationRows (t : List (List Int)) (hp : small2 t) : AF Try.prog 89 [.lst (rows t)] (fun R_ => R_ = cb (t.all isPerm)) :=
  (w_impl_permutationRows t (fun y0 => y0 = t.all isPerm) (p_impl_permutationRows t hp)).mono (by rintro r ⟨_, rfl, rfl⟩; rfl)

set_option maxRecDepth 100000 in
set_option maxHeartbeats 1000000 in
theorem w_impl_IsCycleSet (c : List (List Int)) (Q : Bool → Prop) (h : wp_impl_IsCycleSet c Q) : AF Try.prog 67 [.agg [.lst (rows c)]] (fun R_ => ∃ y0, Q y0 ∧ R_ = cb y0) := by
  refine AF.ofWQ (af_enter (n := 22) Try.func67 rfl (by rfl) rfl (Nat.le_of_ble_eq_true rfl) ?_)
  unfold wp_impl_IsCycleSet at h
  refine aw_seq ?_
  refine aw_gh (gh_to (n := 22) (σ' := []) (env' := [(0, .c (.agg [.lst (rows c)]))]) rfl rfl ⟨rfl, trivial⟩) ?_
  refine aw_region ?_
  refine run_w (ws_boxR rfl (.inl rfl) rfl ⟨rfl, ?_⟩)
  refine run_s (ss_assign rfl) rfl ?_
  refine run_nil ?_
  refine aw_seq ?_
  refine aw_region ?_
  refine run_s (ss_field_ptr rfl) rfl ?_
  refine run_s (ss_load_ptr rfl rfl) rfl ?_
  obtain ⟨q1, h⟩ := h
  refine run_w (ws_call (xs := [.tmp 4]) (ids := []) rfl rfl rfl rfl (c_impl_IsTable c q1) rfl ?_ )
  rintro _ rfl
  refine ⟨rfl, ?_⟩
  refine run_s (ss_move rfl) rfl ?_
  refine run_split (s := 6) rfl (fun q3 => ?_) (fun q3 => ?_)
  · replace h := h.1 (q3)
    refine run_gt rfl rfl q3 ?_
    refine run_s (ss_field_ptr rfl) rfl ?_
    refine run_gt rfl rfl q3 ?_
    refine run_s (ss_load_ptr rfl rfl) rfl ?_
    refine run_gt rfl rfl q3 ?_
    obtain ⟨q4, h⟩ := h
    refine run_w (ws_call (xs := [.tmp 8]) (ids := []) rfl rfl rfl rfl (c_impl_permutationRows c q4) rfl ?_ )
    rintro _ rfl
    refine ⟨rfl, ?_⟩
    refine run_s (ss_pickT rfl q3 rfl) rfl ?_
    refine run_s (ss_move rfl) rfl ?_
    refine run_split (s := 11) rfl (fun q6 => ?_) (fun q6 => ?_)
    · replace h := h.1 (q6)
      refine run_gt rfl rfl q6 ?_
      refine run_s (ss_load_struct rfl (Nat.le_of_ble_eq_true rfl)) rfl ?_
      refine run_gt rfl rfl q6 ?_
      obtain ⟨q7, h⟩ := h
      refine run_w (ws_call (xs := [.tmp 12]) (ids := [13]) rfl rfl rfl rfl (c_impl_squaresOf c q7) rfl ?_ )
      rintro _ rfl
      refine ⟨rfl, ?_⟩
      refine run_gt rfl rfl q6 ?_
      obtain ⟨q9, h⟩ := h
      refine run_w (ws_callR (xs := [.tmp 13]) (cs := [.own (ints (diag c))]) (ids := []) rfl (.inr ⟨rfl, rfl⟩) rfl rfl (fz_cons (fz_own (fz_map (fun _ => rfl) _)) fz_nil) (c_impl_isPermuted (diag c) q9) rfl ?_ )
      rintro _ rfl
      refine ⟨rfl, rfl, ?_⟩
      refine run_s (ss_pickT rfl q6 rfl) rfl ?_
      refine run_s (ss_move rfl) rfl ?_
      refine run_split (s := 16) rfl (fun q11 => ?_) (fun q11 => ?_)
      · replace h := h.1 (q11)
        refine run_gt rfl rfl q11 ?_
        refine run_s (ss_field_ptr rfl) rfl ?_
        refine run_gt rfl rfl q11 ?_
        refine run_s (ss_load_ptr rfl rfl) rfl ?_
        refine run_gt rfl rfl q11 ?_
        by_cases q12 : (cycF c) = []
        · replace h := h.1 q12
          obtain ⟨q13, h⟩ := h
          refine run_w (ws_call (xs := [.tmp 18]) (ids := []) rfl rfl rfl rfl (AF.onil_n (c_impl_cycleFault c q13) q12) rfl ?_ )
          rintro _ rfl
          refine ⟨rfl, ?_⟩
          refine run_gt rfl rfl q11 ?_
          refine run_s (ss_eql_nil (b' := none) rfl rfl) rfl ?_
          refine run_s (ss_pickT rfl q11 rfl) rfl ?_
          refine run_s (ss_assign rfl) rfl ?_
          refine run_nil ?_
          refine aw_ret ?_
          exact retAF_mk (retv1 rfl (rv_tmp rfl)) rfl rfl ⟨_, (cle_refl _), _, h, rfl⟩
        · replace h := h.2 q12
          obtain ⟨q15, h⟩ := h
          refine run_w (ws_call (xs := [.tmp 18]) (ids := [19]) rfl rfl rfl rfl (AF.onil_o (c_impl_cycleFault c q15) q12) rfl ?_ )
          rintro _ rfl
          refine ⟨rfl, ?_⟩
          refine run_gt rfl rfl q11 ?_
          refine run_s (ss_eql_refNil rfl rfl (map_ne q12) rfl) rfl ?_
          refine run_s (ss_pickT rfl q11 rfl) rfl ?_
          refine run_s (ss_assign rfl) rfl ?_
          refine run_nil ?_
          refine aw_ret ?_
          exact retAF_mk (retv1 rfl (rv_tmp rfl)) rfl rfl ⟨_, (cle_refl _), _, h, rfl⟩
      · replace h := h.2 (q11)
        refine run_gf rfl rfl q11 rfl ?_
        refine run_gf rfl rfl q11 rfl ?_
        refine run_gf rfl rfl q11 rfl ?_
        refine run_gf rfl rfl q11 rfl ?_
        refine run_s (ss_pickF rfl q11 rfl) rfl ?_
        refine run_s (ss_assign rfl) rfl ?_
        refine run_nil ?_
        refine aw_ret ?_
        exact retAF_mk (retv1 rfl (rv_tmp rfl)) rfl rfl ⟨_, (cle_refl _), _, h, rfl⟩
    · replace h := h.2 (q6)
      refine run_gf rfl rfl q6 rfl ?_
      refine run_gf rfl rfl q6 rfl ?_
      refine run_gf rfl rfl q6 rfl ?_
      refine run_s (ss_pickF rfl q6 rfl) rfl ?_
      refine run_s (ss_move rfl) rfl ?_
      refine run_split (s := 16) rfl (fun q17 => ?_) (fun q17 => ?_)
      · cases q17
      · skip
        refine run_gf rfl rfl q17 rfl ?_
        refine run_gf rfl rfl q17 rfl ?_
        refine run_gf rfl rfl q17 rfl ?_
        refine run_gf rfl rfl q17 rfl ?_
        refine run_s (ss_pickF rfl q17 rfl) rfl ?_
        refine run_s (ss_assign rfl) rfl ?_
        refine run_nil ?_
        refine aw_ret ?_
        exact retAF_mk (retv1 rfl (rv_tmp rfl)) rfl rfl ⟨_, (cle_refl _), _, h, rfl⟩
  · replace h := h.2 (q3)
    refine run_gf rfl rfl q3 rfl ?_
    refine run_gf rfl rfl q3 rfl ?_
    refine run_gf rfl rfl q3 rfl ?_
    refine run_s (ss_pickF rfl q3 rfl) rfl ?_
    refine run_s (ss_move rfl) rfl ?_
    refine run_split (s := 11) rfl (fun q18 => ?_) (fun q18 => ?_)
    · cases q18
    · skip
      refine run_gf rfl rfl q18 rfl ?_
      refine run_gf rfl rfl q18 rfl ?_
      refine run_gf rfl rfl q18 rfl ?_
      refine run_s (ss_pickF rfl q18 rfl) rfl ?_
      refine run_s (ss_move rfl) rfl ?_
      refine run_split (s := 16) rfl (fun q19 => ?_) (fun q19 => ?_)
      · cases q19
      · skip
        refine run_gf rfl rfl q19 rfl ?_
        refine run_gf rfl rfl q19 rfl ?_
        refine run_gf rfl rfl q19 rfl ?_
        refine run_gf rfl rfl q19 rfl ?_
        refine run_s (ss_pickF rfl q19 rfl) rfl ?_
        refine run_s (ss_assign rfl) rfl ?_
        refine run_nil ?_
        refine aw_ret ?_
        exact retAF_mk (retv1 rfl (rv_tmp rfl)) rfl rfl ⟨_, (cle_refl _), _, h, rfl⟩

theorem c_impl_IsCycleSet (c : List (List Int)) (hp : small2 c) : AF Try.prog 67 [.agg [.lst (rows c)]] (fun R_ => R_ = cb (isCyc c)) :=
  (w_impl_IsCycleSet c (fun y0 => y0 = isCyc c) (p_impl_IsCycleSet c hp)).mono (by rintro r ⟨_, rfl, rfl⟩; rfl)

set_option maxRecDepth 100000 in
set_option maxHeartbeats 1000000 in
theorem w_spec_l05Is (c : List (List Int)) (Q : Bool → Prop) (h : wp_spec_l05Is c Q) : AF Try.prog 63 [.agg [.lst (rows c)]] (fun R_ => ∃ y0, Q y0 ∧ R_ = cb y0) := by
  refine AF.ofWQ (af_enter (n := 24) Try.func63 rfl (by rfl) rfl (Nat.le_of_ble_eq_true rfl) ?_)
  unfold wp_spec_l05Is at h
  refine aw_seq ?_
  refine aw_gh (gh_to (n := 24) (σ' := []) (env' := [(0, .c (.agg [.lst (rows c)]))]) rfl rfl ⟨rfl, trivial⟩) ?_
  refine aw_region ?_
  refine run_w (ws_boxR rfl (.inl rfl) rfl ⟨rfl, ?_⟩)
  refine run_s (ss_assign rfl) rfl ?_
  refine run_nil ?_
  refine aw_seq ?_
  refine aw_region ?_
  refine run_s (ss_field_ptr rfl) rfl ?_
  refine run_s (ss_load_ptr rfl rfl) rfl ?_
  obtain ⟨q1, h⟩ := h
  refine run_w (ws_call (xs := [.tmp 4]) (ids := []) rfl rfl rfl rfl (c_spec_l01Table c q1) rfl ?_ )
  rintro _ rfl
  refine ⟨rfl, ?_⟩
  refine run_s (ss_move rfl) rfl ?_
  refine run_split (s := 6) rfl (fun q3 => ?_) (fun q3 => ?_)
  · replace h := h.1 (q3)
    refine run_gt rfl rfl q3 ?_
    refine run_s (ss_field_ptr rfl) rfl ?_
    refine run_gt rfl rfl q3 ?_
    refine run_s (ss_load_ptr rfl rfl) rfl ?_
    refine run_gt rfl rfl q3 ?_
    obtain ⟨q4, h⟩ := h
    refine run_w (ws_call (xs := [.tmp 8]) (ids := []) rfl rfl rfl rfl (c_spec_l01Rows c q4) rfl ?_ )
    rintro _ rfl
    refine ⟨rfl, ?_⟩
    refine run_s (ss_pickT rfl q3 rfl) rfl ?_
    refine run_s (ss_move rfl) rfl ?_
    refine run_split (s := 11) rfl (fun q6 => ?_) (fun q6 => ?_)
    · replace h := h.1 (q6)
      refine run_gt rfl rfl q6 ?_
      refine run_s (ss_field_ptr rfl) rfl ?_
      refine run_gt rfl rfl q6 ?_
      refine run_s (ss_load_ptr rfl rfl) rfl ?_
      refine run_gt rfl rfl q6 ?_
      obtain ⟨q7, h⟩ := h
      refine run_w (ws_call (xs := [.tmp 13]) (ids := [14]) rfl rfl rfl rfl (c_spec_l05Squares c q7) rfl ?_ )
      rintro _ rfl
      refine ⟨rfl, ?_⟩
      refine run_gt rfl rfl q6 ?_
      obtain ⟨q9, h⟩ := h
      refine run_w (ws_callR (xs := [.tmp 14]) (cs := [.own (ints (diag c))]) (ids := []) rfl (.inr ⟨rfl, rfl⟩) rfl rfl (fz_cons (fz_own (fz_map (fun _ => rfl) _)) fz_nil) (c_spec_l01Perm (diag c) q9) rfl ?_ )
      rintro _ rfl
      refine ⟨rfl, rfl, ?_⟩
      refine run_s (ss_pickT rfl q6 rfl) rfl ?_
      refine run_s (ss_move rfl) rfl ?_
      refine run_split (s := 17) rfl (fun q11 => ?_) (fun q11 => ?_)
      · replace h := h.1 (q11)
        refine run_gt rfl rfl q11 ?_
        refine run_s (ss_field_ptr rfl) rfl ?_
        refine run_gt rfl rfl q11 ?_
        refine run_s (ss_load_ptr rfl rfl) rfl ?_
        refine run_gt rfl rfl q11 ?_
        obtain ⟨q12, h⟩ := h
        refine run_w (ws_call (xs := [.tmp 19]) (ids := [20]) rfl rfl rfl rfl (c_spec_l05Fault c q12) rfl ?_ )
        rintro _ rfl
        refine ⟨rfl, ?_⟩
        refine run_gt rfl rfl q11 ?_
        refine run_s (ss_lenR (f := ci) rfl rfl) rfl ?_
        refine run_gt rfl rfl q11 ?_
        refine run_s (ss_eql rfl rfl) rfl ?_
        refine run_s (ss_pickT rfl q11 rfl) rfl ?_
        refine run_s (ss_assign rfl) rfl ?_
        refine run_nil ?_
        refine aw_ret ?_
        exact retAF_mk (retv1 rfl (rv_tmp rfl)) rfl rfl ⟨_, (cle_refl _), _, h, rfl⟩
      · replace h := h.2 (q11)
        refine run_gf rfl rfl q11 rfl ?_
        refine run_gf rfl rfl q11 rfl ?_
        refine run_gf rfl rfl q11 rfl ?_
        refine run_gf rfl rfl q11 rfl ?_
        refine run_gf rfl rfl q11 rfl ?_
        refine run_s (ss_pickF rfl q11 rfl) rfl ?_
        refine run_s (ss_assign rfl) rfl ?_
        refine run_nil ?_
        refine aw_ret ?_
        exact retAF_mk (retv1 rfl (rv_tmp rfl)) rfl rfl ⟨_, (cle_refl _), _, h, rfl⟩
    · replace h := h.2 (q6)
      refine run_gf rfl rfl q6 rfl ?_
      refine run_gf rfl rfl q6 rfl ?_
      refine run_gf rfl rfl q6 rfl ?_
      refine run_gf rfl rfl q6 rfl ?_
      refine run_s (ss_pickF rfl q6 rfl) rfl ?_
      refine run_s (ss_move rfl) rfl ?_
      refine run_split (s := 17) rfl (fun q14 => ?_) (fun q14 => ?_)
      · cases q14
      · skip
        refine run_gf rfl rfl q14 rfl ?_
        refine run_gf rfl rfl q14 rfl ?_
        refine run_gf rfl rfl q14 rfl ?_
        refine run_gf rfl rfl q14 rfl ?_
        refine run_gf rfl rfl q14 rfl ?_
        refine run_s (ss_pickF rfl q14 rfl) rfl ?_
        refine run_s (ss_assign rfl) rfl ?_
        refine run_nil ?_
        refine aw_ret ?_
        exact retAF_mk (retv1 rfl (rv_tmp rfl)) rfl rfl ⟨_, (cle_refl _), _, h, rfl⟩
  · replace h := h.2 (q3)
    refine run_gf rfl rfl q3 rfl ?_
    refine run_gf rfl rfl q3 rfl ?_
    refine run_gf rfl rfl q3 rfl ?_
    refine run_s (ss_pickF rfl q3 rfl) rfl ?_
    refine run_s (ss_move rfl) rfl ?_
    refine run_split (s := 11) rfl (fun q15 => ?_) (fun q15 => ?_)
    · cases q15
    · skip
      refine run_gf rfl rfl q15 rfl ?_
      refine run_gf rfl rfl q15 rfl ?_
      refine run_gf rfl rfl q15 rfl ?_
      refine run_gf rfl rfl q15 rfl ?_
      refine run_s (ss_pickF rfl q15 rfl) rfl ?_
      refine run_s (ss_move rfl) rfl ?_
      refine run_split (s := 17) rfl (fun q16 => ?_) (fun q16 => ?_)
      · cases q16
      · skip
        refine run_gf rfl rfl q16 rfl ?_
        refine run_gf rfl rfl q16 rfl ?_
        refine run_gf rfl rfl q16 rfl ?_
        refine run_gf rfl rfl q16 rfl ?_
        refine run_gf rfl rfl q16 rfl ?_
        refine run_s (ss_pickF rfl q16 rfl) rfl ?_
        refine run_s (ss_assign rfl) rfl ?_
        refine run_nil ?_
        refine aw_ret ?_
        exact retAF_mk (retv1 rfl (rv_tmp rfl)) rfl rfl ⟨_, (cle_refl _), _, h, rfl⟩

theorem c_spec_l05Is (c : List (List Int)) (hp : small2 c) : AF Try.prog 63 [.agg [.lst (rows c)]] (fun R_ => R_ = cb (isCyc c)) :=
  (w_spec_l05Is c (fun y0 => y0 = isCyc c) (p_spec_l05Is c hp)).mono (by rintro r ⟨_, rfl, rfl⟩; rfl)

set_option maxRecDepth 100000 in
set_option maxHeartbeats 1000000 in
theorem w_impl_AffineCycleSet_1 (x : Int) (y : Int) (a : Int) (b : Int) (c : Int) (n : Int) (Q : Int → Prop) (h : wp_impl_AffineCycleSet_1 x y a b c n Q) : AF Try.prog 66 [ci x, ci y, .ptr [ci a], .ptr [ci b], .ptr [ci c], .ptr [ci n]] (fun R_ => ∃ y0, Q y0 ∧ R_ = ci y0) := by
  refine AF.ofWQ (af_enter (n := 20) Try.func66 rfl (by rfl) rfl (Nat.le_of_ble_eq_true rfl) ?_)
  unfold wp_impl_AffineCycleSet_1 at h
  refine aw_seq ?_
  refine aw_gh (gh_to (n := 20) (σ' := []) (env' := [(0, .c (ci x)), (1, .c (ci y)), (2, .c (.ptr [ci a])), (3, .c (.ptr [ci b])), (4, .c (.ptr [ci c])), (5, .c (.ptr [ci n]))]) rfl rfl ⟨rfl, rfl, rfl, rfl, rfl, rfl, trivial⟩) ?_
  refine aw_region ?_
  refine run_s (ss_assign rfl) rfl ?_
  refine run_nil ?_
  refine aw_seq ?_
  refine aw_region ?_
  refine run_s (ss_load_ptr rfl rfl) rfl ?_
  refine run_s (ss_move rfl) rfl ?_
  obtain ⟨q1, h⟩ := h
  refine run_s (ss_mul rfl rfl q1) rfl ?_
  refine run_s (ss_load_ptr rfl rfl) rfl ?_
  refine run_s (ss_move rfl) rfl ?_
  obtain ⟨q2, h⟩ := h
  refine run_s (ss_mul rfl rfl q2) rfl ?_
  obtain ⟨q3, h⟩ := h
  refine run_s (ss_add rfl rfl q3) rfl ?_
  refine run_s (ss_load_ptr rfl rfl) rfl ?_
  obtain ⟨q4, h⟩ := h
  refine run_s (ss_add rfl rfl q4) rfl ?_
  refine run_s (ss_load_ptr rfl rfl) rfl ?_
  obtain ⟨q5, h⟩ := h
  refine run_s (ss_rem rfl rfl q5) rfl ?_
  refine run_s (ss_assign rfl) rfl ?_
  refine run_nil ?_
  refine aw_ret ?_
  exact retAF_mk (retv1 rfl (rv_tmp rfl)) rfl rfl ⟨_, (cle_refl _), _, h, rfl⟩

theorem c_impl_AffineCycleSet_1 (x : Int) (y : Int) (a : Int) (b : Int) (c : Int) (n : Int) (hp : 1 ≤ n ∧ n ≤ 12 ∧ 0 ≤ a ∧ a < n ∧ 0 ≤ b ∧ b < n ∧ 0 ≤ c ∧ c < n ∧ 0 ≤ x ∧ x < n ∧ 0 ≤ y ∧ y < n) : AF Try.prog 66 [ci x, ci y, .ptr [ci a], .ptr [ci b], .ptr [ci c], .ptr [ci n]] (fun R_ => R_ = ci ((a * x + b * y + c) % n)) :=
  (w_impl_AffineCycleSet_1 x y a b c n (fun y0 => y0 = (a * x + b * y + c) % n) (p_impl_AffineCycleSet_1 x y a b c n hp)).mono (by rintro r ⟨_, rfl, rfl⟩; rfl)

set_option maxRecDepth 100000 in
set_option maxHeartbeats 1000000 in
theorem w_spec_l05Affine (n : Int) (a : Int) (b : Int) (c : Int) (Q : List (List Int) → Prop) (h : wp_spec_l05Affine n a b c Q) : AF Try.prog 62 [ci n, ci a, ci b, ci c] (fun R_ => ∃ y0, Q y0 ∧ R_ = .agg [.own (orows y0)]) := by
  refine AF.ofWQ (af_enter (n := 46) Try.func62 rfl (by rfl) rfl (Nat.le_of_ble_eq_true rfl) ?_)
  unfold wp_spec_l05Affine at h
  refine aw_seq ?_
  refine aw_gh (gh_to (n := 46) (σ' := []) (env' := [(0, .c (ci n)), (1, .c (ci a)), (2, .c (ci b)), (3, .c (ci c))]) rfl rfl ⟨rfl, rfl, rfl, rfl, trivial⟩) ?_
  refine aw_region ?_
  refine run_w (ws_alloc (id := 8) rfl (Nat.le_of_ble_eq_true rfl) ⟨rfl, ?_⟩)
  refine run_nil ?_
  refine aw_seq ?_
  refine aw_region ?_
  refine run_s (ss_build0) rfl ?_
  refine run_w (ws_alloc (id := 9) rfl (Nat.le_of_ble_eq_true rfl) ⟨rfl, ?_⟩)
  refine run_w (ws_storeS rfl rfl (Nat.le_of_ble_eq_true rfl) rfl rfl rfl ⟨rfl, ?_⟩)
  refine run_nil ?_
  refine aw_seq ?_
  refine aw_seq ?_
  refine aw_region ?_
  refine run_s (ss_assign rfl) rfl ?_
  refine run_nil ?_
  refine aw_block ?_
  obtain ⟨H1, m1, q1, h⟩ := h
  refine aw_loop2 (fun (v10 : Int) (o769 : List (List Int)) => ⟨[(769, ⟨orows o769, []⟩), (9, ⟨[.hole], [(0, .ref 769)]⟩), (8, ⟨[cnil], []⟩)], [(0, .c (ci n)), (1, .c (ci a)), (2, .c (ci b)), (3, .c (ci c)), (8, .cell 8 0), (9, .cell 9 0), (10, .c (ci v10))], 46⟩) H1 m1 ⟨0, ([] : List (List Int)), ghe_step (gh_nilH (id0 := 9) (j := 0) (id := 769) rfl rfl rfl rfl) (ghe_to (n := 46) rfl rfl ⟨rfl, rfl, rfl, rfl, rfl, rfl, rfl, trivial⟩), q1⟩ ?_
  rintro v10 o769 q1
  replace h := h v10 o769 q1
  refine aw_seq ?_
  refine aw_seq ?_
  refine aw_region ?_
  refine run_s (ss_move rfl) rfl ?_
  refine run_s (ss_move rfl) rfl ?_
  refine run_s (ss_lss rfl rfl) rfl ?_
  refine run_nil ?_
  refine aw_cond rfl (fun q2 => ?_) (fun q2 => ?_)
  · replace h := h.1 (of_decide_eq_true q2)
    refine aw_skip ?_
    refine aw_seq ?_
    refine aw_block ?_
    refine aw_seq ?_
    refine aw_region ?_
    refine run_w (ws_buildSlice (id := 19) (ps := []) rfl rfl (Nat.le_of_ble_eq_true rfl) rfl ⟨rfl, ?_⟩)
    refine run_s (ss_assign rfl) rfl ?_
    refine run_nil ?_
    refine aw_seq ?_
    refine aw_seq ?_
    refine aw_gh (gh_to (n := 46) (σ' := [(19, ⟨ints ([] : List Int), []⟩), (769, ⟨orows o769, []⟩), (9, ⟨[.hole], [(0, .ref 769)]⟩), (8, ⟨[cnil], []⟩)]) (env' := [(0, .c (ci n)), (1, .c (ci a)), (2, .c (ci b)), (3, .c (ci c)), (8, .cell 8 0), (9, .cell 9 0), (10, .c (ci v10)), (11, .ref 19)]) rfl rfl ⟨rfl, rfl, rfl, rfl, rfl, rfl, rfl, rfl, trivial⟩) ?_
    refine aw_region ?_
    refine run_s (ss_assign rfl) rfl ?_
    refine run_nil ?_
    refine aw_block ?_
    obtain ⟨H2, m2, q3, h⟩ := h
    refine aw_loop2 (fun (v12 : Int) (o19 : List Int) => ⟨[(19, ⟨ints o19, []⟩), (769, ⟨orows o769, []⟩), (9, ⟨[.hole], [(0, .ref 769)]⟩), (8, ⟨[cnil], []⟩)], [(0, .c (ci n)), (1, .c (ci a)), (2, .c (ci b)), (3, .c (ci c)), (8, .cell 8 0), (9, .cell 9 0), (10, .c (ci v10)), (11, .ref 19), (12, .c (ci v12))], 46⟩) H2 m2 ⟨0, ([] : List Int), ghe_to (n := 46) rfl rfl ⟨rfl, rfl, rfl, rfl, rfl, rfl, rfl, rfl, rfl, trivial⟩, q3⟩ ?_
    rintro v12 o19 q3
    replace h := h v12 o19 q3
    refine aw_seq ?_
    refine aw_seq ?_
    refine aw_region ?_
    refine run_s (ss_move rfl) rfl ?_
    refine run_s (ss_move rfl) rfl ?_
    refine run_s (ss_lss rfl rfl) rfl ?_
    refine run_nil ?_
    refine aw_cond rfl (fun q4 => ?_) (fun q4 => ?_)
    · replace h := h.1 (of_decide_eq_true q4)
      refine aw_skip ?_
      refine aw_seq ?_
      refine aw_block ?_
      refine aw_region ?_
      refine run_s (ss_move rfl) rfl ?_
      refine run_s (ss_move rfl) rfl ?_
      refine run_s (ss_move rfl) rfl ?_
      obtain ⟨q5, h⟩ := h
      refine run_s (ss_mul rfl rfl q5) rfl ?_
      refine run_s (ss_move rfl) rfl ?_
      refine run_s (ss_move rfl) rfl ?_
      obtain ⟨q6, h⟩ := h
      refine run_s (ss_mul rfl rfl q6) rfl ?_
      obtain ⟨q7, h⟩ := h
      refine run_s (ss_add rfl rfl q7) rfl ?_
      refine run_s (ss_move rfl) rfl ?_
      obtain ⟨q8, h⟩ := h
      refine run_s (ss_add rfl rfl q8) rfl ?_
      refine run_s (ss_move rfl) rfl ?_
      obtain ⟨q9, h⟩ := h
      refine run_s (ss_rem rfl rfl q9) rfl ?_
      refine run_w (ws_buildSlice (id := 37) (ps := [(0, .tmp 36)]) rfl rfl (Nat.le_of_ble_eq_true rfl) rfl ⟨rfl, ?_⟩)
      obtain ⟨q10, h⟩ := h
      refine run_w (ws_app1 ci (l := o19) (m := [(((a * v10) + (b * v12)) + c) % n]) rfl rfl rfl rfl rfl (Nat.le_of_ble_eq_true rfl) q10 ⟨rfl, ?_⟩)
      refine run_s (ss_assign rfl) rfl ?_
      refine run_nil ?_
      refine aw_gh (gh_to (n := 46) (σ' := [(19, ⟨ints (o19 ++ ([(((a * v10) + (b * v12)) + c) % n])), []⟩), (769, ⟨orows o769, []⟩), (9, ⟨[.hole], [(0, .ref 769)]⟩), (8, ⟨[cnil], []⟩)]) (env' := [(0, .c (ci n)), (1, .c (ci a)), (2, .c (ci b)), (3, .c (ci c)), (8, .cell 8 0), (9, .cell 9 0), (10, .c (ci v10)), (11, .ref 19), (12, .c (ci v12))]) rfl rfl ⟨rfl, rfl, rfl, rfl, rfl, rfl, rfl, rfl, rfl, trivial⟩) ?_
      refine aw_region ?_
      refine run_s (ss_move rfl) rfl ?_
      obtain ⟨q11, h⟩ := h
      refine run_s (ss_add rfl rfl q11) rfl ?_
      refine run_s (ss_assign rfl) rfl ?_
      refine run_nil ?_
      exact ⟨v12 + 1, o19 ++ ([(((a * v10) + (b * v12)) + c) % n]), ghe_to (n := 46) rfl rfl ⟨rfl, rfl, rfl, rfl, rfl, rfl, rfl, rfl, rfl, trivial⟩, h.1, h.2⟩
    · replace h := h.2 (of_decide_eq_false q4)
      refine aw_exit ?_
      refine aw_region ?_
      refine run_s (ss_field_cell rfl) rfl ?_
      refine run_s (ss_loadH rfl rfl rfl rfl) rfl ?_
      refine run_s (ss_move rfl) rfl ?_
      refine run_w (ws_buildSlice (id := 42) (ps := [(0, .tmp 41)]) rfl rfl (Nat.le_of_ble_eq_true rfl) rfl ⟨rfl, ?_⟩)
      refine run_gh (gh_fill (id := 42) (id2 := 19) (j := 0) rfl rfl (Nat.le_of_ble_eq_true rfl) rfl rfl rfl) ?_
      obtain ⟨q12, h⟩ := h
      refine run_w (ws_app1 (fun r => C.own (ints r)) (l := o769) (m := [o19]) rfl rfl rfl rfl rfl (Nat.le_of_ble_eq_true rfl) q12 ⟨rfl, ?_⟩)
      refine run_s (ss_field_cell rfl) rfl ?_
      refine run_w (ws_store rfl rfl (Nat.le_of_ble_eq_true rfl) rfl rfl ⟨rfl, ?_⟩)
      refine run_nil ?_
      refine aw_gh (gh_to (n := 46) (σ' := [(769, ⟨orows (o769 ++ ([o19])), []⟩), (9, ⟨[.hole], [(0, .ref 769)]⟩), (8, ⟨[cnil], []⟩)]) (env' := [(0, .c (ci n)), (1, .c (ci a)), (2, .c (ci b)), (3, .c (ci c)), (8, .cell 8 0), (9, .cell 9 0), (10, .c (ci v10))]) rfl rfl ⟨rfl, rfl, rfl, rfl, rfl, rfl, rfl, trivial⟩) ?_
      refine aw_region ?_
      refine run_s (ss_move rfl) rfl ?_
      obtain ⟨q13, h⟩ := h
      refine run_s (ss_add rfl rfl q13) rfl ?_
      refine run_s (ss_assign rfl) rfl ?_
      refine run_nil ?_
      exact ⟨v10 + 1, o769 ++ ([o19]), ghe_to (n := 46) rfl rfl ⟨rfl, rfl, rfl, rfl, rfl, rfl, rfl, trivial⟩, h.1, h.2⟩
  · replace h := h.2 (of_decide_eq_false q2)
    refine aw_exit ?_
    refine aw_seq ?_
    refine aw_gh (gh_to (n := 46) (σ' := [(769, ⟨orows o769, []⟩), (9, ⟨[.hole], [(0, .ref 769)]⟩), (8, ⟨[cnil], []⟩)]) (env' := [(8, .cell 8 0), (9, .cell 9 0)]) rfl rfl ⟨rfl, rfl, trivial⟩) ?_
    refine aw_region ?_
    refine run_s (ss_loadS rfl rfl rfl rfl) rfl ?_
    refine run_w (ws_storeS rfl rfl (Nat.le_of_ble_eq_true rfl) rfl rfl rfl ⟨rfl, ?_⟩)
    refine run_nil ?_
    refine aw_ret ?_
    exact retAF_mk (retv1 rfl (rv_struct rfl rfl rfl)) rfl rfl ⟨_, (cle_refl _), _, h, rfl⟩

theorem c_spec_l05Affine (n : Int) (a : Int) (b : Int) (c : Int) (hp : 1 ≤ n ∧ n ≤ 12 ∧ 0 ≤ a ∧ a < n ∧ 0 ≤ b ∧ b < n ∧ 0 ≤ c ∧ c < n) : AF Try.prog 62 [ci n, ci a, ci b, ci c] (fun R_ => R_ = .agg [.own (orows (tab n (fun x_ y_ => (a * x_ + b * y_ + c) % n)))]) :=
  (w_spec_l05Affine n a b c (fun y0 => y0 = tab n (fun x_ y_ => (a * x_ + b * y_ + c) % n)) (p_spec_l05Affine n a b c hp)).mono (by rintro r ⟨_, rfl, rfl⟩; rfl)

set_option maxRecDepth 100000 in
set_option maxHeartbeats 1000000 in
theorem w_spec_AffineCycleSet (n : Int) (a : Int) (b : Int) (c : Int) (Q : List (List Int) → Int → Prop) (h : wp_spec_AffineCycleSet n a b c Q) : AF Try.prog 14 [ci n, ci a, ci b, ci c] (fun R_ => ∃ y0 y1, Q y0 y1 ∧ R_ = .tup [.agg [.own (orows y0)], ci y1]) := by
  refine AF.ofWQ (af_enter (n := 46) Try.func14 rfl (by rfl) rfl (Nat.le_of_ble_eq_true rfl) ?_)
  unfold wp_spec_AffineCycleSet at h
  refine aw_seq ?_
  refine aw_gh (gh_to (n := 46) (σ' := []) (env' := [(0, .c (ci n)), (1, .c (ci a)), (2, .c (ci b)), (3, .c (ci c))]) rfl rfl ⟨rfl, rfl, rfl, rfl, trivial⟩) ?_
  refine aw_region ?_
  refine run_w (ws_alloc (id := 8) rfl (Nat.le_of_ble_eq_true rfl) ⟨rfl, ?_⟩)
  refine run_s (ss_assign rfl) rfl ?_
  refine run_nil ?_
  refine aw_seq ?_
  refine aw_seq ?_
  refine aw_region ?_
  refine run_s (ss_move rfl) rfl ?_
  refine run_w (ws_call (xs := [.tmp 11, .const (.int .i64 (1)), .const (.int .i64 (12))]) (ids := []) rfl rfl rfl rfl (c_spec_l01In n 1 12) rfl ?_ )
  rintro _ rfl
  refine ⟨rfl, ?_⟩
  refine run_s (ss_not rfl) rfl ?_
  refine run_s (ss_move rfl) rfl ?_
  refine run_split (s := 14) rfl (fun q2 => ?_) (fun q2 => ?_)
  · replace h := h.1 ((bnot_t q2))
    refine run_gf rfl rfl q2 rfl ?_
    refine run_gf rfl rfl q2 rfl ?_
    refine run_gf rfl rfl q2 rfl ?_
    refine run_gf rfl rfl q2 rfl ?_
    refine run_gf rfl rfl q2 rfl ?_
    refine run_s (ss_pickT rfl q2 rfl) rfl ?_
    refine run_s (ss_move rfl) rfl ?_
    refine run_split (s := 21) rfl (fun q3 => ?_) (fun q3 => ?_)
    · skip
      refine run_gf rfl rfl q3 rfl ?_
      refine run_gf rfl rfl q3 rfl ?_
      refine run_gf rfl rfl q3 rfl ?_
      refine run_gf rfl rfl q3 rfl ?_
      refine run_gf rfl rfl q3 rfl ?_
      refine run_s (ss_pickT rfl q3 rfl) rfl ?_
      refine run_s (ss_move rfl) rfl ?_
      refine run_split (s := 28) rfl (fun q4 => ?_) (fun q4 => ?_)
      · skip
        refine run_gf rfl rfl q4 rfl ?_
        refine run_gf rfl rfl q4 rfl ?_
        refine run_gf rfl rfl q4 rfl ?_
        refine run_gf rfl rfl q4 rfl ?_
        refine run_gf rfl rfl q4 rfl ?_
        refine run_s (ss_pickT rfl q4 rfl) rfl ?_
        refine run_nil ?_
        refine aw_cond rfl (fun q5 => ?_) (fun q5 => ?_)
        · skip
          refine aw_seq ?_
          refine aw_gh (gh_to (n := 46) (σ' := [(8, ⟨[cnil], []⟩)]) (env' := [(8, .cell 8 0), (9, .c (ci 0))]) rfl rfl ⟨rfl, rfl, trivial⟩) ?_
          refine aw_region ?_
          refine run_s (ss_build0) rfl ?_
          refine run_w (ws_storeS rfl rfl (Nat.le_of_ble_eq_true rfl) rfl rfl rfl ⟨rfl, ?_⟩)
          refine run_s (ss_assign rfl) rfl ?_
          refine run_nil ?_
          refine aw_ret ?_
          exact retAF_mk (retv2 rfl (rv_struct rfl rfl rfl) (rv_tmp rfl)) rfl rfl ⟨_, (cle_tup (cleL_cons (cle_agg (cleL_cons cle_nilO cleL_nil)) (cleL_cons (cle_refl _) cleL_nil))), _, _, h, rfl⟩
        · cases q5
      · cases q4
    · cases q3
  · replace h := h.2 ((bnot_f q2))
    refine run_gt rfl rfl q2 ?_
    refine run_s (ss_move rfl) rfl ?_
    refine run_gt rfl rfl q2 ?_
    refine run_s (ss_move rfl) rfl ?_
    refine run_gt rfl rfl q2 ?_
    obtain ⟨q6, h⟩ := h
    refine run_s (ss_sub rfl rfl q6) rfl ?_
    refine run_gt rfl rfl q2 ?_
    refine run_w (ws_call (xs := [.tmp 15, .const (.int .i64 (0)), .tmp 17]) (ids := []) rfl rfl rfl rfl (c_spec_l01In a 0 (n - 1)) rfl ?_ )
    rintro _ rfl
    refine ⟨rfl, ?_⟩
    refine run_gt rfl rfl q2 ?_
    refine run_s (ss_not rfl) rfl ?_
    refine run_s (ss_pickF rfl q2 rfl) rfl ?_
    refine run_s (ss_move rfl) rfl ?_
    refine run_split (s := 21) rfl (fun q8 => ?_) (fun q8 => ?_)
    · replace h := h.1 ((bnot_t q8))
      refine run_gf rfl rfl q8 rfl ?_
      refine run_gf rfl rfl q8 rfl ?_
      refine run_gf rfl rfl q8 rfl ?_
      refine run_gf rfl rfl q8 rfl ?_
      refine run_gf rfl rfl q8 rfl ?_
      refine run_s (ss_pickT rfl q8 rfl) rfl ?_
      refine run_s (ss_move rfl) rfl ?_
      refine run_split (s := 28) rfl (fun q9 => ?_) (fun q9 => ?_)
      · skip
        refine run_gf rfl rfl q9 rfl ?_
        refine run_gf rfl rfl q9 rfl ?_
        refine run_gf rfl rfl q9 rfl ?_
        refine run_gf rfl rfl q9 rfl ?_
        refine run_gf rfl rfl q9 rfl ?_
        refine run_s (ss_pickT rfl q9 rfl) rfl ?_
        refine run_nil ?_
        refine aw_cond rfl (fun q10 => ?_) (fun q10 => ?_)
        · skip
          refine aw_seq ?_
          refine aw_gh (gh_to (n := 46) (σ' := [(8, ⟨[cnil], []⟩)]) (env' := [(8, .cell 8 0), (9, .c (ci 0))]) rfl rfl ⟨rfl, rfl, trivial⟩) ?_
          refine aw_region ?_
          refine run_s (ss_build0) rfl ?_
          refine run_w (ws_storeS rfl rfl (Nat.le_of_ble_eq_true rfl) rfl rfl rfl ⟨rfl, ?_⟩)
          refine run_s (ss_assign rfl) rfl ?_
          refine run_nil ?_
          refine aw_ret ?_
          exact retAF_mk (retv2 rfl (rv_struct rfl rfl rfl) (rv_tmp rfl)) rfl rfl ⟨_, (cle_tup (cleL_cons (cle_agg (cleL_cons cle_nilO cleL_nil)) (cleL_cons (cle_refl _) cleL_nil))), _, _, h, rfl⟩
        · cases q10
      · cases q9
    · replace h := h.2 ((bnot_f q8))
      refine run_gt rfl rfl q8 ?_
      refine run_s (ss_move rfl) rfl ?_
      refine run_gt rfl rfl q8 ?_
      refine run_s (ss_move rfl) rfl ?_
      refine run_gt rfl rfl q8 ?_
      obtain ⟨q11, h⟩ := h
      refine run_s (ss_sub rfl rfl q11) rfl ?_
      refine run_gt rfl rfl q8 ?_
      refine run_w (ws_call (xs := [.tmp 22, .const (.int .i64 (0)), .tmp 24]) (ids := []) rfl rfl rfl rfl (c_spec_l01In b 0 (n - 1)) rfl ?_ )
      rintro _ rfl
      refine ⟨rfl, ?_⟩
      refine run_gt rfl rfl q8 ?_
      refine run_s (ss_not rfl) rfl ?_
      refine run_s (ss_pickF rfl q8 rfl) rfl ?_
      refine run_s (ss_move rfl) rfl ?_
      refine run_split (s := 28) rfl (fun q13 => ?_) (fun q13 => ?_)
      · replace h := h.1 ((bnot_t q13))
        refine run_gf rfl rfl q13 rfl ?_
        refine run_gf rfl rfl q13 rfl ?_
        refine run_gf rfl rfl q13 rfl ?_
        refine run_gf rfl rfl q13 rfl ?_
        refine run_gf rfl rfl q13 rfl ?_
        refine run_s (ss_pickT rfl q13 rfl) rfl ?_
        refine run_nil ?_
        refine aw_cond rfl (fun q14 => ?_) (fun q14 => ?_)
        · skip
          refine aw_seq ?_
          refine aw_gh (gh_to (n := 46) (σ' := [(8, ⟨[cnil], []⟩)]) (env' := [(8, .cell 8 0), (9, .c (ci 0))]) rfl rfl ⟨rfl, rfl, trivial⟩) ?_
          refine aw_region ?_
          refine run_s (ss_build0) rfl ?_
          refine run_w (ws_storeS rfl rfl (Nat.le_of_ble_eq_true rfl) rfl rfl rfl ⟨rfl, ?_⟩)
          refine run_s (ss_assign rfl) rfl ?_
          refine run_nil ?_
          refine aw_ret ?_
          exact retAF_mk (retv2 rfl (rv_struct rfl rfl rfl) (rv_tmp rfl)) rfl rfl ⟨_, (cle_tup (cleL_cons (cle_agg (cleL_cons cle_nilO cleL_nil)) (cleL_cons (cle_refl _) cleL_nil))), _, _, h, rfl⟩
        · cases q14
      · replace h := h.2 ((bnot_f q13))
        refine run_gt rfl rfl q13 ?_
        refine run_s (ss_move rfl) rfl ?_
        refine run_gt rfl rfl q13 ?_
        refine run_s (ss_move rfl) rfl ?_
        refine run_gt rfl rfl q13 ?_
        obtain ⟨q15, h⟩ := h
        refine run_s (ss_sub rfl rfl q15) rfl ?_
        refine run_gt rfl rfl q13 ?_
        refine run_w (ws_call (xs := [.tmp 29, .const (.int .i64 (0)), .tmp 31]) (ids := []) rfl rfl rfl rfl (c_spec_l01In c 0 (n - 1)) rfl ?_ )
        rintro _ rfl
        refine ⟨rfl, ?_⟩
        refine run_gt rfl rfl q13 ?_
        refine run_s (ss_not rfl) rfl ?_
        refine run_s (ss_pickF rfl q13 rfl) rfl ?_
        refine run_nil ?_
        refine aw_cond rfl (fun q17 => ?_) (fun q17 => ?_)
        · replace h := h.1 ((bnot_t q17))
          refine aw_seq ?_
          refine aw_gh (gh_to (n := 46) (σ' := [(8, ⟨[cnil], []⟩)]) (env' := [(8, .cell 8 0), (9, .c (ci 0))]) rfl rfl ⟨rfl, rfl, trivial⟩) ?_
          refine aw_region ?_
          refine run_s (ss_build0) rfl ?_
          refine run_w (ws_storeS rfl rfl (Nat.le_of_ble_eq_true rfl) rfl rfl rfl ⟨rfl, ?_⟩)
          refine run_s (ss_assign rfl) rfl ?_
          refine run_nil ?_
          refine aw_ret ?_
          exact retAF_mk (retv2 rfl (rv_struct rfl rfl rfl) (rv_tmp rfl)) rfl rfl ⟨_, (cle_tup (cleL_cons (cle_agg (cleL_cons cle_nilO cleL_nil)) (cleL_cons (cle_refl _) cleL_nil))), _, _, h, rfl⟩
        · replace h := h.2 ((bnot_f q17))
          refine aw_skip ?_
          refine aw_seq ?_
          refine aw_gh (gh_to (n := 46) (σ' := [(8, ⟨[cnil], []⟩)]) (env' := [(0, .c (ci n)), (1, .c (ci a)), (2, .c (ci b)), (3, .c (ci c)), (8, .cell 8 0)]) rfl rfl ⟨rfl, rfl, rfl, rfl, rfl, trivial⟩) ?_
          refine aw_region ?_
          refine run_s (ss_move rfl) rfl ?_
          refine run_s (ss_move rfl) rfl ?_
          refine run_s (ss_move rfl) rfl ?_
          refine run_s (ss_move rfl) rfl ?_
          obtain ⟨q18, h⟩ := h
          refine run_w (ws_call (xs := [.tmp 36, .tmp 37, .tmp 38, .tmp 39]) (ids := [40]) rfl rfl rfl rfl (c_spec_l05Affine n a b c q18) rfl ?_ )
          rintro _ rfl
          refine ⟨rfl, ?_⟩
          refine run_w (ws_alloc (id := 10) rfl (Nat.le_of_ble_eq_true rfl) ⟨rfl, ?_⟩)
          refine run_w (ws_storeS rfl rfl (Nat.le_of_ble_eq_true rfl) rfl rfl rfl ⟨rfl, ?_⟩)
          refine run_nil ?_
          refine aw_seq ?_
          refine aw_seq ?_
          refine aw_gh (gh_to (n := 46) (σ' := [(10, ⟨[.hole], [(0, .ref 40)]⟩), (40, ⟨orows (tab n (fun x_ y_ => (a * x_ + b * y_ + c) % n)), []⟩), (8, ⟨[cnil], []⟩)]) (env' := [(8, .cell 8 0), (10, .cell 10 0)]) rfl rfl ⟨rfl, rfl, trivial⟩) ?_
          refine aw_region ?_
          refine run_s (ss_loadS rfl rfl rfl rfl) rfl ?_
          obtain ⟨q20, h⟩ := h
          refine run_w (ws_callR (xs := [.tmp 41]) (cs := [.agg [.own (orows (tab n (fun x_ y_ => (a * x_ + b * y_ + c) % n)))]]) (ids := []) rfl (.inr ⟨rfl, rfl⟩) rfl rfl (fz_cons (fz_agg (fz_cons (fz_own (fz_map (fun _ => (fz_own (fz_map (fun _ => rfl) _))) _)) fz_nil)) fz_nil) (c_spec_l05Is (tab n (fun x_ y_ => (a * x_ + b * y_ + c) % n)) q20) rfl ?_ )
          rintro _ rfl
          refine ⟨rfl, rfl, ?_⟩
          refine run_s (ss_not rfl) rfl ?_
          refine run_nil ?_
          refine aw_cond rfl (fun q22 => ?_) (fun q22 => ?_)
          · replace h := h.1 ((bnot_t q22))
            refine aw_seq ?_
            refine aw_region ?_
            refine run_s (ss_build0) rfl ?_
            refine run_w (ws_storeS rfl rfl (Nat.le_of_ble_eq_true rfl) rfl rfl rfl ⟨rfl, ?_⟩)
            refine run_s (ss_assign rfl) rfl ?_
            refine run_nil ?_
            refine aw_ret ?_
            exact retAF_mk (retv2 rfl (rv_struct rfl rfl rfl) (rv_tmp rfl)) rfl rfl ⟨_, (cle_tup (cleL_cons (cle_agg (cleL_cons cle_nilO cleL_nil)) (cleL_cons (cle_refl _) cleL_nil))), _, _, h, rfl⟩
          · replace h := h.2 ((bnot_f q22))
            refine aw_skip ?_
            refine aw_seq ?_
            refine aw_region ?_
            refine run_s (ss_loadS rfl rfl rfl rfl) rfl ?_
            refine run_w (ws_storeS rfl rfl (Nat.le_of_ble_eq_true rfl) rfl rfl rfl ⟨rfl, ?_⟩)
            refine run_s (ss_assign rfl) rfl ?_
            refine run_nil ?_
            refine aw_ret ?_
            exact retAF_mk (retv2 rfl (rv_struct rfl rfl rfl) (rv_tmp rfl)) rfl rfl ⟨_, (cle_refl _), _, _, h, rfl⟩

theorem c_spec_AffineCycleSet (n : Int) (a : Int) (b : Int) (c : Int) (hp : InI n ∧ InI a ∧ InI b ∧ InI c) : AF Try.prog 14 [ci n, ci a, ci b, ci c] (fun R_ => R_ = .tup [.agg [.own (orows (AffT n a b c))], ci (AffE n a b c)]) :=
  (w_spec_AffineCycleSet n a b c (fun y0 y1 => y0 = AffT n a b c ∧ y1 = AffE n a b c) (p_spec_AffineCycleSet n a b c hp)).mono (by rintro r ⟨_, _, ⟨rfl, rfl⟩, rfl⟩; rfl)

set_option maxRecDepth 100000 in
set_option maxHeartbeats 1000000 in
theorem w_impl_AffineCycleSet (n : Int) (a : Int) (b : Int) (c : Int) (Q : List (List Int) → Int → Prop) (h : wp_impl_AffineCycleSet n a b c Q) : AF Try.prog 15 [ci n, ci a, ci b, ci c] (fun R_ => ∃ y0 y1, Q y0 y1 ∧ R_ = .tup [.agg [.own (orows y0)], ci y1]) := by
  refine AF.ofWQ (af_enter (n := 45) Try.func15 rfl (by rfl) rfl (Nat.le_of_ble_eq_true rfl) ?_)
  unfold wp_impl_AffineCycleSet at h
  refine aw_seq ?_
  refine aw_gh (gh_to (n := 45) (σ' := []) (env' := [(0, .c (ci n)), (1, .c (ci a)), (2, .c (ci b)), (3, .c (ci c))]) rfl rfl ⟨rfl, rfl, rfl, rfl, trivial⟩) ?_
  refine aw_region ?_
  refine run_w (ws_boxR rfl (.inr rfl) rfl ⟨rfl, ?_⟩)
  refine run_w (ws_boxR rfl (.inr rfl) rfl ⟨rfl, ?_⟩)
  refine run_w (ws_boxR rfl (.inr rfl) rfl ⟨rfl, ?_⟩)
  refine run_w (ws_boxR rfl (.inr rfl) rfl ⟨rfl, ?_⟩)
  refine run_w (ws_alloc (id := 8) rfl (Nat.le_of_ble_eq_true rfl) ⟨rfl, ?_⟩)
  refine run_s (ss_assign rfl) rfl ?_
  refine run_nil ?_
  refine aw_seq ?_
  refine aw_seq ?_
  refine aw_region ?_
  refine run_s (ss_load_ptr rfl rfl) rfl ?_
  refine run_w (ws_call (xs := [.tmp 11, .const (.int .i64 (1)), .const (.int .i64 (12))]) (ids := []) rfl rfl rfl rfl (c_impl_within n 1 12) rfl ?_ )
  rintro _ rfl
  refine ⟨rfl, ?_⟩
  refine run_s (ss_not rfl) rfl ?_
  refine run_s (ss_move rfl) rfl ?_
  refine run_split (s := 14) rfl (fun q2 => ?_) (fun q2 => ?_)
  · replace h := h.1 ((bnot_t q2))
    refine run_gf rfl rfl q2 rfl ?_
    refine run_gf rfl rfl q2 rfl ?_
    refine run_gf rfl rfl q2 rfl ?_
    refine run_gf rfl rfl q2 rfl ?_
    refine run_gf rfl rfl q2 rfl ?_
    refine run_s (ss_pickT rfl q2 rfl) rfl ?_
    refine run_s (ss_move rfl) rfl ?_
    refine run_split (s := 21) rfl (fun q3 => ?_) (fun q3 => ?_)
    · skip
      refine run_gf rfl rfl q3 rfl ?_
      refine run_gf rfl rfl q3 rfl ?_
      refine run_gf rfl rfl q3 rfl ?_
      refine run_gf rfl rfl q3 rfl ?_
      refine run_gf rfl rfl q3 rfl ?_
      refine run_s (ss_pickT rfl q3 rfl) rfl ?_
      refine run_s (ss_move rfl) rfl ?_
      refine run_split (s := 28) rfl (fun q4 => ?_) (fun q4 => ?_)
      · skip
        refine run_gf rfl rfl q4 rfl ?_
        refine run_gf rfl rfl q4 rfl ?_
        refine run_gf rfl rfl q4 rfl ?_
        refine run_gf rfl rfl q4 rfl ?_
        refine run_gf rfl rfl q4 rfl ?_
        refine run_s (ss_pickT rfl q4 rfl) rfl ?_
        refine run_nil ?_
        refine aw_cond rfl (fun q5 => ?_) (fun q5 => ?_)
        · skip
          refine aw_seq ?_
          refine aw_gh (gh_to (n := 45) (σ' := [(8, ⟨[cnil], []⟩)]) (env' := [(8, .cell 8 0), (9, .c (ci 0))]) rfl rfl ⟨rfl, rfl, trivial⟩) ?_
          refine aw_region ?_
          refine run_s (ss_build0) rfl ?_
          refine run_w (ws_storeS rfl rfl (Nat.le_of_ble_eq_true rfl) rfl rfl rfl ⟨rfl, ?_⟩)
          refine run_s (ss_assign rfl) rfl ?_
          refine run_nil ?_
          refine aw_ret ?_
          exact retAF_mk (retv2 rfl (rv_struct rfl rfl rfl) (rv_tmp rfl)) rfl rfl ⟨_, (cle_tup (cleL_cons (cle_agg (cleL_cons cle_nilO cleL_nil)) (cleL_cons (cle_refl _) cleL_nil))), _, _, h, rfl⟩
        · cases q5
      · cases q4
    · cases q3
  · replace h := h.2 ((bnot_f q2))
    refine run_gt rfl rfl q2 ?_
    refine run_s (ss_load_ptr rfl rfl) rfl ?_
    refine run_gt rfl rfl q2 ?_
    refine run_s (ss_load_ptr rfl rfl) rfl ?_
    refine run_gt rfl rfl q2 ?_
    obtain ⟨q6, h⟩ := h
    refine run_s (ss_sub rfl rfl q6) rfl ?_
    refine run_gt rfl rfl q2 ?_
    refine run_w (ws_call (xs := [.tmp 15, .const (.int .i64 (0)), .tmp 17]) (ids := []) rfl rfl rfl rfl (c_impl_within a 0 (n - 1)) rfl ?_ )
    rintro _ rfl
    refine ⟨rfl, ?_⟩
    refine run_gt rfl rfl q2 ?_
    refine run_s (ss_not rfl) rfl ?_
    refine run_s (ss_pickF rfl q2 rfl) rfl ?_
    refine run_s (ss_move rfl) rfl ?_
    refine run_split (s := 21) rfl (fun q8 => ?_) (fun q8 => ?_)
    · replace h := h.1 ((bnot_t q8))
      refine run_gf rfl rfl q8 rfl ?_
      refine run_gf rfl rfl q8 rfl ?_
      refine run_gf rfl rfl q8 rfl ?_
      refine run_gf rfl rfl q8 rfl ?_
      refine run_gf rfl rfl q8 rfl ?_
      refine run_s (ss_pickT rfl q8 rfl) rfl ?_
      refine run_s (ss_move rfl) rfl ?_
      refine run_split (s := 28) rfl (fun q9 => ?_) (fun q9 => ?_)
      · skip
        refine run_gf rfl rfl q9 rfl ?_
        refine run_gf rfl rfl q9 rfl ?_
        refine run_gf rfl rfl q9 rfl ?_
        refine run_gf rfl rfl q9 rfl ?_
        refine run_gf rfl rfl q9 rfl ?_
        refine run_s (ss_pickT rfl q9 rfl) rfl ?_
        refine run_nil ?_
        refine aw_cond rfl (fun q10 => ?_) (fun q10 => ?_)
        · skip
          refine aw_seq ?_
          refine aw_gh (gh_to (n := 45) (σ' := [(8, ⟨[cnil], []⟩)]) (env' := [(8, .cell 8 0), (9, .c (ci 0))]) rfl rfl ⟨rfl, rfl, trivial⟩) ?_
          refine aw_region ?_
          refine run_s (ss_build0) rfl ?_
          refine run_w (ws_storeS rfl rfl (Nat.le_of_ble_eq_true rfl) rfl rfl rfl ⟨rfl, ?_⟩)
          refine run_s (ss_assign rfl) rfl ?_
          refine run_nil ?_
          refine aw_ret ?_
          exact retAF_mk (retv2 rfl (rv_struct rfl rfl rfl) (rv_tmp rfl)) rfl rfl ⟨_, (cle_tup (cleL_cons (cle_agg (cleL_cons cle_nilO cleL_nil)) (cleL_cons (cle_refl _) cleL_nil))), _, _, h, rfl⟩
        · cases q10
      · cases q9
    · replace h := h.2 ((bnot_f q8))
      refine run_gt rfl rfl q8 ?_
      refine run_s (ss_load_ptr rfl rfl) rfl ?_
      refine run_gt rfl rfl q8 ?_
      refine run_s (ss_load_ptr rfl rfl) rfl ?_
      refine run_gt rfl rfl q8 ?_
      obtain ⟨q11, h⟩ := h
      refine run_s (ss_sub rfl rfl q11) rfl ?_
      refine run_gt rfl rfl q8 ?_
      refine run_w (ws_call (xs := [.tmp 22, .const (.int .i64 (0)), .tmp 24]) (ids := []) rfl rfl rfl rfl (c_impl_within b 0 (n - 1)) rfl ?_ )
      rintro _ rfl
      refine ⟨rfl, ?_⟩
      refine run_gt rfl rfl q8 ?_
      refine run_s (ss_not rfl) rfl ?_
      refine run_s (ss_pickF rfl q8 rfl) rfl ?_
      refine run_s (ss_move rfl) rfl ?_
      refine run_split (s := 28) rfl (fun q13 => ?_) (fun q13 => ?_)
      · replace h := h.1 ((bnot_t q13))
        refine run_gf rfl rfl q13 rfl ?_
        refine run_gf rfl rfl q13 rfl ?_
        refine run_gf rfl rfl q13 rfl ?_
        refine run_gf rfl rfl q13 rfl ?_
        refine run_gf rfl rfl q13 rfl ?_
        refine run_s (ss_pickT rfl q13 rfl) rfl ?_
        refine run_nil ?_
        refine aw_cond rfl (fun q14 => ?_) (fun q14 => ?_)
        · skip
          refine aw_seq ?_
          refine aw_gh (gh_to (n := 45) (σ' := [(8, ⟨[cnil], []⟩)]) (env' := [(8, .cell 8 0), (9, .c (ci 0))]) rfl rfl ⟨rfl, rfl, trivial⟩) ?_
          refine aw_region ?_
          refine run_s (ss_build0) rfl ?_
          refine run_w (ws_storeS rfl rfl (Nat.le_of_ble_eq_true rfl) rfl rfl rfl ⟨rfl, ?_⟩)
          refine run_s (ss_assign rfl) rfl ?_
          refine run_nil ?_
          refine aw_ret ?_
          exact retAF_mk (retv2 rfl (rv_struct rfl rfl rfl) (rv_tmp rfl)) rfl rfl ⟨_, (cle_tup (cleL_cons (cle_agg (cleL_cons cle_nilO cleL_nil)) (cleL_cons (cle_refl _) cleL_nil))), _, _, h, rfl⟩
        · cases q14
      · replace h := h.2 ((bnot_f q13))
        refine run_gt rfl rfl q13 ?_
        refine run_s (ss_load_ptr rfl rfl) rfl ?_
        refine run_gt rfl rfl q13 ?_
        refine run_s (ss_load_ptr rfl rfl) rfl ?_
        refine run_gt rfl rfl q13 ?_
        obtain ⟨q15, h⟩ := h
        refine run_s (ss_sub rfl rfl q15) rfl ?_
        refine run_gt rfl rfl q13 ?_
        refine run_w (ws_call (xs := [.tmp 29, .const (.int .i64 (0)), .tmp 31]) (ids := []) rfl rfl rfl rfl (c_impl_within c 0 (n - 1)) rfl ?_ )
        rintro _ rfl
        refine ⟨rfl, ?_⟩
        refine run_gt rfl rfl q13 ?_
        refine run_s (ss_not rfl) rfl ?_
        refine run_s (ss_pickF rfl q13 rfl) rfl ?_
        refine run_nil ?_
        refine aw_cond rfl (fun q17 => ?_) (fun q17 => ?_)
        · replace h := h.1 ((bnot_t q17))
          refine aw_seq ?_
          refine aw_gh (gh_to (n := 45) (σ' := [(8, ⟨[cnil], []⟩)]) (env' := [(8, .cell 8 0), (9, .c (ci 0))]) rfl rfl ⟨rfl, rfl, trivial⟩) ?_
          refine aw_region ?_
          refine run_s (ss_build0) rfl ?_
          refine run_w (ws_storeS rfl rfl (Nat.le_of_ble_eq_true rfl) rfl rfl rfl ⟨rfl, ?_⟩)
          refine run_s (ss_assign rfl) rfl ?_
          refine run_nil ?_
          refine aw_ret ?_
          exact retAF_mk (retv2 rfl (rv_struct rfl rfl rfl) (rv_tmp rfl)) rfl rfl ⟨_, (cle_tup (cleL_cons (cle_agg (cleL_cons cle_nilO cleL_nil)) (cleL_cons (cle_refl _) cleL_nil))), _, _, h, rfl⟩
        · replace h := h.2 ((bnot_f q17))
          refine aw_skip ?_
          refine aw_seq ?_
          refine aw_gh (gh_to (n := 45) (σ' := [(8, ⟨[cnil], []⟩)]) (env' := [(4, .c (.ptr [ci n])), (5, .c (.ptr [ci a])), (6, .c (.ptr [ci b])), (7, .c (.ptr [ci c])), (8, .cell 8 0)]) rfl rfl ⟨rfl, rfl, rfl, rfl, rfl, trivial⟩) ?_
          refine aw_region ?_
          refine run_s (ss_load_ptr rfl rfl) rfl ?_
          refine run_s (ss_makeFunc (os := [.tmp 5, .tmp 6, .tmp 7, .tmp 4]) rfl) rfl ?_
          obtain ⟨q18, h⟩ := h
          refine run_w (ws_call (xs := [.tmp 36, .tmp 37]) (ids := [38]) rfl rfl rfl rfl (c_impl_tableBy n 66 [.ptr [ci a], .ptr [ci b], .ptr [ci c], .ptr [ci n]] (fun z0 z1 => (a * z0 + b * z1 + c) % n) (fun z0 z1 => 1 ≤ n ∧ n ≤ 12 ∧ 0 ≤ a ∧ a < n ∧ 0 ≤ b ∧ b < n ∧ 0 ≤ c ∧ c < n ∧ 0 ≤ z0 ∧ z0 < n ∧ 0 ≤ z1 ∧ z1 < n) (fun z0 z1 hD => c_impl_AffineCycleSet_1 z0 z1 a b c n hD) q18) rfl ?_ )
          rintro _ rfl
          refine ⟨rfl, ?_⟩
          refine run_s (ss_build (ps := [(0, .tmp 38)]) rfl rfl) rfl ?_
          refine run_w (ws_alloc (id := 10) rfl (Nat.le_of_ble_eq_true rfl) ⟨rfl, ?_⟩)
          refine run_w (ws_storeS rfl rfl (Nat.le_of_ble_eq_true rfl) rfl rfl rfl ⟨rfl, ?_⟩)
          refine run_nil ?_
          refine aw_seq ?_
          refine aw_seq ?_
          refine aw_gh (gh_to (n := 45) (σ' := [(10, ⟨[.hole], [(0, .ref 38)]⟩), (38, ⟨orows (tab n (fun z0 z1 => (a * z0 + b * z1 + c) % n)), []⟩), (8, ⟨[cnil], []⟩)]) (env' := [(8, .cell 8 0), (10, .cell 10 0)]) rfl rfl ⟨rfl, rfl, trivial⟩) ?_
          refine aw_region ?_
          refine run_s (ss_loadS rfl rfl rfl rfl) rfl ?_
          obtain ⟨q20, h⟩ := h
          refine run_w (ws_callR (xs := [.tmp 40]) (cs := [.agg [.own (orows (tab n (fun z0 z1 => (a * z0 + b * z1 + c) % n)))]]) (ids := []) rfl (.inr ⟨rfl, rfl⟩) rfl rfl (fz_cons (fz_agg (fz_cons (fz_own (fz_map (fun _ => (fz_own (fz_map (fun _ => rfl) _))) _)) fz_nil)) fz_nil) (c_impl_IsCycleSet (tab n (fun z0 z1 => (a * z0 + b * z1 + c) % n)) q20) rfl ?_ )
          rintro _ rfl
          refine ⟨rfl, rfl, ?_⟩
          refine run_s (ss_not rfl) rfl ?_
          refine run_nil ?_
          refine aw_cond rfl (fun q22 => ?_) (fun q22 => ?_)
          · replace h := h.1 ((bnot_t q22))
            refine aw_seq ?_
            refine aw_region ?_
            refine run_s (ss_build0) rfl ?_
            refine run_w (ws_storeS rfl rfl (Nat.le_of_ble_eq_true rfl) rfl rfl rfl ⟨rfl, ?_⟩)
            refine run_s (ss_assign rfl) rfl ?_
            refine run_nil ?_
            refine aw_ret ?_
            exact retAF_mk (retv2 rfl (rv_struct rfl rfl rfl) (rv_tmp rfl)) rfl rfl ⟨_, (cle_tup (cleL_cons (cle_agg (cleL_cons cle_nilO cleL_nil)) (cleL_cons (cle_refl _) cleL_nil))), _, _, h, rfl⟩
          · replace h := h.2 ((bnot_f q22))
            refine aw_skip ?_
            refine aw_seq ?_
            refine aw_region ?_
            refine run_s (ss_loadS rfl rfl rfl rfl) rfl ?_
            refine run_w (ws_storeS rfl rfl (Nat.le_of_ble_eq_true rfl) rfl rfl rfl ⟨rfl, ?_⟩)
            refine run_s (ss_assign rfl) rfl ?_
            refine run_nil ?_
            refine aw_ret ?_
            exact retAF_mk (retv2 rfl (rv_struct rfl rfl rfl) (rv_tmp rfl)) rfl rfl ⟨_, (cle_refl _), _, _, h, rfl⟩

theorem c_impl_AffineCycleSet (n : Int) (a : Int) (b : Int) (c : Int) (hp : InI n ∧ InI a ∧ InI b ∧ InI c) : AF Try.prog 15 [ci n, ci a, ci b, ci c] (fun R_ => R_ = .tup [.agg [.own (orows (AffT n a b c))], ci (AffE n a b c)]) :=
  (w_impl_AffineCycleSet n a b c (fun y0 y1 => y0 = AffT n a b c ∧ y1 = AffE n a b c) (p_impl_AffineCycleSet n a b c hp)).mono (by rintro r ⟨_, _, ⟨rfl, rfl⟩, rfl⟩; rfl)

end Go.Proofs.Ytmofdccagnbccab
