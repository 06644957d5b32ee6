/- Contracts of functions that the law FnAffineCycles reaches: conditions, plain proofs, walks; no condition. -/
import Derived.Test.YtjolbldlhjfciaaDoorKAffineCyclesa
import Derived.Test.YtjolbldlhjfciaaDoorPP
namespace Go.Proofs.YtjolbldlhjfciaaDoor

def wp_spec_l01Rows (t : List (List Int)) (Q : Bool → Prop) : Prop :=
 ∃ (H1 : Int → Prop) (m1 : Int → Nat),
 H1 0 ∧
 ∀ (v3_1 : Int), H1 v3_1 →
 ( ((v3_1 < (t.length : Int) →
 (0 ≤ v3_1 ∧ v3_1 < (t.length : Int)) ∧
 (small (el t v3_1)) ∧
 (((permB (el t v3_1)) = false →
 Q false) ∧
 ((permB (el t v3_1)) = true →
 (InI (v3_1 + 1)) ∧
 (H1 (v3_1 + 1) ∧ m1 (v3_1 + 1) < m1 v3_1)))) ∧
 (¬ (v3_1 < (t.length : Int)) →
 Q true)))

def wp_impl_permutationRows_1 (row : List Int) (Q : Bool → Prop) : Prop :=
 (small row) ∧
 Q (!((isPerm row)))

def wp_impl_permutationRows (t : List (List Int)) (Q : Bool → Prop) : Prop :=
 (small t ∧ ∀ r_ ∈ t, (fun z0 => small z0) r_) ∧
 Q (!((t.any (fun z0 => !isPerm z0))))

def wp_impl_IsCycleSet (c : List (List Int)) (Q : Bool → Prop) : Prop :=
 (small2 c) ∧
 (((isTab c) = true →
 (small2 c) ∧
 (((c.all isPerm) = true →
 (isTab c = true) ∧
 (small (diag c)) ∧
 (((isPerm (diag c)) = true →
 (((cycF c) = [] →
 (isTab c = true) ∧
 Q true) ∧
 (¬ (cycF c) = [] →
 (isTab c = true) ∧
 Q false))) ∧
 ((isPerm (diag c)) = false →
 Q false))) ∧
 ((c.all isPerm) = false →
 Q false))) ∧
 ((isTab c) = false →
 Q false))

def wp_spec_l05Is (c : List (List Int)) (Q : Bool → Prop) : Prop :=
 (small2 c) ∧
 (((isTab c) = true →
 (small2 c) ∧
 (((c.all permB) = true →
 (isTab c = true) ∧
 (small (diag c)) ∧
 (((permB (diag c)) = true →
 (isTab c = true) ∧
 Q (decide (((cycF c).length : Int) = 0))) ∧
 ((permB (diag c)) = false →
 Q false))) ∧
 ((c.all permB) = false →
 Q false))) ∧
 ((isTab c) = false →
 Q false))

def wp_impl_AffineCycleSet_1 (x : Int) (y : Int) (a : Int) (b : Int) (c : Int) (n : Int) (Q : Int → Prop) : Prop :=
 (InI (a * x)) ∧
 (InI (b * y)) ∧
 (InI ((a * x) + (b * y))) ∧
 (InI (((a * x) + (b * y)) + c)) ∧
 ((0 : Int) ≤ ((a * x) + (b * y)) + c ∧ (0 : Int) < n) ∧
 Q ((((a * x) + (b * y)) + c) % n)

def wp_spec_l05Affine (n : Int) (a : Int) (b : Int) (c : Int) (Q : List (List Int) → Prop) : Prop :=
 ∃ (H1 : Int → List (List Int) → Prop) (m1 : Int → List (List Int) → Nat),
 H1 0 ([] : List (List Int)) ∧
 ∀ (v10_1 : Int) (o200144_1 : List (List Int)), H1 v10_1 o200144_1 →
 ( ((v10_1 < n →
 ∃ (H2 : Int → List Int → Prop) (m2 : Int → List Int → Nat),
 H2 0 ([] : List Int) ∧
 ∀ (v12_2 : Int) (o19_2 : List Int), H2 v12_2 o19_2 →
 ( ((v12_2 < n →
 (InI (a * v10_1)) ∧
 (InI (b * v12_2)) ∧
 (InI ((a * v10_1) + (b * v12_2))) ∧
 (InI (((a * v10_1) + (b * v12_2)) + c)) ∧
 ((0 : Int) ≤ ((a * v10_1) + (b * v12_2)) + c ∧ (0 : Int) < n) ∧
 ((o19_2.length : Int) + (([(((a * v10_1) + (b * v12_2)) + c) % n]).length : Int) ≤ 1000000000) ∧
 (InI (v12_2 + 1)) ∧
 (H2 (v12_2 + 1) (o19_2 ++ ([(((a * v10_1) + (b * v12_2)) + c) % n])) ∧ m2 (v12_2 + 1) (o19_2 ++ ([(((a * v10_1) + (b * v12_2)) + c) % n])) < m2 v12_2 o19_2)) ∧
 (¬ (v12_2 < n) →
 ((o200144_1.length : Int) + (([o19_2]).length : Int) ≤ 1000000000) ∧
 (InI (v10_1 + 1)) ∧
 (H1 (v10_1 + 1) (o200144_1 ++ ([o19_2])) ∧ m1 (v10_1 + 1) (o200144_1 ++ ([o19_2])) < m1 v10_1 o200144_1))))) ∧
 (¬ (v10_1 < n) →
 Q o200144_1)))

def wp_spec_AffineCycleSet (n : Int) (a : Int) (b : Int) (c : Int) (Q : List (List Int) → Int → Prop) : Prop :=
 (((decide ((1 : Int) ≤ n) && decide (n ≤ (12 : Int))) = false →
 Q ([]) 2) ∧
 ((decide ((1 : Int) ≤ n) && decide (n ≤ (12 : Int))) = true →
 (InI (n - 1)) ∧
 (((decide ((0 : Int) ≤ a) && decide (a ≤ (n - 1))) = false →
 Q ([]) 2) ∧
 ((decide ((0 : Int) ≤ a) && decide (a ≤ (n - 1))) = true →
 (InI (n - 1)) ∧
 (((decide ((0 : Int) ≤ b) && decide (b ≤ (n - 1))) = false →
 Q ([]) 2) ∧
 ((decide ((0 : Int) ≤ b) && decide (b ≤ (n - 1))) = true →
 (InI (n - 1)) ∧
 (((decide ((0 : Int) ≤ c) && decide (c ≤ (n - 1))) = false →
 Q ([]) 2) ∧
 ((decide ((0 : Int) ≤ c) && decide (c ≤ (n - 1))) = true →
 (1 ≤ n ∧ n ≤ 12 ∧ 0 ≤ a ∧ a < n ∧ 0 ≤ b ∧ b < n ∧ 0 ≤ c ∧ c < n) ∧
 (small2 (tab n (fun x_ y_ => (a * x_ + b * y_ + c) % n))) ∧
 (((isCyc (tab n (fun x_ y_ => (a * x_ + b * y_ + c) % n))) = false →
 Q ([]) 5) ∧
 ((isCyc (tab n (fun x_ y_ => (a * x_ + b * y_ + c) % n))) = true →
 Q (tab n (fun x_ y_ => (a * x_ + b * y_ + c) % n)) 0))))))))))

def wp_impl_AffineCycleSet (n : Int) (a : Int) (b : Int) (c : Int) (Q : List (List Int) → Int → Prop) : Prop :=
 (((decide ((1 : Int) ≤ n) && decide (n ≤ (12 : Int))) = false →
 Q ([]) 2) ∧
 ((decide ((1 : Int) ≤ n) && decide (n ≤ (12 : Int))) = true →
 (InI (n - 1)) ∧
 (((decide ((0 : Int) ≤ a) && decide (a ≤ (n - 1))) = false →
 Q ([]) 2) ∧
 ((decide ((0 : Int) ≤ a) && decide (a ≤ (n - 1))) = true →
 (InI (n - 1)) ∧
 (((decide ((0 : Int) ≤ b) && decide (b ≤ (n - 1))) = false →
 Q ([]) 2) ∧
 ((decide ((0 : Int) ≤ b) && decide (b ≤ (n - 1))) = true →
 (InI (n - 1)) ∧
 (((decide ((0 : Int) ≤ c) && decide (c ≤ (n - 1))) = false →
 Q ([]) 2) ∧
 ((decide ((0 : Int) ≤ c) && decide (c ≤ (n - 1))) = true →
 (0 ≤ n ∧ n ≤ 1000000 ∧ ∀ x_ y_, 0 ≤ x_ → x_ < n → 0 ≤ y_ → y_ < n → (fun z0 z1 => 1 ≤ n ∧ n ≤ 12 ∧ 0 ≤ a ∧ a < n ∧ 0 ≤ b ∧ b < n ∧ 0 ≤ c ∧ c < n ∧ 0 ≤ z0 ∧ z0 < n ∧ 0 ≤ z1 ∧ z1 < n) x_ y_) ∧
 (small2 (tab n (fun z0 z1 => (a * z0 + b * z1 + c) % n))) ∧
 (((isCyc (tab n (fun z0 z1 => (a * z0 + b * z1 + c) % n))) = false →
 Q ([]) 5) ∧
 ((isCyc (tab n (fun z0 z1 => (a * z0 + b * z1 + c) % n))) = true →
 Q (tab n (fun z0 z1 => (a * z0 + b * z1 + c) % n)) 0))))))))))

theorem p_spec_l01Rows (t : List (List Int)) (hp : small2 t) : wp_spec_l01Rows t (fun y0 => y0 = t.all permB) := by
  unfold wp_spec_l01Rows
  obtain ⟨h1, h2⟩ := hp
  refine ⟨fun i => 0 ≤ i ∧ i ≤ (t.length : Int) ∧ Upto i fun j => permB (el t j) = true, fun i => ((t.length : Int) - i).toNat, ⟨by omega, by omega, upto0⟩, ?_⟩
  rintro i ⟨h0, h3, hI⟩
  dsimp only
  refine ⟨fun hlt => ⟨⟨h0, hlt⟩, h2 _ (el_mem ⟨h0, hlt⟩), fun hf => (all_f ⟨h0, hlt⟩ hf).symm, fun ht => ⟨⟨by omega, by omega⟩, ⟨by omega, by omega, upto1 hI ht⟩, by omega⟩⟩, fun hge => ?_⟩
  exact (all_t (by rwa [show i = (t.length : Int) by omega] at hI)).symm
theorem p_impl_permutationRows_1 (row : List Int) (hp : small row) : wp_impl_permutationRows_1 row (fun y0 => y0 = !isPerm row) := ⟨hp, rfl⟩
theorem p_impl_permutationRows (t : List (List Int)) (hp : small2 t) : wp_impl_permutationRows t (fun y0 => y0 = t.all isPerm) := by
  refine ⟨⟨hp.1, hp.2⟩, ?_⟩
  rw [List.not_any_eq_all_not]; simp
theorem isEmpty_iff_nil {l : List Int} : l.isEmpty = decide ((l.length : Int) = 0) := by cases l <;> simp; omega
theorem small_diag {c : List (List Int)} (h : isTab c = true) : small (diag c) := by have := isTab_len h; show ((diag c).length : Int) ≤ 1000000000; simp; omega
theorem p_impl_IsCycleSet (c : List (List Int)) (hp : small2 c) : wp_impl_IsCycleSet c (fun y0 => y0 = isCyc c) := by
  unfold wp_impl_IsCycleSet isCyc
  refine ⟨hp, fun h => ⟨hp, fun h2 => ⟨h, small_diag h, fun h3 => ⟨fun h4 => ⟨h, ?_⟩, fun h4 => ⟨h, ?_⟩⟩, fun h3 => ?_⟩, fun h2 => ?_⟩, fun h => ?_⟩
  · rw [h, h2, h3, h4]; rfl
  · rw [h, h2, h3]; cases e : cycF c with
    | nil => exact absurd e h4
    | cons x l => rfl
  · rw [h, h2, h3]; rfl
  · rw [h, h2]; rfl
  · rw [h]; rfl
theorem permB_diag {c : List (List Int)} (h : isTab c = true) : permB (diag c) = isPerm (diag c) := by
  have := isTab_len h
  unfold permB
  have e1 : decide (1 ≤ ((diag c).length : Int)) = true := decide_eq_true (by simp; omega)
  have e2 : decide (((diag c).length : Int) ≤ 12) = true := decide_eq_true (by simp; omega)
  rw [e1, e2]; rfl
theorem p_spec_l05Is (c : List (List Int)) (hp : small2 c) : wp_spec_l05Is c (fun y0 => y0 = isCyc c) := by
  unfold wp_spec_l05Is isCyc
  refine ⟨hp, fun h => ⟨hp, fun h2 => ⟨h, small_diag h, fun h3 => ⟨h, ?_⟩, fun h3 => ?_⟩, fun h2 => ?_⟩, fun h => ?_⟩
  · rw [isTab_perm h] at h2
    rw [permB_diag h] at h3
    rw [h, h2, h3, isEmpty_iff_nil]; rfl
  · rw [isTab_perm h] at h2
    rw [permB_diag h] at h3
    rw [h, h2, h3]; rfl
  · rw [isTab_perm h] at h2
    rw [h, h2]; rfl
  · rw [h]; rfl
theorem p_impl_AffineCycleSet_1 (x y a b c n : Int) (hp : 1 ≤ n ∧ n ≤ 12 ∧ 0 ≤ a ∧ a < n ∧ 0 ≤ b ∧ b < n ∧ 0 ≤ c ∧ c < n ∧ 0 ≤ x ∧ x < n ∧ 0 ≤ y ∧ y < n) : wp_impl_AffineCycleSet_1 x y a b c n (fun y0 => y0 = (a * x + b * y + c) % n) := by
  unfold wp_impl_AffineCycleSet_1
  have m1 := mulA (a := a) (i := x) ⟨by omega, by omega⟩ ⟨by omega, by omega⟩
  have m2 := mulA (a := b) (i := y) ⟨by omega, by omega⟩ ⟨by omega, by omega⟩
  exact ⟨⟨by omega, by omega⟩, ⟨by omega, by omega⟩, ⟨by omega, by omega⟩, ⟨by omega, by omega⟩, ⟨by omega, by omega⟩, rfl⟩
theorem p_spec_l05Affine (n a b c : Int) (hp : 1 ≤ n ∧ n ≤ 12 ∧ 0 ≤ a ∧ a < n ∧ 0 ≤ b ∧ b < n ∧ 0 ≤ c ∧ c < n) : wp_spec_l05Affine n a b c (fun y0 => y0 = tab n (fun x_ y_ => (a * x_ + b * y_ + c) % n)) := by
  unfold wp_spec_l05Affine
  refine ⟨fun i o => 0 ≤ i ∧ i ≤ n ∧ o.length = i.toNat ∧ Upto i fun x => el o x = ran n fun y => (a * x + b * y + c) % n, fun i _ => (n - i).toNat, ⟨by omega, by omega, by simp, upto0⟩, ?_⟩
  rintro i o ⟨i0, i1, il, iI⟩
  dsimp only
  refine ⟨fun ilt => ?_, fun ige => eq_ran (by omega) fun j a b => iI j a (by omega)⟩
  refine ⟨fun j q => 0 ≤ j ∧ j ≤ n ∧ q.length = j.toNat ∧ Upto j fun y => el q y = (a * i + b * y + c) % n, fun j _ => (n - j).toNat, ⟨by omega, by omega, by simp, upto0⟩, ?_⟩
  rintro j q ⟨j0, j1, jl, jI⟩
  dsimp only
  have m1 := mulA (a := a) (i := i) ⟨by omega, by omega⟩ ⟨by omega, by omega⟩
  have m2 := mulA (a := b) (i := j) ⟨by omega, by omega⟩ ⟨by omega, by omega⟩
  refine ⟨fun jlt => ⟨⟨by omega, by omega⟩, ⟨by omega, by omega⟩, ⟨by omega, by omega⟩, ⟨by omega, by omega⟩, ⟨by omega, by omega⟩, by simp; omega, ⟨by omega, by omega⟩, ⟨by omega, by omega, by simp; omega, app1 (f := fun y => (a * i + b * y + c) % n) (by omega) jI rfl⟩, by omega⟩, fun jge => ?_⟩
  have hq : q = ran n fun y => (a * i + b * y + c) % n := eq_ran (by omega) fun k a b => jI k a (by omega)
  exact ⟨by simp; omega, ⟨by omega, by omega⟩, ⟨by omega, by omega, by simp; omega, app1 (f := fun x => ran n fun y => (a * x + b * y + c) % n) (by omega) iI hq⟩, by omega⟩
theorem small2_tab {n : Int} {f : Int → Int → Int} (h : n ≤ 1000) : small2 (tab n f) := ⟨by show ((tab n f).length : Int) ≤ 1000000000; simp [tab]; omega, fun r hr => by
  unfold tab at hr
  unfold ran at hr
  obtain ⟨k, hk, rfl⟩ := List.mem_map.1 hr
  simp; omega⟩
theorem aff2 {n a b c : Int} (h : (inN 12 (n - 1) && inN n a && inN n b && inN n c) = false) : [] = AffT n a b c ∧ 2 = AffE n a b c := by
  have e : AffE n a b c = 2 := by unfold AffE; rw [h]; rfl
  exact ⟨by unfold AffT; rw [e]; rfl, e.symm⟩
theorem aff5 {n a b c : Int} (h : (inN 12 (n - 1) && inN n a && inN n b && inN n c) = true) (hc : isCyc (affT n a b c) = false) : [] = AffT n a b c ∧ 5 = AffE n a b c := by
  have e : AffE n a b c = 5 := by unfold AffE; rw [h, hc]; rfl
  exact ⟨by unfold AffT; rw [e]; rfl, e.symm⟩
theorem aff0 {n a b c : Int} (h : (inN 12 (n - 1) && inN n a && inN n b && inN n c) = true) (hc : isCyc (affT n a b c) = true) : affT n a b c = AffT n a b c ∧ 0 = AffE n a b c := by
  have e : AffE n a b c = 0 := by unfold AffE; rw [h, hc]; rfl
  exact ⟨by unfold AffT; rw [e]; rfl, e.symm⟩
theorem inN_12 {n : Int} : inN 12 (n - 1) = (decide (1 ≤ n) && decide (n ≤ 12)) := by
  unfold inN
  rw [Bool.eq_iff_iff]; simp; omega
theorem p_spec_AffineCycleSet (n a b c : Int) (hp : InI n ∧ InI a ∧ InI b ∧ InI c) : wp_spec_AffineCycleSet n a b c (fun y0 y1 => y0 = AffT n a b c ∧ y1 = AffE n a b c) := by
  unfold wp_spec_AffineCycleSet
  refine ⟨fun h => aff2 (by rw [inN_12, h]; rfl), fun h => ?_⟩
  have hn : 1 ≤ n ∧ n ≤ 12 := by simpa using h
  refine ⟨⟨by omega, by omega⟩, fun ha => aff2 (by rw [inN_12, h, show inN n a = false from ha]; rfl), fun ha => ⟨⟨by omega, by omega⟩, fun hb => aff2 (by rw [inN_12, h, show inN n a = true from ha, show inN n b = false from hb]; rfl), fun hb => ⟨⟨by omega, by omega⟩, fun hc => aff2 (by rw [inN_12, h, show inN n a = true from ha, show inN n b = true from hb, show inN n c = false from hc]; rfl), fun hc => ?_⟩⟩⟩
  have hall : (inN 12 (n - 1) && inN n a && inN n b && inN n c) = true := by rw [inN_12, h, show inN n a = true from ha, show inN n b = true from hb, show inN n c = true from hc]; rfl
  simp only [Bool.and_eq_true, decide_eq_true_eq] at ha hb hc
  exact ⟨⟨by omega, by omega, by omega, by omega, by omega, by omega, by omega, by omega⟩, small2_tab (by omega), fun h5 => aff5 hall h5, fun h0 => aff0 hall h0⟩
theorem p_impl_AffineCycleSet (n a b c : Int) (hp : InI n ∧ InI a ∧ InI b ∧ InI c) : wp_impl_AffineCycleSet n a b c (fun y0 y1 => y0 = AffT n a b c ∧ y1 = AffE n a b c) := by
  unfold wp_impl_AffineCycleSet
  refine ⟨fun h => aff2 (by rw [inN_12, h]; rfl), fun h => ?_⟩
  have hn : 1 ≤ n ∧ n ≤ 12 := by simpa using h
  refine ⟨⟨by omega, by omega⟩, fun ha => aff2 (by rw [inN_12, h, show inN n a = false from ha]; rfl), fun ha => ⟨⟨by omega, by omega⟩, fun hb => aff2 (by rw [inN_12, h, show inN n a = true from ha, show inN n b = false from hb]; rfl), fun hb => ⟨⟨by omega, by omega⟩, fun hc => aff2 (by rw [inN_12, h, show inN n a = true from ha, show inN n b = true from hb, show inN n c = false from hc]; rfl), fun hc => ?_⟩⟩⟩
  have hall : (inN 12 (n - 1) && inN n a && inN n b && inN n c) = true := by rw [inN_12, h, show inN n a = true from ha, show inN n b = true from hb, show inN n c = true from hc]; rfl
  simp only [Bool.and_eq_true, decide_eq_true_eq] at ha hb hc
  exact ⟨⟨by omega, by omega, fun x y x0 x1 y0 y1 => ⟨by omega, by omega, by omega, by omega, by omega, by omega, by omega, by omega, x0, x1, y0, y1⟩⟩, small2_tab (by omega), fun h5 => aff5 hall h5, fun h0 => aff0 hall h0⟩
set_option maxRecDepth 100000 in
set_option maxHeartbeats 4000000 in
theorem w_spec_l01Rows (t : List (List Int)) (Q : Bool → Prop) (h : wp_spec_l01Rows t Q) : AF Tryd.prog 30 [.lst (rows t)] (fun R_ => ∃ y0, Q y0 ∧ R_ = cb y0) := by
  refine AF.ofWQ (af_enter (n := 16) Tryd.func30 rfl (by rfl) rfl (Nat.le_of_ble_eq_true rfl) ?_)
  unfold wp_spec_l01Rows at h
  refine aw_seq ?_
  refine aw_gh (gh_to (n := 16) (σ' := []) (env' := [(0, .c (.lst (rows t)))]) rfl rfl ⟨rfl, trivial⟩) ?_
  refine aw_region ?_
  refine run_s (ss_assign rfl) rfl ?_
  refine run_nil ?_
  refine aw_seq ?_
  refine aw_seq ?_
  refine aw_region ?_
  refine run_s (ss_assign rfl) rfl ?_
  refine run_nil ?_
  refine aw_block ?_
  obtain ⟨H1, m1, q1, h⟩ := h
  refine aw_loop1 (fun (v3_1 : Int) => ⟨[], [(0, .c (.lst (rows t))), (3, .c (ci v3_1))], 16⟩) H1 m1 ⟨0, ghe_to (n := 16) rfl rfl ⟨rfl, rfl, trivial⟩, q1⟩ ?_
  rintro v3_1 q1
  replace h := h v3_1 q1
  refine aw_seq ?_
  refine aw_seq ?_
  refine aw_region ?_
  refine run_s (ss_move rfl) rfl ?_
  refine run_s (ss_move rfl) rfl ?_
  refine run_s (ss_lenL (f := (fun r => C.lst (ints r))) rfl) rfl ?_
  refine run_s (ss_lss rfl rfl) rfl ?_
  refine run_nil ?_
  refine aw_cond rfl (fun q2 => ?_) (fun q2 => ?_)
  ·replace h := h.1 (of_decide_eq_true q2)
   refine aw_skip ?_
   refine aw_seq ?_
   refine aw_block ?_
   refine aw_seq ?_
   refine aw_region ?_
   refine run_s (ss_move rfl) rfl ?_
   refine run_s (ss_move rfl) rfl ?_
   obtain ⟨q3, h⟩ := h
   refine run_s (ss_idxL rfl rfl q3) rfl ?_
   refine run_s (ss_loadL (f := (fun r => C.lst (ints r))) rfl q3) rfl ?_
   obtain ⟨q4, h⟩ := h
   refine run_w (ws_call (xs := [.tmp 13]) (ids := []) rfl rfl rfl rfl (c_spec_l01Perm (el t v3_1) q4) rfl ?_ )
   rintro _ rfl
   refine ⟨rfl, ?_⟩
   refine run_s (ss_not rfl) rfl ?_
   refine run_nil ?_
   refine aw_cond rfl (fun q6 => ?_) (fun q6 => ?_)
   ·replace h := h.1 ((bnot_t q6))
    refine aw_seq ?_
    refine aw_gh (gh_to (n := 16) (σ' := []) (env' := []) rfl rfl trivial) ?_
    refine aw_region ?_
    refine run_s (ss_assign rfl) rfl ?_
    refine run_nil ?_
    refine aw_ret ?_
    exact retAF_mk (retv1 rfl (rv_tmp rfl)) rfl rfl ⟨_, (cle_refl _), _, h, rfl⟩
   ·replace h := h.2 ((bnot_f q6))
    refine aw_skip ?_
    refine aw_gh (gh_to (n := 16) (σ' := []) (env' := [(0, .c (.lst (rows t))), (3, .c (ci v3_1))]) rfl rfl ⟨rfl, rfl, trivial⟩) ?_
    refine aw_region ?_
    refine run_s (ss_move rfl) rfl ?_
    obtain ⟨q7, h⟩ := h
    refine run_s (ss_add rfl rfl q7) rfl ?_
    refine run_s (ss_assign rfl) rfl ?_
    refine run_nil ?_
    exact ⟨v3_1 + 1, ghe_to (n := 16) rfl rfl ⟨rfl, rfl, trivial⟩, h.1, h.2⟩
  ·replace h := h.2 (of_decide_eq_false q2)
   refine aw_exit ?_
   refine aw_seq ?_
   refine aw_gh (gh_to (n := 16) (σ' := []) (env' := []) rfl rfl trivial) ?_
   refine aw_region ?_
   refine run_s (ss_assign rfl) rfl ?_
   refine run_nil ?_
   refine aw_ret ?_
   exact retAF_mk (retv1 rfl (rv_tmp rfl)) rfl rfl ⟨_, (cle_refl _), _, h, rfl⟩

theorem c_spec_l01Rows (t : List (List Int)) (hp : small2 t) : AF Tryd.prog 30 [.lst (rows t)] (fun R_ => R_ = cb (t.all permB)) :=
  (w_spec_l01Rows t (fun y0 => y0 = t.all permB) (p_spec_l01Rows t hp)).mono (by rintro r ⟨_, rfl, rfl⟩; rfl)

set_option maxRecDepth 100000 in
set_option maxHeartbeats 4000000 in
theorem w_impl_permutationRows_1 (row : List Int) (Q : Bool → Prop) (h : wp_impl_permutationRows_1 row Q) : AF Tryd.prog 40 [.lst (ints row)] (fun R_ => ∃ y0, Q y0 ∧ R_ = cb y0) := by
  refine AF.ofWQ (af_enter (n := 6) Tryd.func40 rfl (by rfl) rfl (Nat.le_of_ble_eq_true rfl) ?_)
  unfold wp_impl_permutationRows_1 at h
  refine aw_seq ?_
  refine aw_gh (gh_to (n := 6) (σ' := []) (env' := [(0, .c (.lst (ints row)))]) rfl rfl ⟨rfl, trivial⟩) ?_
  refine aw_region ?_
  refine run_s (ss_assign rfl) rfl ?_
  refine run_nil ?_
  refine aw_seq ?_
  refine aw_region ?_
  refine run_s (ss_move rfl) rfl ?_
  obtain ⟨q1, h⟩ := h
  refine run_w (ws_call (xs := [.tmp 3]) (ids := []) rfl rfl rfl rfl (c_impl_isPermuted row q1) rfl ?_ )
  rintro _ rfl
  refine ⟨rfl, ?_⟩
  refine run_s (ss_not rfl) rfl ?_
  refine run_s (ss_assign rfl) rfl ?_
  refine run_nil ?_
  refine aw_ret ?_
  exact retAF_mk (retv1 rfl (rv_tmp rfl)) rfl rfl ⟨_, (cle_refl _), _, h, rfl⟩

theorem c_impl_permutationRows_1 (row : List Int) (hp : small row) : AF Tryd.prog 40 [.lst (ints row)] (fun R_ => R_ = cb (!isPerm row)) :=
  (w_impl_permutationRows_1 row (fun y0 => y0 = !isPerm row) (p_impl_permutationRows_1 row hp)).mono (by rintro r ⟨_, rfl, rfl⟩; rfl)

set_option maxRecDepth 100000 in
set_option maxHeartbeats 4000000 in
theorem w_impl_permutationRows (t : List (List Int)) (Q : Bool → Prop) (h : wp_impl_permutationRows t Q) : AF Tryd.prog 25 [.lst (rows t)] (fun R_ => ∃ y0, Q y0 ∧ R_ = cb y0) := by
  refine AF.ofWQ (af_enter (n := 6) Tryd.func25 rfl (by rfl) rfl (Nat.le_of_ble_eq_true rfl) ?_)
  unfold wp_impl_permutationRows at h
  refine aw_seq ?_
  refine aw_gh (gh_to (n := 6) (σ' := []) (env' := [(0, .c (.lst (rows t)))]) rfl rfl ⟨rfl, trivial⟩) ?_
  refine aw_region ?_
  refine run_s (ss_assign rfl) rfl ?_
  refine run_nil ?_
  refine aw_seq ?_
  refine aw_region ?_
  refine run_s (ss_move rfl) rfl ?_
  obtain ⟨q1, h⟩ := h
  refine run_w (ws_call (xs := [.tmp 3, .func 40]) (ids := []) rfl rfl rfl rfl (c_k_ContainsFunc_rows t 40 [] (fun z0 => !isPerm z0) (fun z0 => small z0) (fun z0 hD => c_impl_permutationRows_1 z0 hD) q1) rfl ?_ )
  rintro _ rfl
  refine ⟨rfl, ?_⟩
  refine run_s (ss_not rfl) rfl ?_
  refine run_s (ss_assign rfl) rfl ?_
  refine run_nil ?_
  refine aw_ret ?_
  exact retAF_mk (retv1 rfl (rv_tmp rfl)) rfl rfl ⟨_, (cle_refl _), _, h, rfl⟩

theorem c_impl_permutationRows (t : List (List Int)) (hp : small2 t) : AF Tryd.prog 25 [.lst (rows t)] (fun R_ => R_ = cb (t.all isPerm)) :=
  (w_impl_permutationRows t (fun y0 => y0 = t.all isPerm) (p_impl_permutationRows t hp)).mono (by rintro r ⟨_, rfl, rfl⟩; rfl)

set_option maxRecDepth 100000 in
set_option maxHeartbeats 4000000 in
theorem w_impl_IsCycleSet (c : List (List Int)) (Q : Bool → Prop) (h : wp_impl_IsCycleSet c Q) : AF Tryd.prog 11 [.agg [.lst (rows c)]] (fun R_ => ∃ y0, Q y0 ∧ R_ = cb y0) := by
  refine AF.ofWQ (af_enter (n := 22) Tryd.func11 rfl (by rfl) rfl (Nat.le_of_ble_eq_true rfl) ?_)
  unfold wp_impl_IsCycleSet at h
  refine aw_seq ?_
  refine aw_gh (gh_to (n := 22) (σ' := []) (env' := [(0, .c (.agg [.lst (rows c)]))]) rfl rfl ⟨rfl, trivial⟩) ?_
  refine aw_region ?_
  refine run_w (ws_boxR rfl (.inl rfl) rfl ⟨rfl, ?_⟩)
  refine run_s (ss_assign rfl) rfl ?_
  refine run_nil ?_
  refine aw_seq ?_
  refine aw_region ?_
  refine run_s (ss_field_ptr rfl) rfl ?_
  refine run_s (ss_load_ptr rfl rfl) rfl ?_
  obtain ⟨q1, h⟩ := h
  refine run_w (ws_call (xs := [.tmp 4]) (ids := []) rfl rfl rfl rfl (c_impl_IsTable c q1) rfl ?_ )
  rintro _ rfl
  refine ⟨rfl, ?_⟩
  refine run_s (ss_move rfl) rfl ?_
  refine run_split (s := 6) rfl (fun q3 => ?_) (fun q3 => ?_)
  ·replace h := h.1 (q3)
   refine run_gt rfl rfl q3 ?_
   refine run_s (ss_field_ptr rfl) rfl ?_
   refine run_gt rfl rfl q3 ?_
   refine run_s (ss_load_ptr rfl rfl) rfl ?_
   refine run_gt rfl rfl q3 ?_
   obtain ⟨q4, h⟩ := h
   refine run_w (ws_call (xs := [.tmp 8]) (ids := []) rfl rfl rfl rfl (c_impl_permutationRows c q4) rfl ?_ )
   rintro _ rfl
   refine ⟨rfl, ?_⟩
   refine run_s (ss_pickT rfl q3 rfl) rfl ?_
   refine run_s (ss_move rfl) rfl ?_
   refine run_split (s := 11) rfl (fun q6 => ?_) (fun q6 => ?_)
   ·replace h := h.1 (q6)
    refine run_gt rfl rfl q6 ?_
    refine run_s (ss_load_struct rfl (Nat.le_of_ble_eq_true rfl)) rfl ?_
    refine run_gt rfl rfl q6 ?_
    obtain ⟨q7, h⟩ := h
    refine run_w (ws_call (xs := [.tmp 12]) (ids := [13]) rfl rfl rfl rfl (c_impl_squaresOf c q7) rfl ?_ )
    rintro _ rfl
    refine ⟨rfl, ?_⟩
    refine run_gt rfl rfl q6 ?_
    obtain ⟨q9, h⟩ := h
    refine run_w (ws_callR (xs := [.tmp 13]) (cs := [.own (ints (diag c))]) (ids := []) rfl (.inr ⟨rfl, rfl⟩) rfl rfl (fz_cons (fz_own (fz_map (fun _ => rfl) _)) fz_nil) (c_impl_isPermuted (diag c) q9) rfl ?_ )
    rintro _ rfl
    refine ⟨rfl, rfl, ?_⟩
    refine run_s (ss_pickT rfl q6 rfl) rfl ?_
    refine run_s (ss_move rfl) rfl ?_
    refine run_split (s := 16) rfl (fun q11 => ?_) (fun q11 => ?_)
    ·replace h := h.1 (q11)
     refine run_gt rfl rfl q11 ?_
     refine run_s (ss_field_ptr rfl) rfl ?_
     refine run_gt rfl rfl q11 ?_
     refine run_s (ss_load_ptr rfl rfl) rfl ?_
     refine run_gt rfl rfl q11 ?_
     by_cases q12 : (cycF c) = []
     ·replace h := h.1 q12
      obtain ⟨q13, h⟩ := h
      refine run_w (ws_call (xs := [.tmp 18]) (ids := []) rfl rfl rfl rfl (AF.onil_n (c_impl_cycleFault c q13) q12) rfl ?_ )
      rintro _ rfl
      refine ⟨rfl, ?_⟩
      refine run_gt rfl rfl q11 ?_
      refine run_s (ss_eql_nil rfl rfl) rfl ?_
      refine run_s (ss_pickT rfl q11 rfl) rfl ?_
      refine run_s (ss_assign rfl) rfl ?_
      refine run_nil ?_
      refine aw_ret ?_
      exact retAF_mk (retv1 rfl (rv_tmp rfl)) rfl rfl ⟨_, (cle_refl _), _, h, rfl⟩
     ·replace h := h.2 q12
      obtain ⟨q15, h⟩ := h
      refine run_w (ws_call (xs := [.tmp 18]) (ids := [19]) rfl rfl rfl rfl (AF.onil_o (c_impl_cycleFault c q15) q12) rfl ?_ )
      rintro _ rfl
      refine ⟨rfl, ?_⟩
      refine run_gt rfl rfl q11 ?_
      refine run_s (ss_eql_refNil rfl rfl (map_ne q12) rfl) rfl ?_
      refine run_s (ss_pickT rfl q11 rfl) rfl ?_
      refine run_s (ss_assign rfl) rfl ?_
      refine run_nil ?_
      refine aw_ret ?_
      exact retAF_mk (retv1 rfl (rv_tmp rfl)) rfl rfl ⟨_, (cle_refl _), _, h, rfl⟩
    ·replace h := h.2 (q11)
     refine run_gf rfl rfl q11 rfl ?_
     refine run_gf rfl rfl q11 rfl ?_
     refine run_gf rfl rfl q11 rfl ?_
     refine run_gf rfl rfl q11 rfl ?_
     refine run_s (ss_pickF rfl q11 rfl) rfl ?_
     refine run_s (ss_assign rfl) rfl ?_
     refine run_nil ?_
     refine aw_ret ?_
     exact retAF_mk (retv1 rfl (rv_tmp rfl)) rfl rfl ⟨_, (cle_refl _), _, h, rfl⟩
   ·replace h := h.2 (q6)
    refine run_gf rfl rfl q6 rfl ?_
    refine run_gf rfl rfl q6 rfl ?_
    refine run_gf rfl rfl q6 rfl ?_
    refine run_s (ss_pickF rfl q6 rfl) rfl ?_
    refine run_s (ss_move rfl) rfl ?_
    refine run_split (s := 16) rfl (fun q17 => ?_) (fun q17 => ?_)
    ·cases q17
    ·skip
     refine run_gf rfl rfl q17 rfl ?_
     refine run_gf rfl rfl q17 rfl ?_
     refine run_gf rfl rfl q17 rfl ?_
     refine run_gf rfl rfl q17 rfl ?_
     refine run_s (ss_pickF rfl q17 rfl) rfl ?_
     refine run_s (ss_assign rfl) rfl ?_
     refine run_nil ?_
     refine aw_ret ?_
     exact retAF_mk (retv1 rfl (rv_tmp rfl)) rfl rfl ⟨_, (cle_refl _), _, h, rfl⟩
  ·replace h := h.2 (q3)
   refine run_gf rfl rfl q3 rfl ?_
   refine run_gf rfl rfl q3 rfl ?_
   refine run_gf rfl rfl q3 rfl ?_
   refine run_s (ss_pickF rfl q3 rfl) rfl ?_
   refine run_s (ss_move rfl) rfl ?_
   refine run_split (s := 11) rfl (fun q18 => ?_) (fun q18 => ?_)
   ·cases q18
   ·skip
    refine run_gf rfl rfl q18 rfl ?_
    refine run_gf rfl rfl q18 rfl ?_
    refine run_gf rfl rfl q18 rfl ?_
    refine run_s (ss_pickF rfl q18 rfl) rfl ?_
    refine run_s (ss_move rfl) rfl ?_
    refine run_split (s := 16) rfl (fun q19 => ?_) (fun q19 => ?_)
    ·cases q19
    ·skip
     refine run_gf rfl rfl q19 rfl ?_
     refine run_gf rfl rfl q19 rfl ?_
     refine run_gf rfl rfl q19 rfl ?_
     refine run_gf rfl rfl q19 rfl ?_
     refine run_s (ss_pickF rfl q19 rfl) rfl ?_
     refine run_s (ss_assign rfl) rfl ?_
     refine run_nil ?_
     refine aw_ret ?_
     exact retAF_mk (retv1 rfl (rv_tmp rfl)) rfl rfl ⟨_, (cle_refl _), _, h, rfl⟩

theorem c_impl_IsCycleSet (c : List (List Int)) (hp : small2 c) : AF Tryd.prog 11 [.agg [.lst (rows c)]] (fun R_ => R_ = cb (isCyc c)) :=
  (w_impl_IsCycleSet c (fun y0 => y0 = isCyc c) (p_impl_IsCycleSet c hp)).mono (by rintro r ⟨_, rfl, rfl⟩; rfl)

set_option maxRecDepth 100000 in
set_option maxHeartbeats 4000000 in
theorem w_spec_l05Is (c : List (List Int)) (Q : Bool → Prop) (h : wp_spec_l05Is c Q) : AF Tryd.prog 20 [.agg [.lst (rows c)]] (fun R_ => ∃ y0, Q y0 ∧ R_ = cb y0) := by
  refine AF.ofWQ (af_enter (n := 24) Tryd.func20 rfl (by rfl) rfl (Nat.le_of_ble_eq_true rfl) ?_)
  unfold wp_spec_l05Is at h
  refine aw_seq ?_
  refine aw_gh (gh_to (n := 24) (σ' := []) (env' := [(0, .c (.agg [.lst (rows c)]))]) rfl rfl ⟨rfl, trivial⟩) ?_
  refine aw_region ?_
  refine run_w (ws_boxR rfl (.inl rfl) rfl ⟨rfl, ?_⟩)
  refine run_s (ss_assign rfl) rfl ?_
  refine run_nil ?_
  refine aw_seq ?_
  refine aw_region ?_
  refine run_s (ss_field_ptr rfl) rfl ?_
  refine run_s (ss_load_ptr rfl rfl) rfl ?_
  obtain ⟨q1, h⟩ := h
  refine run_w (ws_call (xs := [.tmp 4]) (ids := []) rfl rfl rfl rfl (c_spec_l01Table c q1) rfl ?_ )
  rintro _ rfl
  refine ⟨rfl, ?_⟩
  refine run_s (ss_move rfl) rfl ?_
  refine run_split (s := 6) rfl (fun q3 => ?_) (fun q3 => ?_)
  ·replace h := h.1 (q3)
   refine run_gt rfl rfl q3 ?_
   refine run_s (ss_field_ptr rfl) rfl ?_
   refine run_gt rfl rfl q3 ?_
   refine run_s (ss_load_ptr rfl rfl) rfl ?_
   refine run_gt rfl rfl q3 ?_
   obtain ⟨q4, h⟩ := h
   refine run_w (ws_call (xs := [.tmp 8]) (ids := []) rfl rfl rfl rfl (c_spec_l01Rows c q4) rfl ?_ )
   rintro _ rfl
   refine ⟨rfl, ?_⟩
   refine run_s (ss_pickT rfl q3 rfl) rfl ?_
   refine run_s (ss_move rfl) rfl ?_
   refine run_split (s := 11) rfl (fun q6 => ?_) (fun q6 => ?_)
   ·replace h := h.1 (q6)
    refine run_gt rfl rfl q6 ?_
    refine run_s (ss_field_ptr rfl) rfl ?_
    refine run_gt rfl rfl q6 ?_
    refine run_s (ss_load_ptr rfl rfl) rfl ?_
    refine run_gt rfl rfl q6 ?_
    obtain ⟨q7, h⟩ := h
    refine run_w (ws_call (xs := [.tmp 13]) (ids := [14]) rfl rfl rfl rfl (c_spec_l05Squares c q7) rfl ?_ )
    rintro _ rfl
    refine ⟨rfl, ?_⟩
    refine run_gt rfl rfl q6 ?_
    obtain ⟨q9, h⟩ := h
    refine run_w (ws_callR (xs := [.tmp 14]) (cs := [.own (ints (diag c))]) (ids := []) rfl (.inr ⟨rfl, rfl⟩) rfl rfl (fz_cons (fz_own (fz_map (fun _ => rfl) _)) fz_nil) (c_spec_l01Perm (diag c) q9) rfl ?_ )
    rintro _ rfl
    refine ⟨rfl, rfl, ?_⟩
    refine run_s (ss_pickT rfl q6 rfl) rfl ?_
    refine run_s (ss_move rfl) rfl ?_
    refine run_split (s := 17) rfl (fun q11 => ?_) (fun q11 => ?_)
    ·replace h := h.1 (q11)
     refine run_gt rfl rfl q11 ?_
     refine run_s (ss_field_ptr rfl) rfl ?_
     refine run_gt rfl rfl q11 ?_
     refine run_s (ss_load_ptr rfl rfl) rfl ?_
     refine run_gt rfl rfl q11 ?_
     obtain ⟨q12, h⟩ := h
     refine run_w (ws_call (xs := [.tmp 19]) (ids := [20]) rfl rfl rfl rfl (c_spec_l05Fault c q12) rfl ?_ )
     rintro _ rfl
     refine ⟨rfl, ?_⟩
     refine run_gt rfl rfl q11 ?_
     refine run_s (ss_lenR (f := ci) rfl rfl) rfl ?_
     refine run_gt rfl rfl q11 ?_
     refine run_s (ss_eql rfl rfl) rfl ?_
     refine run_s (ss_pickT rfl q11 rfl) rfl ?_
     refine run_s (ss_assign rfl) rfl ?_
     refine run_nil ?_
     refine aw_ret ?_
     exact retAF_mk (retv1 rfl (rv_tmp rfl)) rfl rfl ⟨_, (cle_refl _), _, h, rfl⟩
    ·replace h := h.2 (q11)
     refine run_gf rfl rfl q11 rfl ?_
     refine run_gf rfl rfl q11 rfl ?_
     refine run_gf rfl rfl q11 rfl ?_
     refine run_gf rfl rfl q11 rfl ?_
     refine run_gf rfl rfl q11 rfl ?_
     refine run_s (ss_pickF rfl q11 rfl) rfl ?_
     refine run_s (ss_assign rfl) rfl ?_
     refine run_nil ?_
     refine aw_ret ?_
     exact retAF_mk (retv1 rfl (rv_tmp rfl)) rfl rfl ⟨_, (cle_refl _), _, h, rfl⟩
   ·replace h := h.2 (q6)
    refine run_gf rfl rfl q6 rfl ?_
    refine run_gf rfl rfl q6 rfl ?_
    refine run_gf rfl rfl q6 rfl ?_
    refine run_gf rfl rfl q6 rfl ?_
    refine run_s (ss_pickF rfl q6 rfl) rfl ?_
    refine run_s (ss_move rfl) rfl ?_
    refine run_split (s := 17) rfl (fun q14 => ?_) (fun q14 => ?_)
    ·cases q14
    ·skip
     refine run_gf rfl rfl q14 rfl ?_
     refine run_gf rfl rfl q14 rfl ?_
     refine run_gf rfl rfl q14 rfl ?_
     refine run_gf rfl rfl q14 rfl ?_
     refine run_gf rfl rfl q14 rfl ?_
     refine run_s (ss_pickF rfl q14 rfl) rfl ?_
     refine run_s (ss_assign rfl) rfl ?_
     refine run_nil ?_
     refine aw_ret ?_
     exact retAF_mk (retv1 rfl (rv_tmp rfl)) rfl rfl ⟨_, (cle_refl _), _, h, rfl⟩
  ·replace h := h.2 (q3)
   refine run_gf rfl rfl q3 rfl ?_
   refine run_gf rfl rfl q3 rfl ?_
   refine run_gf rfl rfl q3 rfl ?_
   refine run_s (ss_pickF rfl q3 rfl) rfl ?_
   refine run_s (ss_move rfl) rfl ?_
   refine run_split (s := 11) rfl (fun q15 => ?_) (fun q15 => ?_)
   ·cases q15
   ·skip
    refine run_gf rfl rfl q15 rfl ?_
    refine run_gf rfl rfl q15 rfl ?_
    refine run_gf rfl rfl q15 rfl ?_
    refine run_gf rfl rfl q15 rfl ?_
    refine run_s (ss_pickF rfl q15 rfl) rfl ?_
    refine run_s (ss_move rfl) rfl ?_
    refine run_split (s := 17) rfl (fun q16 => ?_) (fun q16 => ?_)
    ·cases q16
    ·skip
     refine run_gf rfl rfl q16 rfl ?_
     refine run_gf rfl rfl q16 rfl ?_
     refine run_gf rfl rfl q16 rfl ?_
     refine run_gf rfl rfl q16 rfl ?_
     refine run_gf rfl rfl q16 rfl ?_
     refine run_s (ss_pickF rfl q16 rfl) rfl ?_
     refine run_s (ss_assign rfl) rfl ?_
     refine run_nil ?_
     refine aw_ret ?_
     exact retAF_mk (retv1 rfl (rv_tmp rfl)) rfl rfl ⟨_, (cle_refl _), _, h, rfl⟩

theorem c_spec_l05Is (c : List (List Int)) (hp : small2 c) : AF Tryd.prog 20 [.agg [.lst (rows c)]] (fun R_ => R_ = cb (isCyc c)) :=
  (w_spec_l05Is c (fun y0 => y0 = isCyc c) (p_spec_l05Is c hp)).mono (by rintro r ⟨_, rfl, rfl⟩; rfl)

set_option maxRecDepth 100000 in
set_option maxHeartbeats 4000000 in
theorem w_impl_AffineCycleSet_1 (x : Int) (y : Int) (a : Int) (b : Int) (c : Int) (n : Int) (Q : Int → Prop) (h : wp_impl_AffineCycleSet_1 x y a b c n Q) : AF Tryd.prog 17 [ci x, ci y, .ptr [ci a], .ptr [ci b], .ptr [ci c], .ptr [ci n]] (fun R_ => ∃ y0, Q y0 ∧ R_ = ci y0) := by
  refine AF.ofWQ (af_enter (n := 20) Tryd.func17 rfl (by rfl) rfl (Nat.le_of_ble_eq_true rfl) ?_)
  unfold wp_impl_AffineCycleSet_1 at h
  refine aw_seq ?_
  refine aw_gh (gh_to (n := 20) (σ' := []) (env' := [(0, .c (ci x)), (1, .c (ci y)), (2, .c (.ptr [ci a])), (3, .c (.ptr [ci b])), (4, .c (.ptr [ci c])), (5, .c (.ptr [ci n]))]) rfl rfl ⟨rfl, rfl, rfl, rfl, rfl, rfl, trivial⟩) ?_
  refine aw_region ?_
  refine run_s (ss_assign rfl) rfl ?_
  refine run_nil ?_
  refine aw_seq ?_
  refine aw_region ?_
  refine run_s (ss_load_ptr rfl rfl) rfl ?_
  refine run_s (ss_move rfl) rfl ?_
  obtain ⟨q1, h⟩ := h
  refine run_s (ss_mul rfl rfl q1) rfl ?_
  refine run_s (ss_load_ptr rfl rfl) rfl ?_
  refine run_s (ss_move rfl) rfl ?_
  obtain ⟨q2, h⟩ := h
  refine run_s (ss_mul rfl rfl q2) rfl ?_
  obtain ⟨q3, h⟩ := h
  refine run_s (ss_add rfl rfl q3) rfl ?_
  refine run_s (ss_load_ptr rfl rfl) rfl ?_
  obtain ⟨q4, h⟩ := h
  refine run_s (ss_add rfl rfl q4) rfl ?_
  refine run_s (ss_load_ptr rfl rfl) rfl ?_
  obtain ⟨q5, h⟩ := h
  refine run_s (ss_rem rfl rfl q5) rfl ?_
  refine run_s (ss_assign rfl) rfl ?_
  refine run_nil ?_
  refine aw_ret ?_
  exact retAF_mk (retv1 rfl (rv_tmp rfl)) rfl rfl ⟨_, (cle_refl _), _, h, rfl⟩

theorem c_impl_AffineCycleSet_1 (x : Int) (y : Int) (a : Int) (b : Int) (c : Int) (n : Int) (hp : 1 ≤ n ∧ n ≤ 12 ∧ 0 ≤ a ∧ a < n ∧ 0 ≤ b ∧ b < n ∧ 0 ≤ c ∧ c < n ∧ 0 ≤ x ∧ x < n ∧ 0 ≤ y ∧ y < n) : AF Tryd.prog 17 [ci x, ci y, .ptr [ci a], .ptr [ci b], .ptr [ci c], .ptr [ci n]] (fun R_ => R_ = ci ((a * x + b * y + c) % n)) :=
  (w_impl_AffineCycleSet_1 x y a b c n (fun y0 => y0 = (a * x + b * y + c) % n) (p_impl_AffineCycleSet_1 x y a b c n hp)).mono (by rintro r ⟨_, rfl, rfl⟩; rfl)

set_option maxRecDepth 100000 in
set_option maxHeartbeats 4000000 in
theorem w_spec_l05Affine (n : Int) (a : Int) (b : Int) (c : Int) (Q : List (List Int) → Prop) (h : wp_spec_l05Affine n a b c Q) : AF Tryd.prog 19 [ci n, ci a, ci b, ci c] (fun R_ => ∃ y0, Q y0 ∧ R_ = .agg [.own (orows y0)]) := by
  refine AF.ofWQ (af_enter (n := 46) Tryd.func19 rfl (by rfl) rfl (Nat.le_of_ble_eq_true rfl) ?_)
  unfold wp_spec_l05Affine at h
  refine aw_seq ?_
  refine aw_gh (gh_to (n := 46) (σ' := []) (env' := [(0, .c (ci n)), (1, .c (ci a)), (2, .c (ci b)), (3, .c (ci c))]) rfl rfl ⟨rfl, rfl, rfl, rfl, trivial⟩) ?_
  refine aw_region ?_
  refine run_w (ws_alloc (id := 8) rfl (Nat.le_of_ble_eq_true rfl) ⟨rfl, ?_⟩)
  refine run_nil ?_
  refine aw_seq ?_
  refine aw_region ?_
  refine run_s (ss_build0) rfl ?_
  refine run_w (ws_alloc (id := 9) rfl (Nat.le_of_ble_eq_true rfl) ⟨rfl, ?_⟩)
  refine run_w (ws_storeS rfl rfl (Nat.le_of_ble_eq_true rfl) rfl rfl rfl ⟨rfl, ?_⟩)
  refine run_nil ?_
  refine aw_seq ?_
  refine aw_seq ?_
  refine aw_region ?_
  refine run_s (ss_assign rfl) rfl ?_
  refine run_nil ?_
  refine aw_block ?_
  obtain ⟨H1, m1, q1, h⟩ := h
  refine aw_loop2 (fun (v10_1 : Int) (o200144_1 : List (List Int)) => ⟨[(200144, ⟨orows o200144_1, []⟩), (9, ⟨[.hole], [(0, .ref 200144)]⟩), (8, ⟨[cnil], []⟩)], [(0, .c (ci n)), (1, .c (ci a)), (2, .c (ci b)), (3, .c (ci c)), (8, .cell 8 0), (9, .cell 9 0), (10, .c (ci v10_1))], 46⟩) H1 m1 ⟨0, ([] : List (List Int)), ghe_step (gh_nilH (id0 := 9) (j := 0) (id := 200144) rfl rfl rfl rfl) (ghe_to (n := 46) rfl rfl ⟨rfl, rfl, rfl, rfl, rfl, rfl, rfl, trivial⟩), q1⟩ ?_
  rintro v10_1 o200144_1 q1
  replace h := h v10_1 o200144_1 q1
  refine aw_seq ?_
  refine aw_seq ?_
  refine aw_region ?_
  refine run_s (ss_move rfl) rfl ?_
  refine run_s (ss_move rfl) rfl ?_
  refine run_s (ss_lss rfl rfl) rfl ?_
  refine run_nil ?_
  refine aw_cond rfl (fun q2 => ?_) (fun q2 => ?_)
  ·replace h := h.1 (of_decide_eq_true q2)
   refine aw_skip ?_
   refine aw_seq ?_
   refine aw_block ?_
   refine aw_seq ?_
   refine aw_region ?_
   refine run_w (ws_buildSlice (id := 19) (ps := []) rfl rfl (Nat.le_of_ble_eq_true rfl) rfl ⟨rfl, ?_⟩)
   refine run_s (ss_assign rfl) rfl ?_
   refine run_nil ?_
   refine aw_seq ?_
   refine aw_seq ?_
   refine aw_gh (gh_to (n := 46) (σ' := [(19, ⟨ints ([] : List Int), []⟩), (200144, ⟨orows o200144_1, []⟩), (9, ⟨[.hole], [(0, .ref 200144)]⟩), (8, ⟨[cnil], []⟩)]) (env' := [(0, .c (ci n)), (1, .c (ci a)), (2, .c (ci b)), (3, .c (ci c)), (8, .cell 8 0), (9, .cell 9 0), (10, .c (ci v10_1)), (11, .ref 19)]) rfl rfl ⟨rfl, rfl, rfl, rfl, rfl, rfl, rfl, rfl, trivial⟩) ?_
   refine aw_region ?_
   refine run_s (ss_assign rfl) rfl ?_
   refine run_nil ?_
   refine aw_block ?_
   obtain ⟨H2, m2, q3, h⟩ := h
   refine aw_loop2 (fun (v12_2 : Int) (o19_2 : List Int) => ⟨[(19, ⟨ints o19_2, []⟩), (200144, ⟨orows o200144_1, []⟩), (9, ⟨[.hole], [(0, .ref 200144)]⟩), (8, ⟨[cnil], []⟩)], [(0, .c (ci n)), (1, .c (ci a)), (2, .c (ci b)), (3, .c (ci c)), (8, .cell 8 0), (9, .cell 9 0), (10, .c (ci v10_1)), (11, .ref 19), (12, .c (ci v12_2))], 46⟩) H2 m2 ⟨0, ([] : List Int), ghe_to (n := 46) rfl rfl ⟨rfl, rfl, rfl, rfl, rfl, rfl, rfl, rfl, rfl, trivial⟩, q3⟩ ?_
   rintro v12_2 o19_2 q3
   replace h := h v12_2 o19_2 q3
   refine aw_seq ?_
   refine aw_seq ?_
   refine aw_region ?_
   refine run_s (ss_move rfl) rfl ?_
   refine run_s (ss_move rfl) rfl ?_
   refine run_s (ss_lss rfl rfl) rfl ?_
   refine run_nil ?_
   refine aw_cond rfl (fun q4 => ?_) (fun q4 => ?_)
   ·replace h := h.1 (of_decide_eq_true q4)
    refine aw_skip ?_
    refine aw_seq ?_
    refine aw_block ?_
    refine aw_region ?_
    refine run_s (ss_move rfl) rfl ?_
    refine run_s (ss_move rfl) rfl ?_
    refine run_s (ss_move rfl) rfl ?_
    obtain ⟨q5, h⟩ := h
    refine run_s (ss_mul rfl rfl q5) rfl ?_
    refine run_s (ss_move rfl) rfl ?_
    refine run_s (ss_move rfl) rfl ?_
    obtain ⟨q6, h⟩ := h
    refine run_s (ss_mul rfl rfl q6) rfl ?_
    obtain ⟨q7, h⟩ := h
    refine run_s (ss_add rfl rfl q7) rfl ?_
    refine run_s (ss_move rfl) rfl ?_
    obtain ⟨q8, h⟩ := h
    refine run_s (ss_add rfl rfl q8) rfl ?_
    refine run_s (ss_move rfl) rfl ?_
    obtain ⟨q9, h⟩ := h
    refine run_s (ss_rem rfl rfl q9) rfl ?_
    refine run_w (ws_buildSlice (id := 37) (ps := [(0, .tmp 36)]) rfl rfl (Nat.le_of_ble_eq_true rfl) rfl ⟨rfl, ?_⟩)
    obtain ⟨q10, h⟩ := h
    refine run_w (ws_app1 ci (l := o19_2) (m := [(((a * v10_1) + (b * v12_2)) + c) % n]) rfl rfl rfl rfl rfl (Nat.le_of_ble_eq_true rfl) q10 ⟨rfl, ?_⟩)
    refine run_s (ss_assign rfl) rfl ?_
    refine run_nil ?_
    refine aw_gh (gh_to (n := 46) (σ' := [(19, ⟨ints (o19_2 ++ ([(((a * v10_1) + (b * v12_2)) + c) % n])), []⟩), (200144, ⟨orows o200144_1, []⟩), (9, ⟨[.hole], [(0, .ref 200144)]⟩), (8, ⟨[cnil], []⟩)]) (env' := [(0, .c (ci n)), (1, .c (ci a)), (2, .c (ci b)), (3, .c (ci c)), (8, .cell 8 0), (9, .cell 9 0), (10, .c (ci v10_1)), (11, .ref 19), (12, .c (ci v12_2))]) rfl rfl ⟨rfl, rfl, rfl, rfl, rfl, rfl, rfl, rfl, rfl, trivial⟩) ?_
    refine aw_region ?_
    refine run_s (ss_move rfl) rfl ?_
    obtain ⟨q11, h⟩ := h
    refine run_s (ss_add rfl rfl q11) rfl ?_
    refine run_s (ss_assign rfl) rfl ?_
    refine run_nil ?_
    exact ⟨v12_2 + 1, o19_2 ++ ([(((a * v10_1) + (b * v12_2)) + c) % n]), ghe_to (n := 46) rfl rfl ⟨rfl, rfl, rfl, rfl, rfl, rfl, rfl, rfl, rfl, trivial⟩, h.1, h.2⟩
   ·replace h := h.2 (of_decide_eq_false q4)
    refine aw_exit ?_
    refine aw_region ?_
    refine run_s (ss_field_cell rfl) rfl ?_
    refine run_s (ss_loadH rfl rfl rfl rfl) rfl ?_
    refine run_s (ss_move rfl) rfl ?_
    refine run_w (ws_buildSlice (id := 42) (ps := [(0, .tmp 41)]) rfl rfl (Nat.le_of_ble_eq_true rfl) rfl ⟨rfl, ?_⟩)
    refine run_gh (gh_fill (id := 42) (id2 := 19) (j := 0) rfl rfl (Nat.le_of_ble_eq_true rfl) rfl rfl rfl) ?_
    obtain ⟨q12, h⟩ := h
    refine run_w (ws_app1 (fun r => C.own (ints r)) (l := o200144_1) (m := [o19_2]) rfl rfl rfl rfl rfl (Nat.le_of_ble_eq_true rfl) q12 ⟨rfl, ?_⟩)
    refine run_s (ss_field_cell rfl) rfl ?_
    refine run_w (ws_store rfl rfl (Nat.le_of_ble_eq_true rfl) rfl rfl ⟨rfl, ?_⟩)
    refine run_nil ?_
    refine aw_gh (gh_to (n := 46) (σ' := [(200144, ⟨orows (o200144_1 ++ ([o19_2])), []⟩), (9, ⟨[.hole], [(0, .ref 200144)]⟩), (8, ⟨[cnil], []⟩)]) (env' := [(0, .c (ci n)), (1, .c (ci a)), (2, .c (ci b)), (3, .c (ci c)), (8, .cell 8 0), (9, .cell 9 0), (10, .c (ci v10_1))]) rfl rfl ⟨rfl, rfl, rfl, rfl, rfl, rfl, rfl, trivial⟩) ?_
    refine aw_region ?_
    refine run_s (ss_move rfl) rfl ?_
    obtain ⟨q13, h⟩ := h
    refine run_s (ss_add rfl rfl q13) rfl ?_
    refine run_s (ss_assign rfl) rfl ?_
    refine run_nil ?_
    exact ⟨v10_1 + 1, o200144_1 ++ ([o19_2]), ghe_to (n := 46) rfl rfl ⟨rfl, rfl, rfl, rfl, rfl, rfl, rfl, trivial⟩, h.1, h.2⟩
  ·replace h := h.2 (of_decide_eq_false q2)
   refine aw_exit ?_
   refine aw_seq ?_
   refine aw_gh (gh_to (n := 46) (σ' := [(200144, ⟨orows o200144_1, []⟩), (9, ⟨[.hole], [(0, .ref 200144)]⟩), (8, ⟨[cnil], []⟩)]) (env' := [(8, .cell 8 0), (9, .cell 9 0)]) rfl rfl ⟨rfl, rfl, trivial⟩) ?_
   refine aw_region ?_
   refine run_s (ss_loadS rfl rfl rfl rfl) rfl ?_
   refine run_w (ws_storeS rfl rfl (Nat.le_of_ble_eq_true rfl) rfl rfl rfl ⟨rfl, ?_⟩)
   refine run_nil ?_
   refine aw_ret ?_
   exact retAF_mk (retv1 rfl (rv_struct rfl rfl rfl)) rfl rfl ⟨_, (cle_refl _), _, h, rfl⟩

theorem c_spec_l05Affine (n : Int) (a : Int) (b : Int) (c : Int) (hp : 1 ≤ n ∧ n ≤ 12 ∧ 0 ≤ a ∧ a < n ∧ 0 ≤ b ∧ b < n ∧ 0 ≤ c ∧ c < n) : AF Tryd.prog 19 [ci n, ci a, ci b, ci c] (fun R_ => R_ = .agg [.own (orows (tab n (fun x_ y_ => (a * x_ + b * y_ + c) % n)))]) :=
  (w_spec_l05Affine n a b c (fun y0 => y0 = tab n (fun x_ y_ => (a * x_ + b * y_ + c) % n)) (p_spec_l05Affine n a b c hp)).mono (by rintro r ⟨_, rfl, rfl⟩; rfl)

set_option maxRecDepth 100000 in
set_option maxHeartbeats 4000000 in
theorem w_spec_AffineCycleSet (n : Int) (a : Int) (b : Int) (c : Int) (Q : List (List Int) → Int → Prop) (h : wp_spec_AffineCycleSet n a b c Q) : AF Tryd.prog 7 [ci n, ci a, ci b, ci c] (fun R_ => ∃ y0 y1, Q y0 y1 ∧ R_ = .tup [.agg [.own (orows y0)], ci y1]) := by
  refine AF.ofWQ (af_enter (n := 46) Tryd.func7 rfl (by rfl) rfl (Nat.le_of_ble_eq_true rfl) ?_)
  unfold wp_spec_AffineCycleSet at h
  refine aw_seq ?_
  refine aw_gh (gh_to (n := 46) (σ' := []) (env' := [(0, .c (ci n)), (1, .c (ci a)), (2, .c (ci b)), (3, .c (ci c))]) rfl rfl ⟨rfl, rfl, rfl, rfl, trivial⟩) ?_
  refine aw_region ?_
  refine run_w (ws_alloc (id := 8) rfl (Nat.le_of_ble_eq_true rfl) ⟨rfl, ?_⟩)
  refine run_s (ss_assign rfl) rfl ?_
  refine run_nil ?_
  refine aw_seq ?_
  refine aw_seq ?_
  refine aw_region ?_
  refine run_s (ss_move rfl) rfl ?_
  refine run_w (ws_call (xs := [.tmp 11, .const (.int .i64 (1)), .const (.int .i64 (12))]) (ids := []) rfl rfl rfl rfl (c_spec_l01In n 1 12) rfl ?_ )
  rintro _ rfl
  refine ⟨rfl, ?_⟩
  refine run_s (ss_not rfl) rfl ?_
  refine run_s (ss_move rfl) rfl ?_
  refine run_split (s := 14) rfl (fun q2 => ?_) (fun q2 => ?_)
  ·replace h := h.1 ((bnot_t q2))
   refine run_gf rfl rfl q2 rfl ?_
   refine run_gf rfl rfl q2 rfl ?_
   refine run_gf rfl rfl q2 rfl ?_
   refine run_gf rfl rfl q2 rfl ?_
   refine run_gf rfl rfl q2 rfl ?_
   refine run_s (ss_pickT rfl q2 rfl) rfl ?_
   refine run_s (ss_move rfl) rfl ?_
   refine run_split (s := 21) rfl (fun q3 => ?_) (fun q3 => ?_)
   ·skip
    refine run_gf rfl rfl q3 rfl ?_
    refine run_gf rfl rfl q3 rfl ?_
    refine run_gf rfl rfl q3 rfl ?_
    refine run_gf rfl rfl q3 rfl ?_
    refine run_gf rfl rfl q3 rfl ?_
    refine run_s (ss_pickT rfl q3 rfl) rfl ?_
    refine run_s (ss_move rfl) rfl ?_
    refine run_split (s := 28) rfl (fun q4 => ?_) (fun q4 => ?_)
    ·skip
     refine run_gf rfl rfl q4 rfl ?_
     refine run_gf rfl rfl q4 rfl ?_
     refine run_gf rfl rfl q4 rfl ?_
     refine run_gf rfl rfl q4 rfl ?_
     refine run_gf rfl rfl q4 rfl ?_
     refine run_s (ss_pickT rfl q4 rfl) rfl ?_
     refine run_nil ?_
     refine aw_cond rfl (fun q5 => ?_) (fun q5 => ?_)
     ·skip
      refine aw_seq ?_
      refine aw_gh (gh_to (n := 46) (σ' := [(8, ⟨[cnil], []⟩)]) (env' := [(8, .cell 8 0), (9, .c (ci 0))]) rfl rfl ⟨rfl, rfl, trivial⟩) ?_
      refine aw_region ?_
      refine run_s (ss_build0) rfl ?_
      refine run_w (ws_storeS rfl rfl (Nat.le_of_ble_eq_true rfl) rfl rfl rfl ⟨rfl, ?_⟩)
      refine run_s (ss_assign rfl) rfl ?_
      refine run_nil ?_
      refine aw_ret ?_
      exact retAF_mk (retv2 rfl (rv_struct rfl rfl rfl) (rv_tmp rfl)) rfl rfl ⟨_, (cle_tup (cleL_cons (cle_agg (cleL_cons cle_nilO cleL_nil)) (cleL_cons (cle_refl _) cleL_nil))), _, _, h, rfl⟩
     ·cases q5
    ·cases q4
   ·cases q3
  ·replace h := h.2 ((bnot_f q2))
   refine run_gt rfl rfl q2 ?_
   refine run_s (ss_move rfl) rfl ?_
   refine run_gt rfl rfl q2 ?_
   refine run_s (ss_move rfl) rfl ?_
   refine run_gt rfl rfl q2 ?_
   obtain ⟨q6, h⟩ := h
   refine run_s (ss_sub rfl rfl q6) rfl ?_
   refine run_gt rfl rfl q2 ?_
   refine run_w (ws_call (xs := [.tmp 15, .const (.int .i64 (0)), .tmp 17]) (ids := []) rfl rfl rfl rfl (c_spec_l01In a 0 (n - 1)) rfl ?_ )
   rintro _ rfl
   refine ⟨rfl, ?_⟩
   refine run_gt rfl rfl q2 ?_
   refine run_s (ss_not rfl) rfl ?_
   refine run_s (ss_pickF rfl q2 rfl) rfl ?_
   refine run_s (ss_move rfl) rfl ?_
   refine run_split (s := 21) rfl (fun q8 => ?_) (fun q8 => ?_)
   ·replace h := h.1 ((bnot_t q8))
    refine run_gf rfl rfl q8 rfl ?_
    refine run_gf rfl rfl q8 rfl ?_
    refine run_gf rfl rfl q8 rfl ?_
    refine run_gf rfl rfl q8 rfl ?_
    refine run_gf rfl rfl q8 rfl ?_
    refine run_s (ss_pickT rfl q8 rfl) rfl ?_
    refine run_s (ss_move rfl) rfl ?_
    refine run_split (s := 28) rfl (fun q9 => ?_) (fun q9 => ?_)
    ·skip
     refine run_gf rfl rfl q9 rfl ?_
     refine run_gf rfl rfl q9 rfl ?_
     refine run_gf rfl rfl q9 rfl ?_
     refine run_gf rfl rfl q9 rfl ?_
     refine run_gf rfl rfl q9 rfl ?_
     refine run_s (ss_pickT rfl q9 rfl) rfl ?_
     refine run_nil ?_
     refine aw_cond rfl (fun q10 => ?_) (fun q10 => ?_)
     ·skip
      refine aw_seq ?_
      refine aw_gh (gh_to (n := 46) (σ' := [(8, ⟨[cnil], []⟩)]) (env' := [(8, .cell 8 0), (9, .c (ci 0))]) rfl rfl ⟨rfl, rfl, trivial⟩) ?_
      refine aw_region ?_
      refine run_s (ss_build0) rfl ?_
      refine run_w (ws_storeS rfl rfl (Nat.le_of_ble_eq_true rfl) rfl rfl rfl ⟨rfl, ?_⟩)
      refine run_s (ss_assign rfl) rfl ?_
      refine run_nil ?_
      refine aw_ret ?_
      exact retAF_mk (retv2 rfl (rv_struct rfl rfl rfl) (rv_tmp rfl)) rfl rfl ⟨_, (cle_tup (cleL_cons (cle_agg (cleL_cons cle_nilO cleL_nil)) (cleL_cons (cle_refl _) cleL_nil))), _, _, h, rfl⟩
     ·cases q10
    ·cases q9
   ·replace h := h.2 ((bnot_f q8))
    refine run_gt rfl rfl q8 ?_
    refine run_s (ss_move rfl) rfl ?_
    refine run_gt rfl rfl q8 ?_
    refine run_s (ss_move rfl) rfl ?_
    refine run_gt rfl rfl q8 ?_
    obtain ⟨q11, h⟩ := h
    refine run_s (ss_sub rfl rfl q11) rfl ?_
    refine run_gt rfl rfl q8 ?_
    refine run_w (ws_call (xs := [.tmp 22, .const (.int .i64 (0)), .tmp 24]) (ids := []) rfl rfl rfl rfl (c_spec_l01In b 0 (n - 1)) rfl ?_ )
    rintro _ rfl
    refine ⟨rfl, ?_⟩
    refine run_gt rfl rfl q8 ?_
    refine run_s (ss_not rfl) rfl ?_
    refine run_s (ss_pickF rfl q8 rfl) rfl ?_
    refine run_s (ss_move rfl) rfl ?_
    refine run_split (s := 28) rfl (fun q13 => ?_) (fun q13 => ?_)
    ·replace h := h.1 ((bnot_t q13))
     refine run_gf rfl rfl q13 rfl ?_
     refine run_gf rfl rfl q13 rfl ?_
     refine run_gf rfl rfl q13 rfl ?_
     refine run_gf rfl rfl q13 rfl ?_
     refine run_gf rfl rfl q13 rfl ?_
     refine run_s (ss_pickT rfl q13 rfl) rfl ?_
     refine run_nil ?_
     refine aw_cond rfl (fun q14 => ?_) (fun q14 => ?_)
     ·skip
      refine aw_seq ?_
      refine aw_gh (gh_to (n := 46) (σ' := [(8, ⟨[cnil], []⟩)]) (env' := [(8, .cell 8 0), (9, .c (ci 0))]) rfl rfl ⟨rfl, rfl, trivial⟩) ?_
      refine aw_region ?_
      refine run_s (ss_build0) rfl ?_
      refine run_w (ws_storeS rfl rfl (Nat.le_of_ble_eq_true rfl) rfl rfl rfl ⟨rfl, ?_⟩)
      refine run_s (ss_assign rfl) rfl ?_
      refine run_nil ?_
      refine aw_ret ?_
      exact retAF_mk (retv2 rfl (rv_struct rfl rfl rfl) (rv_tmp rfl)) rfl rfl ⟨_, (cle_tup (cleL_cons (cle_agg (cleL_cons cle_nilO cleL_nil)) (cleL_cons (cle_refl _) cleL_nil))), _, _, h, rfl⟩
     ·cases q14
    ·replace h := h.2 ((bnot_f q13))
     refine run_gt rfl rfl q13 ?_
     refine run_s (ss_move rfl) rfl ?_
     refine run_gt rfl rfl q13 ?_
     refine run_s (ss_move rfl) rfl ?_
     refine run_gt rfl rfl q13 ?_
     obtain ⟨q15, h⟩ := h
     refine run_s (ss_sub rfl rfl q15) rfl ?_
     refine run_gt rfl rfl q13 ?_
     refine run_w (ws_call (xs := [.tmp 29, .const (.int .i64 (0)), .tmp 31]) (ids := []) rfl rfl rfl rfl (c_spec_l01In c 0 (n - 1)) rfl ?_ )
     rintro _ rfl
     refine ⟨rfl, ?_⟩
     refine run_gt rfl rfl q13 ?_
     refine run_s (ss_not rfl) rfl ?_
     refine run_s (ss_pickF rfl q13 rfl) rfl ?_
     refine run_nil ?_
     refine aw_cond rfl (fun q17 => ?_) (fun q17 => ?_)
     ·replace h := h.1 ((bnot_t q17))
      refine aw_seq ?_
      refine aw_gh (gh_to (n := 46) (σ' := [(8, ⟨[cnil], []⟩)]) (env' := [(8, .cell 8 0), (9, .c (ci 0))]) rfl rfl ⟨rfl, rfl, trivial⟩) ?_
      refine aw_region ?_
      refine run_s (ss_build0) rfl ?_
      refine run_w (ws_storeS rfl rfl (Nat.le_of_ble_eq_true rfl) rfl rfl rfl ⟨rfl, ?_⟩)
      refine run_s (ss_assign rfl) rfl ?_
      refine run_nil ?_
      refine aw_ret ?_
      exact retAF_mk (retv2 rfl (rv_struct rfl rfl rfl) (rv_tmp rfl)) rfl rfl ⟨_, (cle_tup (cleL_cons (cle_agg (cleL_cons cle_nilO cleL_nil)) (cleL_cons (cle_refl _) cleL_nil))), _, _, h, rfl⟩
     ·replace h := h.2 ((bnot_f q17))
      refine aw_skip ?_
      refine aw_seq ?_
      refine aw_gh (gh_to (n := 46) (σ' := [(8, ⟨[cnil], []⟩)]) (env' := [(0, .c (ci n)), (1, .c (ci a)), (2, .c (ci b)), (3, .c (ci c)), (8, .cell 8 0)]) rfl rfl ⟨rfl, rfl, rfl, rfl, rfl, trivial⟩) ?_
      refine aw_region ?_
      refine run_s (ss_move rfl) rfl ?_
      refine run_s (ss_move rfl) rfl ?_
      refine run_s (ss_move rfl) rfl ?_
      refine run_s (ss_move rfl) rfl ?_
      obtain ⟨q18, h⟩ := h
      refine run_w (ws_call (xs := [.tmp 36, .tmp 37, .tmp 38, .tmp 39]) (ids := [40]) rfl rfl rfl rfl (c_spec_l05Affine n a b c q18) rfl ?_ )
      rintro _ rfl
      refine ⟨rfl, ?_⟩
      refine run_w (ws_alloc (id := 10) rfl (Nat.le_of_ble_eq_true rfl) ⟨rfl, ?_⟩)
      refine run_w (ws_storeS rfl rfl (Nat.le_of_ble_eq_true rfl) rfl rfl rfl ⟨rfl, ?_⟩)
      refine run_nil ?_
      refine aw_seq ?_
      refine aw_seq ?_
      refine aw_gh (gh_to (n := 46) (σ' := [(10, ⟨[.hole], [(0, .ref 40)]⟩), (40, ⟨orows (tab n (fun x_ y_ => (a * x_ + b * y_ + c) % n)), []⟩), (8, ⟨[cnil], []⟩)]) (env' := [(8, .cell 8 0), (10, .cell 10 0)]) rfl rfl ⟨rfl, rfl, trivial⟩) ?_
      refine aw_region ?_
      refine run_s (ss_loadS rfl rfl rfl rfl) rfl ?_
      obtain ⟨q20, h⟩ := h
      refine run_w (ws_callR (xs := [.tmp 41]) (cs := [.agg [.own (orows (tab n (fun x_ y_ => (a * x_ + b * y_ + c) % n)))]]) (ids := []) rfl (.inr ⟨rfl, rfl⟩) rfl rfl (fz_cons (fz_agg (fz_cons (fz_own (fz_map (fun _ => (fz_own (fz_map (fun _ => rfl) _))) _)) fz_nil)) fz_nil) (c_spec_l05Is (tab n (fun x_ y_ => (a * x_ + b * y_ + c) % n)) q20) rfl ?_ )
      rintro _ rfl
      refine ⟨rfl, rfl, ?_⟩
      refine run_s (ss_not rfl) rfl ?_
      refine run_nil ?_
      refine aw_cond rfl (fun q22 => ?_) (fun q22 => ?_)
      ·replace h := h.1 ((bnot_t q22))
       refine aw_seq ?_
       refine aw_gh (gh_to (n := 46) (σ' := [(10, ⟨[.hole], [(0, .ref 40)]⟩), (40, ⟨orows (tab n (fun x_ y_ => (a * x_ + b * y_ + c) % n)), []⟩), (8, ⟨[cnil], []⟩)]) (env' := [(8, .cell 8 0)]) rfl rfl ⟨rfl, trivial⟩) ?_
       refine aw_region ?_
       refine run_s (ss_build0) rfl ?_
       refine run_w (ws_storeS rfl rfl (Nat.le_of_ble_eq_true rfl) rfl rfl rfl ⟨rfl, ?_⟩)
       refine run_s (ss_assign rfl) rfl ?_
       refine run_nil ?_
       refine aw_ret ?_
       exact retAF_mk (retv2 rfl (rv_struct rfl rfl rfl) (rv_tmp rfl)) rfl rfl ⟨_, (cle_tup (cleL_cons (cle_agg (cleL_cons cle_nilO cleL_nil)) (cleL_cons (cle_refl _) cleL_nil))), _, _, h, rfl⟩
      ·replace h := h.2 ((bnot_f q22))
       refine aw_skip ?_
       refine aw_seq ?_
       refine aw_region ?_
       refine run_s (ss_loadS rfl rfl rfl rfl) rfl ?_
       refine run_w (ws_storeS rfl rfl (Nat.le_of_ble_eq_true rfl) rfl rfl rfl ⟨rfl, ?_⟩)
       refine run_s (ss_assign rfl) rfl ?_
       refine run_nil ?_
       refine aw_ret ?_
       exact retAF_mk (retv2 rfl (rv_struct rfl rfl rfl) (rv_tmp rfl)) rfl rfl ⟨_, (cle_refl _), _, _, h, rfl⟩

theorem c_spec_AffineCycleSet (n : Int) (a : Int) (b : Int) (c : Int) (hp : InI n ∧ InI a ∧ InI b ∧ InI c) : AF Tryd.prog 7 [ci n, ci a, ci b, ci c] (fun R_ => R_ = .tup [.agg [.own (orows (AffT n a b c))], ci (AffE n a b c)]) :=
  (w_spec_AffineCycleSet n a b c (fun y0 y1 => y0 = AffT n a b c ∧ y1 = AffE n a b c) (p_spec_AffineCycleSet n a b c hp)).mono (by rintro r ⟨_, _, ⟨rfl, rfl⟩, rfl⟩; rfl)

set_option maxRecDepth 100000 in
set_option maxHeartbeats 4000000 in
theorem w_impl_AffineCycleSet (n : Int) (a : Int) (b : Int) (c : Int) (Q : List (List Int) → Int → Prop) (h : wp_impl_AffineCycleSet n a b c Q) : AF Tryd.prog 6 [ci n, ci a, ci b, ci c] (fun R_ => ∃ y0 y1, Q y0 y1 ∧ R_ = .tup [.agg [.own (orows y0)], ci y1]) := by
  refine AF.ofWQ (af_enter (n := 45) Tryd.func6 rfl (by rfl) rfl (Nat.le_of_ble_eq_true rfl) ?_)
  unfold wp_impl_AffineCycleSet at h
  refine aw_seq ?_
  refine aw_gh (gh_to (n := 45) (σ' := []) (env' := [(0, .c (ci n)), (1, .c (ci a)), (2, .c (ci b)), (3, .c (ci c))]) rfl rfl ⟨rfl, rfl, rfl, rfl, trivial⟩) ?_
  refine aw_region ?_
  refine run_w (ws_boxR rfl (.inr rfl) rfl ⟨rfl, ?_⟩)
  refine run_w (ws_boxR rfl (.inr rfl) rfl ⟨rfl, ?_⟩)
  refine run_w (ws_boxR rfl (.inr rfl) rfl ⟨rfl, ?_⟩)
  refine run_w (ws_boxR rfl (.inr rfl) rfl ⟨rfl, ?_⟩)
  refine run_w (ws_alloc (id := 8) rfl (Nat.le_of_ble_eq_true rfl) ⟨rfl, ?_⟩)
  refine run_s (ss_assign rfl) rfl ?_
  refine run_nil ?_
  refine aw_seq ?_
  refine aw_seq ?_
  refine aw_region ?_
  refine run_s (ss_load_ptr rfl rfl) rfl ?_
  refine run_w (ws_call (xs := [.tmp 11, .const (.int .i64 (1)), .const (.int .i64 (12))]) (ids := []) rfl rfl rfl rfl (c_impl_within n 1 12) rfl ?_ )
  rintro _ rfl
  refine ⟨rfl, ?_⟩
  refine run_s (ss_not rfl) rfl ?_
  refine run_s (ss_move rfl) rfl ?_
  refine run_split (s := 14) rfl (fun q2 => ?_) (fun q2 => ?_)
  ·replace h := h.1 ((bnot_t q2))
   refine run_gf rfl rfl q2 rfl ?_
   refine run_gf rfl rfl q2 rfl ?_
   refine run_gf rfl rfl q2 rfl ?_
   refine run_gf rfl rfl q2 rfl ?_
   refine run_gf rfl rfl q2 rfl ?_
   refine run_s (ss_pickT rfl q2 rfl) rfl ?_
   refine run_s (ss_move rfl) rfl ?_
   refine run_split (s := 21) rfl (fun q3 => ?_) (fun q3 => ?_)
   ·skip
    refine run_gf rfl rfl q3 rfl ?_
    refine run_gf rfl rfl q3 rfl ?_
    refine run_gf rfl rfl q3 rfl ?_
    refine run_gf rfl rfl q3 rfl ?_
    refine run_gf rfl rfl q3 rfl ?_
    refine run_s (ss_pickT rfl q3 rfl) rfl ?_
    refine run_s (ss_move rfl) rfl ?_
    refine run_split (s := 28) rfl (fun q4 => ?_) (fun q4 => ?_)
    ·skip
     refine run_gf rfl rfl q4 rfl ?_
     refine run_gf rfl rfl q4 rfl ?_
     refine run_gf rfl rfl q4 rfl ?_
     refine run_gf rfl rfl q4 rfl ?_
     refine run_gf rfl rfl q4 rfl ?_
     refine run_s (ss_pickT rfl q4 rfl) rfl ?_
     refine run_nil ?_
     refine aw_cond rfl (fun q5 => ?_) (fun q5 => ?_)
     ·skip
      refine aw_seq ?_
      refine aw_gh (gh_to (n := 45) (σ' := [(8, ⟨[cnil], []⟩)]) (env' := [(8, .cell 8 0), (9, .c (ci 0))]) rfl rfl ⟨rfl, rfl, trivial⟩) ?_
      refine aw_region ?_
      refine run_s (ss_build0) rfl ?_
      refine run_w (ws_storeS rfl rfl (Nat.le_of_ble_eq_true rfl) rfl rfl rfl ⟨rfl, ?_⟩)
      refine run_s (ss_assign rfl) rfl ?_
      refine run_nil ?_
      refine aw_ret ?_
      exact retAF_mk (retv2 rfl (rv_struct rfl rfl rfl) (rv_tmp rfl)) rfl rfl ⟨_, (cle_tup (cleL_cons (cle_agg (cleL_cons cle_nilO cleL_nil)) (cleL_cons (cle_refl _) cleL_nil))), _, _, h, rfl⟩
     ·cases q5
    ·cases q4
   ·cases q3
  ·replace h := h.2 ((bnot_f q2))
   refine run_gt rfl rfl q2 ?_
   refine run_s (ss_load_ptr rfl rfl) rfl ?_
   refine run_gt rfl rfl q2 ?_
   refine run_s (ss_load_ptr rfl rfl) rfl ?_
   refine run_gt rfl rfl q2 ?_
   obtain ⟨q6, h⟩ := h
   refine run_s (ss_sub rfl rfl q6) rfl ?_
   refine run_gt rfl rfl q2 ?_
   refine run_w (ws_call (xs := [.tmp 15, .const (.int .i64 (0)), .tmp 17]) (ids := []) rfl rfl rfl rfl (c_impl_within a 0 (n - 1)) rfl ?_ )
   rintro _ rfl
   refine ⟨rfl, ?_⟩
   refine run_gt rfl rfl q2 ?_
   refine run_s (ss_not rfl) rfl ?_
   refine run_s (ss_pickF rfl q2 rfl) rfl ?_
   refine run_s (ss_move rfl) rfl ?_
   refine run_split (s := 21) rfl (fun q8 => ?_) (fun q8 => ?_)
   ·replace h := h.1 ((bnot_t q8))
    refine run_gf rfl rfl q8 rfl ?_
    refine run_gf rfl rfl q8 rfl ?_
    refine run_gf rfl rfl q8 rfl ?_
    refine run_gf rfl rfl q8 rfl ?_
    refine run_gf rfl rfl q8 rfl ?_
    refine run_s (ss_pickT rfl q8 rfl) rfl ?_
    refine run_s (ss_move rfl) rfl ?_
    refine run_split (s := 28) rfl (fun q9 => ?_) (fun q9 => ?_)
    ·skip
     refine run_gf rfl rfl q9 rfl ?_
     refine run_gf rfl rfl q9 rfl ?_
     refine run_gf rfl rfl q9 rfl ?_
     refine run_gf rfl rfl q9 rfl ?_
     refine run_gf rfl rfl q9 rfl ?_
     refine run_s (ss_pickT rfl q9 rfl) rfl ?_
     refine run_nil ?_
     refine aw_cond rfl (fun q10 => ?_) (fun q10 => ?_)
     ·skip
      refine aw_seq ?_
      refine aw_gh (gh_to (n := 45) (σ' := [(8, ⟨[cnil], []⟩)]) (env' := [(8, .cell 8 0), (9, .c (ci 0))]) rfl rfl ⟨rfl, rfl, trivial⟩) ?_
      refine aw_region ?_
      refine run_s (ss_build0) rfl ?_
      refine run_w (ws_storeS rfl rfl (Nat.le_of_ble_eq_true rfl) rfl rfl rfl ⟨rfl, ?_⟩)
      refine run_s (ss_assign rfl) rfl ?_
      refine run_nil ?_
      refine aw_ret ?_
      exact retAF_mk (retv2 rfl (rv_struct rfl rfl rfl) (rv_tmp rfl)) rfl rfl ⟨_, (cle_tup (cleL_cons (cle_agg (cleL_cons cle_nilO cleL_nil)) (cleL_cons (cle_refl _) cleL_nil))), _, _, h, rfl⟩
     ·cases q10
    ·cases q9
   ·replace h := h.2 ((bnot_f q8))
    refine run_gt rfl rfl q8 ?_
    refine run_s (ss_load_ptr rfl rfl) rfl ?_
    refine run_gt rfl rfl q8 ?_
    refine run_s (ss_load_ptr rfl rfl) rfl ?_
    refine run_gt rfl rfl q8 ?_
    obtain ⟨q11, h⟩ := h
    refine run_s (ss_sub rfl rfl q11) rfl ?_
    refine run_gt rfl rfl q8 ?_
    refine run_w (ws_call (xs := [.tmp 22, .const (.int .i64 (0)), .tmp 24]) (ids := []) rfl rfl rfl rfl (c_impl_within b 0 (n - 1)) rfl ?_ )
    rintro _ rfl
    refine ⟨rfl, ?_⟩
    refine run_gt rfl rfl q8 ?_
    refine run_s (ss_not rfl) rfl ?_
    refine run_s (ss_pickF rfl q8 rfl) rfl ?_
    refine run_s (ss_move rfl) rfl ?_
    refine run_split (s := 28) rfl (fun q13 => ?_) (fun q13 => ?_)
    ·replace h := h.1 ((bnot_t q13))
     refine run_gf rfl rfl q13 rfl ?_
     refine run_gf rfl rfl q13 rfl ?_
     refine run_gf rfl rfl q13 rfl ?_
     refine run_gf rfl rfl q13 rfl ?_
     refine run_gf rfl rfl q13 rfl ?_
     refine run_s (ss_pickT rfl q13 rfl) rfl ?_
     refine run_nil ?_
     refine aw_cond rfl (fun q14 => ?_) (fun q14 => ?_)
     ·skip
      refine aw_seq ?_
      refine aw_gh (gh_to (n := 45) (σ' := [(8, ⟨[cnil], []⟩)]) (env' := [(8, .cell 8 0), (9, .c (ci 0))]) rfl rfl ⟨rfl, rfl, trivial⟩) ?_
      refine aw_region ?_
      refine run_s (ss_build0) rfl ?_
      refine run_w (ws_storeS rfl rfl (Nat.le_of_ble_eq_true rfl) rfl rfl rfl ⟨rfl, ?_⟩)
      refine run_s (ss_assign rfl) rfl ?_
      refine run_nil ?_
      refine aw_ret ?_
      exact retAF_mk (retv2 rfl (rv_struct rfl rfl rfl) (rv_tmp rfl)) rfl rfl ⟨_, (cle_tup (cleL_cons (cle_agg (cleL_cons cle_nilO cleL_nil)) (cleL_cons (cle_refl _) cleL_nil))), _, _, h, rfl⟩
     ·cases q14
    ·replace h := h.2 ((bnot_f q13))
     refine run_gt rfl rfl q13 ?_
     refine run_s (ss_load_ptr rfl rfl) rfl ?_
     refine run_gt rfl rfl q13 ?_
     refine run_s (ss_load_ptr rfl rfl) rfl ?_
     refine run_gt rfl rfl q13 ?_
     obtain ⟨q15, h⟩ := h
     refine run_s (ss_sub rfl rfl q15) rfl ?_
     refine run_gt rfl rfl q13 ?_
     refine run_w (ws_call (xs := [.tmp 29, .const (.int .i64 (0)), .tmp 31]) (ids := []) rfl rfl rfl rfl (c_impl_within c 0 (n - 1)) rfl ?_ )
     rintro _ rfl
     refine ⟨rfl, ?_⟩
     refine run_gt rfl rfl q13 ?_
     refine run_s (ss_not rfl) rfl ?_
     refine run_s (ss_pickF rfl q13 rfl) rfl ?_
     refine run_nil ?_
     refine aw_cond rfl (fun q17 => ?_) (fun q17 => ?_)
     ·replace h := h.1 ((bnot_t q17))
      refine aw_seq ?_
      refine aw_gh (gh_to (n := 45) (σ' := [(8, ⟨[cnil], []⟩)]) (env' := [(8, .cell 8 0), (9, .c (ci 0))]) rfl rfl ⟨rfl, rfl, trivial⟩) ?_
      refine aw_region ?_
      refine run_s (ss_build0) rfl ?_
      refine run_w (ws_storeS rfl rfl (Nat.le_of_ble_eq_true rfl) rfl rfl rfl ⟨rfl, ?_⟩)
      refine run_s (ss_assign rfl) rfl ?_
      refine run_nil ?_
      refine aw_ret ?_
      exact retAF_mk (retv2 rfl (rv_struct rfl rfl rfl) (rv_tmp rfl)) rfl rfl ⟨_, (cle_tup (cleL_cons (cle_agg (cleL_cons cle_nilO cleL_nil)) (cleL_cons (cle_refl _) cleL_nil))), _, _, h, rfl⟩
     ·replace h := h.2 ((bnot_f q17))
      refine aw_skip ?_
      refine aw_seq ?_
      refine aw_gh (gh_to (n := 45) (σ' := [(8, ⟨[cnil], []⟩)]) (env' := [(4, .c (.ptr [ci n])), (5, .c (.ptr [ci a])), (6, .c (.ptr [ci b])), (7, .c (.ptr [ci c])), (8, .cell 8 0)]) rfl rfl ⟨rfl, rfl, rfl, rfl, rfl, trivial⟩) ?_
      refine aw_region ?_
      refine run_s (ss_load_ptr rfl rfl) rfl ?_
      refine run_s (ss_makeFunc (os := [.tmp 5, .tmp 6, .tmp 7, .tmp 4]) rfl) rfl ?_
      obtain ⟨q18, h⟩ := h
      refine run_w (ws_call (xs := [.tmp 36, .tmp 37]) (ids := [38]) rfl rfl rfl rfl (c_impl_tableBy n 17 [.ptr [ci a], .ptr [ci b], .ptr [ci c], .ptr [ci n]] (fun z0 z1 => (a * z0 + b * z1 + c) % n) (fun z0 z1 => 1 ≤ n ∧ n ≤ 12 ∧ 0 ≤ a ∧ a < n ∧ 0 ≤ b ∧ b < n ∧ 0 ≤ c ∧ c < n ∧ 0 ≤ z0 ∧ z0 < n ∧ 0 ≤ z1 ∧ z1 < n) (fun z0 z1 hD => c_impl_AffineCycleSet_1 z0 z1 a b c n hD) q18) rfl ?_ )
      rintro _ rfl
      refine ⟨rfl, ?_⟩
      refine run_s (ss_build (ps := [(0, .tmp 38)]) rfl rfl) rfl ?_
      refine run_w (ws_alloc (id := 10) rfl (Nat.le_of_ble_eq_true rfl) ⟨rfl, ?_⟩)
      refine run_w (ws_storeS rfl rfl (Nat.le_of_ble_eq_true rfl) rfl rfl rfl ⟨rfl, ?_⟩)
      refine run_nil ?_
      refine aw_seq ?_
      refine aw_seq ?_
      refine aw_gh (gh_to (n := 45) (σ' := [(10, ⟨[.hole], [(0, .ref 38)]⟩), (38, ⟨orows (tab n (fun z0 z1 => (a * z0 + b * z1 + c) % n)), []⟩), (8, ⟨[cnil], []⟩)]) (env' := [(8, .cell 8 0), (10, .cell 10 0)]) rfl rfl ⟨rfl, rfl, trivial⟩) ?_
      refine aw_region ?_
      refine run_s (ss_loadS rfl rfl rfl rfl) rfl ?_
      obtain ⟨q20, h⟩ := h
      refine run_w (ws_callR (xs := [.tmp 40]) (cs := [.agg [.own (orows (tab n (fun z0 z1 => (a * z0 + b * z1 + c) % n)))]]) (ids := []) rfl (.inr ⟨rfl, rfl⟩) rfl rfl (fz_cons (fz_agg (fz_cons (fz_own (fz_map (fun _ => (fz_own (fz_map (fun _ => rfl) _))) _)) fz_nil)) fz_nil) (c_impl_IsCycleSet (tab n (fun z0 z1 => (a * z0 + b * z1 + c) % n)) q20) rfl ?_ )
      rintro _ rfl
      refine ⟨rfl, rfl, ?_⟩
      refine run_s (ss_not rfl) rfl ?_
      refine run_nil ?_
      refine aw_cond rfl (fun q22 => ?_) (fun q22 => ?_)
      ·replace h := h.1 ((bnot_t q22))
       refine aw_seq ?_
       refine aw_gh (gh_to (n := 45) (σ' := [(10, ⟨[.hole], [(0, .ref 38)]⟩), (38, ⟨orows (tab n (fun z0 z1 => (a * z0 + b * z1 + c) % n)), []⟩), (8, ⟨[cnil], []⟩)]) (env' := [(8, .cell 8 0)]) rfl rfl ⟨rfl, trivial⟩) ?_
       refine aw_region ?_
       refine run_s (ss_build0) rfl ?_
       refine run_w (ws_storeS rfl rfl (Nat.le_of_ble_eq_true rfl) rfl rfl rfl ⟨rfl, ?_⟩)
       refine run_s (ss_assign rfl) rfl ?_
       refine run_nil ?_
       refine aw_ret ?_
       exact retAF_mk (retv2 rfl (rv_struct rfl rfl rfl) (rv_tmp rfl)) rfl rfl ⟨_, (cle_tup (cleL_cons (cle_agg (cleL_cons cle_nilO cleL_nil)) (cleL_cons (cle_refl _) cleL_nil))), _, _, h, rfl⟩
      ·replace h := h.2 ((bnot_f q22))
       refine aw_skip ?_
       refine aw_seq ?_
       refine aw_region ?_
       refine run_s (ss_loadS rfl rfl rfl rfl) rfl ?_
       refine run_w (ws_storeS rfl rfl (Nat.le_of_ble_eq_true rfl) rfl rfl rfl ⟨rfl, ?_⟩)
       refine run_s (ss_assign rfl) rfl ?_
       refine run_nil ?_
       refine aw_ret ?_
       exact retAF_mk (retv2 rfl (rv_struct rfl rfl rfl) (rv_tmp rfl)) rfl rfl ⟨_, (cle_refl _), _, _, h, rfl⟩

theorem c_impl_AffineCycleSet (n : Int) (a : Int) (b : Int) (c : Int) (hp : InI n ∧ InI a ∧ InI b ∧ InI c) : AF Tryd.prog 6 [ci n, ci a, ci b, ci c] (fun R_ => R_ = .tup [.agg [.own (orows (AffT n a b c))], ci (AffE n a b c)]) :=
  (w_impl_AffineCycleSet n a b c (fun y0 y1 => y0 = AffT n a b c ∧ y1 = AffE n a b c) (p_impl_AffineCycleSet n a b c hp)).mono (by rintro r ⟨_, _, ⟨rfl, rfl⟩, rfl⟩; rfl)

def wp_impl_digitsText (list : List Int) (Q : List UInt8 → Prop) : Prop :=
 (0 ≤ (list.length : Int) ∧ (list.length : Int) ≤ 1000000000) ∧
 ∃ (H1 : Int → List Int → Prop) (m1 : Int → List Int → Nat),
 H1 0 (List.replicate (list.length : Int).toNat (0 : Int)) ∧
 ∀ (v11_1 : Int) (o8_1 : List Int), H1 v11_1 o8_1 →
 ( ((v11_1 < (list.length : Int) →
 (0 ≤ v11_1 ∧ v11_1 < (list.length : Int)) ∧
 (0 ≤ el list v11_1 ∧ el list v11_1 < (([48, 49, 50, 51, 52, 53, 54, 55, 56, 57, 97, 98] : List UInt8).length : Int)) ∧
 (0 ≤ v11_1 ∧ v11_1 < (o8_1.length : Int)) ∧
 (InI (v11_1 + 1)) ∧
 (H1 (v11_1 + 1) (se o8_1 v11_1 (byt ([48, 49, 50, 51, 52, 53, 54, 55, 56, 57, 97, 98] : List UInt8) (el list v11_1))) ∧ m1 (v11_1 + 1) (se o8_1 v11_1 (byt ([48, 49, 50, 51, 52, 53, 54, 55, 56, 57, 97, 98] : List UInt8) (el list v11_1))) < m1 v11_1 o8_1)) ∧
 (¬ (v11_1 < (list.length : Int)) →
 Q (bs o8_1))))

def wp_impl_tableText (t : List (List Int)) (Q : List UInt8 → Prop) : Prop :=
 (0 ≤ (t.length : Int) ∧ (t.length : Int) ≤ 1000000000) ∧
 ∃ (H1 : Int → List (List UInt8) → Prop) (m1 : Int → List (List UInt8) → Nat),
 H1 0 (List.replicate (t.length : Int).toNat ([] : List UInt8)) ∧
 ∀ (v11_1 : Int) (o8_1 : List (List UInt8)), H1 v11_1 o8_1 →
 ( ((v11_1 < (t.length : Int) →
 (0 ≤ v11_1 ∧ v11_1 < (t.length : Int)) ∧
 (small (el t v11_1) ∧ digs (el t v11_1)) ∧
 (0 ≤ v11_1 ∧ v11_1 < (o8_1.length : Int)) ∧
 (InI (v11_1 + 1)) ∧
 (H1 (v11_1 + 1) (se o8_1 v11_1 (digI (el t v11_1))) ∧ m1 (v11_1 + 1) (se o8_1 v11_1 (digI (el t v11_1))) < m1 v11_1 o8_1)) ∧
 (¬ (v11_1 < (t.length : Int)) →
 (JoinPre o8_1 ([47] : List UInt8)) ∧
 Q (joinI o8_1 ([47] : List UInt8)))))

def wp_impl_TableText (t : List (List Int)) (Q : List UInt8 → Int → Prop) : Prop :=
 (small2 t) ∧
 (((isTab t) = false →
 Q ([] : List UInt8) 1) ∧
 ((isTab t) = true →
 (isTab t = true) ∧
 Q (txtI t) 0))

def wp_impl_CycleSetText (c : List (List Int)) (Q : List UInt8 → Int → Prop) : Prop :=
 (small2 c) ∧
 Q (if isTab c then txtI c else []) (if isTab c then (0 : Int) else 1)

theorem digs_tab : ∀ k : Nat, k < 12 → UInt8.ofNat (byt ([48, 49, 50, 51, 52, 53, 54, 55, 56, 57, 97, 98] : List UInt8) (k : Int)).toNat = dgt (k : Int) := by decide
theorem dig_at {x : Int} (h : 0 ≤ x ∧ x < 12) : UInt8.ofNat (byt ([48, 49, 50, 51, 52, 53, 54, 55, 56, 57, 97, 98] : List UInt8) x).toNat = dgt x := by
  have := digs_tab x.toNat (by omega)
  rwa [Int.toNat_of_nonneg h.1] at this
theorem p_impl_digitsText (list : List Int) (hp : small list ∧ digs list) : wp_impl_digitsText list (fun y0 => y0 = digI list) := by
  have hs : (list.length : Int) ≤ 1000000000 := hp.1
  refine ⟨⟨by omega, hs⟩, fun i o => 0 ≤ i ∧ i ≤ (list.length : Int) ∧ o.length = list.length ∧ Upto i fun j => el o j = byt ([48, 49, 50, 51, 52, 53, 54, 55, 56, 57, 97, 98] : List UInt8) (el list j), fun i _ => ((list.length : Int) - i).toNat, ⟨by omega, by omega, by simp, upto0⟩, ?_⟩
  rintro i o ⟨i0, i1, ol, oI⟩
  dsimp only
  refine ⟨fun ilt => ?_, fun ige => ?_⟩
  · exact ⟨⟨i0, ilt⟩, by simpa using hp.2 i i0 ilt, ⟨i0, by omega⟩, ⟨by omega, by omega⟩, ⟨by omega, by omega, by simpa using ol, fill1 (f := fun j => byt ([48, 49, 50, 51, 52, 53, 54, 55, 56, 57, 97, 98] : List UInt8) (el list j)) ⟨i0, by omega⟩ oI rfl⟩, by omega⟩
  · refine List.ext_getElem (by simp [bs, ol]) fun k h1 h2 => ?_
    have hk : k < list.length := by simpa [digI] using h2
    have hk2 : k < o.length := by omega
    have e1 : el o (k : Int) = o[k] := by simp [el, hk2]
    have e2 : el list (k : Int) = list[k] := by simp [el, hk]
    have e := oI (k : Int) (by omega) (by omega)
    have d := dig_at (hp.2 (k : Int) (by omega) (by omega))
    rw [← e, e1, e2] at d
    simpa [bs, digI] using d
theorem p_impl_tableText (t : List (List Int)) (ht : isTab t = true) : wp_impl_tableText t (fun y0 => y0 = txtI t) := by
  have hn := isTab_len ht
  refine ⟨⟨by omega, by omega⟩, fun i o => 0 ≤ i ∧ i ≤ (t.length : Int) ∧ o.length = t.length ∧ Upto i fun j => el o j = digI (el t j), fun i _ => ((t.length : Int) - i).toNat, ⟨by omega, by omega, by simp, upto0⟩, ?_⟩
  rintro i o ⟨i0, i1, ol, oI⟩
  dsimp only
  refine ⟨fun ilt => ?_, fun ige => ?_⟩
  · exact ⟨⟨i0, ilt⟩, digs_row ht ⟨i0, ilt⟩, ⟨i0, by omega⟩, ⟨by omega, by omega⟩, ⟨by omega, by omega, by simpa using ol, fill1 (f := fun j => digI (el t j)) ⟨i0, by omega⟩ oI rfl⟩, by omega⟩
  · have ho : o = t.map digI := List.ext_getElem (by simp [ol]) fun k h1 h2 => by
      have hk : k < t.length := by simpa using h2
      have e : el o (k : Int) = digI (el t (k : Int)) := oI (k : Int) (by omega) (by omega)
      have e1 : el o (k : Int) = o[k] := by simp [el, h1]
      have e2 : el t (k : Int) = t[k] := by simp [el, hk]
      rw [e1, e2] at e
      simpa using e
    subst ho
    have := txt_len t (row_le ht)
    exact ⟨⟨by unfold txtI at this; omega, by simp; omega⟩, rfl⟩
theorem p_impl_TableText (t : List (List Int)) (hp : small2 t) : wp_impl_TableText t (fun y0 y1 => y0 = (if isTab t then txtI t else []) ∧ y1 = (if isTab t then 0 else 1)) :=
  ⟨hp, fun h => by simp [h], fun h => ⟨h, by simp [h]⟩⟩
theorem p_impl_CycleSetText (c : List (List Int)) (hp : small2 c) : wp_impl_CycleSetText c (fun y0 y1 => y0 = (if isTab c then txtI c else []) ∧ y1 = (if isTab c then 0 else 1)) := ⟨hp, rfl, rfl⟩

set_option maxRecDepth 100000 in
set_option maxHeartbeats 4000000 in
theorem w_impl_digitsText (list : List Int) (Q : List UInt8 → Prop) (h : wp_impl_digitsText list Q) : AF Tryd.prog 42 [.lst (ints list)] (fun R_ => ∃ y0, Q y0 ∧ R_ = cs y0) := by
  refine AF.ofWQ (af_enter (n := 24) Tryd.func42 rfl (by rfl) rfl (Nat.le_of_ble_eq_true rfl) ?_)
  unfold wp_impl_digitsText at h
  refine aw_seq ?_
  refine aw_gh (gh_to (n := 24) (σ' := []) (env' := [(0, .c (.lst (ints list)))]) rfl rfl ⟨rfl, trivial⟩) ?_
  refine aw_region ?_
  refine run_s (ss_assign rfl) rfl ?_
  refine run_nil ?_
  refine aw_seq ?_
  refine aw_region ?_
  refine run_s (ss_move rfl) rfl ?_
  refine run_s (ss_lenL (f := ci) rfl) rfl ?_
  obtain ⟨q1, h⟩ := h
  refine run_w (ws_mk (id := 8) cy (0 : Int) rfl rfl rfl q1 (Nat.le_of_ble_eq_true rfl) rfl ⟨rfl, ?_⟩)
  refine run_s (ss_assign rfl) rfl ?_
  refine run_nil ?_
  refine aw_seq ?_
  refine aw_seq ?_
  refine aw_region ?_
  refine run_s (ss_move rfl) rfl ?_
  refine run_s (ss_lenL (f := ci) rfl) rfl ?_
  refine run_s (ss_move rfl) rfl ?_
  refine run_nil ?_
  refine aw_block ?_
  obtain ⟨H1, m1, q2, h⟩ := h
  refine aw_loop2 (fun (v11_1 : Int) (o8_1 : List Int) => ⟨[(8, ⟨bys o8_1, []⟩)], [(3, .ref 8), (9, .c (.lst (ints list))), (10, .c (ci (list.length : Int))), (11, .c (ci v11_1))], 24⟩) H1 m1 ⟨0, List.replicate (list.length : Int).toNat (0 : Int), ghe_to (n := 24) rfl rfl ⟨rfl, rfl, rfl, rfl, trivial⟩, q2⟩ ?_
  rintro v11_1 o8_1 q2
  replace h := h v11_1 o8_1 q2
  refine aw_seq ?_
  refine aw_region ?_
  refine run_s (ss_lss rfl rfl) rfl ?_
  refine run_nil ?_
  refine aw_seq ?_
  refine aw_cond rfl (fun q3 => ?_) (fun q3 => ?_)
  ·replace h := h.1 (of_decide_eq_true q3)
   refine aw_skip ?_
   refine aw_seq ?_
   refine aw_block ?_
   refine aw_seq ?_
   refine aw_region ?_
   refine run_s (ss_move rfl) rfl ?_
   obtain ⟨q4, h⟩ := h
   refine run_s (ss_idxL rfl rfl q4) rfl ?_
   refine run_s (ss_loadL (f := ci) rfl q4) rfl ?_
   refine run_s (ss_assign rfl) rfl ?_
   refine run_s (ss_assign rfl) rfl ?_
   refine run_nil ?_
   refine aw_region ?_
   refine run_s (ss_move rfl) rfl ?_
   refine run_s (ss_move rfl) rfl ?_
   refine run_s (ss_move rfl) rfl ?_
   obtain ⟨q5, h⟩ := h
   refine run_s (ss_indexS (s := ([48, 49, 50, 51, 52, 53, 54, 55, 56, 57, 97, 98] : List UInt8)) rfl rfl q5) rfl ?_
   obtain ⟨q6, h⟩ := h
   refine run_s (ss_idxR (f := cy) rfl rfl rfl q6) rfl ?_
   refine run_w (ws_storeE rfl rfl (map_lt q6) rfl rfl (map_se (f := cy)) rfl ⟨rfl, ?_⟩)
   refine run_nil ?_
   refine aw_gh (gh_to (n := 24) (σ' := [(8, ⟨bys (se o8_1 v11_1 (byt ([48, 49, 50, 51, 52, 53, 54, 55, 56, 57, 97, 98] : List UInt8) (el list v11_1))), []⟩)]) (env' := [(3, .ref 8), (9, .c (.lst (ints list))), (10, .c (ci (list.length : Int))), (11, .c (ci v11_1))]) rfl rfl ⟨rfl, rfl, rfl, rfl, trivial⟩) ?_
   refine aw_region ?_
   obtain ⟨q7, h⟩ := h
   refine run_s (ss_add rfl rfl q7) rfl ?_
   refine run_s (ss_move rfl) rfl ?_
   refine run_nil ?_
   exact ⟨v11_1 + 1, se o8_1 v11_1 (byt ([48, 49, 50, 51, 52, 53, 54, 55, 56, 57, 97, 98] : List UInt8) (el list v11_1)), ghe_to (n := 24) rfl rfl ⟨rfl, rfl, rfl, rfl, trivial⟩, h.1, h.2⟩
  ·replace h := h.2 (of_decide_eq_false q3)
   refine aw_exit ?_
   refine aw_seq ?_
   refine aw_region ?_
   refine run_s (ss_move rfl) rfl ?_
   refine run_s (ss_bytesR (l := o8_1) rfl rfl rfl) rfl ?_
   refine run_s (ss_assign rfl) rfl ?_
   refine run_nil ?_
   refine aw_ret ?_
   exact retAF_mk (retv1 rfl (rv_tmp rfl)) rfl rfl ⟨_, (cle_refl _), _, h, rfl⟩

theorem c_impl_digitsText (list : List Int) (hp : small list ∧ digs list) : AF Tryd.prog 42 [.lst (ints list)] (fun R_ => R_ = cs (digI list)) :=
  (w_impl_digitsText list (fun y0 => y0 = digI list) (p_impl_digitsText list hp)).mono (by rintro r ⟨_, rfl, rfl⟩; rfl)

set_option maxRecDepth 100000 in
set_option maxHeartbeats 4000000 in
theorem w_impl_tableText (t : List (List Int)) (Q : List UInt8 → Prop) (h : wp_impl_tableText t Q) : AF Tryd.prog 34 [.lst (rows t)] (fun R_ => ∃ y0, Q y0 ∧ R_ = cs y0) := by
  refine AF.ofWQ (af_enter (n := 24) Tryd.func34 rfl (by rfl) rfl (Nat.le_of_ble_eq_true rfl) ?_)
  unfold wp_impl_tableText at h
  refine aw_seq ?_
  refine aw_gh (gh_to (n := 24) (σ' := []) (env' := [(0, .c (.lst (rows t)))]) rfl rfl ⟨rfl, trivial⟩) ?_
  refine aw_region ?_
  refine run_s (ss_assign rfl) rfl ?_
  refine run_nil ?_
  refine aw_seq ?_
  refine aw_region ?_
  refine run_s (ss_move rfl) rfl ?_
  refine run_s (ss_lenL (f := (fun r => C.lst (ints r))) rfl) rfl ?_
  obtain ⟨q1, h⟩ := h
  refine run_w (ws_mk (id := 8) cs ([] : List UInt8) rfl rfl rfl q1 (Nat.le_of_ble_eq_true rfl) rfl ⟨rfl, ?_⟩)
  refine run_s (ss_assign rfl) rfl ?_
  refine run_nil ?_
  refine aw_seq ?_
  refine aw_seq ?_
  refine aw_region ?_
  refine run_s (ss_move rfl) rfl ?_
  refine run_s (ss_lenL (f := (fun r => C.lst (ints r))) rfl) rfl ?_
  refine run_s (ss_move rfl) rfl ?_
  refine run_nil ?_
  refine aw_block ?_
  obtain ⟨H1, m1, q2, h⟩ := h
  refine aw_loop2 (fun (v11_1 : Int) (o8_1 : List (List UInt8)) => ⟨[(8, ⟨strs o8_1, []⟩)], [(3, .ref 8), (9, .c (.lst (rows t))), (10, .c (ci (t.length : Int))), (11, .c (ci v11_1))], 24⟩) H1 m1 ⟨0, List.replicate (t.length : Int).toNat ([] : List UInt8), ghe_to (n := 24) rfl rfl ⟨rfl, rfl, rfl, rfl, trivial⟩, q2⟩ ?_
  rintro v11_1 o8_1 q2
  replace h := h v11_1 o8_1 q2
  refine aw_seq ?_
  refine aw_region ?_
  refine run_s (ss_lss rfl rfl) rfl ?_
  refine run_nil ?_
  refine aw_seq ?_
  refine aw_cond rfl (fun q3 => ?_) (fun q3 => ?_)
  ·replace h := h.1 (of_decide_eq_true q3)
   refine aw_skip ?_
   refine aw_seq ?_
   refine aw_block ?_
   refine aw_seq ?_
   refine aw_region ?_
   refine run_s (ss_move rfl) rfl ?_
   obtain ⟨q4, h⟩ := h
   refine run_s (ss_idxL rfl rfl q4) rfl ?_
   refine run_s (ss_loadL (f := (fun r => C.lst (ints r))) rfl q4) rfl ?_
   refine run_s (ss_assign rfl) rfl ?_
   refine run_s (ss_assign rfl) rfl ?_
   refine run_nil ?_
   refine aw_region ?_
   refine run_s (ss_move rfl) rfl ?_
   refine run_s (ss_move rfl) rfl ?_
   refine run_s (ss_move rfl) rfl ?_
   obtain ⟨q5, h⟩ := h
   refine run_w (ws_call (xs := [.tmp 18]) (ids := []) rfl rfl rfl rfl (c_impl_digitsText (el t v11_1) q5) rfl ?_ )
   rintro _ rfl
   refine ⟨rfl, ?_⟩
   obtain ⟨q7, h⟩ := h
   refine run_s (ss_idxR (f := cs) rfl rfl rfl q7) rfl ?_
   refine run_w (ws_storeE rfl rfl (map_lt q7) rfl rfl (map_se (f := cs)) rfl ⟨rfl, ?_⟩)
   refine run_nil ?_
   refine aw_gh (gh_to (n := 24) (σ' := [(8, ⟨strs (se o8_1 v11_1 (digI (el t v11_1))), []⟩)]) (env' := [(3, .ref 8), (9, .c (.lst (rows t))), (10, .c (ci (t.length : Int))), (11, .c (ci v11_1))]) rfl rfl ⟨rfl, rfl, rfl, rfl, trivial⟩) ?_
   refine aw_region ?_
   obtain ⟨q8, h⟩ := h
   refine run_s (ss_add rfl rfl q8) rfl ?_
   refine run_s (ss_move rfl) rfl ?_
   refine run_nil ?_
   exact ⟨v11_1 + 1, se o8_1 v11_1 (digI (el t v11_1)), ghe_to (n := 24) rfl rfl ⟨rfl, rfl, rfl, rfl, trivial⟩, h.1, h.2⟩
  ·replace h := h.2 (of_decide_eq_false q3)
   refine aw_exit ?_
   refine aw_seq ?_
   refine aw_region ?_
   refine run_s (ss_move rfl) rfl ?_
   obtain ⟨q9, h⟩ := h
   refine run_w (ws_callR (xs := [.tmp 22, .const (.string ⟨#[47]⟩)]) (cs := [.own (strs o8_1), cs ([47] : List UInt8)]) (ids := []) rfl (.inr ⟨rfl, rfl⟩) rfl rfl (fz_cons (fz_own (fz_map (fun _ => rfl) _)) (fz_cons rfl fz_nil)) (c_strings_Join o8_1 ([47] : List UInt8) q9) rfl ?_ )
   rintro _ rfl
   refine ⟨rfl, rfl, ?_⟩
   refine run_s (ss_assign rfl) rfl ?_
   refine run_nil ?_
   refine aw_ret ?_
   exact retAF_mk (retv1 rfl (rv_tmp rfl)) rfl rfl ⟨_, (cle_refl _), _, h, rfl⟩

theorem c_impl_tableText (t : List (List Int)) (hp : isTab t = true) : AF Tryd.prog 34 [.lst (rows t)] (fun R_ => R_ = cs (txtI t)) :=
  (w_impl_tableText t (fun y0 => y0 = txtI t) (p_impl_tableText t hp)).mono (by rintro r ⟨_, rfl, rfl⟩; rfl)

set_option maxRecDepth 100000 in
set_option maxHeartbeats 4000000 in
theorem w_impl_TableText (t : List (List Int)) (Q : List UInt8 → Int → Prop) (h : wp_impl_TableText t Q) : AF Tryd.prog 22 [.lst (rows t)] (fun R_ => ∃ y0 y1, Q y0 y1 ∧ R_ = .tup [cs y0, ci y1]) := by
  refine AF.ofWQ (af_enter (n := 9) Tryd.func22 rfl (by rfl) rfl (Nat.le_of_ble_eq_true rfl) ?_)
  unfold wp_impl_TableText at h
  refine aw_seq ?_
  refine aw_gh (gh_to (n := 9) (σ' := []) (env' := [(0, .c (.lst (rows t)))]) rfl rfl ⟨rfl, trivial⟩) ?_
  refine aw_region ?_
  refine run_s (ss_assign rfl) rfl ?_
  refine run_s (ss_assign rfl) rfl ?_
  refine run_nil ?_
  refine aw_seq ?_
  refine aw_seq ?_
  refine aw_region ?_
  refine run_s (ss_move rfl) rfl ?_
  obtain ⟨q1, h⟩ := h
  refine run_w (ws_call (xs := [.tmp 4]) (ids := []) rfl rfl rfl rfl (c_impl_IsTable t q1) rfl ?_ )
  rintro _ rfl
  refine ⟨rfl, ?_⟩
  refine run_s (ss_not rfl) rfl ?_
  refine run_nil ?_
  refine aw_cond rfl (fun q3 => ?_) (fun q3 => ?_)
  ·replace h := h.1 ((bnot_t q3))
   refine aw_seq ?_
   refine aw_gh (gh_to (n := 9) (σ' := []) (env' := [(2, .c (cs ([] : List UInt8))), (3, .c (ci 0))]) rfl rfl ⟨rfl, rfl, trivial⟩) ?_
   refine aw_region ?_
   refine run_s (ss_assign rfl) rfl ?_
   refine run_s (ss_assign rfl) rfl ?_
   refine run_nil ?_
   refine aw_ret ?_
   exact retAF_mk (retv2 rfl (rv_tmp rfl) (rv_tmp rfl)) rfl rfl ⟨_, (cle_refl _), _, _, h, rfl⟩
  ·replace h := h.2 ((bnot_f q3))
   refine aw_skip ?_
   refine aw_seq ?_
   refine aw_region ?_
   refine run_s (ss_move rfl) rfl ?_
   obtain ⟨q4, h⟩ := h
   refine run_w (ws_call (xs := [.tmp 7]) (ids := []) rfl rfl rfl rfl (c_impl_tableText t q4) rfl ?_ )
   rintro _ rfl
   refine ⟨rfl, ?_⟩
   refine run_s (ss_assign rfl) rfl ?_
   refine run_s (ss_assign rfl) rfl ?_
   refine run_nil ?_
   refine aw_ret ?_
   exact retAF_mk (retv2 rfl (rv_tmp rfl) (rv_tmp rfl)) rfl rfl ⟨_, (cle_refl _), _, _, h, rfl⟩

theorem c_impl_TableText (t : List (List Int)) (hp : small2 t) : AF Tryd.prog 22 [.lst (rows t)] (fun R_ => R_ = .tup [cs (if isTab t then txtI t else []), ci (if isTab t then (0 : Int) else 1)]) :=
  (w_impl_TableText t (fun y0 y1 => y0 = (if isTab t then txtI t else []) ∧ y1 = (if isTab t then (0 : Int) else 1)) (p_impl_TableText t hp)).mono (by rintro r ⟨_, _, ⟨rfl, rfl⟩, rfl⟩; rfl)

set_option maxRecDepth 100000 in
set_option maxHeartbeats 4000000 in
theorem w_impl_CycleSetText (c : List (List Int)) (Q : List UInt8 → Int → Prop) (h : wp_impl_CycleSetText c Q) : AF Tryd.prog 9 [.agg [.lst (rows c)]] (fun R_ => ∃ y0 y1, Q y0 y1 ∧ R_ = .tup [cs y0, ci y1]) := by
  refine AF.ofWQ (af_enter (n := 9) Tryd.func9 rfl (by rfl) rfl (Nat.le_of_ble_eq_true rfl) ?_)
  unfold wp_impl_CycleSetText at h
  refine aw_seq ?_
  refine aw_gh (gh_to (n := 9) (σ' := []) (env' := [(0, .c (.agg [.lst (rows c)]))]) rfl rfl ⟨rfl, trivial⟩) ?_
  refine aw_region ?_
  refine run_w (ws_boxR rfl (.inl rfl) rfl ⟨rfl, ?_⟩)
  refine run_s (ss_assign rfl) rfl ?_
  refine run_s (ss_assign rfl) rfl ?_
  refine run_nil ?_
  refine aw_seq ?_
  refine aw_region ?_
  refine run_s (ss_field_ptr rfl) rfl ?_
  refine run_s (ss_load_ptr rfl rfl) rfl ?_
  obtain ⟨q1, h⟩ := h
  refine run_w (ws_call (xs := [.tmp 5]) (ids := []) rfl rfl rfl rfl (c_impl_TableText c q1) rfl ?_ )
  rintro _ rfl
  refine ⟨rfl, ?_⟩
  refine run_s (ss_extract rfl rfl) rfl ?_
  refine run_s (ss_extract rfl rfl) rfl ?_
  refine run_s (ss_assign rfl) rfl ?_
  refine run_s (ss_assign rfl) rfl ?_
  refine run_nil ?_
  refine aw_ret ?_
  exact retAF_mk (retv2 rfl (rv_tmp rfl) (rv_tmp rfl)) rfl rfl ⟨_, (cle_refl _), _, _, h, rfl⟩

theorem c_impl_CycleSetText (c : List (List Int)) (hp : small2 c) : AF Tryd.prog 9 [.agg [.lst (rows c)]] (fun R_ => R_ = .tup [cs (if isTab c then txtI c else []), ci (if isTab c then (0 : Int) else 1)]) :=
  (w_impl_CycleSetText c (fun y0 y1 => y0 = (if isTab c then txtI c else []) ∧ y1 = (if isTab c then (0 : Int) else 1)) (p_impl_CycleSetText c hp)).mono (by rintro r ⟨_, _, ⟨rfl, rfl⟩, rfl⟩; rfl)

def wp_spec_l01From (code : List Int) (Q : List Int → Int → Int → Prop) : Prop :=
 ((0 : Int) ≤ (code.length : Int) ∧ (code.length : Int) ≤ 18446744073709551615) ∧
 ∃ (H1 : Int → Int → Prop) (m1 : Int → Int → Nat),
 H1 0 (w64 ((6553 : Int) + (code.length : Int))) ∧
 ∀ (v4_1 : Int) (f11_2_1 : Int), H1 v4_1 f11_2_1 →
 ( ((v4_1 < (code.length : Int) →
 ((v4_1 < 4096 →
 (0 ≤ v4_1 ∧ v4_1 < (code.length : Int)) ∧
 ((0 : Int) ≤ el code v4_1 ∧ el code v4_1 ≤ 18446744073709551615) ∧
 (InI (v4_1 + 1)) ∧
 (H1 (v4_1 + 1) (w64 ((w64 ((w64 (f11_2_1 * (1099511628211 : Int))) + (el code v4_1))) + (11 : Int))) ∧ m1 (v4_1 + 1) (w64 ((w64 ((w64 (f11_2_1 * (1099511628211 : Int))) + (el code v4_1))) + (11 : Int))) < m1 v4_1 f11_2_1)) ∧
 (¬ (v4_1 < 4096) →
 Q code 0 f11_2_1))) ∧
 (¬ (v4_1 < (code.length : Int)) →
 Q code 0 f11_2_1)))

def wp_spec_l01Next (s1 : List Int) (s2 : Int) (s3 : Int) (n : Int) (Q : Int → List Int → Int → Int → Prop) : Prop :=
 ((n < 1 →
 Q 0 s1 s2 s3) ∧
 (¬ (n < 1) →
 ((0 : Int) ≤ w64 ((w64 (s3 * (6364136223846793005 : Int))) + (1442695040888963407 : Int)) ∧ (0 : Int) ≤ (33 : Int) ∧ (33 : Int) ≤ 62) ∧
 (((0 : Int) ≤ (w64 ((w64 (s3 * (6364136223846793005 : Int))) + (1442695040888963407 : Int))) / (2 : Int) ^ (33 : Int).toNat ∧ (w64 ((w64 (s3 * (6364136223846793005 : Int))) + (1442695040888963407 : Int))) / (2 : Int) ^ (33 : Int).toNat ≤ 18446744073709551615) ∧ (0 : Int) ≤ (16777215 : Int) ∧ (16777215 : Int) ≤ 18446744073709551615) ∧
 (InI ((((w64 ((w64 (s3 * (6364136223846793005 : Int))) + (1442695040888963407 : Int))) / (2 : Int) ^ (33 : Int).toNat).toNat &&& (16777215 : Int).toNat : Nat) : Int)) ∧
 ((s2 < (s1.length : Int) →
 (0 ≤ s2 ∧ s2 < (s1.length : Int)) ∧
 (InI (el s1 s2)) ∧
 (InI (((((w64 ((w64 (s3 * (6364136223846793005 : Int))) + (1442695040888963407 : Int))) / (2 : Int) ^ (33 : Int).toNat).toNat &&& (16777215 : Int).toNat : Nat) : Int) + (el s1 s2))) ∧
 (InI (s2 + 1)) ∧
 ((0 : Int) ≤ ((((w64 ((w64 (s3 * (6364136223846793005 : Int))) + (1442695040888963407 : Int))) / (2 : Int) ^ (33 : Int).toNat).toNat &&& (16777215 : Int).toNat : Nat) : Int) + (el s1 s2) ∧ (0 : Int) < n) ∧
 Q ((((((w64 ((w64 (s3 * (6364136223846793005 : Int))) + (1442695040888963407 : Int))) / (2 : Int) ^ (33 : Int).toNat).toNat &&& (16777215 : Int).toNat : Nat) : Int) + (el s1 s2)) % n) s1 (s2 + 1) (w64 ((w64 (s3 * (6364136223846793005 : Int))) + (1442695040888963407 : Int)))) ∧
 (¬ (s2 < (s1.length : Int)) →
 ((0 : Int) ≤ ((((w64 ((w64 (s3 * (6364136223846793005 : Int))) + (1442695040888963407 : Int))) / (2 : Int) ^ (33 : Int).toNat).toNat &&& (16777215 : Int).toNat : Nat) : Int) ∧ (0 : Int) < n) ∧
 Q (((((w64 ((w64 (s3 * (6364136223846793005 : Int))) + (1442695040888963407 : Int))) / (2 : Int) ^ (33 : Int).toNat).toNat &&& (16777215 : Int).toNat : Nat) : Int) % n) s1 s2 (w64 ((w64 (s3 * (6364136223846793005 : Int))) + (1442695040888963407 : Int)))))))

theorem p_spec_l01From (code : List Int) (hp : small code ∧ bytes code) : wp_spec_l01From code (fun y0 y1 y2 => y0 = code ∧ okS code y1 y2) := by
  have hs : (code.length : Int) ≤ 1000000000 := hp.1
  refine ⟨⟨by omega, by omega⟩, fun i h => (0 ≤ i ∧ i ≤ (code.length : Int)) ∧ 0 ≤ h ∧ h ≤ 18446744073709551615, fun i _ => ((code.length : Int) - i).toNat, ⟨⟨by omega, by omega⟩, w64_in _⟩, ?_⟩
  rintro i h ⟨⟨i0, i1⟩, hh⟩
  dsimp only
  have fin : code = code ∧ okS code 0 h := ⟨rfl, hp, ⟨by omega, by omega⟩, hh⟩
  refine ⟨fun ilt => ⟨fun _ => ?_, fun _ => fin⟩, fun _ => fin⟩
  have hb := hp.2 i i0 ilt
  exact ⟨⟨i0, ilt⟩, ⟨hb.1, by omega⟩, ⟨by omega, by omega⟩, ⟨⟨by omega, by omega⟩, w64_in _⟩, by omega⟩
theorem p_spec_l01Next (s1 : List Int) (s2 s3 n : Int) (hp : okS s1 s2 s3 ∧ InI n) : wp_spec_l01Next s1 s2 s3 n (fun y0 w0 w1 w2 => nxP n y0 ∧ w0 = s1 ∧ okS s1 w1 w2) := by
  obtain ⟨⟨⟨hs, hb⟩, ha, hh⟩, hn⟩ := hp
  have hs' : (s1.length : Int) ≤ 1000000000 := hs
  unfold wp_spec_l01Next
  refine ⟨fun h => ⟨⟨fun _ => rfl, fun g => absurd h g⟩, rfl, ⟨hs, hb⟩, ha, hh⟩, fun h => ?_⟩
  generalize hH : w64 (w64 (s3 * (6364136223846793005 : Int)) + (1442695040888963407 : Int)) = H
  have hw : 0 ≤ H ∧ H ≤ 18446744073709551615 := by rw [← hH]; exact w64_in _
  have hd := shr_bd hw (33 : Int).toNat
  have hx := and_bd (H / (2 : Int) ^ (33 : Int).toNat).toNat
  generalize (((H / (2 : Int) ^ (33 : Int).toNat).toNat &&& (16777215 : Int).toNat : Nat) : Int) = B at hx ⊢
  have hn1 : 0 < n := by omega
  have md : ∀ z : Int, 0 ≤ z → nxP n (z % n) := fun z _ => ⟨fun g => absurd g h, fun _ => ⟨Int.emod_nonneg _ (by omega), Int.emod_lt_of_pos _ hn1⟩⟩
  refine ⟨⟨hw.1, by omega, by omega⟩, ⟨hd, by omega, by omega⟩, ⟨by omega, by omega⟩, fun g => ?_, fun g => ?_⟩
  · have hbb := hb s2 ha.1 g
    exact ⟨⟨ha.1, g⟩, ⟨by omega, by omega⟩, ⟨by omega, by omega⟩, ⟨by omega, by omega⟩, ⟨by omega, hn1⟩, md _ (by omega), rfl, ⟨hs, hb⟩, ⟨by omega, by omega⟩, hw⟩
  · exact ⟨⟨by omega, hn1⟩, md _ hx.1, rfl, ⟨hs, hb⟩, ha, hw⟩
set_option maxRecDepth 100000 in
set_option maxHeartbeats 4000000 in
theorem w_spec_l01From (code : List Int) (Q : List Int → Int → Int → Prop) (h : wp_spec_l01From code Q) : AF Tryd.prog 12 [.lst (bys code)] (fun R_ => ∃ y0 y1 y2, Q y0 y1 y2 ∧ R_ = .obox [.lst (bys y0), ci y1, cu y2]) := by
  refine AF.ofWQ (af_enter (n := 38) Tryd.func12 rfl (by rfl) rfl (Nat.le_of_ble_eq_true rfl) ?_)
  unfold wp_spec_l01From at h
  refine aw_seq ?_
  refine aw_gh (gh_to (n := 38) (σ' := []) (env' := [(0, .c (.lst (bys code)))]) rfl rfl ⟨rfl, trivial⟩) ?_
  refine aw_region ?_
  refine run_s (ss_assign rfl) rfl ?_
  refine run_nil ?_
  refine aw_seq ?_
  refine aw_region ?_
  refine run_s (ss_move rfl) rfl ?_
  refine run_s (ss_move rfl) rfl ?_
  refine run_s (ss_lenL (f := cy) rfl) rfl ?_
  obtain ⟨q1, h⟩ := h
  refine run_s (ss_convert rfl (IntWalk.u64_in _ q1)) rfl ?_
  refine run_s (ss_addU rfl rfl) rfl ?_
  refine run_s (ss_buildG (ps := [(0, .tmp 5), (2, .tmp 9)]) rfl) rfl ?_
  refine run_w (ws_boxS (id := 11) rfl rfl rfl (Nat.le_of_ble_eq_true rfl) rfl ⟨rfl, ?_⟩)
  refine run_s (ss_assign rfl) rfl ?_
  refine run_nil ?_
  refine aw_seq ?_
  refine aw_seq ?_
  refine aw_gh (gh_to (n := 38) (σ' := [(11, ⟨[.lst (bys code), ci 0, cu (w64 ((6553 : Int) + (code.length : Int)))], []⟩)]) (env' := [(0, .c (.lst (bys code))), (3, .cell 11 0)]) rfl rfl ⟨rfl, rfl, trivial⟩) ?_
  refine aw_region ?_
  refine run_s (ss_assign rfl) rfl ?_
  refine run_nil ?_
  refine aw_block ?_
  obtain ⟨H1, m1, q2, h⟩ := h
  refine aw_loop2 (fun (v4_1 : Int) (f11_2_1 : Int) => ⟨[(11, ⟨[.lst (bys code), ci 0, cu f11_2_1], []⟩)], [(0, .c (.lst (bys code))), (3, .cell 11 0), (4, .c (ci v4_1))], 38⟩) H1 m1 ⟨0, w64 ((6553 : Int) + (code.length : Int)), ghe_to (n := 38) rfl rfl ⟨rfl, rfl, rfl, trivial⟩, q2⟩ ?_
  rintro v4_1 f11_2_1 q2
  replace h := h v4_1 f11_2_1 q2
  refine aw_seq ?_
  refine aw_seq ?_
  refine aw_region ?_
  refine run_s (ss_move rfl) rfl ?_
  refine run_s (ss_move rfl) rfl ?_
  refine run_s (ss_lenL (f := cy) rfl) rfl ?_
  refine run_s (ss_lss rfl rfl) rfl ?_
  refine run_s (ss_move rfl) rfl ?_
  refine run_split (s := 16) rfl (fun q3 => ?_) (fun q3 => ?_)
  ·replace h := h.1 (of_decide_eq_true q3)
   refine run_gt rfl rfl q3 ?_
   refine run_s (ss_move rfl) rfl ?_
   refine run_gt rfl rfl q3 ?_
   refine run_s (ss_lss rfl rfl) rfl ?_
   refine run_s (ss_pickT rfl q3 rfl) rfl ?_
   refine run_nil ?_
   refine aw_cond rfl (fun q4 => ?_) (fun q4 => ?_)
   ·replace h := h.1 (of_decide_eq_true q4)
    refine aw_skip ?_
    refine aw_seq ?_
    refine aw_block ?_
    refine aw_gh (gh_to (n := 38) (σ' := [(11, ⟨[.lst (bys code), ci 0, cu f11_2_1], []⟩)]) (env' := [(0, .c (.lst (bys code))), (3, .cell 11 0), (4, .c (ci v4_1)), (17, .c (ci v4_1)), (18, .c (cb (decide (v4_1 < 4096))))]) rfl rfl ⟨rfl, rfl, rfl, rfl, rfl, trivial⟩) ?_
    refine aw_regionD (kd := kdl [0, 0, 0, 0, 1, 0, 0, 0, 0, 1, 0, 0, 0, 0, 0, 3]) (ord := [0, 1, 2, 3, 6, 7, 8, 4, 5, 9, 10, 11, 12, 13, 14, 15]) [] mixed (by kernel_rfl) ?_
    refine rd_s rfl rfl trivial (ss_move rfl) rfl ?_
    refine rd_s rfl rfl trivial (ss_move rfl) rfl ?_
    refine rd_s rfl rfl trivial (ss_nilCheck_cell rfl) rfl ?_
    refine rd_s rfl rfl trivial (ss_field_cell rfl) rfl ?_
    refine rd_s rfl rfl trivial (ss_move rfl) rfl ?_
    refine rd_s rfl rfl trivial (ss_move rfl) rfl ?_
    obtain ⟨q5, h⟩ := h
    refine rd_s rfl rfl trivial (ss_idxL rfl rfl q5) rfl ?_
    refine rd_l rfl rfl trivial (ss_loadC rfl rfl rfl rfl rfl) rfl ?_
    refine rd_s rfl rfl trivial (ss_mulU rfl rfl) rfl ?_
    refine rd_l rfl rfl trivial (ss_loadL (f := cy) rfl q5) rfl ?_
    obtain ⟨q6, h⟩ := h
    refine rd_s rfl rfl trivial (ss_convert rfl (IntWalk.u64_in _ q6)) rfl ?_
    refine rd_s rfl rfl trivial (ss_addU rfl rfl) rfl ?_
    refine rd_s rfl rfl trivial (ss_addU rfl rfl) rfl ?_
    refine rd_s rfl rfl trivial (ss_nilCheck_cell rfl) rfl ?_
    refine rd_s rfl rfl trivial (ss_field_cell rfl) rfl ?_
    refine rd_f rfl rfl trivial (ws_store rfl rfl (Nat.le_of_ble_eq_true rfl) rfl rfl ⟨rfl, ?_⟩)
    refine rd_nil ?_
    refine aw_gh (gh_to (n := 38) (σ' := [(11, ⟨[.lst (bys code), ci 0, cu (w64 ((w64 ((w64 (f11_2_1 * (1099511628211 : Int))) + (el code v4_1))) + (11 : Int)))], []⟩)]) (env' := [(0, .c (.lst (bys code))), (3, .cell 11 0), (4, .c (ci v4_1)), (17, .c (ci v4_1)), (18, .c (cb (decide (v4_1 < 4096))))]) rfl rfl ⟨rfl, rfl, rfl, rfl, rfl, trivial⟩) ?_
    refine aw_region ?_
    refine run_s (ss_move rfl) rfl ?_
    obtain ⟨q7, h⟩ := h
    refine run_s (ss_add rfl rfl q7) rfl ?_
    refine run_s (ss_assign rfl) rfl ?_
    refine run_nil ?_
    exact ⟨v4_1 + 1, w64 ((w64 ((w64 (f11_2_1 * (1099511628211 : Int))) + (el code v4_1))) + (11 : Int)), ghe_to (n := 38) rfl rfl ⟨rfl, rfl, rfl, trivial⟩, h.1, h.2⟩
   ·replace h := h.2 (of_decide_eq_false q4)
    refine aw_exit ?_
    refine aw_seq ?_
    refine aw_gh (gh_to (n := 38) (σ' := [(11, ⟨[.lst (bys code), ci 0, cu f11_2_1], []⟩)]) (env' := [(3, .cell 11 0)]) rfl rfl ⟨rfl, trivial⟩) ?_
    refine aw_region ?_
    refine run_s (ss_move rfl) rfl ?_
    refine run_s (ss_assign rfl) rfl ?_
    refine run_nil ?_
    refine aw_ret ?_
    exact retAF_mk (retv1 rfl (rv_tmp rfl)) rfl rfl ⟨_, (cle_refl _), _, _, _, h, rfl⟩
  ·replace h := h.2 (of_decide_eq_false q3)
   refine run_gf rfl rfl q3 rfl ?_
   refine run_gf rfl rfl q3 rfl ?_
   refine run_s (ss_pickF rfl q3 rfl) rfl ?_
   refine run_nil ?_
   refine aw_cond rfl (fun q8 => ?_) (fun q8 => ?_)
   ·cases q8
   ·skip
    refine aw_exit ?_
    refine aw_seq ?_
    refine aw_gh (gh_to (n := 38) (σ' := [(11, ⟨[.lst (bys code), ci 0, cu f11_2_1], []⟩)]) (env' := [(3, .cell 11 0)]) rfl rfl ⟨rfl, trivial⟩) ?_
    refine aw_region ?_
    refine run_s (ss_move rfl) rfl ?_
    refine run_s (ss_assign rfl) rfl ?_
    refine run_nil ?_
    refine aw_ret ?_
    exact retAF_mk (retv1 rfl (rv_tmp rfl)) rfl rfl ⟨_, (cle_refl _), _, _, _, h, rfl⟩

theorem c_spec_l01From (code : List Int) (hp : small code ∧ bytes code) : AF Tryd.prog 12 [.lst (bys code)] (fun R_ => ∃ y0 y1 y2, (y0 = code ∧ okS code y1 y2) ∧ R_ = .obox [.lst (bys y0), ci y1, cu y2]) :=
  w_spec_l01From code (fun y0 y1 y2 => y0 = code ∧ okS code y1 y2) (p_spec_l01From code hp)

set_option maxRecDepth 100000 in
set_option maxHeartbeats 4000000 in
theorem w_spec_l01Next (s1 : List Int) (s2 : Int) (s3 : Int) (n : Int) (Q : Int → List Int → Int → Int → Prop) (h : wp_spec_l01Next s1 s2 s3 n Q) : AM Tryd.prog 13 [.obox [.lst (bys s1), ci s2, cu s3], ci n] (fun R_ O_ => ∃ y0 w0 w1 w2, Q y0 w0 w1 w2 ∧ R_ = ci y0 ∧ O_ = [.obox [.lst (bys w0), ci w1, cu w2], ci n]) := by
  refine am_enter (n := 58) (m := 2) Tryd.func13 rfl (by rfl) rfl rfl (Nat.le_of_ble_eq_true rfl) [800] rfl ?_
  unfold wp_spec_l01Next at h
  refine aw_seq ?_
  refine aw_gh (gh_to (n := 58) (σ' := [(800, ⟨[.lst (bys s1), ci s2, cu s3], []⟩)]) (env' := [(0, .cell 800 0), (1, .c (ci n)), (58, .cell 800 0), (59, .c (ci n))]) rfl rfl ⟨rfl, rfl, rfl, rfl, trivial⟩) ?_
  refine aw_region ?_
  refine run_s (ss_assign rfl) rfl ?_
  refine run_nil ?_
  refine aw_seq ?_
  refine aw_seq ?_
  refine aw_region ?_
  refine run_s (ss_move rfl) rfl ?_
  refine run_s (ss_lss rfl rfl) rfl ?_
  refine run_nil ?_
  refine aw_cond rfl (fun q1 => ?_) (fun q1 => ?_)
  ·replace h := h.1 (of_decide_eq_true q1)
   refine aw_seq ?_
   refine aw_gh (gh_to (n := 58) (σ' := [(800, ⟨[.lst (bys s1), ci s2, cu s3], []⟩)]) (env' := [(4, .c (ci 0)), (58, .cell 800 0), (59, .c (ci n))]) rfl rfl ⟨rfl, rfl, rfl, trivial⟩) ?_
   refine aw_region ?_
   refine run_s (ss_assign rfl) rfl ?_
   refine run_nil ?_
   refine aw_ret ?_
   exact retAM_mk (retv1 rfl (rv_tmp rfl)) rfl rfl rfl ⟨_, _, _, _, h, rfl, rfl⟩
  ·replace h := h.2 (of_decide_eq_false q1)
   refine aw_skip ?_
   refine aw_seq ?_
   refine aw_region ?_
   refine run_s (ss_move rfl) rfl ?_
   refine run_s (ss_move rfl) rfl ?_
   refine run_s (ss_nilCheck_cell rfl) rfl ?_
   refine run_s (ss_field_cell rfl) rfl ?_
   refine run_s (ss_loadC rfl rfl rfl rfl rfl) rfl ?_
   refine run_s (ss_mulU rfl rfl) rfl ?_
   refine run_s (ss_addU rfl rfl) rfl ?_
   refine run_s (ss_nilCheck_cell rfl) rfl ?_
   refine run_s (ss_field_cell rfl) rfl ?_
   refine run_w (ws_store rfl rfl (Nat.le_of_ble_eq_true rfl) rfl rfl ⟨rfl, ?_⟩)
   refine run_nil ?_
   refine aw_seq ?_
   refine aw_gh (gh_to (n := 58) (σ' := [(800, ⟨[.lst (bys s1), ci s2, cu (w64 ((w64 (s3 * (6364136223846793005 : Int))) + (1442695040888963407 : Int)))], []⟩)]) (env' := [(0, .cell 800 0), (1, .c (ci n)), (58, .cell 800 0), (59, .c (ci n))]) rfl rfl ⟨rfl, rfl, rfl, rfl, trivial⟩) ?_
   refine aw_region ?_
   refine run_s (ss_move rfl) rfl ?_
   refine run_s (ss_nilCheck_cell rfl) rfl ?_
   refine run_s (ss_field_cell rfl) rfl ?_
   refine run_s (ss_loadC rfl rfl rfl rfl rfl) rfl ?_
   obtain ⟨q2, h⟩ := h
   refine run_s (ss_shrU rfl rfl q2) rfl ?_
   obtain ⟨q3, h⟩ := h
   refine run_s (ss_andU rfl rfl q3) rfl ?_
   obtain ⟨q4, h⟩ := h
   refine run_s (ss_convert rfl (wrap_in q4.1 q4.2)) rfl ?_
   refine run_s (ss_assign rfl) rfl ?_
   refine run_nil ?_
   refine aw_seq ?_
   refine aw_seq ?_
   refine aw_gh (gh_to (n := 58) (σ' := [(800, ⟨[.lst (bys s1), ci s2, cu (w64 ((w64 (s3 * (6364136223846793005 : Int))) + (1442695040888963407 : Int)))], []⟩)]) (env' := [(0, .cell 800 0), (1, .c (ci n)), (5, .c (ci ((((w64 ((w64 (s3 * (6364136223846793005 : Int))) + (1442695040888963407 : Int))) / (2 : Int) ^ (33 : Int).toNat).toNat &&& (16777215 : Int).toNat : Nat) : Int))), (58, .cell 800 0), (59, .c (ci n))]) rfl rfl ⟨rfl, rfl, rfl, rfl, rfl, trivial⟩) ?_
   refine aw_regionD (kd := kdl [0, 0, 0, 1, 0, 0, 0, 1, 0, 0]) (ord := [0, 1, 2, 4, 5, 6, 3, 7, 8, 9]) [] mixed (by kernel_rfl) ?_
   refine rd_s rfl rfl trivial (ss_move rfl) rfl ?_
   refine rd_s rfl rfl trivial (ss_nilCheck_cell rfl) rfl ?_
   refine rd_s rfl rfl trivial (ss_field_cell rfl) rfl ?_
   refine rd_s rfl rfl trivial (ss_move rfl) rfl ?_
   refine rd_s rfl rfl trivial (ss_nilCheck_cell rfl) rfl ?_
   refine rd_s rfl rfl trivial (ss_field_cell rfl) rfl ?_
   refine rd_l rfl rfl trivial (ss_loadC rfl rfl rfl rfl rfl) rfl ?_
   refine rd_l rfl rfl trivial (ss_loadC rfl rfl rfl rfl rfl) rfl ?_
   refine rd_s rfl rfl trivial (ss_lenL (f := cy) rfl) rfl ?_
   refine rd_s rfl rfl trivial (ss_lss rfl rfl) rfl ?_
   refine rd_nil ?_
   refine aw_cond rfl (fun q5 => ?_) (fun q5 => ?_)
   ·replace h := h.1 (of_decide_eq_true q5)
    refine aw_seq ?_
    refine aw_gh (gh_to (n := 58) (σ' := [(800, ⟨[.lst (bys s1), ci s2, cu (w64 ((w64 (s3 * (6364136223846793005 : Int))) + (1442695040888963407 : Int)))], []⟩)]) (env' := [(0, .cell 800 0), (1, .c (ci n)), (5, .c (ci ((((w64 ((w64 (s3 * (6364136223846793005 : Int))) + (1442695040888963407 : Int))) / (2 : Int) ^ (33 : Int).toNat).toNat &&& (16777215 : Int).toNat : Nat) : Int))), (58, .cell 800 0), (59, .c (ci n))]) rfl rfl ⟨rfl, rfl, rfl, rfl, rfl, trivial⟩) ?_
    refine aw_regionD (kd := kdl [0, 0, 0, 0, 1, 0, 0, 0, 1, 0, 1, 0, 0, 0]) (ord := [0, 1, 2, 3, 5, 6, 7, 4, 8, 9, 10, 11, 12, 13]) [] mixed (by kernel_rfl) ?_
    refine rd_s rfl rfl trivial (ss_move rfl) rfl ?_
    refine rd_s rfl rfl trivial (ss_move rfl) rfl ?_
    refine rd_s rfl rfl trivial (ss_nilCheck_cell rfl) rfl ?_
    refine rd_s rfl rfl trivial (ss_field_cell rfl) rfl ?_
    refine rd_s rfl rfl trivial (ss_move rfl) rfl ?_
    refine rd_s rfl rfl trivial (ss_nilCheck_cell rfl) rfl ?_
    refine rd_s rfl rfl trivial (ss_field_cell rfl) rfl ?_
    refine rd_l rfl rfl trivial (ss_loadC rfl rfl rfl rfl rfl) rfl ?_
    refine rd_l rfl rfl trivial (ss_loadC rfl rfl rfl rfl rfl) rfl ?_
    obtain ⟨q6, h⟩ := h
    refine rd_s rfl rfl trivial (ss_idxL rfl rfl q6) rfl ?_
    refine rd_l rfl rfl trivial (ss_loadL (f := cy) rfl q6) rfl ?_
    obtain ⟨q7, h⟩ := h
    refine rd_s rfl rfl trivial (ss_convert rfl (wrap_in q7.1 q7.2)) rfl ?_
    obtain ⟨q8, h⟩ := h
    refine rd_s rfl rfl trivial (ss_add rfl rfl q8) rfl ?_
    refine rd_s rfl rfl trivial (ss_assign rfl) rfl ?_
    refine rd_nil ?_
    refine aw_gh (gh_to (n := 58) (σ' := [(800, ⟨[.lst (bys s1), ci s2, cu (w64 ((w64 (s3 * (6364136223846793005 : Int))) + (1442695040888963407 : Int)))], []⟩)]) (env' := [(0, .cell 800 0), (1, .c (ci n)), (5, .c (ci (((((w64 ((w64 (s3 * (6364136223846793005 : Int))) + (1442695040888963407 : Int))) / (2 : Int) ^ (33 : Int).toNat).toNat &&& (16777215 : Int).toNat : Nat) : Int) + (el s1 s2)))), (58, .cell 800 0), (59, .c (ci n))]) rfl rfl ⟨rfl, rfl, rfl, rfl, rfl, trivial⟩) ?_
    refine aw_region ?_
    refine run_s (ss_move rfl) rfl ?_
    refine run_s (ss_move rfl) rfl ?_
    refine run_s (ss_nilCheck_cell rfl) rfl ?_
    refine run_s (ss_field_cell rfl) rfl ?_
    refine run_s (ss_loadC rfl rfl rfl rfl rfl) rfl ?_
    obtain ⟨q9, h⟩ := h
    refine run_s (ss_add rfl rfl q9) rfl ?_
    refine run_s (ss_nilCheck_cell rfl) rfl ?_
    refine run_s (ss_field_cell rfl) rfl ?_
    refine run_w (ws_store rfl rfl (Nat.le_of_ble_eq_true rfl) rfl rfl ⟨rfl, ?_⟩)
    refine run_nil ?_
    refine aw_seq ?_
    refine aw_gh (gh_to (n := 58) (σ' := [(800, ⟨[.lst (bys s1), ci (s2 + 1), cu (w64 ((w64 (s3 * (6364136223846793005 : Int))) + (1442695040888963407 : Int)))], []⟩)]) (env' := [(1, .c (ci n)), (5, .c (ci (((((w64 ((w64 (s3 * (6364136223846793005 : Int))) + (1442695040888963407 : Int))) / (2 : Int) ^ (33 : Int).toNat).toNat &&& (16777215 : Int).toNat : Nat) : Int) + (el s1 s2)))), (58, .cell 800 0), (59, .c (ci n))]) rfl rfl ⟨rfl, rfl, rfl, rfl, trivial⟩) ?_
    refine aw_region ?_
    refine run_s (ss_move rfl) rfl ?_
    refine run_s (ss_move rfl) rfl ?_
    obtain ⟨q10, h⟩ := h
    refine run_s (ss_rem rfl rfl q10) rfl ?_
    refine run_s (ss_assign rfl) rfl ?_
    refine run_nil ?_
    refine aw_ret ?_
    exact retAM_mk (retv1 rfl (rv_tmp rfl)) rfl rfl rfl ⟨_, _, _, _, h, rfl, rfl⟩
   ·replace h := h.2 (of_decide_eq_false q5)
    refine aw_skip ?_
    refine aw_seq ?_
    refine aw_gh (gh_to (n := 58) (σ' := [(800, ⟨[.lst (bys s1), ci s2, cu (w64 ((w64 (s3 * (6364136223846793005 : Int))) + (1442695040888963407 : Int)))], []⟩)]) (env' := [(1, .c (ci n)), (5, .c (ci ((((w64 ((w64 (s3 * (6364136223846793005 : Int))) + (1442695040888963407 : Int))) / (2 : Int) ^ (33 : Int).toNat).toNat &&& (16777215 : Int).toNat : Nat) : Int))), (58, .cell 800 0), (59, .c (ci n))]) rfl rfl ⟨rfl, rfl, rfl, rfl, trivial⟩) ?_
    refine aw_region ?_
    refine run_s (ss_move rfl) rfl ?_
    refine run_s (ss_move rfl) rfl ?_
    obtain ⟨q11, h⟩ := h
    refine run_s (ss_rem rfl rfl q11) rfl ?_
    refine run_s (ss_assign rfl) rfl ?_
    refine run_nil ?_
    refine aw_ret ?_
    exact retAM_mk (retv1 rfl (rv_tmp rfl)) rfl rfl rfl ⟨_, _, _, _, h, rfl, rfl⟩

theorem c_spec_l01Next (s1 : List Int) (s2 : Int) (s3 : Int) (n : Int) (hp : okS s1 s2 s3 ∧ InI n) : AM Tryd.prog 13 [.obox [.lst (bys s1), ci s2, cu s3], ci n] (fun R_ O_ => ∃ y0 w0 w1 w2, (nxP n y0 ∧ w0 = s1 ∧ okS s1 w1 w2) ∧ R_ = ci y0 ∧ O_ = [.obox [.lst (bys w0), ci w1, cu w2], ci n]) :=
  w_spec_l01Next s1 s2 s3 n (fun y0 w0 w1 w2 => nxP n y0 ∧ w0 = s1 ∧ okS s1 w1 w2) (p_spec_l01Next s1 s2 s3 n hp)

def wp_laws_big (code : List Int) (Q : Bool → Prop) : Prop :=
 Q (decide (4096 < (code.length : Int)))

theorem p_laws_big (code : List Int) : wp_laws_big code (fun y0 => y0 = decide (4096 < (code.length : Int))) := rfl

set_option maxRecDepth 100000 in
set_option maxHeartbeats 4000000 in
theorem w_laws_big (code : List Int) (Q : Bool → Prop) (h : wp_laws_big code Q) : AF Tryd.prog 4 [.lst (bys code)] (fun R_ => ∃ y0, Q y0 ∧ R_ = cb y0) := by
  refine AF.ofWQ (af_enter (n := 6) Tryd.func4 rfl (by rfl) rfl (Nat.le_of_ble_eq_true rfl) ?_)
  unfold wp_laws_big at h
  refine aw_seq ?_
  refine aw_gh (gh_to (n := 6) (σ' := []) (env' := [(0, .c (.lst (bys code)))]) rfl rfl ⟨rfl, trivial⟩) ?_
  refine aw_region ?_
  refine run_s (ss_assign rfl) rfl ?_
  refine run_nil ?_
  refine aw_seq ?_
  refine aw_region ?_
  refine run_s (ss_move rfl) rfl ?_
  refine run_s (ss_lenL (f := cy) rfl) rfl ?_
  refine run_s (ss_gtr rfl rfl) rfl ?_
  refine run_s (ss_assign rfl) rfl ?_
  refine run_nil ?_
  refine aw_ret ?_
  exact retAF_mk (retv1 rfl (rv_tmp rfl)) rfl rfl ⟨_, (cle_refl _), _, h, rfl⟩

theorem c_laws_big (code : List Int)  : AF Tryd.prog 4 [.lst (bys code)] (fun R_ => R_ = cb (decide (4096 < (code.length : Int)))) :=
  (w_laws_big code (fun y0 => y0 = decide (4096 < (code.length : Int))) (p_laws_big code)).mono (by rintro r ⟨_, rfl, rfl⟩; rfl)

def wp_laws_likeInts (a : List Int) (b : List Int) (Q : Bool → Prop) : Prop :=
 ((¬ ((a.length : Int) = (b.length : Int)) →
 Q false) ∧
 ((a.length : Int) = (b.length : Int) →
 ∃ (H1 : Int → Prop) (m1 : Int → Nat),
 H1 0 ∧
 ∀ (v5_1 : Int), H1 v5_1 →
 ( ((v5_1 < (a.length : Int) →
 (0 ≤ v5_1 ∧ v5_1 < (a.length : Int)) ∧
 (0 ≤ v5_1 ∧ v5_1 < (b.length : Int)) ∧
 ((¬ (el a v5_1 = el b v5_1) →
 Q false) ∧
 (el a v5_1 = el b v5_1 →
 (InI (v5_1 + 1)) ∧
 (H1 (v5_1 + 1) ∧ m1 (v5_1 + 1) < m1 v5_1)))) ∧
 (¬ (v5_1 < (a.length : Int)) →
 Q true)))))

theorem p_laws_likeInts (a b : List Int) (hp : small a ∧ small b) : wp_laws_likeInts a b (fun y0 => y0 = decide (a = b)) := by
  unfold wp_laws_likeInts
  obtain ⟨ha, hb⟩ := hp
  refine ⟨fun h => (decide_eq_false fun e => h (by rw [e])).symm, fun h => ⟨fun i => 0 ≤ i ∧ i ≤ (a.length : Int) ∧ Upto i fun j => el a j = el b j, fun i => ((a.length : Int) - i).toNat, ⟨by omega, by omega, upto0⟩, ?_⟩⟩
  rintro i ⟨h0, h1, hI⟩
  dsimp only
  refine ⟨fun hlt => ⟨⟨h0, hlt⟩, ⟨h0, by omega⟩, fun hf => (decide_eq_false fun e => hf (by rw [e])).symm, fun ht => ⟨⟨by omega, by omega⟩, ⟨by omega, by omega, upto1 hI ht⟩, by omega⟩⟩, fun hge => ?_⟩
  exact (decide_eq_true (ext_el (by omega) fun j h2 h3 => hI j h2 (by omega))).symm
set_option maxRecDepth 100000 in
set_option maxHeartbeats 4000000 in
theorem w_laws_likeInts (a : List Int) (b : List Int) (Q : Bool → Prop) (h : wp_laws_likeInts a b Q) : AF Tryd.prog 21 [.lst (ints a), .lst (ints b)] (fun R_ => ∃ y0, Q y0 ∧ R_ = cb y0) := by
  refine AF.ofWQ (af_enter (n := 26) Tryd.func21 rfl (by rfl) rfl (Nat.le_of_ble_eq_true rfl) ?_)
  unfold wp_laws_likeInts at h
  refine aw_seq ?_
  refine aw_gh (gh_to (n := 26) (σ' := []) (env' := [(0, .c (.lst (ints a))), (1, .c (.lst (ints b)))]) rfl rfl ⟨rfl, rfl, trivial⟩) ?_
  refine aw_region ?_
  refine run_s (ss_assign rfl) rfl ?_
  refine run_nil ?_
  refine aw_seq ?_
  refine aw_seq ?_
  refine aw_region ?_
  refine run_s (ss_move rfl) rfl ?_
  refine run_s (ss_lenL (f := ci) rfl) rfl ?_
  refine run_s (ss_move rfl) rfl ?_
  refine run_s (ss_lenL (f := ci) rfl) rfl ?_
  refine run_s (ss_neq rfl rfl) rfl ?_
  refine run_nil ?_
  refine aw_cond rfl (fun q1 => ?_) (fun q1 => ?_)
  ·replace h := h.1 (of_decide_eq_false (bnot_t q1))
   refine aw_seq ?_
   refine aw_gh (gh_to (n := 26) (σ' := []) (env' := [(4, .c (cb false))]) rfl rfl ⟨rfl, trivial⟩) ?_
   refine aw_region ?_
   refine run_s (ss_assign rfl) rfl ?_
   refine run_nil ?_
   refine aw_ret ?_
   exact retAF_mk (retv1 rfl (rv_tmp rfl)) rfl rfl ⟨_, (cle_refl _), _, h, rfl⟩
  ·replace h := h.2 (of_decide_eq_true (bnot_f q1))
   refine aw_skip ?_
   refine aw_seq ?_
   refine aw_seq ?_
   refine aw_gh (gh_to (n := 26) (σ' := []) (env' := [(0, .c (.lst (ints a))), (1, .c (.lst (ints b)))]) rfl rfl ⟨rfl, rfl, trivial⟩) ?_
   refine aw_region ?_
   refine run_s (ss_assign rfl) rfl ?_
   refine run_nil ?_
   refine aw_block ?_
   obtain ⟨H1, m1, q2, h⟩ := h
   refine aw_loop1 (fun (v5_1 : Int) => ⟨[], [(0, .c (.lst (ints a))), (1, .c (.lst (ints b))), (5, .c (ci v5_1))], 26⟩) H1 m1 ⟨0, ghe_to (n := 26) rfl rfl ⟨rfl, rfl, rfl, trivial⟩, q2⟩ ?_
   rintro v5_1 q2
   replace h := h v5_1 q2
   refine aw_seq ?_
   refine aw_seq ?_
   refine aw_region ?_
   refine run_s (ss_move rfl) rfl ?_
   refine run_s (ss_move rfl) rfl ?_
   refine run_s (ss_lenL (f := ci) rfl) rfl ?_
   refine run_s (ss_lss rfl rfl) rfl ?_
   refine run_nil ?_
   refine aw_cond rfl (fun q3 => ?_) (fun q3 => ?_)
   ·replace h := h.1 (of_decide_eq_true q3)
    refine aw_skip ?_
    refine aw_seq ?_
    refine aw_block ?_
    refine aw_seq ?_
    refine aw_gh (gh_to (n := 26) (σ' := []) (env' := [(0, .c (.lst (ints a))), (1, .c (.lst (ints b))), (5, .c (ci v5_1))]) rfl rfl ⟨rfl, rfl, rfl, trivial⟩) ?_
    refine aw_regionD (kd := kdl [0, 0, 0, 1, 0, 0, 0, 1, 0]) (ord := [0, 1, 2, 4, 5, 6, 3, 7, 8]) [] mixed (by kernel_rfl) ?_
    refine rd_s rfl rfl trivial (ss_move rfl) rfl ?_
    refine rd_s rfl rfl trivial (ss_move rfl) rfl ?_
    obtain ⟨q4, h⟩ := h
    refine rd_s rfl rfl trivial (ss_idxL rfl rfl q4) rfl ?_
    refine rd_s rfl rfl trivial (ss_move rfl) rfl ?_
    refine rd_s rfl rfl trivial (ss_move rfl) rfl ?_
    obtain ⟨q5, h⟩ := h
    refine rd_s rfl rfl trivial (ss_idxL rfl rfl q5) rfl ?_
    refine rd_l rfl rfl trivial (ss_loadL (f := ci) rfl q4) rfl ?_
    refine rd_l rfl rfl trivial (ss_loadL (f := ci) rfl q5) rfl ?_
    refine rd_s rfl rfl trivial (ss_neq rfl rfl) rfl ?_
    refine rd_nil ?_
    refine aw_cond rfl (fun q6 => ?_) (fun q6 => ?_)
    ·replace h := h.1 (of_decide_eq_false (bnot_t q6))
     refine aw_seq ?_
     refine aw_gh (gh_to (n := 26) (σ' := []) (env' := []) rfl rfl trivial) ?_
     refine aw_region ?_
     refine run_s (ss_assign rfl) rfl ?_
     refine run_nil ?_
     refine aw_ret ?_
     exact retAF_mk (retv1 rfl (rv_tmp rfl)) rfl rfl ⟨_, (cle_refl _), _, h, rfl⟩
    ·replace h := h.2 (of_decide_eq_true (bnot_f q6))
     refine aw_skip ?_
     refine aw_gh (gh_to (n := 26) (σ' := []) (env' := [(0, .c (.lst (ints a))), (1, .c (.lst (ints b))), (5, .c (ci v5_1))]) rfl rfl ⟨rfl, rfl, rfl, trivial⟩) ?_
     refine aw_region ?_
     refine run_s (ss_move rfl) rfl ?_
     obtain ⟨q7, h⟩ := h
     refine run_s (ss_add rfl rfl q7) rfl ?_
     refine run_s (ss_assign rfl) rfl ?_
     refine run_nil ?_
     exact ⟨v5_1 + 1, ghe_to (n := 26) rfl rfl ⟨rfl, rfl, rfl, trivial⟩, h.1, h.2⟩
   ·replace h := h.2 (of_decide_eq_false q3)
    refine aw_exit ?_
    refine aw_seq ?_
    refine aw_gh (gh_to (n := 26) (σ' := []) (env' := []) rfl rfl trivial) ?_
    refine aw_region ?_
    refine run_s (ss_assign rfl) rfl ?_
    refine run_nil ?_
    refine aw_ret ?_
    exact retAF_mk (retv1 rfl (rv_tmp rfl)) rfl rfl ⟨_, (cle_refl _), _, h, rfl⟩

theorem c_laws_likeInts (a : List Int) (b : List Int) (hp : small a ∧ small b) : AF Tryd.prog 21 [.lst (ints a), .lst (ints b)] (fun R_ => R_ = cb (decide (a = b))) :=
  (w_laws_likeInts a b (fun y0 => y0 = decide (a = b)) (p_laws_likeInts a b hp)).mono (by rintro r ⟨_, rfl, rfl⟩; rfl)

def wp_spec_l01Pick (s1 : List Int) (s2 : Int) (s3 : Int) (list : List Int) (Q : Int → List Int → Int → Int → List Int → Prop) : Prop :=
 (okS s1 s2 s3 ∧ InI (list.length : Int)) ∧
 ∀ (r1_0 : Int) (o1_0 : List Int) (o1_1 : Int) (o1_2 : Int), (nxP (list.length : Int) r1_0 ∧ o1_0 = s1 ∧ okS s1 o1_1 o1_2) →
 (0 ≤ r1_0 ∧ r1_0 < (list.length : Int)) ∧
 Q (el list r1_0) o1_0 o1_1 o1_2 list

def wp_laws_likeRows5 (a : List (List Int)) (b : List (List Int)) (Q : Bool → Prop) : Prop :=
 ((¬ ((a.length : Int) = (b.length : Int)) →
 Q false) ∧
 ((a.length : Int) = (b.length : Int) →
 ∃ (H1 : Int → Prop) (m1 : Int → Nat),
 H1 0 ∧
 ∀ (v5_1 : Int), H1 v5_1 →
 ( ((v5_1 < (a.length : Int) →
 (0 ≤ v5_1 ∧ v5_1 < (a.length : Int)) ∧
 (0 ≤ v5_1 ∧ v5_1 < (b.length : Int)) ∧
 (small (el a v5_1) ∧ small (el b v5_1)) ∧
 ((¬ ((el a v5_1) = (el b v5_1)) →
 Q false) ∧
 ((el a v5_1) = (el b v5_1) →
 (InI (v5_1 + 1)) ∧
 (H1 (v5_1 + 1) ∧ m1 (v5_1 + 1) < m1 v5_1)))) ∧
 (¬ (v5_1 < (a.length : Int)) →
 Q true)))))

theorem p_spec_l01Pick (s1 : List Int) (s2 s3 : Int) (list : List Int) (hp : okS s1 s2 s3 ∧ 1 ≤ (list.length : Int) ∧ small list) : wp_spec_l01Pick s1 s2 s3 list (fun y0 w0 w1 w2 w3 => (y0 ∈ list) ∧ w0 = s1 ∧ okS s1 w1 w2 ∧ w3 = list) := by
  obtain ⟨hS, h1, hs⟩ := hp
  have hs' : (list.length : Int) ≤ 1000000000 := hs
  refine ⟨⟨hS, by omega, by omega⟩, ?_⟩
  rintro r o0 o1 o2 ⟨hr, rfl, h2⟩
  have := hr.2 (by omega)
  exact ⟨this, el_mem this, rfl, h2, rfl⟩
theorem p_laws_likeRows5 (a b : List (List Int)) (hp : small2 a ∧ small2 b) : wp_laws_likeRows5 a b (fun y0 => y0 = decide (a = b)) := by
  unfold wp_laws_likeRows5
  obtain ⟨⟨ha, ha2⟩, hb, hb2⟩ := hp
  refine ⟨fun h => (decide_eq_false fun e => h (by rw [e])).symm, fun h => ⟨fun i => 0 ≤ i ∧ i ≤ (a.length : Int) ∧ Upto i fun j => el a j = el b j, fun i => ((a.length : Int) - i).toNat, ⟨by omega, by omega, upto0⟩, ?_⟩⟩
  rintro i ⟨h0, h1, hI⟩
  have ha' : (a.length : Int) ≤ 1000000000 := ha
  dsimp only
  refine ⟨fun hlt => ⟨⟨h0, hlt⟩, ⟨h0, by omega⟩, ⟨ha2 _ (el_mem ⟨h0, hlt⟩), hb2 _ (el_mem ⟨h0, by omega⟩)⟩, fun hf => (decide_eq_false fun e => hf (by rw [e])).symm, fun ht => ⟨⟨by omega, by omega⟩, ⟨by omega, by omega, upto1 hI ht⟩, by omega⟩⟩, fun hge => ?_⟩
  exact (decide_eq_true (ext_el (by omega) fun j h2 h3 => hI j h2 (by omega))).symm
set_option maxRecDepth 100000 in
set_option maxHeartbeats 4000000 in
theorem w_spec_l01Pick (s1 : List Int) (s2 : Int) (s3 : Int) (list : List Int) (Q : Int → List Int → Int → Int → List Int → Prop) (h : wp_spec_l01Pick s1 s2 s3 list Q) : AM Tryd.prog 14 [.obox [.lst (bys s1), ci s2, cu s3], .own (ints list)] (fun R_ O_ => ∃ y0 w0 w1 w2 w3, Q y0 w0 w1 w2 w3 ∧ R_ = ci y0 ∧ O_ = [.obox [.lst (bys w0), ci w1, cu w2], .own (ints w3)]) := by
  refine am_enter (n := 12) (m := 2) Tryd.func14 rfl (by rfl) rfl rfl (Nat.le_of_ble_eq_true rfl) [800, 801] rfl ?_
  unfold wp_spec_l01Pick at h
  refine aw_seq ?_
  refine aw_gh (gh_to (n := 12) (σ' := [(800, ⟨[.lst (bys s1), ci s2, cu s3], []⟩), (801, ⟨ints list, []⟩)]) (env' := [(0, .cell 800 0), (1, .ref 801), (12, .cell 800 0), (13, .ref 801)]) rfl rfl ⟨rfl, rfl, rfl, rfl, trivial⟩) ?_
  refine aw_region ?_
  refine run_s (ss_assign rfl) rfl ?_
  refine run_nil ?_
  refine aw_seq ?_
  refine aw_region ?_
  refine run_s (ss_move rfl) rfl ?_
  refine run_s (ss_move rfl) rfl ?_
  refine run_s (ss_move rfl) rfl ?_
  refine run_s (ss_lenR (f := ci) rfl rfl) rfl ?_
  obtain ⟨q1, h⟩ := h
  refine run_w (ws_callM (xs := [.tmp 6, .tmp 8]) (cs := [.obox [.lst (bys s1), ci s2, cu s3], ci (list.length : Int)]) (ids := []) rfl (.inr ⟨rfl, rfl⟩) rfl rfl rfl (c_spec_l01Next s1 s2 s3 (list.length : Int) q1) rfl rfl ?_ )
  rintro _ _ ⟨r1_0, o1_0, o1_1, o1_2, q2, rfl, rfl⟩
  replace h := h r1_0 o1_0 o1_1 o1_2 q2
  refine ⟨rfl, rfl, ?_⟩
  obtain ⟨q3, h⟩ := h
  refine run_s (ss_idxR (f := ci) rfl rfl rfl q3) rfl ?_
  refine run_s (ss_loadR (f := ci) rfl rfl q3 rfl rfl) rfl ?_
  refine run_s (ss_assign rfl) rfl ?_
  refine run_nil ?_
  refine aw_ret ?_
  exact retAM_mk (retv1 rfl (rv_tmp rfl)) rfl rfl rfl ⟨_, _, _, _, _, h, rfl, rfl⟩

theorem c_spec_l01Pick (s1 : List Int) (s2 : Int) (s3 : Int) (list : List Int) (hp : okS s1 s2 s3 ∧ 1 ≤ (list.length : Int) ∧ small list) : AM Tryd.prog 14 [.obox [.lst (bys s1), ci s2, cu s3], .own (ints list)] (fun R_ O_ => ∃ y0 w0 w1 w2 w3, ((y0 ∈ list) ∧ w0 = s1 ∧ okS s1 w1 w2 ∧ w3 = list) ∧ R_ = ci y0 ∧ O_ = [.obox [.lst (bys w0), ci w1, cu w2], .own (ints w3)]) :=
  w_spec_l01Pick s1 s2 s3 list (fun y0 w0 w1 w2 w3 => (y0 ∈ list) ∧ w0 = s1 ∧ okS s1 w1 w2 ∧ w3 = list) (p_spec_l01Pick s1 s2 s3 list hp)

set_option maxRecDepth 100000 in
set_option maxHeartbeats 4000000 in
theorem w_laws_likeRows5 (a : List (List Int)) (b : List (List Int)) (Q : Bool → Prop) (h : wp_laws_likeRows5 a b Q) : AF Tryd.prog 8 [.lst (rows a), .lst (rows b)] (fun R_ => ∃ y0, Q y0 ∧ R_ = cb y0) := by
  refine AF.ofWQ (af_enter (n := 27) Tryd.func8 rfl (by rfl) rfl (Nat.le_of_ble_eq_true rfl) ?_)
  unfold wp_laws_likeRows5 at h
  refine aw_seq ?_
  refine aw_gh (gh_to (n := 27) (σ' := []) (env' := [(0, .c (.lst (rows a))), (1, .c (.lst (rows b)))]) rfl rfl ⟨rfl, rfl, trivial⟩) ?_
  refine aw_region ?_
  refine run_s (ss_assign rfl) rfl ?_
  refine run_nil ?_
  refine aw_seq ?_
  refine aw_seq ?_
  refine aw_region ?_
  refine run_s (ss_move rfl) rfl ?_
  refine run_s (ss_lenL (f := (fun r => C.lst (ints r))) rfl) rfl ?_
  refine run_s (ss_move rfl) rfl ?_
  refine run_s (ss_lenL (f := (fun r => C.lst (ints r))) rfl) rfl ?_
  refine run_s (ss_neq rfl rfl) rfl ?_
  refine run_nil ?_
  refine aw_cond rfl (fun q1 => ?_) (fun q1 => ?_)
  ·replace h := h.1 (of_decide_eq_false (bnot_t q1))
   refine aw_seq ?_
   refine aw_gh (gh_to (n := 27) (σ' := []) (env' := [(4, .c (cb false))]) rfl rfl ⟨rfl, trivial⟩) ?_
   refine aw_region ?_
   refine run_s (ss_assign rfl) rfl ?_
   refine run_nil ?_
   refine aw_ret ?_
   exact retAF_mk (retv1 rfl (rv_tmp rfl)) rfl rfl ⟨_, (cle_refl _), _, h, rfl⟩
  ·replace h := h.2 (of_decide_eq_true (bnot_f q1))
   refine aw_skip ?_
   refine aw_seq ?_
   refine aw_seq ?_
   refine aw_gh (gh_to (n := 27) (σ' := []) (env' := [(0, .c (.lst (rows a))), (1, .c (.lst (rows b)))]) rfl rfl ⟨rfl, rfl, trivial⟩) ?_
   refine aw_region ?_
   refine run_s (ss_assign rfl) rfl ?_
   refine run_nil ?_
   refine aw_block ?_
   obtain ⟨H1, m1, q2, h⟩ := h
   refine aw_loop1 (fun (v5_1 : Int) => ⟨[], [(0, .c (.lst (rows a))), (1, .c (.lst (rows b))), (5, .c (ci v5_1))], 27⟩) H1 m1 ⟨0, ghe_to (n := 27) rfl rfl ⟨rfl, rfl, rfl, trivial⟩, q2⟩ ?_
   rintro v5_1 q2
   replace h := h v5_1 q2
   refine aw_seq ?_
   refine aw_seq ?_
   refine aw_region ?_
   refine run_s (ss_move rfl) rfl ?_
   refine run_s (ss_move rfl) rfl ?_
   refine run_s (ss_lenL (f := (fun r => C.lst (ints r))) rfl) rfl ?_
   refine run_s (ss_lss rfl rfl) rfl ?_
   refine run_nil ?_
   refine aw_cond rfl (fun q3 => ?_) (fun q3 => ?_)
   ·replace h := h.1 (of_decide_eq_true q3)
    refine aw_skip ?_
    refine aw_seq ?_
    refine aw_block ?_
    refine aw_seq ?_
    refine aw_gh (gh_to (n := 27) (σ' := []) (env' := [(0, .c (.lst (rows a))), (1, .c (.lst (rows b))), (5, .c (ci v5_1))]) rfl rfl ⟨rfl, rfl, rfl, trivial⟩) ?_
    refine aw_regionD (kd := kdl [0, 0, 0, 1, 0, 0, 0, 1, 2, 0]) (ord := [0, 1, 2, 4, 5, 6, 3, 7, 8, 9]) [] mixed (by kernel_rfl) ?_
    refine rd_s rfl rfl trivial (ss_move rfl) rfl ?_
    refine rd_s rfl rfl trivial (ss_move rfl) rfl ?_
    obtain ⟨q4, h⟩ := h
    refine rd_s rfl rfl trivial (ss_idxL rfl rfl q4) rfl ?_
    refine rd_s rfl rfl trivial (ss_move rfl) rfl ?_
    refine rd_s rfl rfl trivial (ss_move rfl) rfl ?_
    obtain ⟨q5, h⟩ := h
    refine rd_s rfl rfl trivial (ss_idxL rfl rfl q5) rfl ?_
    refine rd_l rfl rfl trivial (ss_loadL (f := (fun r => C.lst (ints r))) rfl q4) rfl ?_
    refine rd_l rfl rfl trivial (ss_loadL (f := (fun r => C.lst (ints r))) rfl q5) rfl ?_
    obtain ⟨q6, h⟩ := h
    refine rd_w rfl rfl trivial rfl rfl (ws_call (xs := [.tmp 20, .tmp 24]) (ids := []) rfl rfl rfl rfl (c_laws_likeInts (el a v5_1) (el b v5_1) q6) rfl ?_ )
    rintro _ rfl
    refine ⟨rfl, ?_⟩
    refine rd_s rfl rfl trivial (ss_not rfl) rfl ?_
    refine rd_nil ?_
    refine aw_cond rfl (fun q8 => ?_) (fun q8 => ?_)
    ·replace h := h.1 (of_decide_eq_false (bnot_t q8))
     refine aw_seq ?_
     refine aw_gh (gh_to (n := 27) (σ' := []) (env' := []) rfl rfl trivial) ?_
     refine aw_region ?_
     refine run_s (ss_assign rfl) rfl ?_
     refine run_nil ?_
     refine aw_ret ?_
     exact retAF_mk (retv1 rfl (rv_tmp rfl)) rfl rfl ⟨_, (cle_refl _), _, h, rfl⟩
    ·replace h := h.2 (of_decide_eq_true (bnot_f q8))
     refine aw_skip ?_
     refine aw_gh (gh_to (n := 27) (σ' := []) (env' := [(0, .c (.lst (rows a))), (1, .c (.lst (rows b))), (5, .c (ci v5_1))]) rfl rfl ⟨rfl, rfl, rfl, trivial⟩) ?_
     refine aw_region ?_
     refine run_s (ss_move rfl) rfl ?_
     obtain ⟨q9, h⟩ := h
     refine run_s (ss_add rfl rfl q9) rfl ?_
     refine run_s (ss_assign rfl) rfl ?_
     refine run_nil ?_
     exact ⟨v5_1 + 1, ghe_to (n := 27) rfl rfl ⟨rfl, rfl, rfl, trivial⟩, h.1, h.2⟩
   ·replace h := h.2 (of_decide_eq_false q3)
    refine aw_exit ?_
    refine aw_seq ?_
    refine aw_gh (gh_to (n := 27) (σ' := []) (env' := []) rfl rfl trivial) ?_
    refine aw_region ?_
    refine run_s (ss_assign rfl) rfl ?_
    refine run_nil ?_
    refine aw_ret ?_
    exact retAF_mk (retv1 rfl (rv_tmp rfl)) rfl rfl ⟨_, (cle_refl _), _, h, rfl⟩

theorem c_laws_likeRows5 (a : List (List Int)) (b : List (List Int)) (hp : small2 a ∧ small2 b) : AF Tryd.prog 8 [.lst (rows a), .lst (rows b)] (fun R_ => R_ = cb (decide (a = b))) :=
  (w_laws_likeRows5 a b (fun y0 => y0 = decide (a = b)) (p_laws_likeRows5 a b hp)).mono (by rintro r ⟨_, rfl, rfl⟩; rfl)

set_option maxRecDepth 100000 in
section
variable {a b : List (List (List Int))} {f f1 f2 : List Int} {u1 u2 : List Bool} {s s1 s2 : List Int} {x v : Int}
end
section
variable {a b : List (List (List Int))} {f c c' p : List Int}
end
theorem take1 {α : Type} [Inhabited α] {l : List α} : (((l.take (1 : Int).toNat).length : Int) = 0 ↔ l = []) ∧ (l ≠ [] → el (l.take (1 : Int).toNat) 0 = el l 0) := by
  cases l with
  | nil => simp
  | cons x l => simp [el]
section
variable {n : Int} {l : List (List Int)}
end
end Go.Proofs.YtjolbldlhjfciaaDoor
