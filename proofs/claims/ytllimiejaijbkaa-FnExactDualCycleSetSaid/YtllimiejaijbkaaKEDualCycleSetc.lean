/- Contracts of functions that the law FnExactDualCycleSet reaches: conditions, plain proofs, walks; no condition. -/
import Derived.Test.YtllimiejaijbkaaKEDualCycleSetb
import Derived.Test.YtllimiejaijbkaaPc
namespace Go.Proofs.Ytllimiejaijbkaa

def wp_k_Index (s : List Int) (v : Int) (Q : Int → Prop) : Prop :=
 ∃ (H1 : Int → Prop) (m1 : Int → Nat),
 H1 0 ∧
 ∀ (v8_1 : Int), H1 v8_1 →
 ( ((v8_1 < (s.length : Int) →
   (0 ≤ v8_1 ∧ v8_1 < (s.length : Int)) ∧
   ((v = el s v8_1 →
    Q v8_1) ∧
   (¬ (v = el s v8_1) →
    (InI (v8_1 + 1)) ∧
    (H1 (v8_1 + 1) ∧ m1 (v8_1 + 1) < m1 v8_1)))) ∧
  (¬ (v8_1 < (s.length : Int)) →
   Q (-1))))

def wp_spec_l01Back (p : List Int) (Q : List Int → Prop) : Prop :=
 (0 ≤ (p.length : Int) ∧ (p.length : Int) ≤ 1000000000) ∧
 ∃ (H1 : Int → List Int → Prop) (m1 : Int → List Int → Nat),
 H1 0 (List.replicate (p.length : Int).toNat (0 : Int)) ∧
 ∀ (v4_1 : Int) (o7_1 : List Int), H1 v4_1 o7_1 →
 ( ((v4_1 < (p.length : Int) →
   (0 ≤ v4_1 ∧ v4_1 < (p.length : Int)) ∧
   (0 ≤ el p v4_1 ∧ el p v4_1 < (o7_1.length : Int)) ∧
   (InI (v4_1 + 1)) ∧
   (H1 (v4_1 + 1) (se o7_1 (el p v4_1) v4_1) ∧ m1 (v4_1 + 1) (se o7_1 (el p v4_1) v4_1) < m1 v4_1 o7_1)) ∧
  (¬ (v4_1 < (p.length : Int)) →
   Q o7_1)))

def wp_impl_inverse (p : List Int) (Q : List Int → Prop) : Prop :=
 (0 ≤ (p.length : Int) ∧ (p.length : Int) ≤ 1000000000) ∧
 ∃ (H1 : Int → List Int → Prop) (m1 : Int → List Int → Nat),
 H1 0 (List.replicate (p.length : Int).toNat (0 : Int)) ∧
 ∀ (v11_1 : Int) (o8_1 : List Int), H1 v11_1 o8_1 →
 ( ((v11_1 < (p.length : Int) →
   (0 ≤ v11_1 ∧ v11_1 < (p.length : Int)) ∧
   (0 ≤ el p v11_1 ∧ el p v11_1 < (o8_1.length : Int)) ∧
   (InI (v11_1 + 1)) ∧
   (H1 (v11_1 + 1) (se o8_1 (el p v11_1) v11_1) ∧ m1 (v11_1 + 1) (se o8_1 (el p v11_1) v11_1) < m1 v11_1 o8_1)) ∧
  (¬ (v11_1 < (p.length : Int)) →
   Q o8_1)))

def wp_spec_l01Rows (t : List (List Int)) (Q : Bool → Prop) : Prop :=
 ∃ (H1 : Int → Prop) (m1 : Int → Nat),
 H1 0 ∧
 ∀ (v3_1 : Int), H1 v3_1 →
 ( ((v3_1 < (t.length : Int) →
   (0 ≤ v3_1 ∧ v3_1 < (t.length : Int)) ∧
   (small (el t v3_1)) ∧
   (((permB (el t v3_1)) = false →
    Q false) ∧
   ((permB (el t v3_1)) = true →
    (InI (v3_1 + 1)) ∧
    (H1 (v3_1 + 1) ∧ m1 (v3_1 + 1) < m1 v3_1)))) ∧
  (¬ (v3_1 < (t.length : Int)) →
   Q true)))

def wp_impl_permutationRows_1 (row : List Int) (Q : Bool → Prop) : Prop :=
 (small row) ∧
 Q (!((isPerm row)))

def wp_impl_permutationRows (t : List (List Int)) (Q : Bool → Prop) : Prop :=
 (small t ∧ ∀ r_ ∈ t, (fun z0 => small z0) r_) ∧
 Q (!((t.any (fun z0 => !isPerm z0))))

def wp_impl_indexIn (list : List Int) (x : Int) (Q : Int → Prop) : Prop :=
 (small list) ∧
 Q (idxI list x)

def wp_impl_IsCycleSet (c : List (List Int)) (Q : Bool → Prop) : Prop :=
 (small2 c) ∧
 (((isTab c) = true →
  (small2 c) ∧
  (((c.all isPerm) = true →
   (isTab c = true) ∧
   (small (diag c)) ∧
   (((isPerm (diag c)) = true →
    (((cycF c) = [] →
     (isTab c = true) ∧
     Q true) ∧
    (¬ (cycF c) = [] →
     (isTab c = true) ∧
     Q false))) ∧
   ((isPerm (diag c)) = false →
    Q false))) ∧
  ((c.all isPerm) = false →
   Q false))) ∧
 ((isTab c) = false →
  Q false))

def wp_spec_l05Is (c : List (List Int)) (Q : Bool → Prop) : Prop :=
 (small2 c) ∧
 (((isTab c) = true →
  (small2 c) ∧
  (((c.all permB) = true →
   (isTab c = true) ∧
   (small (diag c)) ∧
   (((permB (diag c)) = true →
    (isTab c = true) ∧
    Q (decide (((cycF c).length : Int) = 0))) ∧
   ((permB (diag c)) = false →
    Q false))) ∧
  ((c.all permB) = false →
   Q false))) ∧
 ((isTab c) = false →
  Q false))


theorem p_k_Index (s : List Int) (v : Int) (hp : small s) : wp_k_Index s v (fun y0 => y0 = idxI s v) := by
  unfold wp_k_Index idxI
  refine ⟨fun i => 0 ≤ i ∧ i ≤ (s.length : Int) ∧ Upto i fun j => (el s j == v) = false, fun i => ((s.length : Int) - i).toNat, ⟨by omega, by omega, upto0⟩, ?_⟩
  rintro i ⟨h0, h1, hI⟩
  dsimp only
  refine ⟨fun hlt => ⟨⟨h0, hlt⟩, fun hf => (idxF_found ⟨h0, hlt⟩ hI (by simp [hf])).symm, fun ht => ⟨⟨by omega, by omega⟩, ⟨by omega, by omega, upto1 hI (by simpa using fun e => ht e.symm)⟩, by omega⟩⟩, fun hge => ?_⟩
  exact (idxF_none (by rwa [show i = (s.length : Int) by omega] at hI)).symm
theorem maxI_step (l : List Int) (a : Int) : ∀ (i : Nat), i < l.length → (l.take (i + 1)).foldl (fun a b => if a < b then b else a) a = (if (l.take i).foldl (fun a b => if a < b then b else a) a < el l i then el l i else (l.take i).foldl (fun a b => if a < b then b else a) a) := fun i hi => by
  rw [List.take_succ_eq_append_getElem hi, List.foldl_append]
  have : el l i = l[i] := by simp [el, List.getD_eq_getElem?_getD, List.getElem?_eq_getElem hi]
  rw [this]; rfl
theorem p_spec_l01Back (p : List Int) (hp : small p ∧ isPerm p = true) : wp_spec_l01Back p (fun y0 => y0 = backI p) := by
  unfold wp_spec_l01Back
  obtain ⟨h1, h2⟩ := hp
  refine ⟨⟨by omega, h1⟩, fun i o => 0 ≤ i ∧ i ≤ (p.length : Int) ∧ o.length = p.length ∧ Upto i fun j => el o (el p j) = j, fun i _ => ((p.length : Int) - i).toNat, ⟨by omega, by omega, by simp, upto0⟩, ?_⟩
  rintro i o ⟨h0, h3, hl, hI⟩
  dsimp only
  refine ⟨fun hlt => ?_, fun hge => backI_uniq h2 hl fun j a b => hI j a (by omega)⟩
  have hb := isPerm_el h2 ⟨h0, hlt⟩
  refine ⟨⟨h0, hlt⟩, ⟨hb.1, by omega⟩, ⟨by omega, by omega⟩, ⟨by omega, by omega, by simp [hl], upto1 (fun j a b => ?_) (by rw [el_se_same ⟨hb.1, by omega⟩])⟩, by omega⟩
  have hj := isPerm_el h2 (i := j) ⟨a, by omega⟩
  rw [el_se_ne hb.1 hj.1 fun e => by have := isPerm_inj h2 ⟨h0, hlt⟩ ⟨a, by omega⟩ e; omega]
  exact hI j a b
theorem p_impl_inverse (p : List Int) (hp : small p ∧ isPerm p = true) : wp_impl_inverse p (fun y0 => y0 = backI p) := p_spec_l01Back p hp
theorem p_spec_l01Rows (t : List (List Int)) (hp : small2 t) : wp_spec_l01Rows t (fun y0 => y0 = t.all permB) := by
  unfold wp_spec_l01Rows
  obtain ⟨h1, h2⟩ := hp
  refine ⟨fun i => 0 ≤ i ∧ i ≤ (t.length : Int) ∧ Upto i fun j => permB (el t j) = true, fun i => ((t.length : Int) - i).toNat, ⟨by omega, by omega, upto0⟩, ?_⟩
  rintro i ⟨h0, h3, hI⟩
  dsimp only
  refine ⟨fun hlt => ⟨⟨h0, hlt⟩, h2 _ (el_mem ⟨h0, hlt⟩), fun hf => (all_f ⟨h0, hlt⟩ hf).symm, fun ht => ⟨⟨by omega, by omega⟩, ⟨by omega, by omega, upto1 hI ht⟩, by omega⟩⟩, fun hge => ?_⟩
  exact (all_t (by rwa [show i = (t.length : Int) by omega] at hI)).symm
theorem p_impl_permutationRows_1 (row : List Int) (hp : small row) : wp_impl_permutationRows_1 row (fun y0 => y0 = !isPerm row) := ⟨hp, rfl⟩
theorem p_impl_permutationRows (t : List (List Int)) (hp : small2 t) : wp_impl_permutationRows t (fun y0 => y0 = t.all isPerm) := by
  refine ⟨⟨hp.1, hp.2⟩, ?_⟩
  rw [List.not_any_eq_all_not]; simp
theorem p_impl_indexIn (list : List Int) (x : Int) (hp : small list) : wp_impl_indexIn list x (fun y0 => y0 = idxI list x) := ⟨hp, rfl⟩
theorem isEmpty_iff_nil {l : List Int} : l.isEmpty = decide ((l.length : Int) = 0) := by cases l <;> simp; omega
theorem small_diag {c : List (List Int)} (h : isTab c = true) : small (diag c) := by have := isTab_len h; show ((diag c).length : Int) ≤ 1000000000; simp; omega
theorem p_impl_IsCycleSet (c : List (List Int)) (hp : small2 c) : wp_impl_IsCycleSet c (fun y0 => y0 = isCyc c) := by
  unfold wp_impl_IsCycleSet isCyc
  refine ⟨hp, fun h => ⟨hp, fun h2 => ⟨h, small_diag h, fun h3 => ⟨fun h4 => ⟨h, ?_⟩, fun h4 => ⟨h, ?_⟩⟩, fun h3 => ?_⟩, fun h2 => ?_⟩, fun h => ?_⟩
  · rw [h, h2, h3, h4]; rfl
  · rw [h, h2, h3]; cases e : cycF c with
    | nil => exact absurd e h4
    | cons x l => rfl
  · rw [h, h2, h3]; rfl
  · rw [h, h2]; rfl
  · rw [h]; rfl
theorem permB_diag {c : List (List Int)} (h : isTab c = true) : permB (diag c) = isPerm (diag c) := by
  have := isTab_len h
  unfold permB
  have e1 : decide (1 ≤ ((diag c).length : Int)) = true := decide_eq_true (by simp; omega)
  have e2 : decide (((diag c).length : Int) ≤ 12) = true := decide_eq_true (by simp; omega)
  rw [e1, e2]; rfl
theorem p_spec_l05Is (c : List (List Int)) (hp : small2 c) : wp_spec_l05Is c (fun y0 => y0 = isCyc c) := by
  unfold wp_spec_l05Is isCyc
  refine ⟨hp, fun h => ⟨hp, fun h2 => ⟨h, small_diag h, fun h3 => ⟨h, ?_⟩, fun h3 => ?_⟩, fun h2 => ?_⟩, fun h => ?_⟩
  · rw [isTab_perm h] at h2
    rw [permB_diag h] at h3
    rw [h, h2, h3, isEmpty_iff_nil]; rfl
  · rw [isTab_perm h] at h2
    rw [permB_diag h] at h3
    rw [h, h2, h3]; rfl
  · rw [isTab_perm h] at h2
    rw [h, h2]; rfl
  · rw [h]; rfl
theorem tab_rows {r : List (List Int)} (h : isTab r = true) : ∀ q ∈ r, small q := (isTab_small h).2
theorem dual_loop {r : List (List Int)} (_ht : isTab r = true) (_hr : r.all isPerm = true) {o : List (List Int)} {i : Int} (il : o.length = i.toNat) (hi : (r.length : Int) ≤ i ∧ i ≤ (r.length : Int)) (hI : Upto i fun x => el o x = backI (el r x)) : o = r.map backI :=
  ext_el (by simp; omega) fun j a b => by rw [el_map ⟨a, by omega⟩]; exact hI j a (by omega)
theorem inv_back {row : List Int} (h : isPerm row = true) : (row = backI row) ↔ invB row = true := by
  rw [invB_iff]
  constructor
  · intro e i a b
    have := el_backI h (i := i) ⟨a, b⟩
    rw [← e] at this; exact this
  · intro hI; exact backI_uniq h rfl hI
theorem small2_tab {n : Int} {f : Int → Int → Int} (h : n ≤ 1000) : small2 (tab n f) := ⟨by show ((tab n f).length : Int) ≤ 1000000000; simp [tab]; omega, fun r hr => by
  unfold tab at hr
  unfold ran at hr
  obtain ⟨k, hk, rfl⟩ := List.mem_map.1 hr
  simp; omega⟩
theorem inN_t {n x : Int} (h : (decide (0 ≤ x) && decide (x ≤ n - 1)) = true) : inN n x = true := h
theorem aff2 {n a b c : Int} (h : (inN 12 (n - 1) && inN n a && inN n b && inN n c) = false) : [] = AffT n a b c ∧ 2 = AffE n a b c := by
  have e : AffE n a b c = 2 := by unfold AffE; rw [h]; rfl
  exact ⟨by unfold AffT; rw [e]; rfl, e.symm⟩
theorem aff5 {n a b c : Int} (h : (inN 12 (n - 1) && inN n a && inN n b && inN n c) = true) (hc : isCyc (affT n a b c) = false) : [] = AffT n a b c ∧ 5 = AffE n a b c := by
  have e : AffE n a b c = 5 := by unfold AffE; rw [h, hc]; rfl
  exact ⟨by unfold AffT; rw [e]; rfl, e.symm⟩
theorem aff0 {n a b c : Int} (h : (inN 12 (n - 1) && inN n a && inN n b && inN n c) = true) (hc : isCyc (affT n a b c) = true) : affT n a b c = AffT n a b c ∧ 0 = AffE n a b c := by
  have e : AffE n a b c = 0 := by unfold AffE; rw [h, hc]; rfl
  exact ⟨by unfold AffT; rw [e]; rfl, e.symm⟩
theorem inN_12 {n : Int} : inN 12 (n - 1) = (decide (1 ≤ n) && decide (n ≤ 12)) := by
  unfold inN
  rw [Bool.eq_iff_iff]; simp; omega
theorem rkf1 {r : List (List Int)} (h : isTab r = false) : [] = RkfT r ∧ 1 = RkfE r := by
  have e : RkfE r = 1 := by unfold RkfE; rw [h]; rfl
  exact ⟨by unfold RkfT; rw [e]; rfl, e.symm⟩
theorem rkf5 {r : List (List Int)} (h : isTab r = true) (h2 : r.all isPerm = false) : [] = RkfT r ∧ 5 = RkfE r := by
  have e : RkfE r = 5 := by unfold RkfE; rw [h, h2]; rfl
  exact ⟨by unfold RkfT; rw [e]; rfl, e.symm⟩
theorem rkf4 {r : List (List Int)} (h : isTab r = true) (h2 : r.all isPerm = true) (h3 : rackF r = []) : [] = RkfT r ∧ 4 = RkfE r := by
  have e : RkfE r = 4 := by unfold RkfE; rw [h, h2, if_pos h3]; rfl
  exact ⟨by unfold RkfT; rw [e]; rfl, e.symm⟩
theorem rkf0 {r : List (List Int)} (h : isTab r = true) (h2 : r.all isPerm = true) (h3 : ¬ rackF r = []) : rackF r = RkfT r ∧ 0 = RkfE r := by
  have e : RkfE r = 0 := by unfold RkfE; rw [h, h2, if_neg h3]; rfl
  exact ⟨by unfold RkfT; rw [e]; rfl, e.symm⟩
theorem dpw1 {c : List (List Int)} {x k : Int} (h : isCyc c = false) : 0 = DpwV c x k ∧ 1 = DpwE c x k := by
  have e : DpwE c x k = 1 := by unfold DpwE; rw [h]; rfl
  exact ⟨by unfold DpwV; rw [e]; rfl, e.symm⟩
theorem dpw2 {c : List (List Int)} {x k : Int} (h : isCyc c = true) (h2 : (inN (c.length : Int) x && inN 1001 k) = false) : 0 = DpwV c x k ∧ 2 = DpwE c x k := by
  have e : DpwE c x k = 2 := by unfold DpwE; rw [h, h2]; rfl
  exact ⟨by unfold DpwV; rw [e]; rfl, e.symm⟩
theorem dpw0 {c : List (List Int)} {x k : Int} (h : isCyc c = true) (h2 : (inN (c.length : Int) x && inN 1001 k) = true) : iterN (fun x => el (el c x) x) k.toNat x = DpwV c x k ∧ 0 = DpwE c x k := by
  have e : DpwE c x k = 0 := by unfold DpwE; rw [h, h2]; rfl
  exact ⟨by unfold DpwV; rw [e]; rfl, e.symm⟩
theorem inN_1001 {k : Int} : inN 1001 k = (decide (0 ≤ k) && decide (k ≤ 1000)) := by unfold inN; rfl
theorem dso1 {c : List (List Int)} {x z : Int} (h : isCyc c = false) : 0 = DsoV c x z ∧ 1 = DsoE c x z := by
  have e : DsoE c x z = 1 := by unfold DsoE; rw [h]; rfl
  exact ⟨by unfold DsoV; rw [e]; rfl, e.symm⟩
theorem dso2 {c : List (List Int)} {x z : Int} (h : isCyc c = true) (h2 : (inN (c.length : Int) x && inN (c.length : Int) z) = false) : 0 = DsoV c x z ∧ 2 = DsoE c x z := by
  have e : DsoE c x z = 2 := by unfold DsoE; rw [h, h2]; rfl
  exact ⟨by unfold DsoV; rw [e]; rfl, e.symm⟩
theorem dso0 {c : List (List Int)} {x z : Int} (h : isCyc c = true) (h2 : (inN (c.length : Int) x && inN (c.length : Int) z) = true) : idxI (el c x) z = DsoV c x z ∧ 0 = DsoE c x z := by
  have e : DsoE c x z = 0 := by unfold DsoE; rw [h, h2]; rfl
  exact ⟨by unfold DsoV; rw [e]; rfl, e.symm⟩
set_option maxRecDepth 100000 in
set_option maxHeartbeats 1000000 in
theorem w_k_Index (s : List Int) (v : Int) (Q : Int → Prop) (h : wp_k_Index s v Q) : AF Try.prog 94 [.lst (ints s), ci v] (fun R_ => ∃ y0, Q y0 ∧ R_ = ci y0) := by
  refine AF.ofWQ (af_enter (n := 19) Try.func94 rfl (by rfl) rfl (Nat.le_of_ble_eq_true rfl) ?_)
  unfold wp_k_Index at h
  refine aw_seq ?_
  refine aw_gh (gh_to (n := 19) (σ' := []) (env' := [(0, .c (.lst (ints s))), (1, .c (ci v))]) rfl rfl ⟨rfl, rfl, trivial⟩) ?_
  refine aw_region ?_
  refine run_s (ss_assign rfl) rfl ?_
  refine run_nil ?_
  refine aw_seq ?_
  refine aw_seq ?_
  refine aw_region ?_
  refine run_s (ss_move rfl) rfl ?_
  refine run_s (ss_lenL (f := ci) rfl) rfl ?_
  refine run_s (ss_move rfl) rfl ?_
  refine run_nil ?_
  refine aw_block ?_
  obtain ⟨H1, m1, q1, h⟩ := h
  refine aw_loop1 (fun (v8_1 : Int) => ⟨[], [(0, .c (.lst (ints s))), (1, .c (ci v)), (7, .c (ci (s.length : Int))), (8, .c (ci v8_1))], 19⟩) H1 m1 ⟨0, ghe_to (n := 19) rfl rfl ⟨rfl, rfl, rfl, rfl, trivial⟩, q1⟩ ?_
  rintro v8_1 q1
  replace h := h v8_1 q1
  refine aw_seq ?_
  refine aw_region ?_
  refine run_s (ss_lss rfl rfl) rfl ?_
  refine run_nil ?_
  refine aw_seq ?_
  refine aw_cond rfl (fun q2 => ?_) (fun q2 => ?_)
  · replace h := h.1 (of_decide_eq_true q2)
    refine aw_skip ?_
    refine aw_seq ?_
    refine aw_block ?_
    refine aw_seq ?_
    refine aw_region ?_
    refine run_s (ss_move rfl) rfl ?_
    refine run_s (ss_assign rfl) rfl ?_
    refine run_nil ?_
    refine aw_seq ?_
    refine aw_region ?_
    refine run_s (ss_move rfl) rfl ?_
    refine run_s (ss_move rfl) rfl ?_
    refine run_s (ss_move rfl) rfl ?_
    obtain ⟨q3, h⟩ := h
    refine run_s (ss_idxL rfl rfl q3) rfl ?_
    refine run_s (ss_loadL (f := ci) rfl q3) rfl ?_
    refine run_s (ss_eql rfl rfl) rfl ?_
    refine run_nil ?_
    refine aw_cond rfl (fun q4 => ?_) (fun q4 => ?_)
    · replace h := h.1 (of_decide_eq_true q4)
      refine aw_seq ?_
      refine aw_gh (gh_to (n := 19) (σ' := []) (env' := [(5, .c (ci v8_1))]) rfl rfl ⟨rfl, trivial⟩) ?_
      refine aw_region ?_
      refine run_s (ss_move rfl) rfl ?_
      refine run_s (ss_assign rfl) rfl ?_
      refine run_nil ?_
      refine aw_ret ?_
      exact retAF_mk (retv1 rfl (rv_tmp rfl)) rfl rfl ⟨_, (cle_refl _), _, h, rfl⟩
    · replace h := h.2 (of_decide_eq_false q4)
      refine aw_skip ?_
      refine aw_gh (gh_to (n := 19) (σ' := []) (env' := [(0, .c (.lst (ints s))), (1, .c (ci v)), (7, .c (ci (s.length : Int))), (8, .c (ci v8_1))]) rfl rfl ⟨rfl, rfl, rfl, rfl, trivial⟩) ?_
      refine aw_region ?_
      obtain ⟨q5, h⟩ := h
      refine run_s (ss_add rfl rfl q5) rfl ?_
      refine run_s (ss_move rfl) rfl ?_
      refine run_nil ?_
      exact ⟨v8_1 + 1, ghe_to (n := 19) rfl rfl ⟨rfl, rfl, rfl, rfl, trivial⟩, h.1, h.2⟩
  · replace h := h.2 (of_decide_eq_false q2)
    refine aw_exit ?_
    refine aw_seq ?_
    refine aw_gh (gh_to (n := 19) (σ' := []) (env' := []) rfl rfl trivial) ?_
    refine aw_region ?_
    refine run_s (ss_assign rfl) rfl ?_
    refine run_nil ?_
    refine aw_ret ?_
    exact retAF_mk (retv1 rfl (rv_tmp rfl)) rfl rfl ⟨_, (cle_refl _), _, h, rfl⟩

theorem c_k_Index (s : List Int) (v : Int) (hp : small s) : AF Try.prog 94 [.lst (ints s), ci v] (fun R_ => R_ = ci (idxI s v)) :=
  (w_k_Index s v (fun y0 => y0 = idxI s v) (p_k_Index s v hp)).mono (by rintro r ⟨_, rfl, rfl⟩; rfl)

set_option maxRecDepth 100000 in
set_option maxHeartbeats 1000000 in
theorem w_spec_l01Back (p : List Int) (Q : List Int → Prop) (h : wp_spec_l01Back p Q) : AF Try.prog 153 [.lst (ints p)] (fun R_ => ∃ y0, Q y0 ∧ R_ = .own (ints y0)) := by
  refine AF.ofWQ (af_enter (n := 22) Try.func153 rfl (by rfl) rfl (Nat.le_of_ble_eq_true rfl) ?_)
  unfold wp_spec_l01Back at h
  refine aw_seq ?_
  refine aw_gh (gh_to (n := 22) (σ' := []) (env' := [(0, .c (.lst (ints p)))]) rfl rfl ⟨rfl, trivial⟩) ?_
  refine aw_region ?_
  refine run_s (ss_assign rfl) rfl ?_
  refine run_nil ?_
  refine aw_seq ?_
  refine aw_region ?_
  refine run_s (ss_move rfl) rfl ?_
  refine run_s (ss_lenL (f := ci) rfl) rfl ?_
  obtain ⟨q1, h⟩ := h
  refine run_w (ws_mk (id := 7) ci (0 : Int) rfl rfl rfl q1 (Nat.le_of_ble_eq_true rfl) rfl ⟨rfl, ?_⟩)
  refine run_s (ss_assign rfl) rfl ?_
  refine run_nil ?_
  refine aw_seq ?_
  refine aw_seq ?_
  refine aw_gh (gh_to (n := 22) (σ' := [(7, ⟨ints (List.replicate (p.length : Int).toNat (0 : Int)), []⟩)]) (env' := [(0, .c (.lst (ints p))), (3, .ref 7)]) rfl rfl ⟨rfl, rfl, trivial⟩) ?_
  refine aw_region ?_
  refine run_s (ss_assign rfl) rfl ?_
  refine run_nil ?_
  refine aw_block ?_
  obtain ⟨H1, m1, q2, h⟩ := h
  refine aw_loop2 (fun (v4_1 : Int) (o7_1 : List Int) => ⟨[(7, ⟨ints o7_1, []⟩)], [(0, .c (.lst (ints p))), (3, .ref 7), (4, .c (ci v4_1))], 22⟩) H1 m1 ⟨0, List.replicate (p.length : Int).toNat (0 : Int), ghe_to (n := 22) rfl rfl ⟨rfl, rfl, rfl, trivial⟩, q2⟩ ?_
  rintro v4_1 o7_1 q2
  replace h := h v4_1 o7_1 q2
  refine aw_seq ?_
  refine aw_seq ?_
  refine aw_region ?_
  refine run_s (ss_move rfl) rfl ?_
  refine run_s (ss_move rfl) rfl ?_
  refine run_s (ss_lenL (f := ci) rfl) rfl ?_
  refine run_s (ss_lss rfl rfl) rfl ?_
  refine run_nil ?_
  refine aw_cond rfl (fun q3 => ?_) (fun q3 => ?_)
  · replace h := h.1 (of_decide_eq_true q3)
    refine aw_skip ?_
    refine aw_seq ?_
    refine aw_block ?_
    refine aw_region ?_
    refine run_s (ss_move rfl) rfl ?_
    refine run_s (ss_move rfl) rfl ?_
    refine run_s (ss_move rfl) rfl ?_
    obtain ⟨q4, h⟩ := h
    refine run_s (ss_idxL rfl rfl q4) rfl ?_
    refine run_s (ss_loadL (f := ci) rfl q4) rfl ?_
    refine run_s (ss_move rfl) rfl ?_
    obtain ⟨q5, h⟩ := h
    refine run_s (ss_idxR (f := ci) rfl rfl rfl q5) rfl ?_
    refine run_w (ws_storeE rfl rfl (map_lt q5) rfl rfl (map_se (f := ci)) rfl ⟨rfl, ?_⟩)
    refine run_nil ?_
    refine aw_gh (gh_to (n := 22) (σ' := [(7, ⟨ints (se o7_1 (el p v4_1) v4_1), []⟩)]) (env' := [(0, .c (.lst (ints p))), (3, .ref 7), (4, .c (ci v4_1))]) rfl rfl ⟨rfl, rfl, rfl, trivial⟩) ?_
    refine aw_region ?_
    refine run_s (ss_move rfl) rfl ?_
    obtain ⟨q6, h⟩ := h
    refine run_s (ss_add rfl rfl q6) rfl ?_
    refine run_s (ss_assign rfl) rfl ?_
    refine run_nil ?_
    exact ⟨v4_1 + 1, se o7_1 (el p v4_1) v4_1, ghe_to (n := 22) rfl rfl ⟨rfl, rfl, rfl, trivial⟩, h.1, h.2⟩
  · replace h := h.2 (of_decide_eq_false q3)
    refine aw_exit ?_
    refine aw_seq ?_
    refine aw_gh (gh_to (n := 22) (σ' := [(7, ⟨ints o7_1, []⟩)]) (env' := [(3, .ref 7)]) rfl rfl ⟨rfl, trivial⟩) ?_
    refine aw_region ?_
    refine run_s (ss_move rfl) rfl ?_
    refine run_s (ss_assign rfl) rfl ?_
    refine run_nil ?_
    refine aw_ret ?_
    exact retAF_mk (retv1 rfl (rv_tmp rfl)) rfl rfl ⟨_, (cle_refl _), _, h, rfl⟩

theorem c_spec_l01Back (p : List Int) (hp : small p ∧ isPerm p = true) : AF Try.prog 153 [.lst (ints p)] (fun R_ => R_ = .own (ints (backI p))) :=
  (w_spec_l01Back p (fun y0 => y0 = backI p) (p_spec_l01Back p hp)).mono (by rintro r ⟨_, rfl, rfl⟩; rfl)

set_option maxRecDepth 100000 in
set_option maxHeartbeats 1000000 in
theorem w_impl_inverse (p : List Int) (Q : List Int → Prop) (h : wp_impl_inverse p Q) : AF Try.prog 120 [.lst (ints p)] (fun R_ => ∃ y0, Q y0 ∧ R_ = .own (ints y0)) := by
  refine AF.ofWQ (af_enter (n := 22) Try.func120 rfl (by rfl) rfl (Nat.le_of_ble_eq_true rfl) ?_)
  unfold wp_impl_inverse at h
  refine aw_seq ?_
  refine aw_gh (gh_to (n := 22) (σ' := []) (env' := [(0, .c (.lst (ints p)))]) rfl rfl ⟨rfl, trivial⟩) ?_
  refine aw_region ?_
  refine run_s (ss_assign rfl) rfl ?_
  refine run_nil ?_
  refine aw_seq ?_
  refine aw_region ?_
  refine run_s (ss_move rfl) rfl ?_
  refine run_s (ss_lenL (f := ci) rfl) rfl ?_
  obtain ⟨q1, h⟩ := h
  refine run_w (ws_mk (id := 8) ci (0 : Int) rfl rfl rfl q1 (Nat.le_of_ble_eq_true rfl) rfl ⟨rfl, ?_⟩)
  refine run_s (ss_assign rfl) rfl ?_
  refine run_nil ?_
  refine aw_seq ?_
  refine aw_seq ?_
  refine aw_region ?_
  refine run_s (ss_move rfl) rfl ?_
  refine run_s (ss_lenL (f := ci) rfl) rfl ?_
  refine run_s (ss_move rfl) rfl ?_
  refine run_nil ?_
  refine aw_block ?_
  obtain ⟨H1, m1, q2, h⟩ := h
  refine aw_loop2 (fun (v11_1 : Int) (o8_1 : List Int) => ⟨[(8, ⟨ints o8_1, []⟩)], [(3, .ref 8), (9, .c (.lst (ints p))), (10, .c (ci (p.length : Int))), (11, .c (ci v11_1))], 22⟩) H1 m1 ⟨0, List.replicate (p.length : Int).toNat (0 : Int), ghe_to (n := 22) rfl rfl ⟨rfl, rfl, rfl, rfl, trivial⟩, q2⟩ ?_
  rintro v11_1 o8_1 q2
  replace h := h v11_1 o8_1 q2
  refine aw_seq ?_
  refine aw_region ?_
  refine run_s (ss_lss rfl rfl) rfl ?_
  refine run_nil ?_
  refine aw_seq ?_
  refine aw_cond rfl (fun q3 => ?_) (fun q3 => ?_)
  · replace h := h.1 (of_decide_eq_true q3)
    refine aw_skip ?_
    refine aw_seq ?_
    refine aw_block ?_
    refine aw_seq ?_
    refine aw_region ?_
    refine run_s (ss_move rfl) rfl ?_
    obtain ⟨q4, h⟩ := h
    refine run_s (ss_idxL rfl rfl q4) rfl ?_
    refine run_s (ss_loadL (f := ci) rfl q4) rfl ?_
    refine run_s (ss_assign rfl) rfl ?_
    refine run_s (ss_assign rfl) rfl ?_
    refine run_nil ?_
    refine aw_region ?_
    refine run_s (ss_move rfl) rfl ?_
    refine run_s (ss_move rfl) rfl ?_
    refine run_s (ss_move rfl) rfl ?_
    obtain ⟨q5, h⟩ := h
    refine run_s (ss_idxR (f := ci) rfl rfl rfl q5) rfl ?_
    refine run_w (ws_storeE rfl rfl (map_lt q5) rfl rfl (map_se (f := ci)) rfl ⟨rfl, ?_⟩)
    refine run_nil ?_
    refine aw_gh (gh_to (n := 22) (σ' := [(8, ⟨ints (se o8_1 (el p v11_1) v11_1), []⟩)]) (env' := [(3, .ref 8), (9, .c (.lst (ints p))), (10, .c (ci (p.length : Int))), (11, .c (ci v11_1))]) rfl rfl ⟨rfl, rfl, rfl, rfl, trivial⟩) ?_
    refine aw_region ?_
    obtain ⟨q6, h⟩ := h
    refine run_s (ss_add rfl rfl q6) rfl ?_
    refine run_s (ss_move rfl) rfl ?_
    refine run_nil ?_
    exact ⟨v11_1 + 1, se o8_1 (el p v11_1) v11_1, ghe_to (n := 22) rfl rfl ⟨rfl, rfl, rfl, rfl, trivial⟩, h.1, h.2⟩
  · replace h := h.2 (of_decide_eq_false q3)
    refine aw_exit ?_
    refine aw_seq ?_
    refine aw_region ?_
    refine run_s (ss_move rfl) rfl ?_
    refine run_s (ss_assign rfl) rfl ?_
    refine run_nil ?_
    refine aw_ret ?_
    exact retAF_mk (retv1 rfl (rv_tmp rfl)) rfl rfl ⟨_, (cle_refl _), _, h, rfl⟩

theorem c_impl_inverse (p : List Int) (hp : small p ∧ isPerm p = true) : AF Try.prog 120 [.lst (ints p)] (fun R_ => R_ = .own (ints (backI p))) :=
  (w_impl_inverse p (fun y0 => y0 = backI p) (p_impl_inverse p hp)).mono (by rintro r ⟨_, rfl, rfl⟩; rfl)

set_option maxRecDepth 100000 in
set_option maxHeartbeats 1000000 in
theorem w_spec_l01Rows (t : List (List Int)) (Q : Bool → Prop) (h : wp_spec_l01Rows t Q) : AF Try.prog 137 [.lst (rows t)] (fun R_ => ∃ y0, Q y0 ∧ R_ = cb y0) := by
  refine AF.ofWQ (af_enter (n := 16) Try.func137 rfl (by rfl) rfl (Nat.le_of_ble_eq_true rfl) ?_)
  unfold wp_spec_l01Rows at h
  refine aw_seq ?_
  refine aw_gh (gh_to (n := 16) (σ' := []) (env' := [(0, .c (.lst (rows t)))]) rfl rfl ⟨rfl, trivial⟩) ?_
  refine aw_region ?_
  refine run_s (ss_assign rfl) rfl ?_
  refine run_nil ?_
  refine aw_seq ?_
  refine aw_seq ?_
  refine aw_region ?_
  refine run_s (ss_assign rfl) rfl ?_
  refine run_nil ?_
  refine aw_block ?_
  obtain ⟨H1, m1, q1, h⟩ := h
  refine aw_loop1 (fun (v3_1 : Int) => ⟨[], [(0, .c (.lst (rows t))), (3, .c (ci v3_1))], 16⟩) H1 m1 ⟨0, ghe_to (n := 16) rfl rfl ⟨rfl, rfl, trivial⟩, q1⟩ ?_
  rintro v3_1 q1
  replace h := h v3_1 q1
  refine aw_seq ?_
  refine aw_seq ?_
  refine aw_region ?_
  refine run_s (ss_move rfl) rfl ?_
  refine run_s (ss_move rfl) rfl ?_
  refine run_s (ss_lenL (f := (fun r => C.lst (ints r))) rfl) rfl ?_
  refine run_s (ss_lss rfl rfl) rfl ?_
  refine run_nil ?_
  refine aw_cond rfl (fun q2 => ?_) (fun q2 => ?_)
  · replace h := h.1 (of_decide_eq_true q2)
    refine aw_skip ?_
    refine aw_seq ?_
    refine aw_block ?_
    refine aw_seq ?_
    refine aw_region ?_
    refine run_s (ss_move rfl) rfl ?_
    refine run_s (ss_move rfl) rfl ?_
    obtain ⟨q3, h⟩ := h
    refine run_s (ss_idxL rfl rfl q3) rfl ?_
    refine run_s (ss_loadL (f := (fun r => C.lst (ints r))) rfl q3) rfl ?_
    obtain ⟨q4, h⟩ := h
    refine run_w (ws_call (xs := [.tmp 13]) (ids := []) rfl rfl rfl rfl (c_spec_l01Perm (el t v3_1) q4) rfl ?_ )
    rintro _ rfl
    refine ⟨rfl, ?_⟩
    refine run_s (ss_not rfl) rfl ?_
    refine run_nil ?_
    refine aw_cond rfl (fun q6 => ?_) (fun q6 => ?_)
    · replace h := h.1 ((bnot_t q6))
      refine aw_seq ?_
      refine aw_gh (gh_to (n := 16) (σ' := []) (env' := []) rfl rfl trivial) ?_
      refine aw_region ?_
      refine run_s (ss_assign rfl) rfl ?_
      refine run_nil ?_
      refine aw_ret ?_
      exact retAF_mk (retv1 rfl (rv_tmp rfl)) rfl rfl ⟨_, (cle_refl _), _, h, rfl⟩
    · replace h := h.2 ((bnot_f q6))
      refine aw_skip ?_
      refine aw_gh (gh_to (n := 16) (σ' := []) (env' := [(0, .c (.lst (rows t))), (3, .c (ci v3_1))]) rfl rfl ⟨rfl, rfl, trivial⟩) ?_
      refine aw_region ?_
      refine run_s (ss_move rfl) rfl ?_
      obtain ⟨q7, h⟩ := h
      refine run_s (ss_add rfl rfl q7) rfl ?_
      refine run_s (ss_assign rfl) rfl ?_
      refine run_nil ?_
      exact ⟨v3_1 + 1, ghe_to (n := 16) rfl rfl ⟨rfl, rfl, trivial⟩, h.1, h.2⟩
  · replace h := h.2 (of_decide_eq_false q2)
    refine aw_exit ?_
    refine aw_seq ?_
    refine aw_gh (gh_to (n := 16) (σ' := []) (env' := []) rfl rfl trivial) ?_
    refine aw_region ?_
    refine run_s (ss_assign rfl) rfl ?_
    refine run_nil ?_
    refine aw_ret ?_
    exact retAF_mk (retv1 rfl (rv_tmp rfl)) rfl rfl ⟨_, (cle_refl _), _, h, rfl⟩

theorem c_spec_l01Rows (t : List (List Int)) (hp : small2 t) : AF Try.prog 137 [.lst (rows t)] (fun R_ => R_ = cb (t.all permB)) :=
  (w_spec_l01Rows t (fun y0 => y0 = t.all permB) (p_spec_l01Rows t hp)).mono (by rintro r ⟨_, rfl, rfl⟩; rfl)

set_option maxRecDepth 100000 in
set_option maxHeartbeats 1000000 in
theorem w_impl_permutationRows_1 (row : List Int) (Q : Bool → Prop) (h : wp_impl_permutationRows_1 row Q) : AF Try.prog 158 [.lst (ints row)] (fun R_ => ∃ y0, Q y0 ∧ R_ = cb y0) := by
  refine AF.ofWQ (af_enter (n := 6) Try.func158 rfl (by rfl) rfl (Nat.le_of_ble_eq_true rfl) ?_)
  unfold wp_impl_permutationRows_1 at h
  refine aw_seq ?_
  refine aw_gh (gh_to (n := 6) (σ' := []) (env' := [(0, .c (.lst (ints row)))]) rfl rfl ⟨rfl, trivial⟩) ?_
  refine aw_region ?_
  refine run_s (ss_assign rfl) rfl ?_
  refine run_nil ?_
  refine aw_seq ?_
  refine aw_region ?_
  refine run_s (ss_move rfl) rfl ?_
  obtain ⟨q1, h⟩ := h
  refine run_w (ws_call (xs := [.tmp 3]) (ids := []) rfl rfl rfl rfl (c_impl_isPermuted row q1) rfl ?_ )
  rintro _ rfl
  refine ⟨rfl, ?_⟩
  refine run_s (ss_not rfl) rfl ?_
  refine run_s (ss_assign rfl) rfl ?_
  refine run_nil ?_
  refine aw_ret ?_
  exact retAF_mk (retv1 rfl (rv_tmp rfl)) rfl rfl ⟨_, (cle_refl _), _, h, rfl⟩

theorem c_impl_permutationRows_1 (row : List Int) (hp : small row) : AF Try.prog 158 [.lst (ints row)] (fun R_ => R_ = cb (!isPerm row)) :=
  (w_impl_permutationRows_1 row (fun y0 => y0 = !isPerm row) (p_impl_permutationRows_1 row hp)).mono (by rintro r ⟨_, rfl, rfl⟩; rfl)

set_option maxRecDepth 100000 in
set_option maxHeartbeats 1000000 in
theorem w_impl_permutationRows (t : List (List Int)) (Q : Bool → Prop) (h : wp_impl_permutationRows t Q) : AF Try.prog 126 [.lst (rows t)] (fun R_ => ∃ y0, Q y0 ∧ R_ = cb y0) := by
  refine AF.ofWQ (af_enter (n := 6) Try.func126 rfl (by rfl) rfl (Nat.le_of_ble_eq_true rfl) ?_)
  unfold wp_impl_permutationRows at h
  refine aw_seq ?_
  refine aw_gh (gh_to (n := 6) (σ' := []) (env' := [(0, .c (.lst (rows t)))]) rfl rfl ⟨rfl, trivial⟩) ?_
  refine aw_region ?_
  refine run_s (ss_assign rfl) rfl ?_
  refine run_nil ?_
  refine aw_seq ?_
  refine aw_region ?_
  refine run_s (ss_move rfl) rfl ?_
  obtain ⟨q1, h⟩ := h
  refine run_w (ws_call (xs := [.tmp 3, .func 158]) (ids := []) rfl rfl rfl rfl (c_k_ContainsFunc_rows t 158 [] (fun z0 => !isPerm z0) (fun z0 => small z0) (fun z0 hD => c_impl_permutationRows_1 z0 hD) q1) rfl ?_ )
  rintro _ rfl
  refine ⟨rfl, ?_⟩
  refine run_s (ss_not rfl) rfl ?_
  refine run_s (ss_assign rfl) rfl ?_
  refine run_nil ?_
  refine aw_ret ?_
  exact retAF_mk (retv1 rfl (rv_tmp rfl)) rfl rfl ⟨_, (cle_refl _), _, h, rfl⟩

theorem c_impl_permutationRows (t : List (List Int)) (hp : small2 t) : AF Try.prog 126 [.lst (rows t)] (fun R_ => R_ = cb (t.all isPerm)) :=
  (w_impl_permutationRows t (fun y0 => y0 = t.all isPerm) (p_impl_permutationRows t hp)).mono (by rintro r ⟨_, rfl, rfl⟩; rfl)

set_option maxRecDepth 100000 in
set_option maxHeartbeats 1000000 in
theorem w_impl_indexIn (list : List Int) (x : Int) (Q : Int → Prop) (h : wp_impl_indexIn list x Q) : AF Try.prog 151 [.lst (ints list), ci x] (fun R_ => ∃ y0, Q y0 ∧ R_ = ci y0) := by
  refine AF.ofWQ (af_enter (n := 8) Try.func151 rfl (by rfl) rfl (Nat.le_of_ble_eq_true rfl) ?_)
  unfold wp_impl_indexIn at h
  refine aw_seq ?_
  refine aw_gh (gh_to (n := 8) (σ' := []) (env' := [(0, .c (.lst (ints list))), (1, .c (ci x))]) rfl rfl ⟨rfl, rfl, trivial⟩) ?_
  refine aw_region ?_
  refine run_s (ss_assign rfl) rfl ?_
  refine run_nil ?_
  refine aw_seq ?_
  refine aw_region ?_
  refine run_s (ss_move rfl) rfl ?_
  refine run_s (ss_move rfl) rfl ?_
  obtain ⟨q1, h⟩ := h
  refine run_w (ws_call (xs := [.tmp 5, .tmp 6]) (ids := []) rfl rfl rfl rfl (c_k_Index list x q1) rfl ?_ )
  rintro _ rfl
  refine ⟨rfl, ?_⟩
  refine run_s (ss_assign rfl) rfl ?_
  refine run_nil ?_
  refine aw_ret ?_
  exact retAF_mk (retv1 rfl (rv_tmp rfl)) rfl rfl ⟨_, (cle_refl _), _, h, rfl⟩

theorem c_impl_indexIn (list : List Int) (x : Int) (hp : small list) : AF Try.prog 151 [.lst (ints list), ci x] (fun R_ => R_ = ci (idxI list x)) :=
  (w_impl_indexIn list x (fun y0 => y0 = idxI list x) (p_impl_indexIn list x hp)).mono (by rintro r ⟨_, rfl, rfl⟩; rfl)

set_option maxRecDepth 100000 in
set_option maxHeartbeats 1000000 in
theorem w_impl_IsCycleSet (c : List (List Int)) (Q : Bool → Prop) (h : wp_impl_IsCycleSet c Q) : AF Try.prog 83 [.agg [.lst (rows c)]] (fun R_ => ∃ y0, Q y0 ∧ R_ = cb y0) := by
  refine AF.ofWQ (af_enter (n := 22) Try.func83 rfl (by rfl) rfl (Nat.le_of_ble_eq_true rfl) ?_)
  unfold wp_impl_IsCycleSet at h
  refine aw_seq ?_
  refine aw_gh (gh_to (n := 22) (σ' := []) (env' := [(0, .c (.agg [.lst (rows c)]))]) rfl rfl ⟨rfl, trivial⟩) ?_
  refine aw_region ?_
  refine run_w (ws_boxR rfl (.inl rfl) rfl ⟨rfl, ?_⟩)
  refine run_s (ss_assign rfl) rfl ?_
  refine run_nil ?_
  refine aw_seq ?_
  refine aw_region ?_
  refine run_s (ss_field_ptr rfl) rfl ?_
  refine run_s (ss_load_ptr rfl rfl) rfl ?_
  obtain ⟨q1, h⟩ := h
  refine run_w (ws_call (xs := [.tmp 4]) (ids := []) rfl rfl rfl rfl (c_impl_IsTable c q1) rfl ?_ )
  rintro _ rfl
  refine ⟨rfl, ?_⟩
  refine run_s (ss_move rfl) rfl ?_
  refine run_split (s := 6) rfl (fun q3 => ?_) (fun q3 => ?_)
  · replace h := h.1 (q3)
    refine run_gt rfl rfl q3 ?_
    refine run_s (ss_field_ptr rfl) rfl ?_
    refine run_gt rfl rfl q3 ?_
    refine run_s (ss_load_ptr rfl rfl) rfl ?_
    refine run_gt rfl rfl q3 ?_
    obtain ⟨q4, h⟩ := h
    refine run_w (ws_call (xs := [.tmp 8]) (ids := []) rfl rfl rfl rfl (c_impl_permutationRows c q4) rfl ?_ )
    rintro _ rfl
    refine ⟨rfl, ?_⟩
    refine run_s (ss_pickT rfl q3 rfl) rfl ?_
    refine run_s (ss_move rfl) rfl ?_
    refine run_split (s := 11) rfl (fun q6 => ?_) (fun q6 => ?_)
    · replace h := h.1 (q6)
      refine run_gt rfl rfl q6 ?_
      refine run_s (ss_load_struct rfl (Nat.le_of_ble_eq_true rfl)) rfl ?_
      refine run_gt rfl rfl q6 ?_
      obtain ⟨q7, h⟩ := h
      refine run_w (ws_call (xs := [.tmp 12]) (ids := [13]) rfl rfl rfl rfl (c_impl_squaresOf c q7) rfl ?_ )
      rintro _ rfl
      refine ⟨rfl, ?_⟩
      refine run_gt rfl rfl q6 ?_
      obtain ⟨q9, h⟩ := h
      refine run_w (ws_callR (xs := [.tmp 13]) (cs := [.own (ints (diag c))]) (ids := []) rfl (.inr ⟨rfl, rfl⟩) rfl rfl (fz_cons (fz_own (fz_map (fun _ => rfl) _)) fz_nil) (c_impl_isPermuted (diag c) q9) rfl ?_ )
      rintro _ rfl
      refine ⟨rfl, rfl, ?_⟩
      refine run_s (ss_pickT rfl q6 rfl) rfl ?_
      refine run_s (ss_move rfl) rfl ?_
      refine run_split (s := 16) rfl (fun q11 => ?_) (fun q11 => ?_)
      · replace h := h.1 (q11)
        refine run_gt rfl rfl q11 ?_
        refine run_s (ss_field_ptr rfl) rfl ?_
        refine run_gt rfl rfl q11 ?_
        refine run_s (ss_load_ptr rfl rfl) rfl ?_
        refine run_gt rfl rfl q11 ?_
        by_cases q12 : (cycF c) = []
        · replace h := h.1 q12
          obtain ⟨q13, h⟩ := h
          refine run_w (ws_call (xs := [.tmp 18]) (ids := []) rfl rfl rfl rfl (AF.onil_n (c_impl_cycleFault c q13) q12) rfl ?_ )
          rintro _ rfl
          refine ⟨rfl, ?_⟩
          refine run_gt rfl rfl q11 ?_
          refine run_s (ss_eql_nil rfl rfl) rfl ?_
          refine run_s (ss_pickT rfl q11 rfl) rfl ?_
          refine run_s (ss_assign rfl) rfl ?_
          refine run_nil ?_
          refine aw_ret ?_
          exact retAF_mk (retv1 rfl (rv_tmp rfl)) rfl rfl ⟨_, (cle_refl _), _, h, rfl⟩
        · replace h := h.2 q12
          obtain ⟨q15, h⟩ := h
          refine run_w (ws_call (xs := [.tmp 18]) (ids := [19]) rfl rfl rfl rfl (AF.onil_o (c_impl_cycleFault c q15) q12) rfl ?_ )
          rintro _ rfl
          refine ⟨rfl, ?_⟩
          refine run_gt rfl rfl q11 ?_
          refine run_s (ss_eql_refNil rfl rfl (map_ne q12) rfl) rfl ?_
          refine run_s (ss_pickT rfl q11 rfl) rfl ?_
          refine run_s (ss_assign rfl) rfl ?_
          refine run_nil ?_
          refine aw_ret ?_
          exact retAF_mk (retv1 rfl (rv_tmp rfl)) rfl rfl ⟨_, (cle_refl _), _, h, rfl⟩
      · replace h := h.2 (q11)
        refine run_gf rfl rfl q11 rfl ?_
        refine run_gf rfl rfl q11 rfl ?_
        refine run_gf rfl rfl q11 rfl ?_
        refine run_gf rfl rfl q11 rfl ?_
        refine run_s (ss_pickF rfl q11 rfl) rfl ?_
        refine run_s (ss_assign rfl) rfl ?_
        refine run_nil ?_
        refine aw_ret ?_
        exact retAF_mk (retv1 rfl (rv_tmp rfl)) rfl rfl ⟨_, (cle_refl _), _, h, rfl⟩
    · replace h := h.2 (q6)
      refine run_gf rfl rfl q6 rfl ?_
      refine run_gf rfl rfl q6 rfl ?_
      refine run_gf rfl rfl q6 rfl ?_
      refine run_s (ss_pickF rfl q6 rfl) rfl ?_
      refine run_s (ss_move rfl) rfl ?_
      refine run_split (s := 16) rfl (fun q17 => ?_) (fun q17 => ?_)
      · cases q17
      · skip
        refine run_gf rfl rfl q17 rfl ?_
        refine run_gf rfl rfl q17 rfl ?_
        refine run_gf rfl rfl q17 rfl ?_
        refine run_gf rfl rfl q17 rfl ?_
        refine run_s (ss_pickF rfl q17 rfl) rfl ?_
        refine run_s (ss_assign rfl) rfl ?_
        refine run_nil ?_
        refine aw_ret ?_
        exact retAF_mk (retv1 rfl (rv_tmp rfl)) rfl rfl ⟨_, (cle_refl _), _, h, rfl⟩
  · replace h := h.2 (q3)
    refine run_gf rfl rfl q3 rfl ?_
    refine run_gf rfl rfl q3 rfl ?_
    refine run_gf rfl rfl q3 rfl ?_
    refine run_s (ss_pickF rfl q3 rfl) rfl ?_
    refine run_s (ss_move rfl) rfl ?_
    refine run_split (s := 11) rfl (fun q18 => ?_) (fun q18 => ?_)
    · cases q18
    · skip
      refine run_gf rfl rfl q18 rfl ?_
      refine run_gf rfl rfl q18 rfl ?_
      refine run_gf rfl rfl q18 rfl ?_
      refine run_s (ss_pickF rfl q18 rfl) rfl ?_
      refine run_s (ss_move rfl) rfl ?_
      refine run_split (s := 16) rfl (fun q19 => ?_) (fun q19 => ?_)
      · cases q19
      · skip
        refine run_gf rfl rfl q19 rfl ?_
        refine run_gf rfl rfl q19 rfl ?_
        refine run_gf rfl rfl q19 rfl ?_
        refine run_gf rfl rfl q19 rfl ?_
        refine run_s (ss_pickF rfl q19 rfl) rfl ?_
        refine run_s (ss_assign rfl) rfl ?_
        refine run_nil ?_
        refine aw_ret ?_
        exact retAF_mk (retv1 rfl (rv_tmp rfl)) rfl rfl ⟨_, (cle_refl _), _, h, rfl⟩

theorem c_impl_IsCycleSet (c : List (List Int)) (hp : small2 c) : AF Try.prog 83 [.agg [.lst (rows c)]] (fun R_ => R_ = cb (isCyc c)) :=
  (w_impl_IsCycleSet c (fun y0 => y0 = isCyc c) (p_impl_IsCycleSet c hp)).mono (by rintro r ⟨_, rfl, rfl⟩; rfl)

set_option maxRecDepth 100000 in
set_option maxHeartbeats 1000000 in
theorem w_spec_l05Is (c : List (List Int)) (Q : Bool → Prop) (h : wp_spec_l05Is c Q) : AF Try.prog 81 [.agg [.lst (rows c)]] (fun R_ => ∃ y0, Q y0 ∧ R_ = cb y0) := by
  refine AF.ofWQ (af_enter (n := 24) Try.func81 rfl (by rfl) rfl (Nat.le_of_ble_eq_true rfl) ?_)
  unfold wp_spec_l05Is at h
  refine aw_seq ?_
  refine aw_gh (gh_to (n := 24) (σ' := []) (env' := [(0, .c (.agg [.lst (rows c)]))]) rfl rfl ⟨rfl, trivial⟩) ?_
  refine aw_region ?_
  refine run_w (ws_boxR rfl (.inl rfl) rfl ⟨rfl, ?_⟩)
  refine run_s (ss_assign rfl) rfl ?_
  refine run_nil ?_
  refine aw_seq ?_
  refine aw_region ?_
  refine run_s (ss_field_ptr rfl) rfl ?_
  refine run_s (ss_load_ptr rfl rfl) rfl ?_
  obtain ⟨q1, h⟩ := h
  refine run_w (ws_call (xs := [.tmp 4]) (ids := []) rfl rfl rfl rfl (c_spec_l01Table c q1) rfl ?_ )
  rintro _ rfl
  refine ⟨rfl, ?_⟩
  refine run_s (ss_move rfl) rfl ?_
  refine run_split (s := 6) rfl (fun q3 => ?_) (fun q3 => ?_)
  · replace h := h.1 (q3)
    refine run_gt rfl rfl q3 ?_
    refine run_s (ss_field_ptr rfl) rfl ?_
    refine run_gt rfl rfl q3 ?_
    refine run_s (ss_load_ptr rfl rfl) rfl ?_
    refine run_gt rfl rfl q3 ?_
    obtain ⟨q4, h⟩ := h
    refine run_w (ws_call (xs := [.tmp 8]) (ids := []) rfl rfl rfl rfl (c_spec_l01Rows c q4) rfl ?_ )
    rintro _ rfl
    refine ⟨rfl, ?_⟩
    refine run_s (ss_pickT rfl q3 rfl) rfl ?_
    refine run_s (ss_move rfl) rfl ?_
    refine run_split (s := 11) rfl (fun q6 => ?_) (fun q6 => ?_)
    · replace h := h.1 (q6)
      refine run_gt rfl rfl q6 ?_
      refine run_s (ss_field_ptr rfl) rfl ?_
      refine run_gt rfl rfl q6 ?_
      refine run_s (ss_load_ptr rfl rfl) rfl ?_
      refine run_gt rfl rfl q6 ?_
      obtain ⟨q7, h⟩ := h
      refine run_w (ws_call (xs := [.tmp 13]) (ids := [14]) rfl rfl rfl rfl (c_spec_l05Squares c q7) rfl ?_ )
      rintro _ rfl
      refine ⟨rfl, ?_⟩
      refine run_gt rfl rfl q6 ?_
      obtain ⟨q9, h⟩ := h
      refine run_w (ws_callR (xs := [.tmp 14]) (cs := [.own (ints (diag c))]) (ids := []) rfl (.inr ⟨rfl, rfl⟩) rfl rfl (fz_cons (fz_own (fz_map (fun _ => rfl) _)) fz_nil) (c_spec_l01Perm (diag c) q9) rfl ?_ )
      rintro _ rfl
      refine ⟨rfl, rfl, ?_⟩
      refine run_s (ss_pickT rfl q6 rfl) rfl ?_
      refine run_s (ss_move rfl) rfl ?_
      refine run_split (s := 17) rfl (fun q11 => ?_) (fun q11 => ?_)
      · replace h := h.1 (q11)
        refine run_gt rfl rfl q11 ?_
        refine run_s (ss_field_ptr rfl) rfl ?_
        refine run_gt rfl rfl q11 ?_
        refine run_s (ss_load_ptr rfl rfl) rfl ?_
        refine run_gt rfl rfl q11 ?_
        obtain ⟨q12, h⟩ := h
        refine run_w (ws_call (xs := [.tmp 19]) (ids := [20]) rfl rfl rfl rfl (c_spec_l05Fault c q12) rfl ?_ )
        rintro _ rfl
        refine ⟨rfl, ?_⟩
        refine run_gt rfl rfl q11 ?_
        refine run_s (ss_lenR (f := ci) rfl rfl) rfl ?_
        refine run_gt rfl rfl q11 ?_
        refine run_s (ss_eql rfl rfl) rfl ?_
        refine run_s (ss_pickT rfl q11 rfl) rfl ?_
        refine run_s (ss_assign rfl) rfl ?_
        refine run_nil ?_
        refine aw_ret ?_
        exact retAF_mk (retv1 rfl (rv_tmp rfl)) rfl rfl ⟨_, (cle_refl _), _, h, rfl⟩
      · replace h := h.2 (q11)
        refine run_gf rfl rfl q11 rfl ?_
        refine run_gf rfl rfl q11 rfl ?_
        refine run_gf rfl rfl q11 rfl ?_
        refine run_gf rfl rfl q11 rfl ?_
        refine run_gf rfl rfl q11 rfl ?_
        refine run_s (ss_pickF rfl q11 rfl) rfl ?_
        refine run_s (ss_assign rfl) rfl ?_
        refine run_nil ?_
        refine aw_ret ?_
        exact retAF_mk (retv1 rfl (rv_tmp rfl)) rfl rfl ⟨_, (cle_refl _), _, h, rfl⟩
    · replace h := h.2 (q6)
      refine run_gf rfl rfl q6 rfl ?_
      refine run_gf rfl rfl q6 rfl ?_
      refine run_gf rfl rfl q6 rfl ?_
      refine run_gf rfl rfl q6 rfl ?_
      refine run_s (ss_pickF rfl q6 rfl) rfl ?_
      refine run_s (ss_move rfl) rfl ?_
      refine run_split (s := 17) rfl (fun q14 => ?_) (fun q14 => ?_)
      · cases q14
      · skip
        refine run_gf rfl rfl q14 rfl ?_
        refine run_gf rfl rfl q14 rfl ?_
        refine run_gf rfl rfl q14 rfl ?_
        refine run_gf rfl rfl q14 rfl ?_
        refine run_gf rfl rfl q14 rfl ?_
        refine run_s (ss_pickF rfl q14 rfl) rfl ?_
        refine run_s (ss_assign rfl) rfl ?_
        refine run_nil ?_
        refine aw_ret ?_
        exact retAF_mk (retv1 rfl (rv_tmp rfl)) rfl rfl ⟨_, (cle_refl _), _, h, rfl⟩
  · replace h := h.2 (q3)
    refine run_gf rfl rfl q3 rfl ?_
    refine run_gf rfl rfl q3 rfl ?_
    refine run_gf rfl rfl q3 rfl ?_
    refine run_s (ss_pickF rfl q3 rfl) rfl ?_
    refine run_s (ss_move rfl) rfl ?_
    refine run_split (s := 11) rfl (fun q15 => ?_) (fun q15 => ?_)
    · cases q15
    · skip
      refine run_gf rfl rfl q15 rfl ?_
      refine run_gf rfl rfl q15 rfl ?_
      refine run_gf rfl rfl q15 rfl ?_
      refine run_gf rfl rfl q15 rfl ?_
      refine run_s (ss_pickF rfl q15 rfl) rfl ?_
      refine run_s (ss_move rfl) rfl ?_
      refine run_split (s := 17) rfl (fun q16 => ?_) (fun q16 => ?_)
      · cases q16
      · skip
        refine run_gf rfl rfl q16 rfl ?_
        refine run_gf rfl rfl q16 rfl ?_
        refine run_gf rfl rfl q16 rfl ?_
        refine run_gf rfl rfl q16 rfl ?_
        refine run_gf rfl rfl q16 rfl ?_
        refine run_s (ss_pickF rfl q16 rfl) rfl ?_
        refine run_s (ss_assign rfl) rfl ?_
        refine run_nil ?_
        refine aw_ret ?_
        exact retAF_mk (retv1 rfl (rv_tmp rfl)) rfl rfl ⟨_, (cle_refl _), _, h, rfl⟩

theorem c_spec_l05Is (c : List (List Int)) (hp : small2 c) : AF Try.prog 81 [.agg [.lst (rows c)]] (fun R_ => R_ = cb (isCyc c)) :=
  (w_spec_l05Is c (fun y0 => y0 = isCyc c) (p_spec_l05Is c hp)).mono (by rintro r ⟨_, rfl, rfl⟩; rfl)

end Go.Proofs.Ytllimiejaijbkaa
