/- Contracts of functions that the law FnExactRackIsomorphism reaches: conditions, plain proofs, walks; no condition. -/
import Derived.Test.YtkmoeodoidpjkaaKERackIsomorphisma
import Derived.Test.YtkmoeodoidpjkaaPP
namespace Go.Proofs.Ytkmoeodoidpjkaa

def wp_k_Index (s : List Int) (v : Int) (Q : Int → Prop) : Prop :=
 ∃ (H1 : Int → Prop) (m1 : Int → Nat),
 H1 0 ∧
 ∀ (v8_1 : Int), H1 v8_1 →
 ( ((v8_1 < (s.length : Int) →
 (0 ≤ v8_1 ∧ v8_1 < (s.length : Int)) ∧
 ((v = el s v8_1 →
 Q v8_1) ∧
 (¬ (v = el s v8_1) →
 (InI (v8_1 + 1)) ∧
 (H1 (v8_1 + 1) ∧ m1 (v8_1 + 1) < m1 v8_1)))) ∧
 (¬ (v8_1 < (s.length : Int)) →
 Q (-1))))

def wp_k_Clone (s : List Int) (Q : List Int → Prop) : Prop :=
 ∀ (b1 : Bool), (b1 = true → s = []) →
 ((b1 = true →
 Q ([])) ∧
 (b1 = false →
 ((([] : List Int).length : Int) + (s.length : Int) ≤ 1000000000) ∧
 Q (([] : List Int) ++ s)))

def wp_spec_l01Same (a : List Int) (b : List Int) (Q : Bool → Prop) : Prop :=
 ((¬ ((a.length : Int) = (b.length : Int)) →
 Q false) ∧
 ((a.length : Int) = (b.length : Int) →
 ∃ (H1 : Int → Prop) (m1 : Int → Nat),
 H1 0 ∧
 ∀ (v5_1 : Int), H1 v5_1 →
 ( ((v5_1 < (a.length : Int) →
 (0 ≤ v5_1 ∧ v5_1 < (a.length : Int)) ∧
 (0 ≤ v5_1 ∧ v5_1 < (b.length : Int)) ∧
 ((¬ (el a v5_1 = el b v5_1) →
 Q false) ∧
 (el a v5_1 = el b v5_1 →
 (InI (v5_1 + 1)) ∧
 (H1 (v5_1 + 1) ∧ m1 (v5_1 + 1) < m1 v5_1)))) ∧
 (¬ (v5_1 < (a.length : Int)) →
 Q true)))))

def wp_impl_permutationRows_1 (row : List Int) (Q : Bool → Prop) : Prop :=
 (small row) ∧
 Q (!((isPerm row)))

def wp_impl_permutationRows (t : List (List Int)) (Q : Bool → Prop) : Prop :=
 (small t ∧ ∀ r_ ∈ t, (fun z0 => small z0) r_) ∧
 Q (!((t.any (fun z0 => !isPerm z0))))

def wp_impl_rackFault (t : List (List Int)) (Q : List Int → Prop) : Prop :=
 ∃ (H1 : Int → Prop) (m1 : Int → Nat),
 H1 0 ∧
 ∀ (v10_1 : Int), H1 v10_1 →
 ( ((v10_1 < (t.length : Int) →
 ∃ (H2 : Int → Prop) (m2 : Int → Nat),
 H2 0 ∧
 ∀ (v14_2 : Int), H2 v14_2 →
 ( ((v14_2 < (t.length : Int) →
 ∃ (H3 : Int → Prop) (m3 : Int → Nat),
 H3 0 ∧
 ∀ (v18_3 : Int), H3 v18_3 →
 ( ((v18_3 < (t.length : Int) →
 (0 ≤ v10_1 ∧ v10_1 < (t.length : Int)) ∧
 (0 ≤ v14_2 ∧ v14_2 < (t.length : Int)) ∧
 (0 ≤ v10_1 ∧ v10_1 < (t.length : Int)) ∧
 (0 ≤ v10_1 ∧ v10_1 < (t.length : Int)) ∧
 (0 ≤ v18_3 ∧ v18_3 < ((el t v14_2).length : Int)) ∧
 (0 ≤ el (el t v14_2) v18_3 ∧ el (el t v14_2) v18_3 < ((el t v10_1).length : Int)) ∧
 (0 ≤ v14_2 ∧ v14_2 < ((el t v10_1).length : Int)) ∧
 (0 ≤ el (el t v10_1) v14_2 ∧ el (el t v10_1) v14_2 < (t.length : Int)) ∧
 (0 ≤ v18_3 ∧ v18_3 < ((el t v10_1).length : Int)) ∧
 (0 ≤ el (el t v10_1) v18_3 ∧ el (el t v10_1) v18_3 < ((el t (el (el t v10_1) v14_2)).length : Int)) ∧
 ((¬ (el (el t v10_1) (el (el t v14_2) v18_3) = el (el t (el (el t v10_1) v14_2)) (el (el t v10_1) v18_3)) →
 Q ([v10_1, v14_2, v18_3])) ∧
 (el (el t v10_1) (el (el t v14_2) v18_3) = el (el t (el (el t v10_1) v14_2)) (el (el t v10_1) v18_3) →
 (InI (v18_3 + 1)) ∧
 (H3 (v18_3 + 1) ∧ m3 (v18_3 + 1) < m3 v18_3)))) ∧
 (¬ (v18_3 < (t.length : Int)) →
 (InI (v14_2 + 1)) ∧
 (H2 (v14_2 + 1) ∧ m2 (v14_2 + 1) < m2 v14_2))))) ∧
 (¬ (v14_2 < (t.length : Int)) →
 (InI (v10_1 + 1)) ∧
 (H1 (v10_1 + 1) ∧ m1 (v10_1 + 1) < m1 v10_1))))) ∧
 (¬ (v10_1 < (t.length : Int)) →
 Q ([]))))

def wp_spec_l03Fault (t : List (List Int)) (Q : List Int → Prop) : Prop :=
 ∃ (H1 : Int → Prop) (m1 : Int → Nat),
 H1 0 ∧
 ∀ (v4_1 : Int), H1 v4_1 →
 ( ((v4_1 < (t.length : Int) →
 ∃ (H2 : Int → Prop) (m2 : Int → Nat),
 H2 0 ∧
 ∀ (v5_2 : Int), H2 v5_2 →
 ( ((v5_2 < (t.length : Int) →
 ∃ (H3 : Int → Prop) (m3 : Int → Nat),
 H3 0 ∧
 ∀ (v6_3 : Int), H3 v6_3 →
 ( ((v6_3 < (t.length : Int) →
 (0 ≤ v4_1 ∧ v4_1 < (t.length : Int)) ∧
 (0 ≤ v5_2 ∧ v5_2 < (t.length : Int)) ∧
 (0 ≤ v4_1 ∧ v4_1 < (t.length : Int)) ∧
 (0 ≤ v4_1 ∧ v4_1 < (t.length : Int)) ∧
 (0 ≤ v6_3 ∧ v6_3 < ((el t v5_2).length : Int)) ∧
 (0 ≤ el (el t v5_2) v6_3 ∧ el (el t v5_2) v6_3 < ((el t v4_1).length : Int)) ∧
 (0 ≤ v5_2 ∧ v5_2 < ((el t v4_1).length : Int)) ∧
 (0 ≤ el (el t v4_1) v5_2 ∧ el (el t v4_1) v5_2 < (t.length : Int)) ∧
 (0 ≤ v6_3 ∧ v6_3 < ((el t v4_1).length : Int)) ∧
 (0 ≤ el (el t v4_1) v6_3 ∧ el (el t v4_1) v6_3 < ((el t (el (el t v4_1) v5_2)).length : Int)) ∧
 ((¬ (el (el t v4_1) (el (el t v5_2) v6_3) = el (el t (el (el t v4_1) v5_2)) (el (el t v4_1) v6_3)) →
 Q ([v4_1, v5_2, v6_3])) ∧
 (el (el t v4_1) (el (el t v5_2) v6_3) = el (el t (el (el t v4_1) v5_2)) (el (el t v4_1) v6_3) →
 (InI (v6_3 + 1)) ∧
 (H3 (v6_3 + 1) ∧ m3 (v6_3 + 1) < m3 v6_3)))) ∧
 (¬ (v6_3 < (t.length : Int)) →
 (InI (v5_2 + 1)) ∧
 (H2 (v5_2 + 1) ∧ m2 (v5_2 + 1) < m2 v5_2))))) ∧
 (¬ (v5_2 < (t.length : Int)) →
 (InI (v4_1 + 1)) ∧
 (H1 (v4_1 + 1) ∧ m1 (v4_1 + 1) < m1 v4_1))))) ∧
 (¬ (v4_1 < (t.length : Int)) →
 Q ([]))))

def wp_impl_IsRack (r : List (List Int)) (Q : Bool → Prop) : Prop :=
 (small2 r) ∧
 (((isTab r) = true →
 (small2 r) ∧
 (((r.all isPerm) = true →
 (((rackF r) = [] →
 (isTab r = true) ∧
 Q true) ∧
 (¬ (rackF r) = [] →
 (isTab r = true) ∧
 Q false))) ∧
 ((r.all isPerm) = false →
 Q false))) ∧
 ((isTab r) = false →
 Q false))

def wp_spec_l03Is (r : List (List Int)) (Q : Bool → Prop) : Prop :=
 (small2 r) ∧
 (((isTab r) = false →
 Q false) ∧
 ((isTab r) = true →
 ∃ (H1 : Int → Prop) (m1 : Int → Nat),
 H1 0 ∧
 ∀ (v3_1 : Int), H1 v3_1 →
 ( ((v3_1 < (r.length : Int) →
 (0 ≤ v3_1 ∧ v3_1 < (r.length : Int)) ∧
 (small (el r v3_1)) ∧
 (((permB (el r v3_1)) = false →
 Q false) ∧
 ((permB (el r v3_1)) = true →
 (InI (v3_1 + 1)) ∧
 (H1 (v3_1 + 1) ∧ m1 (v3_1 + 1) < m1 v3_1)))) ∧
 (¬ (v3_1 < (r.length : Int)) →
 (isTab r = true) ∧
 Q (decide (((rackF r).length : Int) = 0)))))))

theorem p_k_Index (s : List Int) (v : Int) (hp : small s) : wp_k_Index s v (fun y0 => y0 = idxI s v) := by
  unfold wp_k_Index idxI
  refine ⟨fun i => 0 ≤ i ∧ i ≤ (s.length : Int) ∧ Upto i fun j => (el s j == v) = false, fun i => ((s.length : Int) - i).toNat, ⟨by omega, by omega, upto0⟩, ?_⟩
  rintro i ⟨h0, h1, hI⟩
  dsimp only
  refine ⟨fun hlt => ⟨⟨h0, hlt⟩, fun hf => (idxF_found ⟨h0, hlt⟩ hI (by simp [hf])).symm, fun ht => ⟨⟨by omega, by omega⟩, ⟨by omega, by omega, upto1 hI (by simpa using fun e => ht e.symm)⟩, by omega⟩⟩, fun hge => ?_⟩
  exact (idxF_none (by rwa [show i = (s.length : Int) by omega] at hI)).symm
theorem p_k_Clone (s : List Int) (hp : small s) : wp_k_Clone s (fun y0 => y0 = s) := by
  unfold wp_k_Clone
  exact fun b hb => ⟨fun h => (hb h).symm, fun _ => ⟨by simp; omega, rfl⟩⟩
theorem p_spec_l01Same (a b : List Int) (hp : small a ∧ small b) : wp_spec_l01Same a b (fun y0 => y0 = decide (a = b)) := by
  unfold wp_spec_l01Same
  obtain ⟨ha, hb⟩ := hp
  refine ⟨fun h => (decide_eq_false fun e => h (by rw [e])).symm, fun h => ⟨fun i => 0 ≤ i ∧ i ≤ (a.length : Int) ∧ Upto i fun j => el a j = el b j, fun i => ((a.length : Int) - i).toNat, ⟨by omega, by omega, upto0⟩, ?_⟩⟩
  rintro i ⟨h0, h1, hI⟩
  dsimp only
  refine ⟨fun hlt => ⟨⟨h0, hlt⟩, ⟨h0, by omega⟩, fun hf => (decide_eq_false fun e => hf (by rw [e])).symm, fun ht => ⟨⟨by omega, by omega⟩, ⟨by omega, by omega, upto1 hI ht⟩, by omega⟩⟩, fun hge => ?_⟩
  exact (decide_eq_true (ext_el (by omega) fun j h2 h3 => hI j h2 (by omega))).symm
theorem p_impl_permutationRows_1 (row : List Int) (hp : small row) : wp_impl_permutationRows_1 row (fun y0 => y0 = !isPerm row) := ⟨hp, rfl⟩
theorem p_impl_permutationRows (t : List (List Int)) (hp : small2 t) : wp_impl_permutationRows t (fun y0 => y0 = t.all isPerm) := by
  refine ⟨⟨hp.1, hp.2⟩, ?_⟩
  rw [List.not_any_eq_all_not]; simp
theorem p_spec_l03Fault (t : List (List Int)) (hp : isTab t = true) : wp_spec_l03Fault t (fun y0 => y0 = rackF t) := by
  unfold wp_spec_l03Fault rackF
  have hn := isTab_len hp
  have tr := fun (i : Int) (hi : 0 ≤ i ∧ i < (t.length : Int)) => isTab_row hp hi
  refine ⟨fun x => 0 ≤ x ∧ x ≤ (t.length : Int) ∧ Upto x fun a => ∀ b, 0 ≤ b → b < (t.length : Int) → ∀ c, 0 ≤ c → c < (t.length : Int) → rackB t a b c = false, fun x => ((t.length : Int) - x).toNat, ⟨by omega, by omega, upto0⟩, ?_⟩
  rintro x ⟨x0, x1, xI⟩
  dsimp only
  refine ⟨fun xlt => ?_, fun xge => (first3_none fun a h1 h2 => xI a h1 (by omega)).symm⟩
  refine ⟨fun y => 0 ≤ y ∧ y ≤ (t.length : Int) ∧ Upto y fun b => ∀ c, 0 ≤ c → c < (t.length : Int) → rackB t x b c = false, fun y => ((t.length : Int) - y).toNat, ⟨by omega, by omega, upto0⟩, ?_⟩
  rintro y ⟨y0, y1, yI⟩
  dsimp only
  refine ⟨fun ylt => ?_, fun yge => ⟨⟨by omega, by omega⟩, ⟨by omega, by omega, upto1 xI fun b h1 h2 => yI b h1 (by omega)⟩, by omega⟩⟩
  refine ⟨fun z => 0 ≤ z ∧ z ≤ (t.length : Int) ∧ Upto z fun c => rackB t x y c = false, fun z => ((t.length : Int) - z).toNat, ⟨by omega, by omega, upto0⟩, ?_⟩
  rintro z ⟨z0, z1, zI⟩
  dsimp only
  refine ⟨fun zlt => ?_, fun zge => ⟨⟨by omega, by omega⟩, ⟨by omega, by omega, upto1 yI fun c h1 h2 => zI c h1 (by omega)⟩, by omega⟩⟩
  have hx := tr x ⟨x0, xlt⟩
  have hy := tr y ⟨y0, ylt⟩
  have xy := hx.2 y y0 ylt
  have xz := hx.2 z z0 zlt
  have yz := hy.2 z z0 zlt
  have r1 := tr _ xy
  refine ⟨⟨x0, xlt⟩, ⟨y0, ylt⟩, ⟨x0, xlt⟩, ⟨x0, xlt⟩, ⟨z0, by omega⟩, ⟨yz.1, by omega⟩, ⟨y0, by omega⟩, xy, ⟨z0, by omega⟩, ⟨xz.1, by omega⟩, fun h => ?_, fun h => ⟨⟨by omega, by omega⟩, ⟨by omega, by omega, upto1 zI (by simp [rackB, h])⟩, by omega⟩⟩
  exact (first3_found ⟨x0, xlt⟩ ⟨y0, ylt⟩ ⟨z0, zlt⟩ (by simp [rackB, h]) xI yI zI).symm
theorem p_impl_rackFault (t : List (List Int)) (hp : isTab t = true) : wp_impl_rackFault t (fun y0 => y0 = rackF t) := p_spec_l03Fault t hp
theorem isEmpty_iff_nil {l : List Int} : l.isEmpty = decide ((l.length : Int) = 0) := by cases l <;> simp; omega
theorem p_impl_IsRack (r : List (List Int)) (hp : small2 r) : wp_impl_IsRack r (fun y0 => y0 = isRk r) := by
  unfold wp_impl_IsRack isRk
  refine ⟨hp, fun h => ⟨hp, fun h2 => ⟨fun h3 => ⟨h, ?_⟩, fun h3 => ⟨h, ?_⟩⟩, fun h2 => ?_⟩, fun h => ?_⟩
  · rw [h, h2, h3]; rfl
  · rw [h, h2]; cases e : rackF r with
    | nil => exact absurd e h3
    | cons x l => rfl
  · rw [h, h2]; rfl
  · rw [h]; rfl
theorem p_spec_l03Is (r : List (List Int)) (hp : small2 r) : wp_spec_l03Is r (fun y0 => y0 = isRk r) := by
  unfold wp_spec_l03Is isRk
  refine ⟨hp, fun h => by rw [h]; rfl, fun h => ?_⟩
  rw [h, ← isTab_perm h, isEmpty_iff_nil]
  refine ⟨fun i => 0 ≤ i ∧ i ≤ (r.length : Int) ∧ Upto i fun j => permB (el r j) = true, fun i => ((r.length : Int) - i).toNat, ⟨by omega, by omega, upto0⟩, ?_⟩
  rintro i ⟨h0, h3, hI⟩
  dsimp only
  refine ⟨fun hlt => ⟨⟨h0, hlt⟩, hp.2 _ (el_mem ⟨h0, hlt⟩), fun hf => by rw [all_f ⟨h0, hlt⟩ hf]; rfl, fun ht => ⟨⟨by have := isTab_len h; omega, by have := isTab_len h; omega⟩, ⟨by omega, by omega, upto1 hI ht⟩, by omega⟩⟩, fun hge => ⟨rfl, ?_⟩⟩
  rw [all_t (by rwa [show i = (r.length : Int) by omega] at hI)]; rfl
set_option maxRecDepth 100000 in
set_option maxHeartbeats 4000000 in
theorem w_k_Index (s : List Int) (v : Int) (Q : Int → Prop) (h : wp_k_Index s v Q) : AF Try.prog 67 [.lst (ints s), ci v] (fun R_ => ∃ y0, Q y0 ∧ R_ = ci y0) := by
  refine AF.ofWQ (af_enter (n := 19) Try.func67 rfl (by rfl) rfl (Nat.le_of_ble_eq_true rfl) ?_)
  unfold wp_k_Index at h
  refine aw_seq ?_
  refine aw_gh (gh_to (n := 19) (σ' := []) (env' := [(0, .c (.lst (ints s))), (1, .c (ci v))]) rfl rfl ⟨rfl, rfl, trivial⟩) ?_
  refine aw_region ?_
  refine run_s (ss_assign rfl) rfl ?_
  refine run_nil ?_
  refine aw_seq ?_
  refine aw_seq ?_
  refine aw_region ?_
  refine run_s (ss_move rfl) rfl ?_
  refine run_s (ss_lenL (f := ci) rfl) rfl ?_
  refine run_s (ss_move rfl) rfl ?_
  refine run_nil ?_
  refine aw_block ?_
  obtain ⟨H1, m1, q1, h⟩ := h
  refine aw_loop1 (fun (v8_1 : Int) => ⟨[], [(0, .c (.lst (ints s))), (1, .c (ci v)), (7, .c (ci (s.length : Int))), (8, .c (ci v8_1))], 19⟩) H1 m1 ⟨0, ghe_to (n := 19) rfl rfl ⟨rfl, rfl, rfl, rfl, trivial⟩, q1⟩ ?_
  rintro v8_1 q1
  replace h := h v8_1 q1
  refine aw_seq ?_
  refine aw_region ?_
  refine run_s (ss_lss rfl rfl) rfl ?_
  refine run_nil ?_
  refine aw_seq ?_
  refine aw_cond rfl (fun q2 => ?_) (fun q2 => ?_)
  ·replace h := h.1 (of_decide_eq_true q2)
   refine aw_skip ?_
   refine aw_seq ?_
   refine aw_block ?_
   refine aw_seq ?_
   refine aw_region ?_
   refine run_s (ss_move rfl) rfl ?_
   refine run_s (ss_assign rfl) rfl ?_
   refine run_nil ?_
   refine aw_seq ?_
   refine aw_region ?_
   refine run_s (ss_move rfl) rfl ?_
   refine run_s (ss_move rfl) rfl ?_
   refine run_s (ss_move rfl) rfl ?_
   obtain ⟨q3, h⟩ := h
   refine run_s (ss_idxL rfl rfl q3) rfl ?_
   refine run_s (ss_loadL (f := ci) rfl q3) rfl ?_
   refine run_s (ss_eql rfl rfl) rfl ?_
   refine run_nil ?_
   refine aw_cond rfl (fun q4 => ?_) (fun q4 => ?_)
   ·replace h := h.1 (of_decide_eq_true q4)
    refine aw_seq ?_
    refine aw_gh (gh_to (n := 19) (σ' := []) (env' := [(5, .c (ci v8_1))]) rfl rfl ⟨rfl, trivial⟩) ?_
    refine aw_region ?_
    refine run_s (ss_move rfl) rfl ?_
    refine run_s (ss_assign rfl) rfl ?_
    refine run_nil ?_
    refine aw_ret ?_
    exact retAF_mk (retv1 rfl (rv_tmp rfl)) rfl rfl ⟨_, (cle_refl _), _, h, rfl⟩
   ·replace h := h.2 (of_decide_eq_false q4)
    refine aw_skip ?_
    refine aw_gh (gh_to (n := 19) (σ' := []) (env' := [(0, .c (.lst (ints s))), (1, .c (ci v)), (7, .c (ci (s.length : Int))), (8, .c (ci v8_1))]) rfl rfl ⟨rfl, rfl, rfl, rfl, trivial⟩) ?_
    refine aw_region ?_
    obtain ⟨q5, h⟩ := h
    refine run_s (ss_add rfl rfl q5) rfl ?_
    refine run_s (ss_move rfl) rfl ?_
    refine run_nil ?_
    exact ⟨v8_1 + 1, ghe_to (n := 19) rfl rfl ⟨rfl, rfl, rfl, rfl, trivial⟩, h.1, h.2⟩
  ·replace h := h.2 (of_decide_eq_false q2)
   refine aw_exit ?_
   refine aw_seq ?_
   refine aw_gh (gh_to (n := 19) (σ' := []) (env' := []) rfl rfl trivial) ?_
   refine aw_region ?_
   refine run_s (ss_assign rfl) rfl ?_
   refine run_nil ?_
   refine aw_ret ?_
   exact retAF_mk (retv1 rfl (rv_tmp rfl)) rfl rfl ⟨_, (cle_refl _), _, h, rfl⟩

theorem c_k_Index (s : List Int) (v : Int) (hp : small s) : AF Try.prog 67 [.lst (ints s), ci v] (fun R_ => R_ = ci (idxI s v)) :=
  (w_k_Index s v (fun y0 => y0 = idxI s v) (p_k_Index s v hp)).mono (by rintro r ⟨_, rfl, rfl⟩; rfl)

set_option maxRecDepth 100000 in
set_option maxHeartbeats 4000000 in
theorem w_k_Clone (s : List Int) (Q : List Int → Prop) (h : wp_k_Clone s Q) : AF Try.prog 26 [.lst (ints s)] (fun R_ => ∃ y0, Q y0 ∧ R_ = .own (ints y0)) := by
  refine AF.ofWQ (af_enter (n := 8) Try.func26 rfl (by rfl) rfl (Nat.le_of_ble_eq_true rfl) ?_)
  unfold wp_k_Clone at h
  refine aw_seq ?_
  refine aw_gh (gh_to (n := 8) (σ' := []) (env' := [(0, .c (.lst (ints s)))]) rfl rfl ⟨rfl, trivial⟩) ?_
  refine aw_region ?_
  refine run_s (ss_assign rfl) rfl ?_
  refine run_nil ?_
  refine aw_seq ?_
  refine aw_seq ?_
  refine aw_region ?_
  refine run_s (ss_move rfl) rfl ?_
  refine run_w (ws_eqlNilL (f := ci) rfl rfl ?_ )
  intro b1 q1
  replace h := h b1 q1
  refine ⟨rfl, ?_⟩
  refine run_nil ?_
  refine aw_cond rfl (fun q2 => ?_) (fun q2 => ?_)
  ·replace h := h.1 (q2)
   refine aw_seq ?_
   refine aw_gh (gh_to (n := 8) (σ' := []) (env' := [(2, .c (cnil))]) rfl rfl ⟨rfl, trivial⟩) ?_
   refine aw_region ?_
   refine run_s (ss_assign rfl) rfl ?_
   refine run_nil ?_
   refine aw_ret ?_
   exact retAF_mk (retv1 rfl (rv_tmp rfl)) rfl rfl ⟨_, cle_nilO, _, h, rfl⟩
  ·replace h := h.2 (q2)
   refine aw_skip ?_
   refine aw_seq ?_
   refine aw_region ?_
   refine run_w (ws_buildSlice (id := 5) (ps := []) rfl rfl (Nat.le_of_ble_eq_true rfl) rfl ⟨rfl, ?_⟩)
   refine run_s (ss_move rfl) rfl ?_
   obtain ⟨q3, h⟩ := h
   refine run_w (ws_appL ci (l := ([] : List Int)) (m := s) rfl rfl rfl (Nat.le_of_ble_eq_true rfl) q3 ⟨rfl, ?_⟩)
   refine run_s (ss_assign rfl) rfl ?_
   refine run_nil ?_
   refine aw_ret ?_
   exact retAF_mk (retv1 rfl (rv_tmp rfl)) rfl rfl ⟨_, (cle_refl _), _, h, rfl⟩

theorem c_k_Clone (s : List Int) (hp : small s) : AF Try.prog 26 [.lst (ints s)] (fun R_ => R_ = .own (ints s)) :=
  (w_k_Clone s (fun y0 => y0 = s) (p_k_Clone s hp)).mono (by rintro r ⟨_, rfl, rfl⟩; rfl)

set_option maxRecDepth 100000 in
set_option maxHeartbeats 4000000 in
theorem w_spec_l01Same (a : List Int) (b : List Int) (Q : Bool → Prop) (h : wp_spec_l01Same a b Q) : AF Try.prog 60 [.lst (ints a), .lst (ints b)] (fun R_ => ∃ y0, Q y0 ∧ R_ = cb y0) := by
  refine AF.ofWQ (af_enter (n := 26) Try.func60 rfl (by rfl) rfl (Nat.le_of_ble_eq_true rfl) ?_)
  unfold wp_spec_l01Same at h
  refine aw_seq ?_
  refine aw_gh (gh_to (n := 26) (σ' := []) (env' := [(0, .c (.lst (ints a))), (1, .c (.lst (ints b)))]) rfl rfl ⟨rfl, rfl, trivial⟩) ?_
  refine aw_region ?_
  refine run_s (ss_assign rfl) rfl ?_
  refine run_nil ?_
  refine aw_seq ?_
  refine aw_seq ?_
  refine aw_region ?_
  refine run_s (ss_move rfl) rfl ?_
  refine run_s (ss_lenL (f := ci) rfl) rfl ?_
  refine run_s (ss_move rfl) rfl ?_
  refine run_s (ss_lenL (f := ci) rfl) rfl ?_
  refine run_s (ss_neq rfl rfl) rfl ?_
  refine run_nil ?_
  refine aw_cond rfl (fun q1 => ?_) (fun q1 => ?_)
  ·replace h := h.1 (of_decide_eq_false (bnot_t q1))
   refine aw_seq ?_
   refine aw_gh (gh_to (n := 26) (σ' := []) (env' := [(4, .c (cb false))]) rfl rfl ⟨rfl, trivial⟩) ?_
   refine aw_region ?_
   refine run_s (ss_assign rfl) rfl ?_
   refine run_nil ?_
   refine aw_ret ?_
   exact retAF_mk (retv1 rfl (rv_tmp rfl)) rfl rfl ⟨_, (cle_refl _), _, h, rfl⟩
  ·replace h := h.2 (of_decide_eq_true (bnot_f q1))
   refine aw_skip ?_
   refine aw_seq ?_
   refine aw_seq ?_
   refine aw_gh (gh_to (n := 26) (σ' := []) (env' := [(0, .c (.lst (ints a))), (1, .c (.lst (ints b)))]) rfl rfl ⟨rfl, rfl, trivial⟩) ?_
   refine aw_region ?_
   refine run_s (ss_assign rfl) rfl ?_
   refine run_nil ?_
   refine aw_block ?_
   obtain ⟨H1, m1, q2, h⟩ := h
   refine aw_loop1 (fun (v5_1 : Int) => ⟨[], [(0, .c (.lst (ints a))), (1, .c (.lst (ints b))), (5, .c (ci v5_1))], 26⟩) H1 m1 ⟨0, ghe_to (n := 26) rfl rfl ⟨rfl, rfl, rfl, trivial⟩, q2⟩ ?_
   rintro v5_1 q2
   replace h := h v5_1 q2
   refine aw_seq ?_
   refine aw_seq ?_
   refine aw_region ?_
   refine run_s (ss_move rfl) rfl ?_
   refine run_s (ss_move rfl) rfl ?_
   refine run_s (ss_lenL (f := ci) rfl) rfl ?_
   refine run_s (ss_lss rfl rfl) rfl ?_
   refine run_nil ?_
   refine aw_cond rfl (fun q3 => ?_) (fun q3 => ?_)
   ·replace h := h.1 (of_decide_eq_true q3)
    refine aw_skip ?_
    refine aw_seq ?_
    refine aw_block ?_
    refine aw_seq ?_
    refine aw_gh (gh_to (n := 26) (σ' := []) (env' := [(0, .c (.lst (ints a))), (1, .c (.lst (ints b))), (5, .c (ci v5_1))]) rfl rfl ⟨rfl, rfl, rfl, trivial⟩) ?_
    refine aw_regionD (kd := kdl [0, 0, 0, 1, 0, 0, 0, 1, 0]) (ord := [0, 1, 2, 4, 5, 6, 3, 7, 8]) [] mixed (by kernel_rfl) ?_
    refine rd_s rfl rfl trivial (ss_move rfl) rfl ?_
    refine rd_s rfl rfl trivial (ss_move rfl) rfl ?_
    obtain ⟨q4, h⟩ := h
    refine rd_s rfl rfl trivial (ss_idxL rfl rfl q4) rfl ?_
    refine rd_s rfl rfl trivial (ss_move rfl) rfl ?_
    refine rd_s rfl rfl trivial (ss_move rfl) rfl ?_
    obtain ⟨q5, h⟩ := h
    refine rd_s rfl rfl trivial (ss_idxL rfl rfl q5) rfl ?_
    refine rd_l rfl rfl trivial (ss_loadL (f := ci) rfl q4) rfl ?_
    refine rd_l rfl rfl trivial (ss_loadL (f := ci) rfl q5) rfl ?_
    refine rd_s rfl rfl trivial (ss_neq rfl rfl) rfl ?_
    refine rd_nil ?_
    refine aw_cond rfl (fun q6 => ?_) (fun q6 => ?_)
    ·replace h := h.1 (of_decide_eq_false (bnot_t q6))
     refine aw_seq ?_
     refine aw_gh (gh_to (n := 26) (σ' := []) (env' := []) rfl rfl trivial) ?_
     refine aw_region ?_
     refine run_s (ss_assign rfl) rfl ?_
     refine run_nil ?_
     refine aw_ret ?_
     exact retAF_mk (retv1 rfl (rv_tmp rfl)) rfl rfl ⟨_, (cle_refl _), _, h, rfl⟩
    ·replace h := h.2 (of_decide_eq_true (bnot_f q6))
     refine aw_skip ?_
     refine aw_gh (gh_to (n := 26) (σ' := []) (env' := [(0, .c (.lst (ints a))), (1, .c (.lst (ints b))), (5, .c (ci v5_1))]) rfl rfl ⟨rfl, rfl, rfl, trivial⟩) ?_
     refine aw_region ?_
     refine run_s (ss_move rfl) rfl ?_
     obtain ⟨q7, h⟩ := h
     refine run_s (ss_add rfl rfl q7) rfl ?_
     refine run_s (ss_assign rfl) rfl ?_
     refine run_nil ?_
     exact ⟨v5_1 + 1, ghe_to (n := 26) rfl rfl ⟨rfl, rfl, rfl, trivial⟩, h.1, h.2⟩
   ·replace h := h.2 (of_decide_eq_false q3)
    refine aw_exit ?_
    refine aw_seq ?_
    refine aw_gh (gh_to (n := 26) (σ' := []) (env' := []) rfl rfl trivial) ?_
    refine aw_region ?_
    refine run_s (ss_assign rfl) rfl ?_
    refine run_nil ?_
    refine aw_ret ?_
    exact retAF_mk (retv1 rfl (rv_tmp rfl)) rfl rfl ⟨_, (cle_refl _), _, h, rfl⟩

theorem c_spec_l01Same (a : List Int) (b : List Int) (hp : small a ∧ small b) : AF Try.prog 60 [.lst (ints a), .lst (ints b)] (fun R_ => R_ = cb (decide (a = b))) :=
  (w_spec_l01Same a b (fun y0 => y0 = decide (a = b)) (p_spec_l01Same a b hp)).mono (by rintro r ⟨_, rfl, rfl⟩; rfl)

set_option maxRecDepth 100000 in
set_option maxHeartbeats 4000000 in
theorem w_impl_permutationRows_1 (row : List Int) (Q : Bool → Prop) (h : wp_impl_permutationRows_1 row Q) : AF Try.prog 66 [.lst (ints row)] (fun R_ => ∃ y0, Q y0 ∧ R_ = cb y0) := by
  refine AF.ofWQ (af_enter (n := 6) Try.func66 rfl (by rfl) rfl (Nat.le_of_ble_eq_true rfl) ?_)
  unfold wp_impl_permutationRows_1 at h
  refine aw_seq ?_
  refine aw_gh (gh_to (n := 6) (σ' := []) (env' := [(0, .c (.lst (ints row)))]) rfl rfl ⟨rfl, trivial⟩) ?_
  refine aw_region ?_
  refine run_s (ss_assign rfl) rfl ?_
  refine run_nil ?_
  refine aw_seq ?_
  refine aw_region ?_
  refine run_s (ss_move rfl) rfl ?_
  obtain ⟨q1, h⟩ := h
  refine run_w (ws_call (xs := [.tmp 3]) (ids := []) rfl rfl rfl rfl (c_impl_isPermuted row q1) rfl ?_ )
  rintro _ rfl
  refine ⟨rfl, ?_⟩
  refine run_s (ss_not rfl) rfl ?_
  refine run_s (ss_assign rfl) rfl ?_
  refine run_nil ?_
  refine aw_ret ?_
  exact retAF_mk (retv1 rfl (rv_tmp rfl)) rfl rfl ⟨_, (cle_refl _), _, h, rfl⟩

theorem c_impl_permutationRows_1 (row : List Int) (hp : small row) : AF Try.prog 66 [.lst (ints row)] (fun R_ => R_ = cb (!isPerm row)) :=
  (w_impl_permutationRows_1 row (fun y0 => y0 = !isPerm row) (p_impl_permutationRows_1 row hp)).mono (by rintro r ⟨_, rfl, rfl⟩; rfl)

set_option maxRecDepth 100000 in
set_option maxHeartbeats 4000000 in
theorem w_impl_permutationRows (t : List (List Int)) (Q : Bool → Prop) (h : wp_impl_permutationRows t Q) : AF Try.prog 42 [.lst (rows t)] (fun R_ => ∃ y0, Q y0 ∧ R_ = cb y0) := by
  refine AF.ofWQ (af_enter (n := 6) Try.func42 rfl (by rfl) rfl (Nat.le_of_ble_eq_true rfl) ?_)
  unfold wp_impl_permutationRows at h
  refine aw_seq ?_
  refine aw_gh (gh_to (n := 6) (σ' := []) (env' := [(0, .c (.lst (rows t)))]) rfl rfl ⟨rfl, trivial⟩) ?_
  refine aw_region ?_
  refine run_s (ss_assign rfl) rfl ?_
  refine run_nil ?_
  refine aw_seq ?_
  refine aw_region ?_
  refine run_s (ss_move rfl) rfl ?_
  obtain ⟨q1, h⟩ := h
  refine run_w (ws_call (xs := [.tmp 3, .func 66]) (ids := []) rfl rfl rfl rfl (c_k_ContainsFunc_rows t 66 [] (fun z0 => !isPerm z0) (fun z0 => small z0) (fun z0 hD => c_impl_permutationRows_1 z0 hD) q1) rfl ?_ )
  rintro _ rfl
  refine ⟨rfl, ?_⟩
  refine run_s (ss_not rfl) rfl ?_
  refine run_s (ss_assign rfl) rfl ?_
  refine run_nil ?_
  refine aw_ret ?_
  exact retAF_mk (retv1 rfl (rv_tmp rfl)) rfl rfl ⟨_, (cle_refl _), _, h, rfl⟩

theorem c_impl_permutationRows (t : List (List Int)) (hp : small2 t) : AF Try.prog 42 [.lst (rows t)] (fun R_ => R_ = cb (t.all isPerm)) :=
  (w_impl_permutationRows t (fun y0 => y0 = t.all isPerm) (p_impl_permutationRows t hp)).mono (by rintro r ⟨_, rfl, rfl⟩; rfl)

set_option maxRecDepth 100000 in
set_option maxHeartbeats 4000000 in
theorem w_impl_rackFault (t : List (List Int)) (Q : List Int → Prop) (h : wp_impl_rackFault t Q) : AF Try.prog 43 [.lst (rows t)] (fun R_ => ∃ y0, Q y0 ∧ R_ = onil y0) := by
  refine AF.ofWQ (af_enter (n := 61) Try.func43 rfl (by rfl) rfl (Nat.le_of_ble_eq_true rfl) ?_)
  unfold wp_impl_rackFault at h
  refine aw_seq ?_
  refine aw_gh (gh_to (n := 61) (σ' := []) (env' := [(0, .c (.lst (rows t)))]) rfl rfl ⟨rfl, trivial⟩) ?_
  refine aw_region ?_
  refine run_s (ss_assign rfl) rfl ?_
  refine run_nil ?_
  refine aw_seq ?_
  refine aw_region ?_
  refine run_s (ss_move rfl) rfl ?_
  refine run_s (ss_lenL (f := (fun r => C.lst (ints r))) rfl) rfl ?_
  refine run_s (ss_assign rfl) rfl ?_
  refine run_nil ?_
  refine aw_seq ?_
  refine aw_seq ?_
  refine aw_region ?_
  refine run_s (ss_move rfl) rfl ?_
  refine run_s (ss_move rfl) rfl ?_
  refine run_nil ?_
  refine aw_block ?_
  obtain ⟨H1, m1, q1, h⟩ := h
  refine aw_loop1 (fun (v10_1 : Int) => ⟨[], [(0, .c (.lst (rows t))), (3, .c (ci (t.length : Int))), (9, .c (ci (t.length : Int))), (10, .c (ci v10_1))], 61⟩) H1 m1 ⟨0, ghe_to (n := 61) rfl rfl ⟨rfl, rfl, rfl, rfl, trivial⟩, q1⟩ ?_
  rintro v10_1 q1
  replace h := h v10_1 q1
  refine aw_seq ?_
  refine aw_region ?_
  refine run_s (ss_lss rfl rfl) rfl ?_
  refine run_nil ?_
  refine aw_seq ?_
  refine aw_cond rfl (fun q2 => ?_) (fun q2 => ?_)
  ·replace h := h.1 (of_decide_eq_true q2)
   refine aw_skip ?_
   refine aw_seq ?_
   refine aw_block ?_
   refine aw_seq ?_
   refine aw_region ?_
   refine run_s (ss_move rfl) rfl ?_
   refine run_s (ss_assign rfl) rfl ?_
   refine run_nil ?_
   refine aw_seq ?_
   refine aw_region ?_
   refine run_s (ss_move rfl) rfl ?_
   refine run_s (ss_move rfl) rfl ?_
   refine run_nil ?_
   refine aw_block ?_
   obtain ⟨H2, m2, q3, h⟩ := h
   refine aw_loop1 (fun (v14_2 : Int) => ⟨[], [(0, .c (.lst (rows t))), (3, .c (ci (t.length : Int))), (4, .c (ci v10_1)), (9, .c (ci (t.length : Int))), (10, .c (ci v10_1)), (13, .c (ci (t.length : Int))), (14, .c (ci v14_2))], 61⟩) H2 m2 ⟨0, ghe_to (n := 61) rfl rfl ⟨rfl, rfl, rfl, rfl, rfl, rfl, rfl, trivial⟩, q3⟩ ?_
   rintro v14_2 q3
   replace h := h v14_2 q3
   refine aw_seq ?_
   refine aw_region ?_
   refine run_s (ss_lss rfl rfl) rfl ?_
   refine run_nil ?_
   refine aw_seq ?_
   refine aw_cond rfl (fun q4 => ?_) (fun q4 => ?_)
   ·replace h := h.1 (of_decide_eq_true q4)
    refine aw_skip ?_
    refine aw_seq ?_
    refine aw_block ?_
    refine aw_seq ?_
    refine aw_region ?_
    refine run_s (ss_move rfl) rfl ?_
    refine run_s (ss_assign rfl) rfl ?_
    refine run_nil ?_
    refine aw_seq ?_
    refine aw_region ?_
    refine run_s (ss_move rfl) rfl ?_
    refine run_s (ss_move rfl) rfl ?_
    refine run_nil ?_
    refine aw_block ?_
    obtain ⟨H3, m3, q5, h⟩ := h
    refine aw_loop1 (fun (v18_3 : Int) => ⟨[], [(0, .c (.lst (rows t))), (3, .c (ci (t.length : Int))), (4, .c (ci v10_1)), (5, .c (ci v14_2)), (9, .c (ci (t.length : Int))), (10, .c (ci v10_1)), (13, .c (ci (t.length : Int))), (14, .c (ci v14_2)), (17, .c (ci (t.length : Int))), (18, .c (ci v18_3))], 61⟩) H3 m3 ⟨0, ghe_to (n := 61) rfl rfl ⟨rfl, rfl, rfl, rfl, rfl, rfl, rfl, rfl, rfl, rfl, trivial⟩, q5⟩ ?_
    rintro v18_3 q5
    replace h := h v18_3 q5
    refine aw_seq ?_
    refine aw_region ?_
    refine run_s (ss_lss rfl rfl) rfl ?_
    refine run_nil ?_
    refine aw_seq ?_
    refine aw_cond rfl (fun q6 => ?_) (fun q6 => ?_)
    ·replace h := h.1 (of_decide_eq_true q6)
     refine aw_skip ?_
     refine aw_seq ?_
     refine aw_block ?_
     refine aw_seq ?_
     refine aw_region ?_
     refine run_s (ss_move rfl) rfl ?_
     refine run_s (ss_assign rfl) rfl ?_
     refine run_nil ?_
     refine aw_seq ?_
     refine aw_gh (gh_to (n := 61) (σ' := []) (env' := [(0, .c (.lst (rows t))), (3, .c (ci (t.length : Int))), (4, .c (ci v10_1)), (5, .c (ci v14_2)), (6, .c (ci v18_3)), (9, .c (ci (t.length : Int))), (10, .c (ci v10_1)), (13, .c (ci (t.length : Int))), (14, .c (ci v14_2)), (17, .c (ci (t.length : Int))), (18, .c (ci v18_3))]) rfl rfl ⟨rfl, rfl, rfl, rfl, rfl, rfl, rfl, rfl, rfl, rfl, rfl, trivial⟩) ?_
     refine aw_regionD (kd := kdl [0, 0, 0, 1, 0, 0, 0, 1, 0, 0, 1, 0, 1, 0, 0, 0, 0, 1, 0, 0, 1, 0, 1, 0, 0, 0, 1, 0, 0, 1, 0, 1, 0]) (ord := [0, 1, 2, 4, 5, 6, 8, 13, 14, 15, 16, 18, 23, 24, 25, 27, 3, 7, 9, 10, 11, 12, 17, 19, 20, 21, 22, 26, 28, 29, 30, 31, 32]) [] mixed (by kernel_rfl) ?_
     refine rd_s rfl rfl trivial (ss_move rfl) rfl ?_
     refine rd_s rfl rfl trivial (ss_move rfl) rfl ?_
     obtain ⟨q7, h⟩ := h
     refine rd_s rfl rfl trivial (ss_idxL rfl rfl q7) rfl ?_
     refine rd_s rfl rfl trivial (ss_move rfl) rfl ?_
     refine rd_s rfl rfl trivial (ss_move rfl) rfl ?_
     obtain ⟨q8, h⟩ := h
     refine rd_s rfl rfl trivial (ss_idxL rfl rfl q8) rfl ?_
     refine rd_s rfl rfl trivial (ss_move rfl) rfl ?_
     refine rd_s rfl rfl trivial (ss_move rfl) rfl ?_
     refine rd_s rfl rfl trivial (ss_move rfl) rfl ?_
     refine rd_s rfl rfl trivial (ss_move rfl) rfl ?_
     obtain ⟨q9, h⟩ := h
     refine rd_s rfl rfl trivial (ss_idxL rfl rfl q9) rfl ?_
     refine rd_s rfl rfl trivial (ss_move rfl) rfl ?_
     refine rd_s rfl rfl trivial (ss_move rfl) rfl ?_
     refine rd_s rfl rfl trivial (ss_move rfl) rfl ?_
     obtain ⟨q10, h⟩ := h
     refine rd_s rfl rfl trivial (ss_idxL rfl rfl q10) rfl ?_
     refine rd_s rfl rfl trivial (ss_move rfl) rfl ?_
     refine rd_l rfl rfl trivial (ss_loadL (f := (fun r => C.lst (ints r))) rfl q7) rfl ?_
     refine rd_l rfl rfl trivial (ss_loadL (f := (fun r => C.lst (ints r))) rfl q8) rfl ?_
     obtain ⟨q11, h⟩ := h
     refine rd_s rfl rfl trivial (ss_idxL rfl rfl q11) rfl ?_
     refine rd_l rfl rfl trivial (ss_loadL (f := ci) rfl q11) rfl ?_
     obtain ⟨q12, h⟩ := h
     refine rd_s rfl rfl trivial (ss_idxL rfl rfl q12) rfl ?_
     refine rd_l rfl rfl trivial (ss_loadL (f := ci) rfl q12) rfl ?_
     refine rd_l rfl rfl trivial (ss_loadL (f := (fun r => C.lst (ints r))) rfl q9) rfl ?_
     obtain ⟨q13, h⟩ := h
     refine rd_s rfl rfl trivial (ss_idxL rfl rfl q13) rfl ?_
     refine rd_l rfl rfl trivial (ss_loadL (f := ci) rfl q13) rfl ?_
     obtain ⟨q14, h⟩ := h
     refine rd_s rfl rfl trivial (ss_idxL rfl rfl q14) rfl ?_
     refine rd_l rfl rfl trivial (ss_loadL (f := (fun r => C.lst (ints r))) rfl q14) rfl ?_
     refine rd_l rfl rfl trivial (ss_loadL (f := (fun r => C.lst (ints r))) rfl q10) rfl ?_
     obtain ⟨q15, h⟩ := h
     refine rd_s rfl rfl trivial (ss_idxL rfl rfl q15) rfl ?_
     refine rd_l rfl rfl trivial (ss_loadL (f := ci) rfl q15) rfl ?_
     obtain ⟨q16, h⟩ := h
     refine rd_s rfl rfl trivial (ss_idxL rfl rfl q16) rfl ?_
     refine rd_l rfl rfl trivial (ss_loadL (f := ci) rfl q16) rfl ?_
     refine rd_s rfl rfl trivial (ss_neq rfl rfl) rfl ?_
     refine rd_nil ?_
     refine aw_cond rfl (fun q17 => ?_) (fun q17 => ?_)
     ·replace h := h.1 (of_decide_eq_false (bnot_t q17))
      refine aw_seq ?_
      refine aw_gh (gh_to (n := 61) (σ' := []) (env' := [(4, .c (ci v10_1)), (5, .c (ci v14_2)), (6, .c (ci v18_3))]) rfl rfl ⟨rfl, rfl, rfl, trivial⟩) ?_
      refine aw_region ?_
      refine run_s (ss_move rfl) rfl ?_
      refine run_s (ss_move rfl) rfl ?_
      refine run_s (ss_move rfl) rfl ?_
      refine run_w (ws_buildSlice (id := 57) (ps := [(0, .tmp 54), (1, .tmp 55), (2, .tmp 56)]) rfl rfl (Nat.le_of_ble_eq_true rfl) rfl ⟨rfl, ?_⟩)
      refine run_s (ss_assign rfl) rfl ?_
      refine run_nil ?_
      refine aw_ret ?_
      exact retAF_mk (retv1 rfl (rv_tmp rfl)) rfl rfl ⟨_, (cle_refl _), _, h, rfl⟩
     ·replace h := h.2 (of_decide_eq_true (bnot_f q17))
      refine aw_skip ?_
      refine aw_gh (gh_to (n := 61) (σ' := []) (env' := [(0, .c (.lst (rows t))), (3, .c (ci (t.length : Int))), (4, .c (ci v10_1)), (5, .c (ci v14_2)), (9, .c (ci (t.length : Int))), (10, .c (ci v10_1)), (13, .c (ci (t.length : Int))), (14, .c (ci v14_2)), (17, .c (ci (t.length : Int))), (18, .c (ci v18_3))]) rfl rfl ⟨rfl, rfl, rfl, rfl, rfl, rfl, rfl, rfl, rfl, rfl, trivial⟩) ?_
      refine aw_region ?_
      obtain ⟨q18, h⟩ := h
      refine run_s (ss_add rfl rfl q18) rfl ?_
      refine run_s (ss_move rfl) rfl ?_
      refine run_nil ?_
      exact ⟨v18_3 + 1, ghe_to (n := 61) rfl rfl ⟨rfl, rfl, rfl, rfl, rfl, rfl, rfl, rfl, rfl, rfl, trivial⟩, h.1, h.2⟩
    ·replace h := h.2 (of_decide_eq_false q6)
     refine aw_exit ?_
     refine aw_gh (gh_to (n := 61) (σ' := []) (env' := [(0, .c (.lst (rows t))), (3, .c (ci (t.length : Int))), (4, .c (ci v10_1)), (9, .c (ci (t.length : Int))), (10, .c (ci v10_1)), (13, .c (ci (t.length : Int))), (14, .c (ci v14_2))]) rfl rfl ⟨rfl, rfl, rfl, rfl, rfl, rfl, rfl, trivial⟩) ?_
     refine aw_region ?_
     obtain ⟨q19, h⟩ := h
     refine run_s (ss_add rfl rfl q19) rfl ?_
     refine run_s (ss_move rfl) rfl ?_
     refine run_nil ?_
     exact ⟨v14_2 + 1, ghe_to (n := 61) rfl rfl ⟨rfl, rfl, rfl, rfl, rfl, rfl, rfl, trivial⟩, h.1, h.2⟩
   ·replace h := h.2 (of_decide_eq_false q4)
    refine aw_exit ?_
    refine aw_gh (gh_to (n := 61) (σ' := []) (env' := [(0, .c (.lst (rows t))), (3, .c (ci (t.length : Int))), (9, .c (ci (t.length : Int))), (10, .c (ci v10_1))]) rfl rfl ⟨rfl, rfl, rfl, rfl, trivial⟩) ?_
    refine aw_region ?_
    obtain ⟨q20, h⟩ := h
    refine run_s (ss_add rfl rfl q20) rfl ?_
    refine run_s (ss_move rfl) rfl ?_
    refine run_nil ?_
    exact ⟨v10_1 + 1, ghe_to (n := 61) rfl rfl ⟨rfl, rfl, rfl, rfl, trivial⟩, h.1, h.2⟩
  ·replace h := h.2 (of_decide_eq_false q2)
   refine aw_exit ?_
   refine aw_seq ?_
   refine aw_gh (gh_to (n := 61) (σ' := []) (env' := []) rfl rfl trivial) ?_
   refine aw_region ?_
   refine run_s (ss_assign rfl) rfl ?_
   refine run_nil ?_
   refine aw_ret ?_
   exact retAF_mk (retv1 rfl (rv_tmp rfl)) rfl rfl ⟨_, (cle_refl _), _, h, rfl⟩

theorem c_impl_rackFault (t : List (List Int)) (hp : isTab t = true) : AF Try.prog 43 [.lst (rows t)] (fun R_ => R_ = onil (rackF t)) :=
  (w_impl_rackFault t (fun y0 => y0 = rackF t) (p_impl_rackFault t hp)).mono (by rintro r ⟨_, rfl, rfl⟩; rfl)

set_option maxRecDepth 100000 in
set_option maxHeartbeats 4000000 in
theorem w_spec_l03Fault (t : List (List Int)) (Q : List Int → Prop) (h : wp_spec_l03Fault t Q) : AF Try.prog 36 [.lst (rows t)] (fun R_ => ∃ y0, Q y0 ∧ R_ = .own (ints y0)) := by
  refine AF.ofWQ (af_enter (n := 61) Try.func36 rfl (by rfl) rfl (Nat.le_of_ble_eq_true rfl) ?_)
  unfold wp_spec_l03Fault at h
  refine aw_seq ?_
  refine aw_gh (gh_to (n := 61) (σ' := []) (env' := [(0, .c (.lst (rows t)))]) rfl rfl ⟨rfl, trivial⟩) ?_
  refine aw_region ?_
  refine run_s (ss_assign rfl) rfl ?_
  refine run_nil ?_
  refine aw_seq ?_
  refine aw_region ?_
  refine run_s (ss_move rfl) rfl ?_
  refine run_s (ss_lenL (f := (fun r => C.lst (ints r))) rfl) rfl ?_
  refine run_s (ss_assign rfl) rfl ?_
  refine run_nil ?_
  refine aw_seq ?_
  refine aw_seq ?_
  refine aw_region ?_
  refine run_s (ss_assign rfl) rfl ?_
  refine run_nil ?_
  refine aw_block ?_
  obtain ⟨H1, m1, q1, h⟩ := h
  refine aw_loop1 (fun (v4_1 : Int) => ⟨[], [(0, .c (.lst (rows t))), (3, .c (ci (t.length : Int))), (4, .c (ci v4_1))], 61⟩) H1 m1 ⟨0, ghe_to (n := 61) rfl rfl ⟨rfl, rfl, rfl, trivial⟩, q1⟩ ?_
  rintro v4_1 q1
  replace h := h v4_1 q1
  refine aw_seq ?_
  refine aw_seq ?_
  refine aw_region ?_
  refine run_s (ss_move rfl) rfl ?_
  refine run_s (ss_move rfl) rfl ?_
  refine run_s (ss_lss rfl rfl) rfl ?_
  refine run_nil ?_
  refine aw_cond rfl (fun q2 => ?_) (fun q2 => ?_)
  ·replace h := h.1 (of_decide_eq_true q2)
   refine aw_skip ?_
   refine aw_seq ?_
   refine aw_block ?_
   refine aw_seq ?_
   refine aw_region ?_
   refine run_s (ss_assign rfl) rfl ?_
   refine run_nil ?_
   refine aw_block ?_
   obtain ⟨H2, m2, q3, h⟩ := h
   refine aw_loop1 (fun (v5_2 : Int) => ⟨[], [(0, .c (.lst (rows t))), (3, .c (ci (t.length : Int))), (4, .c (ci v4_1)), (5, .c (ci v5_2))], 61⟩) H2 m2 ⟨0, ghe_to (n := 61) rfl rfl ⟨rfl, rfl, rfl, rfl, trivial⟩, q3⟩ ?_
   rintro v5_2 q3
   replace h := h v5_2 q3
   refine aw_seq ?_
   refine aw_seq ?_
   refine aw_region ?_
   refine run_s (ss_move rfl) rfl ?_
   refine run_s (ss_move rfl) rfl ?_
   refine run_s (ss_lss rfl rfl) rfl ?_
   refine run_nil ?_
   refine aw_cond rfl (fun q4 => ?_) (fun q4 => ?_)
   ·replace h := h.1 (of_decide_eq_true q4)
    refine aw_skip ?_
    refine aw_seq ?_
    refine aw_block ?_
    refine aw_seq ?_
    refine aw_region ?_
    refine run_s (ss_assign rfl) rfl ?_
    refine run_nil ?_
    refine aw_block ?_
    obtain ⟨H3, m3, q5, h⟩ := h
    refine aw_loop1 (fun (v6_3 : Int) => ⟨[], [(0, .c (.lst (rows t))), (3, .c (ci (t.length : Int))), (4, .c (ci v4_1)), (5, .c (ci v5_2)), (6, .c (ci v6_3))], 61⟩) H3 m3 ⟨0, ghe_to (n := 61) rfl rfl ⟨rfl, rfl, rfl, rfl, rfl, trivial⟩, q5⟩ ?_
    rintro v6_3 q5
    replace h := h v6_3 q5
    refine aw_seq ?_
    refine aw_seq ?_
    refine aw_region ?_
    refine run_s (ss_move rfl) rfl ?_
    refine run_s (ss_move rfl) rfl ?_
    refine run_s (ss_lss rfl rfl) rfl ?_
    refine run_nil ?_
    refine aw_cond rfl (fun q6 => ?_) (fun q6 => ?_)
    ·replace h := h.1 (of_decide_eq_true q6)
     refine aw_skip ?_
     refine aw_seq ?_
     refine aw_block ?_
     refine aw_seq ?_
     refine aw_gh (gh_to (n := 61) (σ' := []) (env' := [(0, .c (.lst (rows t))), (3, .c (ci (t.length : Int))), (4, .c (ci v4_1)), (5, .c (ci v5_2)), (6, .c (ci v6_3))]) rfl rfl ⟨rfl, rfl, rfl, rfl, rfl, trivial⟩) ?_
     refine aw_regionD (kd := kdl [0, 0, 0, 1, 0, 0, 0, 1, 0, 0, 1, 0, 1, 0, 0, 0, 0, 1, 0, 0, 1, 0, 1, 0, 0, 0, 1, 0, 0, 1, 0, 1, 0]) (ord := [0, 1, 2, 4, 5, 6, 8, 13, 14, 15, 16, 18, 23, 24, 25, 27, 3, 7, 9, 10, 11, 12, 17, 19, 20, 21, 22, 26, 28, 29, 30, 31, 32]) [] mixed (by kernel_rfl) ?_
     refine rd_s rfl rfl trivial (ss_move rfl) rfl ?_
     refine rd_s rfl rfl trivial (ss_move rfl) rfl ?_
     obtain ⟨q7, h⟩ := h
     refine rd_s rfl rfl trivial (ss_idxL rfl rfl q7) rfl ?_
     refine rd_s rfl rfl trivial (ss_move rfl) rfl ?_
     refine rd_s rfl rfl trivial (ss_move rfl) rfl ?_
     obtain ⟨q8, h⟩ := h
     refine rd_s rfl rfl trivial (ss_idxL rfl rfl q8) rfl ?_
     refine rd_s rfl rfl trivial (ss_move rfl) rfl ?_
     refine rd_s rfl rfl trivial (ss_move rfl) rfl ?_
     refine rd_s rfl rfl trivial (ss_move rfl) rfl ?_
     refine rd_s rfl rfl trivial (ss_move rfl) rfl ?_
     obtain ⟨q9, h⟩ := h
     refine rd_s rfl rfl trivial (ss_idxL rfl rfl q9) rfl ?_
     refine rd_s rfl rfl trivial (ss_move rfl) rfl ?_
     refine rd_s rfl rfl trivial (ss_move rfl) rfl ?_
     refine rd_s rfl rfl trivial (ss_move rfl) rfl ?_
     obtain ⟨q10, h⟩ := h
     refine rd_s rfl rfl trivial (ss_idxL rfl rfl q10) rfl ?_
     refine rd_s rfl rfl trivial (ss_move rfl) rfl ?_
     refine rd_l rfl rfl trivial (ss_loadL (f := (fun r => C.lst (ints r))) rfl q7) rfl ?_
     refine rd_l rfl rfl trivial (ss_loadL (f := (fun r => C.lst (ints r))) rfl q8) rfl ?_
     obtain ⟨q11, h⟩ := h
     refine rd_s rfl rfl trivial (ss_idxL rfl rfl q11) rfl ?_
     refine rd_l rfl rfl trivial (ss_loadL (f := ci) rfl q11) rfl ?_
     obtain ⟨q12, h⟩ := h
     refine rd_s rfl rfl trivial (ss_idxL rfl rfl q12) rfl ?_
     refine rd_l rfl rfl trivial (ss_loadL (f := ci) rfl q12) rfl ?_
     refine rd_l rfl rfl trivial (ss_loadL (f := (fun r => C.lst (ints r))) rfl q9) rfl ?_
     obtain ⟨q13, h⟩ := h
     refine rd_s rfl rfl trivial (ss_idxL rfl rfl q13) rfl ?_
     refine rd_l rfl rfl trivial (ss_loadL (f := ci) rfl q13) rfl ?_
     obtain ⟨q14, h⟩ := h
     refine rd_s rfl rfl trivial (ss_idxL rfl rfl q14) rfl ?_
     refine rd_l rfl rfl trivial (ss_loadL (f := (fun r => C.lst (ints r))) rfl q14) rfl ?_
     refine rd_l rfl rfl trivial (ss_loadL (f := (fun r => C.lst (ints r))) rfl q10) rfl ?_
     obtain ⟨q15, h⟩ := h
     refine rd_s rfl rfl trivial (ss_idxL rfl rfl q15) rfl ?_
     refine rd_l rfl rfl trivial (ss_loadL (f := ci) rfl q15) rfl ?_
     obtain ⟨q16, h⟩ := h
     refine rd_s rfl rfl trivial (ss_idxL rfl rfl q16) rfl ?_
     refine rd_l rfl rfl trivial (ss_loadL (f := ci) rfl q16) rfl ?_
     refine rd_s rfl rfl trivial (ss_neq rfl rfl) rfl ?_
     refine rd_nil ?_
     refine aw_cond rfl (fun q17 => ?_) (fun q17 => ?_)
     ·replace h := h.1 (of_decide_eq_false (bnot_t q17))
      refine aw_seq ?_
      refine aw_gh (gh_to (n := 61) (σ' := []) (env' := [(4, .c (ci v4_1)), (5, .c (ci v5_2)), (6, .c (ci v6_3))]) rfl rfl ⟨rfl, rfl, rfl, trivial⟩) ?_
      refine aw_region ?_
      refine run_s (ss_move rfl) rfl ?_
      refine run_s (ss_move rfl) rfl ?_
      refine run_s (ss_move rfl) rfl ?_
      refine run_w (ws_buildSlice (id := 60) (ps := [(0, .tmp 57), (1, .tmp 58), (2, .tmp 59)]) rfl rfl (Nat.le_of_ble_eq_true rfl) rfl ⟨rfl, ?_⟩)
      refine run_s (ss_assign rfl) rfl ?_
      refine run_nil ?_
      refine aw_ret ?_
      exact retAF_mk (retv1 rfl (rv_tmp rfl)) rfl rfl ⟨_, (cle_refl _), _, h, rfl⟩
     ·replace h := h.2 (of_decide_eq_true (bnot_f q17))
      refine aw_skip ?_
      refine aw_gh (gh_to (n := 61) (σ' := []) (env' := [(0, .c (.lst (rows t))), (3, .c (ci (t.length : Int))), (4, .c (ci v4_1)), (5, .c (ci v5_2)), (6, .c (ci v6_3))]) rfl rfl ⟨rfl, rfl, rfl, rfl, rfl, trivial⟩) ?_
      refine aw_region ?_
      refine run_s (ss_move rfl) rfl ?_
      obtain ⟨q18, h⟩ := h
      refine run_s (ss_add rfl rfl q18) rfl ?_
      refine run_s (ss_assign rfl) rfl ?_
      refine run_nil ?_
      exact ⟨v6_3 + 1, ghe_to (n := 61) rfl rfl ⟨rfl, rfl, rfl, rfl, rfl, trivial⟩, h.1, h.2⟩
    ·replace h := h.2 (of_decide_eq_false q6)
     refine aw_exit ?_
     refine aw_region ?_
     refine run_s (ss_move rfl) rfl ?_
     obtain ⟨q19, h⟩ := h
     refine run_s (ss_add rfl rfl q19) rfl ?_
     refine run_s (ss_assign rfl) rfl ?_
     refine run_nil ?_
     exact ⟨v5_2 + 1, ghe_to (n := 61) rfl rfl ⟨rfl, rfl, rfl, rfl, trivial⟩, h.1, h.2⟩
   ·replace h := h.2 (of_decide_eq_false q4)
    refine aw_exit ?_
    refine aw_region ?_
    refine run_s (ss_move rfl) rfl ?_
    obtain ⟨q20, h⟩ := h
    refine run_s (ss_add rfl rfl q20) rfl ?_
    refine run_s (ss_assign rfl) rfl ?_
    refine run_nil ?_
    exact ⟨v4_1 + 1, ghe_to (n := 61) rfl rfl ⟨rfl, rfl, rfl, trivial⟩, h.1, h.2⟩
  ·replace h := h.2 (of_decide_eq_false q2)
   refine aw_exit ?_
   refine aw_seq ?_
   refine aw_gh (gh_to (n := 61) (σ' := []) (env' := []) rfl rfl trivial) ?_
   refine aw_region ?_
   refine run_s (ss_assign rfl) rfl ?_
   refine run_nil ?_
   refine aw_ret ?_
   exact retAF_mk (retv1 rfl (rv_tmp rfl)) rfl rfl ⟨_, cle_nilO, _, h, rfl⟩

theorem c_spec_l03Fault (t : List (List Int)) (hp : isTab t = true) : AF Try.prog 36 [.lst (rows t)] (fun R_ => R_ = .own (ints (rackF t))) :=
  (w_spec_l03Fault t (fun y0 => y0 = rackF t) (p_spec_l03Fault t hp)).mono (by rintro r ⟨_, rfl, rfl⟩; rfl)

set_option maxRecDepth 100000 in
set_option maxHeartbeats 4000000 in
theorem w_impl_IsRack (r : List (List Int)) (Q : Bool → Prop) (h : wp_impl_IsRack r Q) : AF Try.prog 24 [.agg [.lst (rows r)]] (fun R_ => ∃ y0, Q y0 ∧ R_ = cb y0) := by
  refine AF.ofWQ (af_enter (n := 17) Try.func24 rfl (by rfl) rfl (Nat.le_of_ble_eq_true rfl) ?_)
  unfold wp_impl_IsRack at h
  refine aw_seq ?_
  refine aw_gh (gh_to (n := 17) (σ' := []) (env' := [(0, .c (.agg [.lst (rows r)]))]) rfl rfl ⟨rfl, trivial⟩) ?_
  refine aw_region ?_
  refine run_w (ws_boxR rfl (.inl rfl) rfl ⟨rfl, ?_⟩)
  refine run_s (ss_assign rfl) rfl ?_
  refine run_nil ?_
  refine aw_seq ?_
  refine aw_region ?_
  refine run_s (ss_field_ptr rfl) rfl ?_
  refine run_s (ss_load_ptr rfl rfl) rfl ?_
  obtain ⟨q1, h⟩ := h
  refine run_w (ws_call (xs := [.tmp 4]) (ids := []) rfl rfl rfl rfl (c_impl_IsTable r q1) rfl ?_ )
  rintro _ rfl
  refine ⟨rfl, ?_⟩
  refine run_s (ss_move rfl) rfl ?_
  refine run_split (s := 6) rfl (fun q3 => ?_) (fun q3 => ?_)
  ·replace h := h.1 (q3)
   refine run_gt rfl rfl q3 ?_
   refine run_s (ss_field_ptr rfl) rfl ?_
   refine run_gt rfl rfl q3 ?_
   refine run_s (ss_load_ptr rfl rfl) rfl ?_
   refine run_gt rfl rfl q3 ?_
   obtain ⟨q4, h⟩ := h
   refine run_w (ws_call (xs := [.tmp 8]) (ids := []) rfl rfl rfl rfl (c_impl_permutationRows r q4) rfl ?_ )
   rintro _ rfl
   refine ⟨rfl, ?_⟩
   refine run_s (ss_pickT rfl q3 rfl) rfl ?_
   refine run_s (ss_move rfl) rfl ?_
   refine run_split (s := 11) rfl (fun q6 => ?_) (fun q6 => ?_)
   ·replace h := h.1 (q6)
    refine run_gt rfl rfl q6 ?_
    refine run_s (ss_field_ptr rfl) rfl ?_
    refine run_gt rfl rfl q6 ?_
    refine run_s (ss_load_ptr rfl rfl) rfl ?_
    refine run_gt rfl rfl q6 ?_
    by_cases q7 : (rackF r) = []
    ·replace h := h.1 q7
     obtain ⟨q8, h⟩ := h
     refine run_w (ws_call (xs := [.tmp 13]) (ids := []) rfl rfl rfl rfl (AF.onil_n (c_impl_rackFault r q8) q7) rfl ?_ )
     rintro _ rfl
     refine ⟨rfl, ?_⟩
     refine run_gt rfl rfl q6 ?_
     refine run_s (ss_eql_nil rfl rfl) rfl ?_
     refine run_s (ss_pickT rfl q6 rfl) rfl ?_
     refine run_s (ss_assign rfl) rfl ?_
     refine run_nil ?_
     refine aw_ret ?_
     exact retAF_mk (retv1 rfl (rv_tmp rfl)) rfl rfl ⟨_, (cle_refl _), _, h, rfl⟩
    ·replace h := h.2 q7
     obtain ⟨q10, h⟩ := h
     refine run_w (ws_call (xs := [.tmp 13]) (ids := [14]) rfl rfl rfl rfl (AF.onil_o (c_impl_rackFault r q10) q7) rfl ?_ )
     rintro _ rfl
     refine ⟨rfl, ?_⟩
     refine run_gt rfl rfl q6 ?_
     refine run_s (ss_eql_refNil rfl rfl (map_ne q7) rfl) rfl ?_
     refine run_s (ss_pickT rfl q6 rfl) rfl ?_
     refine run_s (ss_assign rfl) rfl ?_
     refine run_nil ?_
     refine aw_ret ?_
     exact retAF_mk (retv1 rfl (rv_tmp rfl)) rfl rfl ⟨_, (cle_refl _), _, h, rfl⟩
   ·replace h := h.2 (q6)
    refine run_gf rfl rfl q6 rfl ?_
    refine run_gf rfl rfl q6 rfl ?_
    refine run_gf rfl rfl q6 rfl ?_
    refine run_gf rfl rfl q6 rfl ?_
    refine run_s (ss_pickF rfl q6 rfl) rfl ?_
    refine run_s (ss_assign rfl) rfl ?_
    refine run_nil ?_
    refine aw_ret ?_
    exact retAF_mk (retv1 rfl (rv_tmp rfl)) rfl rfl ⟨_, (cle_refl _), _, h, rfl⟩
  ·replace h := h.2 (q3)
   refine run_gf rfl rfl q3 rfl ?_
   refine run_gf rfl rfl q3 rfl ?_
   refine run_gf rfl rfl q3 rfl ?_
   refine run_s (ss_pickF rfl q3 rfl) rfl ?_
   refine run_s (ss_move rfl) rfl ?_
   refine run_split (s := 11) rfl (fun q12 => ?_) (fun q12 => ?_)
   ·cases q12
   ·skip
    refine run_gf rfl rfl q12 rfl ?_
    refine run_gf rfl rfl q12 rfl ?_
    refine run_gf rfl rfl q12 rfl ?_
    refine run_gf rfl rfl q12 rfl ?_
    refine run_s (ss_pickF rfl q12 rfl) rfl ?_
    refine run_s (ss_assign rfl) rfl ?_
    refine run_nil ?_
    refine aw_ret ?_
    exact retAF_mk (retv1 rfl (rv_tmp rfl)) rfl rfl ⟨_, (cle_refl _), _, h, rfl⟩

theorem c_impl_IsRack (r : List (List Int)) (hp : small2 r) : AF Try.prog 24 [.agg [.lst (rows r)]] (fun R_ => R_ = cb (isRk r)) :=
  (w_impl_IsRack r (fun y0 => y0 = isRk r) (p_impl_IsRack r hp)).mono (by rintro r ⟨_, rfl, rfl⟩; rfl)

set_option maxRecDepth 100000 in
set_option maxHeartbeats 4000000 in
theorem w_spec_l03Is (r : List (List Int)) (Q : Bool → Prop) (h : wp_spec_l03Is r Q) : AF Try.prog 21 [.agg [.lst (rows r)]] (fun R_ => ∃ y0, Q y0 ∧ R_ = cb y0) := by
  refine AF.ofWQ (af_enter (n := 27) Try.func21 rfl (by rfl) rfl (Nat.le_of_ble_eq_true rfl) ?_)
  unfold wp_spec_l03Is at h
  refine aw_seq ?_
  refine aw_gh (gh_to (n := 27) (σ' := []) (env' := [(0, .c (.agg [.lst (rows r)]))]) rfl rfl ⟨rfl, trivial⟩) ?_
  refine aw_region ?_
  refine run_w (ws_boxR rfl (.inl rfl) rfl ⟨rfl, ?_⟩)
  refine run_s (ss_assign rfl) rfl ?_
  refine run_nil ?_
  refine aw_seq ?_
  refine aw_seq ?_
  refine aw_region ?_
  refine run_s (ss_field_ptr rfl) rfl ?_
  refine run_s (ss_load_ptr rfl rfl) rfl ?_
  obtain ⟨q1, h⟩ := h
  refine run_w (ws_call (xs := [.tmp 5]) (ids := []) rfl rfl rfl rfl (c_spec_l01Table r q1) rfl ?_ )
  rintro _ rfl
  refine ⟨rfl, ?_⟩
  refine run_s (ss_not rfl) rfl ?_
  refine run_nil ?_
  refine aw_cond rfl (fun q3 => ?_) (fun q3 => ?_)
  ·replace h := h.1 ((bnot_t q3))
   refine aw_seq ?_
   refine aw_gh (gh_to (n := 27) (σ' := []) (env' := [(2, .c (cb false))]) rfl rfl ⟨rfl, trivial⟩) ?_
   refine aw_region ?_
   refine run_s (ss_assign rfl) rfl ?_
   refine run_nil ?_
   refine aw_ret ?_
   exact retAF_mk (retv1 rfl (rv_tmp rfl)) rfl rfl ⟨_, (cle_refl _), _, h, rfl⟩
  ·replace h := h.2 ((bnot_f q3))
   refine aw_skip ?_
   refine aw_seq ?_
   refine aw_seq ?_
   refine aw_gh (gh_to (n := 27) (σ' := []) (env' := [(1, .c (.ptr [.lst (rows r)]))]) rfl rfl ⟨rfl, trivial⟩) ?_
   refine aw_region ?_
   refine run_s (ss_assign rfl) rfl ?_
   refine run_nil ?_
   refine aw_block ?_
   obtain ⟨H1, m1, q4, h⟩ := h
   refine aw_loop1 (fun (v3_1 : Int) => ⟨[], [(1, .c (.ptr [.lst (rows r)])), (3, .c (ci v3_1))], 27⟩) H1 m1 ⟨0, ghe_to (n := 27) rfl rfl ⟨rfl, rfl, trivial⟩, q4⟩ ?_
   rintro v3_1 q4
   replace h := h v3_1 q4
   refine aw_seq ?_
   refine aw_seq ?_
   refine aw_region ?_
   refine run_s (ss_move rfl) rfl ?_
   refine run_s (ss_field_ptr rfl) rfl ?_
   refine run_s (ss_load_ptr rfl rfl) rfl ?_
   refine run_s (ss_lenL (f := (fun r => C.lst (ints r))) rfl) rfl ?_
   refine run_s (ss_lss rfl rfl) rfl ?_
   refine run_nil ?_
   refine aw_cond rfl (fun q5 => ?_) (fun q5 => ?_)
   ·replace h := h.1 (of_decide_eq_true q5)
    refine aw_skip ?_
    refine aw_seq ?_
    refine aw_block ?_
    refine aw_seq ?_
    refine aw_region ?_
    refine run_s (ss_field_ptr rfl) rfl ?_
    refine run_s (ss_load_ptr rfl rfl) rfl ?_
    refine run_s (ss_move rfl) rfl ?_
    obtain ⟨q6, h⟩ := h
    refine run_s (ss_idxL rfl rfl q6) rfl ?_
    refine run_s (ss_loadL (f := (fun r => C.lst (ints r))) rfl q6) rfl ?_
    obtain ⟨q7, h⟩ := h
    refine run_w (ws_call (xs := [.tmp 19]) (ids := []) rfl rfl rfl rfl (c_spec_l01Perm (el r v3_1) q7) rfl ?_ )
    rintro _ rfl
    refine ⟨rfl, ?_⟩
    refine run_s (ss_not rfl) rfl ?_
    refine run_nil ?_
    refine aw_cond rfl (fun q9 => ?_) (fun q9 => ?_)
    ·replace h := h.1 ((bnot_t q9))
     refine aw_seq ?_
     refine aw_gh (gh_to (n := 27) (σ' := []) (env' := []) rfl rfl trivial) ?_
     refine aw_region ?_
     refine run_s (ss_assign rfl) rfl ?_
     refine run_nil ?_
     refine aw_ret ?_
     exact retAF_mk (retv1 rfl (rv_tmp rfl)) rfl rfl ⟨_, (cle_refl _), _, h, rfl⟩
    ·replace h := h.2 ((bnot_f q9))
     refine aw_skip ?_
     refine aw_gh (gh_to (n := 27) (σ' := []) (env' := [(1, .c (.ptr [.lst (rows r)])), (3, .c (ci v3_1))]) rfl rfl ⟨rfl, rfl, trivial⟩) ?_
     refine aw_region ?_
     refine run_s (ss_move rfl) rfl ?_
     obtain ⟨q10, h⟩ := h
     refine run_s (ss_add rfl rfl q10) rfl ?_
     refine run_s (ss_assign rfl) rfl ?_
     refine run_nil ?_
     exact ⟨v3_1 + 1, ghe_to (n := 27) rfl rfl ⟨rfl, rfl, trivial⟩, h.1, h.2⟩
   ·replace h := h.2 (of_decide_eq_false q5)
    refine aw_exit ?_
    refine aw_seq ?_
    refine aw_region ?_
    refine run_s (ss_field_ptr rfl) rfl ?_
    refine run_s (ss_load_ptr rfl rfl) rfl ?_
    obtain ⟨q11, h⟩ := h
    refine run_w (ws_call (xs := [.tmp 23]) (ids := [24]) rfl rfl rfl rfl (c_spec_l03Fault r q11) rfl ?_ )
    rintro _ rfl
    refine ⟨rfl, ?_⟩
    refine run_s (ss_lenR (f := ci) rfl rfl) rfl ?_
    refine run_s (ss_eql rfl rfl) rfl ?_
    refine run_s (ss_assign rfl) rfl ?_
    refine run_nil ?_
    refine aw_ret ?_
    exact retAF_mk (retv1 rfl (rv_tmp rfl)) rfl rfl ⟨_, (cle_refl _), _, h, rfl⟩

theorem c_spec_l03Is (r : List (List Int)) (hp : small2 r) : AF Try.prog 21 [.agg [.lst (rows r)]] (fun R_ => R_ = cb (isRk r)) :=
  (w_spec_l03Is r (fun y0 => y0 = isRk r) (p_spec_l03Is r hp)).mono (by rintro r ⟨_, rfl, rfl⟩; rfl)

def wp_spec_l03Fits (a : List (List (List Int))) (b : List (List (List Int))) (f : List Int) (Q : Bool → Prop) : Prop :=
 (InI ((f.length : Int) - 1)) ∧
 ∃ (H1 : Int → Prop) (m1 : Int → Nat),
 H1 0 ∧
 ∀ (v8_1 : Int), H1 v8_1 →
 ( ((v8_1 < (a.length : Int) →
 ∃ (H2 : Int → Prop) (m2 : Int → Nat),
 H2 0 ∧
 ∀ (v9_2 : Int), H2 v9_2 →
 ( ((v9_2 ≤ (f.length : Int) - 1 →
 ∃ (H3 : Int → Prop) (m3 : Int → Nat),
 H3 0 ∧
 ∀ (v10_3 : Int), H3 v10_3 →
 ( ((v10_3 ≤ (f.length : Int) - 1 →
 (0 ≤ v8_1 ∧ v8_1 < (a.length : Int)) ∧
 (0 ≤ v9_2 ∧ v9_2 < ((el a v8_1).length : Int)) ∧
 (0 ≤ v10_3 ∧ v10_3 < ((el (el a v8_1) v9_2).length : Int)) ∧
 (((f.length : Int) - 1 < el (el (el a v8_1) v9_2) v10_3 →
 (InI (v10_3 + 1)) ∧
 (H3 (v10_3 + 1) ∧ m3 (v10_3 + 1) < m3 v10_3)) ∧
 (¬ ((f.length : Int) - 1 < el (el (el a v8_1) v9_2) v10_3) →
 ((v9_2 < (f.length : Int) - 1 →
 ((v10_3 < (f.length : Int) - 1 →
 ((el (el (el a v8_1) v9_2) v10_3 < (f.length : Int) - 1 →
 (InI (v10_3 + 1)) ∧
 (H3 (v10_3 + 1) ∧ m3 (v10_3 + 1) < m3 v10_3)) ∧
 (¬ (el (el (el a v8_1) v9_2) v10_3 < (f.length : Int) - 1) →
 (0 ≤ el (el (el a v8_1) v9_2) v10_3 ∧ el (el (el a v8_1) v9_2) v10_3 < (f.length : Int)) ∧
 (0 ≤ v8_1 ∧ v8_1 < (b.length : Int)) ∧
 (0 ≤ v9_2 ∧ v9_2 < (f.length : Int)) ∧
 (0 ≤ v10_3 ∧ v10_3 < (f.length : Int)) ∧
 (0 ≤ el f v9_2 ∧ el f v9_2 < ((el b v8_1).length : Int)) ∧
 (0 ≤ el f v10_3 ∧ el f v10_3 < ((el (el b v8_1) (el f v9_2)).length : Int)) ∧
 ((¬ (el f (el (el (el a v8_1) v9_2) v10_3) = el (el (el b v8_1) (el f v9_2)) (el f v10_3)) →
 Q false) ∧
 (el f (el (el (el a v8_1) v9_2) v10_3) = el (el (el b v8_1) (el f v9_2)) (el f v10_3) →
 (InI (v10_3 + 1)) ∧
 (H3 (v10_3 + 1) ∧ m3 (v10_3 + 1) < m3 v10_3)))))) ∧
 (¬ (v10_3 < (f.length : Int) - 1) →
 (0 ≤ el (el (el a v8_1) v9_2) v10_3 ∧ el (el (el a v8_1) v9_2) v10_3 < (f.length : Int)) ∧
 (0 ≤ v8_1 ∧ v8_1 < (b.length : Int)) ∧
 (0 ≤ v9_2 ∧ v9_2 < (f.length : Int)) ∧
 (0 ≤ v10_3 ∧ v10_3 < (f.length : Int)) ∧
 (0 ≤ el f v9_2 ∧ el f v9_2 < ((el b v8_1).length : Int)) ∧
 (0 ≤ el f v10_3 ∧ el f v10_3 < ((el (el b v8_1) (el f v9_2)).length : Int)) ∧
 ((¬ (el f (el (el (el a v8_1) v9_2) v10_3) = el (el (el b v8_1) (el f v9_2)) (el f v10_3)) →
 Q false) ∧
 (el f (el (el (el a v8_1) v9_2) v10_3) = el (el (el b v8_1) (el f v9_2)) (el f v10_3) →
 (InI (v10_3 + 1)) ∧
 (H3 (v10_3 + 1) ∧ m3 (v10_3 + 1) < m3 v10_3)))))) ∧
 (¬ (v9_2 < (f.length : Int) - 1) →
 (0 ≤ el (el (el a v8_1) v9_2) v10_3 ∧ el (el (el a v8_1) v9_2) v10_3 < (f.length : Int)) ∧
 (0 ≤ v8_1 ∧ v8_1 < (b.length : Int)) ∧
 (0 ≤ v9_2 ∧ v9_2 < (f.length : Int)) ∧
 (0 ≤ v10_3 ∧ v10_3 < (f.length : Int)) ∧
 (0 ≤ el f v9_2 ∧ el f v9_2 < ((el b v8_1).length : Int)) ∧
 (0 ≤ el f v10_3 ∧ el f v10_3 < ((el (el b v8_1) (el f v9_2)).length : Int)) ∧
 ((¬ (el f (el (el (el a v8_1) v9_2) v10_3) = el (el (el b v8_1) (el f v9_2)) (el f v10_3)) →
 Q false) ∧
 (el f (el (el (el a v8_1) v9_2) v10_3) = el (el (el b v8_1) (el f v9_2)) (el f v10_3) →
 (InI (v10_3 + 1)) ∧
 (H3 (v10_3 + 1) ∧ m3 (v10_3 + 1) < m3 v10_3)))))))) ∧
 (¬ (v10_3 ≤ (f.length : Int) - 1) →
 (InI (v9_2 + 1)) ∧
 (H2 (v9_2 + 1) ∧ m2 (v9_2 + 1) < m2 v9_2))))) ∧
 (¬ (v9_2 ≤ (f.length : Int) - 1) →
 (InI (v8_1 + 1)) ∧
 (H1 (v8_1 + 1) ∧ m1 (v8_1 + 1) < m1 v8_1))))) ∧
 (¬ (v8_1 < (a.length : Int)) →
 Q true)))

theorem p_spec_l03Fits (a b : List (List (List Int))) (f : List Int) (hp : fitD a b f) : wp_spec_l03Fits a b f (fun y0 => y0 = dec (conA a b f)) := by
  unfold wp_spec_l03Fits
  obtain ⟨hsm, hsf, hbl, hall⟩ := hp
  have small12 : ∀ k, 0 ≤ k → k < (a.length : Int) → (f.length : Int) ≤ 12 := fun k k0 k1 => by
    obtain ⟨h1, _, h3, _⟩ := hall k k0 k1
    have := isTab_len h1; omega
  refine ⟨?_, fun k => 0 ≤ k ∧ k ≤ (a.length : Int) ∧ Upto k fun k => conP (el a k) (el b k) f, fun k => ((a.length : Int) - k).toNat, ⟨by omega, by omega, upto0⟩, ?_⟩
  · have : (f.length : Int) ≤ 1000000000 := hsf
    exact ⟨by omega, by omega⟩
  rintro k ⟨k0, k1, kI⟩
  dsimp only
  refine ⟨fun klt => ?_, fun kge => (dec_t fun k a b => kI k a (by omega)).symm⟩
  have f12 := small12 k k0 klt
  obtain ⟨hta, htb, hfl, hfe, hprev⟩ := hall k k0 klt
  refine ⟨fun x => 0 ≤ x ∧ x ≤ (f.length : Int) ∧ Upto x fun x => ∀ y, 0 ≤ y → y < (f.length : Int) → el (el (el a k) x) y < (f.length : Int) → el f (el (el (el a k) x) y) = el (el (el b k) (el f x)) (el f y), fun x => ((f.length : Int) - x).toNat, ⟨by omega, by omega, upto0⟩, ?_⟩
  rintro x ⟨x0, x1, xI⟩
  dsimp only
  refine ⟨fun xlt => ?_, fun xge => ⟨⟨by omega, by omega⟩, ⟨by omega, by omega, upto1 kI fun x y p q r s t => xI x p (by omega) y r s t⟩, by omega⟩⟩
  refine ⟨fun y => 0 ≤ y ∧ y ≤ (f.length : Int) ∧ Upto y fun y => el (el (el a k) x) y < (f.length : Int) → el f (el (el (el a k) x) y) = el (el (el b k) (el f x)) (el f y), fun y => ((f.length : Int) - y).toNat, ⟨by omega, by omega, upto0⟩, ?_⟩
  rintro y ⟨y0, y1, yI⟩
  dsimp only
  refine ⟨fun ylt => ?_, fun yge => ⟨⟨by omega, by omega⟩, ⟨by omega, by omega, upto1 xI fun y p q => yI y p (by omega)⟩, by omega⟩⟩
  have hx : 0 ≤ x ∧ x < ((el a k).length : Int) := ⟨x0, by omega⟩
  have e := rk_el hta hx (y := y) ⟨y0, by omega⟩
  have l := rk_len hta hx
  have fx := hfe _ (el_mem (l := f) (i := x) ⟨x0, by omega⟩)
  have fy := hfe _ (el_mem (l := f) (i := y) ⟨y0, by omega⟩)
  have ls := rk_len htb fx
  have skip : (el (el (el a k) x) y < (f.length : Int) → el f (el (el (el a k) x) y) = el (el (el b k) (el f x)) (el f y)) → InI (y + 1) ∧ (0 ≤ y + 1 ∧ y + 1 ≤ (f.length : Int) ∧ Upto (y + 1) fun y => el (el (el a k) x) y < (f.length : Int) → el f (el (el (el a k) x) y) = el (el (el b k) (el f x)) (el f y)) ∧ ((f.length : Int) - (y + 1)).toNat < ((f.length : Int) - y).toNat := fun h => ⟨⟨by omega, by omega⟩, ⟨by omega, by omega, upto1 yI h⟩, by omega⟩
  have key : ¬ ((f.length : Int) - 1 < el (el (el a k) x) y) → (0 ≤ el (el (el a k) x) y ∧ el (el (el a k) x) y < (f.length : Int)) ∧ (0 ≤ k ∧ k < (b.length : Int)) ∧ (0 ≤ x ∧ x < (f.length : Int)) ∧ (0 ≤ y ∧ y < (f.length : Int)) ∧ (0 ≤ el f x ∧ el f x < ((el b k).length : Int)) ∧ (0 ≤ el f y ∧ el f y < ((el (el b k) (el f x)).length : Int)) ∧
      (¬ (el f (el (el (el a k) x) y) = el (el (el b k) (el f x)) (el f y)) → false = dec (conA a b f)) ∧ (el f (el (el (el a k) x) y) = el (el (el b k) (el f x)) (el f y) → InI (y + 1) ∧ (0 ≤ y + 1 ∧ y + 1 ≤ (f.length : Int) ∧ Upto (y + 1) fun y => el (el (el a k) x) y < (f.length : Int) → el f (el (el (el a k) x) y) = el (el (el b k) (el f x)) (el f y)) ∧ ((f.length : Int) - (y + 1)).toNat < ((f.length : Int) - y).toNat) := fun h1 =>
    ⟨⟨e.1, by omega⟩, ⟨k0, by omega⟩, ⟨x0, by omega⟩, ⟨y0, by omega⟩, fx, ⟨fy.1, by omega⟩, fun h2 => (dec_f fun hC => h2 (hC k k0 klt x y x0 (by omega) y0 (by omega) (by omega))).symm, fun h2 => skip fun _ => h2⟩
  refine ⟨⟨k0, klt⟩, hx, ⟨y0, by omega⟩, fun h1 => skip fun h => by omega, fun h1 => ⟨fun h2 => ⟨fun h3 => ⟨fun h4 => skip fun _ => hprev x y x0 h2 y0 h3 h4, fun h4 => key h1⟩, fun h3 => key h1⟩, fun h2 => key h1⟩⟩
set_option maxRecDepth 100000 in
set_option maxHeartbeats 4000000 in
theorem w_spec_l03Fits (a : List (List (List Int))) (b : List (List (List Int))) (f : List Int) (Q : Bool → Prop) (h : wp_spec_l03Fits a b f Q) : AF Try.prog 37 [.lst (tabs a), .lst (tabs b), .lst (ints f)] (fun R_ => ∃ y0, Q y0 ∧ R_ = cb y0) := by
  refine AF.ofWQ (af_enter (n := 80) Try.func37 rfl (by rfl) rfl (Nat.le_of_ble_eq_true rfl) ?_)
  unfold wp_spec_l03Fits at h
  refine aw_seq ?_
  refine aw_gh (gh_to (n := 80) (σ' := []) (env' := [(0, .c (.lst (tabs a))), (1, .c (.lst (tabs b))), (2, .c (.lst (ints f)))]) rfl rfl ⟨rfl, rfl, rfl, trivial⟩) ?_
  refine aw_region ?_
  refine run_s (ss_assign rfl) rfl ?_
  refine run_nil ?_
  refine aw_seq ?_
  refine aw_region ?_
  refine run_s (ss_move rfl) rfl ?_
  refine run_s (ss_lenL (f := ci) rfl) rfl ?_
  obtain ⟨q1, h⟩ := h
  refine run_s (ss_sub rfl rfl q1) rfl ?_
  refine run_s (ss_assign rfl) rfl ?_
  refine run_nil ?_
  refine aw_seq ?_
  refine aw_seq ?_
  refine aw_region ?_
  refine run_s (ss_assign rfl) rfl ?_
  refine run_nil ?_
  refine aw_block ?_
  obtain ⟨H1, m1, q2, h⟩ := h
  refine aw_loop1 (fun (v8_1 : Int) => ⟨[], [(0, .c (.lst (tabs a))), (1, .c (.lst (tabs b))), (2, .c (.lst (ints f))), (7, .c (ci ((f.length : Int) - 1))), (8, .c (ci v8_1))], 80⟩) H1 m1 ⟨0, ghe_to (n := 80) rfl rfl ⟨rfl, rfl, rfl, rfl, rfl, trivial⟩, q2⟩ ?_
  rintro v8_1 q2
  replace h := h v8_1 q2
  refine aw_seq ?_
  refine aw_seq ?_
  refine aw_region ?_
  refine run_s (ss_move rfl) rfl ?_
  refine run_s (ss_move rfl) rfl ?_
  refine run_s (ss_lenL (f := (fun r => C.lst (rows r))) rfl) rfl ?_
  refine run_s (ss_lss rfl rfl) rfl ?_
  refine run_nil ?_
  refine aw_cond rfl (fun q3 => ?_) (fun q3 => ?_)
  ·replace h := h.1 (of_decide_eq_true q3)
   refine aw_skip ?_
   refine aw_seq ?_
   refine aw_block ?_
   refine aw_seq ?_
   refine aw_region ?_
   refine run_s (ss_assign rfl) rfl ?_
   refine run_nil ?_
   refine aw_block ?_
   obtain ⟨H2, m2, q4, h⟩ := h
   refine aw_loop1 (fun (v9_2 : Int) => ⟨[], [(0, .c (.lst (tabs a))), (1, .c (.lst (tabs b))), (2, .c (.lst (ints f))), (7, .c (ci ((f.length : Int) - 1))), (8, .c (ci v8_1)), (9, .c (ci v9_2))], 80⟩) H2 m2 ⟨0, ghe_to (n := 80) rfl rfl ⟨rfl, rfl, rfl, rfl, rfl, rfl, trivial⟩, q4⟩ ?_
   rintro v9_2 q4
   replace h := h v9_2 q4
   refine aw_seq ?_
   refine aw_seq ?_
   refine aw_region ?_
   refine run_s (ss_move rfl) rfl ?_
   refine run_s (ss_move rfl) rfl ?_
   refine run_s (ss_leq rfl rfl) rfl ?_
   refine run_nil ?_
   refine aw_cond rfl (fun q5 => ?_) (fun q5 => ?_)
   ·replace h := h.1 (of_decide_eq_true q5)
    refine aw_skip ?_
    refine aw_seq ?_
    refine aw_block ?_
    refine aw_seq ?_
    refine aw_region ?_
    refine run_s (ss_assign rfl) rfl ?_
    refine run_nil ?_
    refine aw_block ?_
    obtain ⟨H3, m3, q6, h⟩ := h
    refine aw_loop1 (fun (v10_3 : Int) => ⟨[], [(0, .c (.lst (tabs a))), (1, .c (.lst (tabs b))), (2, .c (.lst (ints f))), (7, .c (ci ((f.length : Int) - 1))), (8, .c (ci v8_1)), (9, .c (ci v9_2)), (10, .c (ci v10_3))], 80⟩) H3 m3 ⟨0, ghe_to (n := 80) rfl rfl ⟨rfl, rfl, rfl, rfl, rfl, rfl, rfl, trivial⟩, q6⟩ ?_
    rintro v10_3 q6
    replace h := h v10_3 q6
    refine aw_seq ?_
    refine aw_seq ?_
    refine aw_region ?_
    refine run_s (ss_move rfl) rfl ?_
    refine run_s (ss_move rfl) rfl ?_
    refine run_s (ss_leq rfl rfl) rfl ?_
    refine run_nil ?_
    refine aw_cond rfl (fun q7 => ?_) (fun q7 => ?_)
    ·replace h := h.1 (of_decide_eq_true q7)
     refine aw_skip ?_
     refine aw_seq ?_
     refine aw_block ?_
     refine aw_seq ?_
     refine aw_region ?_
     refine run_s (ss_move rfl) rfl ?_
     refine run_s (ss_move rfl) rfl ?_
     obtain ⟨q8, h⟩ := h
     refine run_s (ss_idxL rfl rfl q8) rfl ?_
     refine run_s (ss_loadL (f := (fun r => C.lst (rows r))) rfl q8) rfl ?_
     refine run_s (ss_move rfl) rfl ?_
     obtain ⟨q9, h⟩ := h
     refine run_s (ss_idxL rfl rfl q9) rfl ?_
     refine run_s (ss_loadL (f := (fun r => C.lst (ints r))) rfl q9) rfl ?_
     refine run_s (ss_move rfl) rfl ?_
     obtain ⟨q10, h⟩ := h
     refine run_s (ss_idxL rfl rfl q10) rfl ?_
     refine run_s (ss_loadL (f := ci) rfl q10) rfl ?_
     refine run_s (ss_assign rfl) rfl ?_
     refine run_nil ?_
     refine aw_seq ?_
     refine aw_seq ?_
     refine aw_region ?_
     refine run_s (ss_move rfl) rfl ?_
     refine run_s (ss_move rfl) rfl ?_
     refine run_s (ss_gtr rfl rfl) rfl ?_
     refine run_s (ss_move rfl) rfl ?_
     refine run_split (s := 44) rfl (fun q11 => ?_) (fun q11 => ?_)
     ·replace h := h.1 (of_decide_eq_true q11)
      refine run_gf rfl rfl q11 rfl ?_
      refine run_gf rfl rfl q11 rfl ?_
      refine run_gf rfl rfl q11 rfl ?_
      refine run_gfu rfl rfl q11 rfl ?_
      refine run_gu rfl rfl rfl ?_
      refine run_gu rfl rfl rfl ?_
      refine run_gu rfl rfl rfl ?_
      refine run_gf rfl rfl q11 rfl ?_
      refine run_gfu rfl rfl q11 rfl ?_
      refine run_gu rfl rfl rfl ?_
      refine run_gu rfl rfl rfl ?_
      refine run_gu rfl rfl rfl ?_
      refine run_gf rfl rfl q11 rfl ?_
      refine run_s (ss_pickT rfl q11 rfl) rfl ?_
      refine run_nil ?_
      refine aw_cond rfl (fun q12 => ?_) (fun q12 => ?_)
      ·skip
       refine aw_exit ?_
       refine aw_gh (gh_to (n := 80) (σ' := []) (env' := [(0, .c (.lst (tabs a))), (1, .c (.lst (tabs b))), (2, .c (.lst (ints f))), (7, .c (ci ((f.length : Int) - 1))), (8, .c (ci v8_1)), (9, .c (ci v9_2)), (10, .c (ci v10_3))]) rfl rfl ⟨rfl, rfl, rfl, rfl, rfl, rfl, rfl, trivial⟩) ?_
       refine aw_region ?_
       refine run_s (ss_move rfl) rfl ?_
       obtain ⟨q13, h⟩ := h
       refine run_s (ss_add rfl rfl q13) rfl ?_
       refine run_s (ss_assign rfl) rfl ?_
       refine run_nil ?_
       exact ⟨v10_3 + 1, ghe_to (n := 80) rfl rfl ⟨rfl, rfl, rfl, rfl, rfl, rfl, rfl, trivial⟩, h.1, h.2⟩
      ·cases q12
     ·replace h := h.2 (of_decide_eq_false q11)
      refine run_gt rfl rfl q11 ?_
      refine run_s (ss_move rfl) rfl ?_
      refine run_gt rfl rfl q11 ?_
      refine run_s (ss_move rfl) rfl ?_
      refine run_gt rfl rfl q11 ?_
      refine run_s (ss_lss rfl rfl) rfl ?_
      refine run_gt rfl rfl q11 ?_
      refine run_s (ss_move rfl) rfl ?_
      refine run_split (s := 48) rfl (fun q14 => ?_) (fun q14 => ?_)
      ·replace h := h.1 (of_decide_eq_true q14)
       refine run_gt rfl rfl q14 ?_
       refine run_s (ss_move rfl) rfl ?_
       refine run_gt rfl rfl q14 ?_
       refine run_s (ss_move rfl) rfl ?_
       refine run_gt rfl rfl q14 ?_
       refine run_s (ss_lss rfl rfl) rfl ?_
       refine run_gt rfl rfl q11 ?_
       refine run_s (ss_pickT rfl q14 rfl) rfl ?_
       refine run_gt rfl rfl q11 ?_
       refine run_s (ss_move rfl) rfl ?_
       refine run_split (s := 53) rfl (fun q15 => ?_) (fun q15 => ?_)
       ·replace h := h.1 (of_decide_eq_true q15)
        refine run_gt rfl rfl q15 ?_
        refine run_s (ss_move rfl) rfl ?_
        refine run_gt rfl rfl q15 ?_
        refine run_s (ss_move rfl) rfl ?_
        refine run_gt rfl rfl q15 ?_
        refine run_s (ss_lss rfl rfl) rfl ?_
        refine run_gt rfl rfl q11 ?_
        refine run_s (ss_pickT rfl q15 rfl) rfl ?_
        refine run_s (ss_pickF rfl q11 rfl) rfl ?_
        refine run_nil ?_
        refine aw_cond rfl (fun q16 => ?_) (fun q16 => ?_)
        ·replace h := h.1 (of_decide_eq_true q16)
         refine aw_exit ?_
         refine aw_gh (gh_to (n := 80) (σ' := []) (env' := [(0, .c (.lst (tabs a))), (1, .c (.lst (tabs b))), (2, .c (.lst (ints f))), (7, .c (ci ((f.length : Int) - 1))), (8, .c (ci v8_1)), (9, .c (ci v9_2)), (10, .c (ci v10_3)), (45, .c (ci v9_2)), (46, .c (ci ((f.length : Int) - 1))), (47, .c (cb (decide (v9_2 < (f.length : Int) - 1)))), (48, .c (cb (decide (v9_2 < (f.length : Int) - 1)))), (49, .c (ci v10_3)), (50, .c (ci ((f.length : Int) - 1))), (51, .c (cb (decide (v10_3 < (f.length : Int) - 1)))), (52, .c (cb (decide (v10_3 < (f.length : Int) - 1)))), (53, .c (cb (decide (v10_3 < (f.length : Int) - 1)))), (54, .c (ci (el (el (el a v8_1) v9_2) v10_3))), (55, .c (ci ((f.length : Int) - 1))), (56, .c (cb (decide (el (el (el a v8_1) v9_2) v10_3 < (f.length : Int) - 1)))), (57, .c (cb (decide (el (el (el a v8_1) v9_2) v10_3 < (f.length : Int) - 1))))]) rfl rfl ⟨rfl, rfl, rfl, rfl, rfl, rfl, rfl, rfl, rfl, rfl, rfl, rfl, rfl, rfl, rfl, rfl, rfl, rfl, rfl, rfl, trivial⟩) ?_
         refine aw_region ?_
         refine run_s (ss_move rfl) rfl ?_
         obtain ⟨q17, h⟩ := h
         refine run_s (ss_add rfl rfl q17) rfl ?_
         refine run_s (ss_assign rfl) rfl ?_
         refine run_nil ?_
         exact ⟨v10_3 + 1, ghe_to (n := 80) rfl rfl ⟨rfl, rfl, rfl, rfl, rfl, rfl, rfl, trivial⟩, h.1, h.2⟩
        ·replace h := h.2 (of_decide_eq_false q16)
         refine aw_skip ?_
         refine aw_seq ?_
         refine aw_gh (gh_to (n := 80) (σ' := []) (env' := [(0, .c (.lst (tabs a))), (1, .c (.lst (tabs b))), (2, .c (.lst (ints f))), (7, .c (ci ((f.length : Int) - 1))), (8, .c (ci v8_1)), (9, .c (ci v9_2)), (10, .c (ci v10_3)), (11, .c (ci (el (el (el a v8_1) v9_2) v10_3))), (45, .c (ci v9_2)), (46, .c (ci ((f.length : Int) - 1))), (47, .c (cb (decide (v9_2 < (f.length : Int) - 1)))), (48, .c (cb (decide (v9_2 < (f.length : Int) - 1)))), (49, .c (ci v10_3)), (50, .c (ci ((f.length : Int) - 1))), (51, .c (cb (decide (v10_3 < (f.length : Int) - 1)))), (52, .c (cb (decide (v10_3 < (f.length : Int) - 1)))), (53, .c (cb (decide (v10_3 < (f.length : Int) - 1)))), (54, .c (ci (el (el (el a v8_1) v9_2) v10_3))), (55, .c (ci ((f.length : Int) - 1))), (56, .c (cb (decide (el (el (el a v8_1) v9_2) v10_3 < (f.length : Int) - 1)))), (57, .c (cb (decide (el (el (el a v8_1) v9_2) v10_3 < (f.length : Int) - 1))))]) rfl rfl ⟨rfl, rfl, rfl, rfl, rfl, rfl, rfl, rfl, rfl, rfl, rfl, rfl, rfl, rfl, rfl, rfl, rfl, rfl, rfl, rfl, rfl, trivial⟩) ?_
         refine aw_regionD (kd := kdl [0, 0, 0, 1, 0, 0, 0, 1, 0, 0, 0, 1, 0, 1, 0, 0, 0, 1, 0, 1, 0]) (ord := [0, 1, 2, 4, 5, 6, 8, 9, 10, 14, 15, 16, 3, 7, 11, 12, 13, 17, 18, 19, 20]) [] mixed (by kernel_rfl) ?_
         refine rd_s rfl rfl trivial (ss_move rfl) rfl ?_
         refine rd_s rfl rfl trivial (ss_move rfl) rfl ?_
         obtain ⟨q18, h⟩ := h
         refine rd_s rfl rfl trivial (ss_idxL rfl rfl q18) rfl ?_
         refine rd_s rfl rfl trivial (ss_move rfl) rfl ?_
         refine rd_s rfl rfl trivial (ss_move rfl) rfl ?_
         obtain ⟨q19, h⟩ := h
         refine rd_s rfl rfl trivial (ss_idxL rfl rfl q19) rfl ?_
         refine rd_s rfl rfl trivial (ss_move rfl) rfl ?_
         refine rd_s rfl rfl trivial (ss_move rfl) rfl ?_
         obtain ⟨q20, h⟩ := h
         refine rd_s rfl rfl trivial (ss_idxL rfl rfl q20) rfl ?_
         refine rd_s rfl rfl trivial (ss_move rfl) rfl ?_
         refine rd_s rfl rfl trivial (ss_move rfl) rfl ?_
         obtain ⟨q21, h⟩ := h
         refine rd_s rfl rfl trivial (ss_idxL rfl rfl q21) rfl ?_
         refine rd_l rfl rfl trivial (ss_loadL (f := ci) rfl q18) rfl ?_
         refine rd_l rfl rfl trivial (ss_loadL (f := (fun r => C.lst (rows r))) rfl q19) rfl ?_
         refine rd_l rfl rfl trivial (ss_loadL (f := ci) rfl q20) rfl ?_
         obtain ⟨q22, h⟩ := h
         refine rd_s rfl rfl trivial (ss_idxL rfl rfl q22) rfl ?_
         refine rd_l rfl rfl trivial (ss_loadL (f := (fun r => C.lst (ints r))) rfl q22) rfl ?_
         refine rd_l rfl rfl trivial (ss_loadL (f := ci) rfl q21) rfl ?_
         obtain ⟨q23, h⟩ := h
         refine rd_s rfl rfl trivial (ss_idxL rfl rfl q23) rfl ?_
         refine rd_l rfl rfl trivial (ss_loadL (f := ci) rfl q23) rfl ?_
         refine rd_s rfl rfl trivial (ss_neq rfl rfl) rfl ?_
         refine rd_nil ?_
         refine aw_cond rfl (fun q24 => ?_) (fun q24 => ?_)
         ·replace h := h.1 (of_decide_eq_false (bnot_t q24))
          refine aw_seq ?_
          refine aw_gh (gh_to (n := 80) (σ' := []) (env' := []) rfl rfl trivial) ?_
          refine aw_region ?_
          refine run_s (ss_assign rfl) rfl ?_
          refine run_nil ?_
          refine aw_ret ?_
          exact retAF_mk (retv1 rfl (rv_tmp rfl)) rfl rfl ⟨_, (cle_refl _), _, h, rfl⟩
         ·replace h := h.2 (of_decide_eq_true (bnot_f q24))
          refine aw_skip ?_
          refine aw_gh (gh_to (n := 80) (σ' := []) (env' := [(0, .c (.lst (tabs a))), (1, .c (.lst (tabs b))), (2, .c (.lst (ints f))), (7, .c (ci ((f.length : Int) - 1))), (8, .c (ci v8_1)), (9, .c (ci v9_2)), (10, .c (ci v10_3)), (45, .c (ci v9_2)), (46, .c (ci ((f.length : Int) - 1))), (47, .c (cb (decide (v9_2 < (f.length : Int) - 1)))), (48, .c (cb (decide (v9_2 < (f.length : Int) - 1)))), (49, .c (ci v10_3)), (50, .c (ci ((f.length : Int) - 1))), (51, .c (cb (decide (v10_3 < (f.length : Int) - 1)))), (52, .c (cb (decide (v10_3 < (f.length : Int) - 1)))), (53, .c (cb (decide (v10_3 < (f.length : Int) - 1)))), (54, .c (ci (el (el (el a v8_1) v9_2) v10_3))), (55, .c (ci ((f.length : Int) - 1))), (56, .c (cb (decide (el (el (el a v8_1) v9_2) v10_3 < (f.length : Int) - 1)))), (57, .c (cb (decide (el (el (el a v8_1) v9_2) v10_3 < (f.length : Int) - 1))))]) rfl rfl ⟨rfl, rfl, rfl, rfl, rfl, rfl, rfl, rfl, rfl, rfl, rfl, rfl, rfl, rfl, rfl, rfl, rfl, rfl, rfl, rfl, trivial⟩) ?_
          refine aw_region ?_
          refine run_s (ss_move rfl) rfl ?_
          obtain ⟨q25, h⟩ := h
          refine run_s (ss_add rfl rfl q25) rfl ?_
          refine run_s (ss_assign rfl) rfl ?_
          refine run_nil ?_
          exact ⟨v10_3 + 1, ghe_to (n := 80) rfl rfl ⟨rfl, rfl, rfl, rfl, rfl, rfl, rfl, trivial⟩, h.1, h.2⟩
       ·replace h := h.2 (of_decide_eq_false q15)
        refine run_gf rfl rfl q15 rfl ?_
        refine run_gf rfl rfl q15 rfl ?_
        refine run_gf rfl rfl q15 rfl ?_
        refine run_gt rfl rfl q11 ?_
        refine run_s (ss_pickF rfl q15 rfl) rfl ?_
        refine run_s (ss_pickF rfl q11 rfl) rfl ?_
        refine run_nil ?_
        refine aw_cond rfl (fun q26 => ?_) (fun q26 => ?_)
        ·cases q26
        ·skip
         refine aw_skip ?_
         refine aw_seq ?_
         refine aw_gh (gh_to (n := 80) (σ' := []) (env' := [(0, .c (.lst (tabs a))), (1, .c (.lst (tabs b))), (2, .c (.lst (ints f))), (7, .c (ci ((f.length : Int) - 1))), (8, .c (ci v8_1)), (9, .c (ci v9_2)), (10, .c (ci v10_3)), (11, .c (ci (el (el (el a v8_1) v9_2) v10_3))), (45, .c (ci v9_2)), (46, .c (ci ((f.length : Int) - 1))), (47, .c (cb (decide (v9_2 < (f.length : Int) - 1)))), (48, .c (cb (decide (v9_2 < (f.length : Int) - 1)))), (49, .c (ci v10_3)), (50, .c (ci ((f.length : Int) - 1))), (51, .c (cb (decide (v10_3 < (f.length : Int) - 1)))), (52, .c (cb (decide (v10_3 < (f.length : Int) - 1)))), (53, .c (cb (decide (v10_3 < (f.length : Int) - 1)))), (57, .c (cb false))]) rfl rfl ⟨rfl, rfl, rfl, rfl, rfl, rfl, rfl, rfl, rfl, rfl, rfl, rfl, rfl, rfl, rfl, rfl, rfl, rfl, trivial⟩) ?_
         refine aw_regionD (kd := kdl [0, 0, 0, 1, 0, 0, 0, 1, 0, 0, 0, 1, 0, 1, 0, 0, 0, 1, 0, 1, 0]) (ord := [0, 1, 2, 4, 5, 6, 8, 9, 10, 14, 15, 16, 3, 7, 11, 12, 13, 17, 18, 19, 20]) [] mixed (by kernel_rfl) ?_
         refine rd_s rfl rfl trivial (ss_move rfl) rfl ?_
         refine rd_s rfl rfl trivial (ss_move rfl) rfl ?_
         obtain ⟨q27, h⟩ := h
         refine rd_s rfl rfl trivial (ss_idxL rfl rfl q27) rfl ?_
         refine rd_s rfl rfl trivial (ss_move rfl) rfl ?_
         refine rd_s rfl rfl trivial (ss_move rfl) rfl ?_
         obtain ⟨q28, h⟩ := h
         refine rd_s rfl rfl trivial (ss_idxL rfl rfl q28) rfl ?_
         refine rd_s rfl rfl trivial (ss_move rfl) rfl ?_
         refine rd_s rfl rfl trivial (ss_move rfl) rfl ?_
         obtain ⟨q29, h⟩ := h
         refine rd_s rfl rfl trivial (ss_idxL rfl rfl q29) rfl ?_
         refine rd_s rfl rfl trivial (ss_move rfl) rfl ?_
         refine rd_s rfl rfl trivial (ss_move rfl) rfl ?_
         obtain ⟨q30, h⟩ := h
         refine rd_s rfl rfl trivial (ss_idxL rfl rfl q30) rfl ?_
         refine rd_l rfl rfl trivial (ss_loadL (f := ci) rfl q27) rfl ?_
         refine rd_l rfl rfl trivial (ss_loadL (f := (fun r => C.lst (rows r))) rfl q28) rfl ?_
         refine rd_l rfl rfl trivial (ss_loadL (f := ci) rfl q29) rfl ?_
         obtain ⟨q31, h⟩ := h
         refine rd_s rfl rfl trivial (ss_idxL rfl rfl q31) rfl ?_
         refine rd_l rfl rfl trivial (ss_loadL (f := (fun r => C.lst (ints r))) rfl q31) rfl ?_
         refine rd_l rfl rfl trivial (ss_loadL (f := ci) rfl q30) rfl ?_
         obtain ⟨q32, h⟩ := h
         refine rd_s rfl rfl trivial (ss_idxL rfl rfl q32) rfl ?_
         refine rd_l rfl rfl trivial (ss_loadL (f := ci) rfl q32) rfl ?_
         refine rd_s rfl rfl trivial (ss_neq rfl rfl) rfl ?_
         refine rd_nil ?_
         refine aw_cond rfl (fun q33 => ?_) (fun q33 => ?_)
         ·replace h := h.1 (of_decide_eq_false (bnot_t q33))
          refine aw_seq ?_
          refine aw_gh (gh_to (n := 80) (σ' := []) (env' := []) rfl rfl trivial) ?_
          refine aw_region ?_
          refine run_s (ss_assign rfl) rfl ?_
          refine run_nil ?_
          refine aw_ret ?_
          exact retAF_mk (retv1 rfl (rv_tmp rfl)) rfl rfl ⟨_, (cle_refl _), _, h, rfl⟩
         ·replace h := h.2 (of_decide_eq_true (bnot_f q33))
          refine aw_skip ?_
          refine aw_gh (gh_to (n := 80) (σ' := []) (env' := [(0, .c (.lst (tabs a))), (1, .c (.lst (tabs b))), (2, .c (.lst (ints f))), (7, .c (ci ((f.length : Int) - 1))), (8, .c (ci v8_1)), (9, .c (ci v9_2)), (10, .c (ci v10_3)), (45, .c (ci v9_2)), (46, .c (ci ((f.length : Int) - 1))), (47, .c (cb (decide (v9_2 < (f.length : Int) - 1)))), (48, .c (cb (decide (v9_2 < (f.length : Int) - 1)))), (49, .c (ci v10_3)), (50, .c (ci ((f.length : Int) - 1))), (51, .c (cb (decide (v10_3 < (f.length : Int) - 1)))), (52, .c (cb (decide (v10_3 < (f.length : Int) - 1)))), (53, .c (cb (decide (v10_3 < (f.length : Int) - 1)))), (57, .c (cb false))]) rfl rfl ⟨rfl, rfl, rfl, rfl, rfl, rfl, rfl, rfl, rfl, rfl, rfl, rfl, rfl, rfl, rfl, rfl, rfl, trivial⟩) ?_
          refine aw_region ?_
          refine run_s (ss_move rfl) rfl ?_
          obtain ⟨q34, h⟩ := h
          refine run_s (ss_add rfl rfl q34) rfl ?_
          refine run_s (ss_assign rfl) rfl ?_
          refine run_nil ?_
          exact ⟨v10_3 + 1, ghe_to (n := 80) rfl rfl ⟨rfl, rfl, rfl, rfl, rfl, rfl, rfl, trivial⟩, h.1, h.2⟩
      ·replace h := h.2 (of_decide_eq_false q14)
       refine run_gf rfl rfl q14 rfl ?_
       refine run_gf rfl rfl q14 rfl ?_
       refine run_gf rfl rfl q14 rfl ?_
       refine run_gt rfl rfl q11 ?_
       refine run_s (ss_pickF rfl q14 rfl) rfl ?_
       refine run_gt rfl rfl q11 ?_
       refine run_s (ss_move rfl) rfl ?_
       refine run_split (s := 53) rfl (fun q35 => ?_) (fun q35 => ?_)
       ·cases q35
       ·skip
        refine run_gf rfl rfl q35 rfl ?_
        refine run_gf rfl rfl q35 rfl ?_
        refine run_gf rfl rfl q35 rfl ?_
        refine run_gt rfl rfl q11 ?_
        refine run_s (ss_pickF rfl q35 rfl) rfl ?_
        refine run_s (ss_pickF rfl q11 rfl) rfl ?_
        refine run_nil ?_
        refine aw_cond rfl (fun q36 => ?_) (fun q36 => ?_)
        ·cases q36
        ·skip
         refine aw_skip ?_
         refine aw_seq ?_
         refine aw_gh (gh_to (n := 80) (σ' := []) (env' := [(0, .c (.lst (tabs a))), (1, .c (.lst (tabs b))), (2, .c (.lst (ints f))), (7, .c (ci ((f.length : Int) - 1))), (8, .c (ci v8_1)), (9, .c (ci v9_2)), (10, .c (ci v10_3)), (11, .c (ci (el (el (el a v8_1) v9_2) v10_3))), (45, .c (ci v9_2)), (46, .c (ci ((f.length : Int) - 1))), (47, .c (cb (decide (v9_2 < (f.length : Int) - 1)))), (48, .c (cb (decide (v9_2 < (f.length : Int) - 1)))), (52, .c (cb false)), (53, .c (cb false)), (57, .c (cb false))]) rfl rfl ⟨rfl, rfl, rfl, rfl, rfl, rfl, rfl, rfl, rfl, rfl, rfl, rfl, rfl, rfl, rfl, trivial⟩) ?_
         refine aw_regionD (kd := kdl [0, 0, 0, 1, 0, 0, 0, 1, 0, 0, 0, 1, 0, 1, 0, 0, 0, 1, 0, 1, 0]) (ord := [0, 1, 2, 4, 5, 6, 8, 9, 10, 14, 15, 16, 3, 7, 11, 12, 13, 17, 18, 19, 20]) [] mixed (by kernel_rfl) ?_
         refine rd_s rfl rfl trivial (ss_move rfl) rfl ?_
         refine rd_s rfl rfl trivial (ss_move rfl) rfl ?_
         obtain ⟨q37, h⟩ := h
         refine rd_s rfl rfl trivial (ss_idxL rfl rfl q37) rfl ?_
         refine rd_s rfl rfl trivial (ss_move rfl) rfl ?_
         refine rd_s rfl rfl trivial (ss_move rfl) rfl ?_
         obtain ⟨q38, h⟩ := h
         refine rd_s rfl rfl trivial (ss_idxL rfl rfl q38) rfl ?_
         refine rd_s rfl rfl trivial (ss_move rfl) rfl ?_
         refine rd_s rfl rfl trivial (ss_move rfl) rfl ?_
         obtain ⟨q39, h⟩ := h
         refine rd_s rfl rfl trivial (ss_idxL rfl rfl q39) rfl ?_
         refine rd_s rfl rfl trivial (ss_move rfl) rfl ?_
         refine rd_s rfl rfl trivial (ss_move rfl) rfl ?_
         obtain ⟨q40, h⟩ := h
         refine rd_s rfl rfl trivial (ss_idxL rfl rfl q40) rfl ?_
         refine rd_l rfl rfl trivial (ss_loadL (f := ci) rfl q37) rfl ?_
         refine rd_l rfl rfl trivial (ss_loadL (f := (fun r => C.lst (rows r))) rfl q38) rfl ?_
         refine rd_l rfl rfl trivial (ss_loadL (f := ci) rfl q39) rfl ?_
         obtain ⟨q41, h⟩ := h
         refine rd_s rfl rfl trivial (ss_idxL rfl rfl q41) rfl ?_
         refine rd_l rfl rfl trivial (ss_loadL (f := (fun r => C.lst (ints r))) rfl q41) rfl ?_
         refine rd_l rfl rfl trivial (ss_loadL (f := ci) rfl q40) rfl ?_
         obtain ⟨q42, h⟩ := h
         refine rd_s rfl rfl trivial (ss_idxL rfl rfl q42) rfl ?_
         refine rd_l rfl rfl trivial (ss_loadL (f := ci) rfl q42) rfl ?_
         refine rd_s rfl rfl trivial (ss_neq rfl rfl) rfl ?_
         refine rd_nil ?_
         refine aw_cond rfl (fun q43 => ?_) (fun q43 => ?_)
         ·replace h := h.1 (of_decide_eq_false (bnot_t q43))
          refine aw_seq ?_
          refine aw_gh (gh_to (n := 80) (σ' := []) (env' := []) rfl rfl trivial) ?_
          refine aw_region ?_
          refine run_s (ss_assign rfl) rfl ?_
          refine run_nil ?_
          refine aw_ret ?_
          exact retAF_mk (retv1 rfl (rv_tmp rfl)) rfl rfl ⟨_, (cle_refl _), _, h, rfl⟩
         ·replace h := h.2 (of_decide_eq_true (bnot_f q43))
          refine aw_skip ?_
          refine aw_gh (gh_to (n := 80) (σ' := []) (env' := [(0, .c (.lst (tabs a))), (1, .c (.lst (tabs b))), (2, .c (.lst (ints f))), (7, .c (ci ((f.length : Int) - 1))), (8, .c (ci v8_1)), (9, .c (ci v9_2)), (10, .c (ci v10_3)), (45, .c (ci v9_2)), (46, .c (ci ((f.length : Int) - 1))), (47, .c (cb (decide (v9_2 < (f.length : Int) - 1)))), (48, .c (cb (decide (v9_2 < (f.length : Int) - 1)))), (52, .c (cb false)), (53, .c (cb false)), (57, .c (cb false))]) rfl rfl ⟨rfl, rfl, rfl, rfl, rfl, rfl, rfl, rfl, rfl, rfl, rfl, rfl, rfl, rfl, trivial⟩) ?_
          refine aw_region ?_
          refine run_s (ss_move rfl) rfl ?_
          obtain ⟨q44, h⟩ := h
          refine run_s (ss_add rfl rfl q44) rfl ?_
          refine run_s (ss_assign rfl) rfl ?_
          refine run_nil ?_
          exact ⟨v10_3 + 1, ghe_to (n := 80) rfl rfl ⟨rfl, rfl, rfl, rfl, rfl, rfl, rfl, trivial⟩, h.1, h.2⟩
    ·replace h := h.2 (of_decide_eq_false q7)
     refine aw_exit ?_
     refine aw_region ?_
     refine run_s (ss_move rfl) rfl ?_
     obtain ⟨q45, h⟩ := h
     refine run_s (ss_add rfl rfl q45) rfl ?_
     refine run_s (ss_assign rfl) rfl ?_
     refine run_nil ?_
     exact ⟨v9_2 + 1, ghe_to (n := 80) rfl rfl ⟨rfl, rfl, rfl, rfl, rfl, rfl, trivial⟩, h.1, h.2⟩
   ·replace h := h.2 (of_decide_eq_false q5)
    refine aw_exit ?_
    refine aw_region ?_
    refine run_s (ss_move rfl) rfl ?_
    obtain ⟨q46, h⟩ := h
    refine run_s (ss_add rfl rfl q46) rfl ?_
    refine run_s (ss_assign rfl) rfl ?_
    refine run_nil ?_
    exact ⟨v8_1 + 1, ghe_to (n := 80) rfl rfl ⟨rfl, rfl, rfl, rfl, rfl, trivial⟩, h.1, h.2⟩
  ·replace h := h.2 (of_decide_eq_false q3)
   refine aw_exit ?_
   refine aw_seq ?_
   refine aw_gh (gh_to (n := 80) (σ' := []) (env' := []) rfl rfl trivial) ?_
   refine aw_region ?_
   refine run_s (ss_assign rfl) rfl ?_
   refine run_nil ?_
   refine aw_ret ?_
   exact retAF_mk (retv1 rfl (rv_tmp rfl)) rfl rfl ⟨_, (cle_refl _), _, h, rfl⟩

theorem c_spec_l03Fits (a : List (List (List Int))) (b : List (List (List Int))) (f : List Int) (hp : fitD a b f) : AF Try.prog 37 [.lst (tabs a), .lst (tabs b), .lst (ints f)] (fun R_ => R_ = cb (dec (conA a b f))) :=
  (w_spec_l03Fits a b f (fun y0 => y0 = dec (conA a b f)) (p_spec_l03Fits a b f hp)).mono (by rintro r ⟨_, rfl, rfl⟩; rfl)

theorem idxL_self {list : List (List Int)} {i : Int} (hi : 0 ≤ i ∧ i < (list.length : Int)) : idxL list (el list i) = i ↔ ∀ j, 0 ≤ j → j < i → el list j ≠ el list i := by
  constructor
  · intro h j j0 j1 e
    have hex : ∃ m : Nat, (m : Int) ≤ j ∧ el list (m : Int) = el list i ∧ ∀ k : Nat, k < m → el list (k : Int) ≠ el list i := by
      have key : ∀ n : Nat, (∃ m : Nat, m ≤ n ∧ el list (m : Int) = el list i) → ∃ m : Nat, m ≤ n ∧ el list (m : Int) = el list i ∧ ∀ k : Nat, k < m → el list (k : Int) ≠ el list i := by
        intro n
        induction n with
        | zero => intro ⟨m, hm, e⟩; exact ⟨m, hm, e, fun k hk => by omega⟩
        | succ n ih =>
          intro ⟨m, hm, e⟩
          by_cases hc : ∃ m : Nat, m ≤ n ∧ el list (m : Int) = el list i
          · obtain ⟨m', a, b, c⟩ := ih hc
            exact ⟨m', by omega, b, c⟩
          · exact ⟨m, hm, e, fun k hk e2 => hc ⟨k, by omega, e2⟩⟩
      obtain ⟨m, a, b, c⟩ := key j.toNat ⟨j.toNat, Nat.le_refl _, by rw [show ((j.toNat : Nat) : Int) = j by omega]; exact e⟩
      exact ⟨m, by omega, b, c⟩
    obtain ⟨m, a, b, c⟩ := hex
    have := idxF_found (t := list) (f := fun own => decide (own = el list i)) (i := (m : Int)) ⟨by omega, by omega⟩ (fun k k0 k1 => by
      have := c k.toNat (by omega)
      rw [show ((k.toNat : Nat) : Int) = k by omega] at this
      exact decide_eq_false this) (decide_eq_true b)
    unfold idxL at h
    omega
  · intro h
    exact idxF_found hi (fun j j0 j1 => decide_eq_false (h j j0 j1)) (decide_eq_true rfl)
structure MI (r : List (List Int)) (l : List Int) (m m' : Int) : Prop where
  rng : 0 ≤ m' ∧ m' < (2 : Int) ^ (r.length : Int).toNat
  le : m ≤ m'
  sup : ∀ z, 0 ≤ z → bitP m z → bitP m' z
  sc : ∀ z, 0 ≤ z → bitP m' z → Sc r l z
theorem MI.step {r : List (List Int)} {l : List Int} {m m' k : Int} (h : MI r l m m') (hk : 0 ≤ k ∧ k < (r.length : Int)) (hs : Sc r l k) : MI r l m (((m'.toNat ||| (1 * (2 : Int) ^ k.toNat).toNat : Nat) : Int)) :=
  ⟨or_lt2 h.rng hk, by
    have h1 : m'.toNat ≤ (m'.toNat ||| (1 * (2 : Int) ^ k.toNat).toNat) := Nat.left_le_or
    have := h.le; have := h.rng.1; omega, fun z z0 hz => (bit_or h.rng.1 hk.1 z0).2 (.inl (h.sup z z0 hz)), fun z z0 hz => by
    rcases (bit_or h.rng.1 hk.1 z0).1 hz with h1 | h1
    · exact h.sc z z0 h1
    · rw [h1]; exact hs⟩
def wp_spec_l01Less (a : List Int) (b : List Int) (Q : Bool → Prop) : Prop :=
 ∃ (H1 : Int → Prop) (m1 : Int → Nat),
 H1 0 ∧
 ∀ (v5_1 : Int), H1 v5_1 →
 ( ((v5_1 < (a.length : Int) →
 ((v5_1 < (b.length : Int) →
 (0 ≤ v5_1 ∧ v5_1 < (a.length : Int)) ∧
 (0 ≤ v5_1 ∧ v5_1 < (b.length : Int)) ∧
 ((¬ (el a v5_1 = el b v5_1) →
 (0 ≤ v5_1 ∧ v5_1 < (a.length : Int)) ∧
 (0 ≤ v5_1 ∧ v5_1 < (b.length : Int)) ∧
 Q (decide (el a v5_1 < el b v5_1))) ∧
 (el a v5_1 = el b v5_1 →
 (InI (v5_1 + 1)) ∧
 (H1 (v5_1 + 1) ∧ m1 (v5_1 + 1) < m1 v5_1)))) ∧
 (¬ (v5_1 < (b.length : Int)) →
 Q (decide ((a.length : Int) < (b.length : Int)))))) ∧
 (¬ (v5_1 < (a.length : Int)) →
 Q (decide ((a.length : Int) < (b.length : Int))))))

theorem p_spec_l01Less (a b : List Int) (hp : small a ∧ small b) : wp_spec_l01Less a b (fun y0 => y0 = decide (cmpG cmp1 a b < 0)) := by
  have h1 : (a.length : Int) ≤ 1000000000 := hp.1
  refine ⟨fun i => (0 ≤ i ∧ i ≤ (a.length : Int) ∧ i ≤ (b.length : Int)) ∧ Upto i fun j => cmp1 (el a j) (el b j) = 0, fun i => ((a.length : Int) - i).toNat, ⟨⟨by omega, by omega, by omega⟩, upto0⟩, ?_⟩
  rintro i ⟨⟨i0, i1, i2⟩, hu⟩
  have fin : ¬ (i < (a.length : Int) ∧ i < (b.length : Int)) → decide ((a.length : Int) < (b.length : Int)) = decide (cmpG cmp1 a b < 0) := fun g => by
    by_cases ha : i < (a.length : Int)
    · rw [cmpG_long hu ⟨i0, ha⟩ (by omega)]; simp; omega
    · by_cases hb : i < (b.length : Int)
      · rw [cmpG_short hu ⟨i0, by omega⟩ hb]; simp; omega
      · rw [cmpG_same hu ⟨i0, by omega⟩ (by omega)]; simp; omega
  dsimp only
  refine ⟨fun hlt => ⟨fun hb => ⟨⟨i0, hlt⟩, ⟨i0, hb⟩, fun h => ⟨⟨i0, hlt⟩, ⟨i0, hb⟩, ?_⟩, fun h => ⟨⟨by omega, by omega⟩, ⟨⟨by omega, by omega, by omega⟩, upto1 hu (cmp1_zero.2 h)⟩, by omega⟩⟩, fun hb => fin fun g => hb g.2⟩, fun hge => fin fun g => hge g.1⟩
  rw [cmpG_ne hu ⟨i0, hlt⟩ hb fun g => h (cmp1_zero.1 g)]
  unfold cmp1
  split
  · simp [*]
  · split <;> simp [*]
set_option maxRecDepth 100000 in
set_option maxHeartbeats 4000000 in
theorem w_spec_l01Less (a : List Int) (b : List Int) (Q : Bool → Prop) (h : wp_spec_l01Less a b Q) : AF Try.prog 59 [.lst (ints a), .lst (ints b)] (fun R_ => ∃ y0, Q y0 ∧ R_ = cb y0) := by
  refine AF.ofWQ (af_enter (n := 41) Try.func59 rfl (by rfl) rfl (Nat.le_of_ble_eq_true rfl) ?_)
  unfold wp_spec_l01Less at h
  refine aw_seq ?_
  refine aw_gh (gh_to (n := 41) (σ' := []) (env' := [(0, .c (.lst (ints a))), (1, .c (.lst (ints b)))]) rfl rfl ⟨rfl, rfl, trivial⟩) ?_
  refine aw_region ?_
  refine run_s (ss_assign rfl) rfl ?_
  refine run_nil ?_
  refine aw_seq ?_
  refine aw_seq ?_
  refine aw_region ?_
  refine run_s (ss_assign rfl) rfl ?_
  refine run_nil ?_
  refine aw_block ?_
  obtain ⟨H1, m1, q1, h⟩ := h
  refine aw_loop1 (fun (v5_1 : Int) => ⟨[], [(0, .c (.lst (ints a))), (1, .c (.lst (ints b))), (5, .c (ci v5_1))], 41⟩) H1 m1 ⟨0, ghe_to (n := 41) rfl rfl ⟨rfl, rfl, rfl, trivial⟩, q1⟩ ?_
  rintro v5_1 q1
  replace h := h v5_1 q1
  refine aw_seq ?_
  refine aw_seq ?_
  refine aw_region ?_
  refine run_s (ss_move rfl) rfl ?_
  refine run_s (ss_move rfl) rfl ?_
  refine run_s (ss_lenL (f := ci) rfl) rfl ?_
  refine run_s (ss_lss rfl rfl) rfl ?_
  refine run_s (ss_move rfl) rfl ?_
  refine run_split (s := 10) rfl (fun q2 => ?_) (fun q2 => ?_)
  ·replace h := h.1 (of_decide_eq_true q2)
   refine run_gt rfl rfl q2 ?_
   refine run_s (ss_move rfl) rfl ?_
   refine run_gt rfl rfl q2 ?_
   refine run_s (ss_move rfl) rfl ?_
   refine run_gt rfl rfl q2 ?_
   refine run_s (ss_lenL (f := ci) rfl) rfl ?_
   refine run_gt rfl rfl q2 ?_
   refine run_s (ss_lss rfl rfl) rfl ?_
   refine run_s (ss_pickT rfl q2 rfl) rfl ?_
   refine run_nil ?_
   refine aw_cond rfl (fun q3 => ?_) (fun q3 => ?_)
   ·replace h := h.1 (of_decide_eq_true q3)
    refine aw_skip ?_
    refine aw_seq ?_
    refine aw_block ?_
    refine aw_seq ?_
    refine aw_gh (gh_to (n := 41) (σ' := []) (env' := [(0, .c (.lst (ints a))), (1, .c (.lst (ints b))), (5, .c (ci v5_1)), (11, .c (ci v5_1)), (12, .c (.lst (ints b))), (13, .c (ci (b.length : Int))), (14, .c (cb (decide (v5_1 < (b.length : Int)))))]) rfl rfl ⟨rfl, rfl, rfl, rfl, rfl, rfl, rfl, trivial⟩) ?_
    refine aw_regionD (kd := kdl [0, 0, 0, 1, 0, 0, 0, 1, 0]) (ord := [0, 1, 2, 4, 5, 6, 3, 7, 8]) [] mixed (by kernel_rfl) ?_
    refine rd_s rfl rfl trivial (ss_move rfl) rfl ?_
    refine rd_s rfl rfl trivial (ss_move rfl) rfl ?_
    obtain ⟨q4, h⟩ := h
    refine rd_s rfl rfl trivial (ss_idxL rfl rfl q4) rfl ?_
    refine rd_s rfl rfl trivial (ss_move rfl) rfl ?_
    refine rd_s rfl rfl trivial (ss_move rfl) rfl ?_
    obtain ⟨q5, h⟩ := h
    refine rd_s rfl rfl trivial (ss_idxL rfl rfl q5) rfl ?_
    refine rd_l rfl rfl trivial (ss_loadL (f := ci) rfl q4) rfl ?_
    refine rd_l rfl rfl trivial (ss_loadL (f := ci) rfl q5) rfl ?_
    refine rd_s rfl rfl trivial (ss_neq rfl rfl) rfl ?_
    refine rd_nil ?_
    refine aw_cond rfl (fun q6 => ?_) (fun q6 => ?_)
    ·replace h := h.1 (of_decide_eq_false (bnot_t q6))
     refine aw_seq ?_
     refine aw_gh (gh_to (n := 41) (σ' := []) (env' := [(0, .c (.lst (ints a))), (1, .c (.lst (ints b))), (5, .c (ci v5_1))]) rfl rfl ⟨rfl, rfl, rfl, trivial⟩) ?_
     refine aw_regionD (kd := kdl [0, 0, 0, 1, 0, 0, 0, 1, 0, 0]) (ord := [0, 1, 2, 4, 5, 6, 3, 7, 8, 9]) [] mixed (by kernel_rfl) ?_
     refine rd_s rfl rfl trivial (ss_move rfl) rfl ?_
     refine rd_s rfl rfl trivial (ss_move rfl) rfl ?_
     obtain ⟨q7, h⟩ := h
     refine rd_s rfl rfl trivial (ss_idxL rfl rfl q7) rfl ?_
     refine rd_s rfl rfl trivial (ss_move rfl) rfl ?_
     refine rd_s rfl rfl trivial (ss_move rfl) rfl ?_
     obtain ⟨q8, h⟩ := h
     refine rd_s rfl rfl trivial (ss_idxL rfl rfl q8) rfl ?_
     refine rd_l rfl rfl trivial (ss_loadL (f := ci) rfl q7) rfl ?_
     refine rd_l rfl rfl trivial (ss_loadL (f := ci) rfl q8) rfl ?_
     refine rd_s rfl rfl trivial (ss_lss rfl rfl) rfl ?_
     refine rd_s rfl rfl trivial (ss_assign rfl) rfl ?_
     refine rd_nil ?_
     refine aw_ret ?_
     exact retAF_mk (retv1 rfl (rv_tmp rfl)) rfl rfl ⟨_, (cle_refl _), _, h, rfl⟩
    ·replace h := h.2 (of_decide_eq_true (bnot_f q6))
     refine aw_skip ?_
     refine aw_gh (gh_to (n := 41) (σ' := []) (env' := [(0, .c (.lst (ints a))), (1, .c (.lst (ints b))), (5, .c (ci v5_1)), (11, .c (ci v5_1)), (12, .c (.lst (ints b))), (13, .c (ci (b.length : Int))), (14, .c (cb (decide (v5_1 < (b.length : Int)))))]) rfl rfl ⟨rfl, rfl, rfl, rfl, rfl, rfl, rfl, trivial⟩) ?_
     refine aw_region ?_
     refine run_s (ss_move rfl) rfl ?_
     obtain ⟨q9, h⟩ := h
     refine run_s (ss_add rfl rfl q9) rfl ?_
     refine run_s (ss_assign rfl) rfl ?_
     refine run_nil ?_
     exact ⟨v5_1 + 1, ghe_to (n := 41) rfl rfl ⟨rfl, rfl, rfl, trivial⟩, h.1, h.2⟩
   ·replace h := h.2 (of_decide_eq_false q3)
    refine aw_exit ?_
    refine aw_seq ?_
    refine aw_gh (gh_to (n := 41) (σ' := []) (env' := [(0, .c (.lst (ints a))), (1, .c (.lst (ints b)))]) rfl rfl ⟨rfl, rfl, trivial⟩) ?_
    refine aw_region ?_
    refine run_s (ss_move rfl) rfl ?_
    refine run_s (ss_lenL (f := ci) rfl) rfl ?_
    refine run_s (ss_move rfl) rfl ?_
    refine run_s (ss_lenL (f := ci) rfl) rfl ?_
    refine run_s (ss_lss rfl rfl) rfl ?_
    refine run_s (ss_assign rfl) rfl ?_
    refine run_nil ?_
    refine aw_ret ?_
    exact retAF_mk (retv1 rfl (rv_tmp rfl)) rfl rfl ⟨_, (cle_refl _), _, h, rfl⟩
  ·replace h := h.2 (of_decide_eq_false q2)
   refine run_gf rfl rfl q2 rfl ?_
   refine run_gf rfl rfl q2 rfl ?_
   refine run_gf rfl rfl q2 rfl ?_
   refine run_gf rfl rfl q2 rfl ?_
   refine run_s (ss_pickF rfl q2 rfl) rfl ?_
   refine run_nil ?_
   refine aw_cond rfl (fun q10 => ?_) (fun q10 => ?_)
   ·cases q10
   ·skip
    refine aw_exit ?_
    refine aw_seq ?_
    refine aw_gh (gh_to (n := 41) (σ' := []) (env' := [(0, .c (.lst (ints a))), (1, .c (.lst (ints b)))]) rfl rfl ⟨rfl, rfl, trivial⟩) ?_
    refine aw_region ?_
    refine run_s (ss_move rfl) rfl ?_
    refine run_s (ss_lenL (f := ci) rfl) rfl ?_
    refine run_s (ss_move rfl) rfl ?_
    refine run_s (ss_lenL (f := ci) rfl) rfl ?_
    refine run_s (ss_lss rfl rfl) rfl ?_
    refine run_s (ss_assign rfl) rfl ?_
    refine run_nil ?_
    refine aw_ret ?_
    exact retAF_mk (retv1 rfl (rv_tmp rfl)) rfl rfl ⟨_, (cle_refl _), _, h, rfl⟩

theorem c_spec_l01Less (a : List Int) (b : List Int) (hp : small a ∧ small b) : AF Try.prog 59 [.lst (ints a), .lst (ints b)] (fun R_ => R_ = cb (decide (cmpG cmp1 a b < 0))) :=
  (w_spec_l01Less a b (fun y0 => y0 = decide (cmpG cmp1 a b < 0)) (p_spec_l01Less a b hp)).mono (by rintro r ⟨_, rfl, rfl⟩; rfl)

set_option maxRecDepth 100000 in
theorem swap_nb {α : Type} [Inhabited α] {o : List α} {j : Int} (hj : 1 ≤ j ∧ j < (o.length : Int)) : (se (se o j (el o (j - 1))) (j - 1) (el o j)).Perm o := by
  have e : o = o.take (j - 1).toNat ++ el o (j - 1) :: el o j :: o.drop (j.toNat + 1) := by
    have h1 := drop_el (l := o) (i := j - 1) ⟨by omega, by omega⟩
    have h2 := drop_el (l := o) (i := j) ⟨by omega, hj.2⟩
    rw [show (j - 1).toNat + 1 = j.toNat by omega, h2] at h1
    rw [← h1, List.take_append_drop]
  have hl : ((o.take (j - 1).toNat).length : Int) = j - 1 := by simp; omega
  generalize el o (j - 1) = u at *
  generalize el o j = v at *
  generalize o.take (j - 1).toNat = A at *
  generalize o.drop (j.toNat + 1) = B at *
  subst e
  have s1 : se (A ++ u :: v :: B) j u = A ++ u :: u :: B := by
    have := se_app (a := A ++ [u]) (b := B) (x := v) (v := u) (i := j) (by simp; omega)
    simpa using this
  rw [s1, se_app (by omega)]
  exact List.Perm.append_left A (List.Perm.swap u v B)
theorem swap_nb_el {α : Type} [Inhabited α] {o : List α} {j m : Int} (hj : 1 ≤ j ∧ j < (o.length : Int)) (hm : 0 ≤ m) : el (se (se o j (el o (j - 1))) (j - 1) (el o j)) m = if m = j - 1 then el o j else if m = j then el o (j - 1) else el o m := by
  split
  · rename_i h; subst h; rw [el_se_same ⟨by omega, by simp; omega⟩]
  · rename_i h
    rw [el_se_ne (by omega) hm (Ne.symm h)]
    split
    · rename_i h2; subst h2; rw [el_se_same ⟨by omega, by omega⟩]
    · rename_i h2; rw [el_se_ne (by omega) hm (Ne.symm h2)]
end Go.Proofs.Ytkmoeodoidpjkaa
