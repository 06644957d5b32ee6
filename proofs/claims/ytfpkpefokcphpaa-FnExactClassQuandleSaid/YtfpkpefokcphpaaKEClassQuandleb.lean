/- Contracts of functions that the law FnExactClassQuandle reaches: conditions, plain proofs, walks; no condition. -/
import Derived.Test.YtfpkpefokcphpaaKEClassQuandlea
import Derived.Test.YtfpkpefokcphpaaPs
namespace Go.Proofs.Ytfpkpefokcphpaa

def wp_k_Equal (a : List Int) (b : List Int) (Q : Bool → Prop) : Prop :=
 ((¬ ((a.length : Int) = (b.length : Int)) →
 Q false) ∧
 ((a.length : Int) = (b.length : Int) →
 ∃ (H1 : Int → Prop) (m1 : Int → Nat),
 H1 0 ∧
 ∀ (v13_1 : Int), H1 v13_1 →
 ( ((v13_1 < (a.length : Int) →
 (0 ≤ v13_1 ∧ v13_1 < (a.length : Int)) ∧
 (0 ≤ v13_1 ∧ v13_1 < (b.length : Int)) ∧
 ((¬ (el a v13_1 = el b v13_1) →
 Q false) ∧
 (el a v13_1 = el b v13_1 →
 (InI (v13_1 + 1)) ∧
 (H1 (v13_1 + 1) ∧ m1 (v13_1 + 1) < m1 v13_1)))) ∧
 (¬ (v13_1 < (a.length : Int)) →
 Q true)))))

def wp_spec_l01Same (a : List Int) (b : List Int) (Q : Bool → Prop) : Prop :=
 ((¬ ((a.length : Int) = (b.length : Int)) →
 Q false) ∧
 ((a.length : Int) = (b.length : Int) →
 ∃ (H1 : Int → Prop) (m1 : Int → Nat),
 H1 0 ∧
 ∀ (v5_1 : Int), H1 v5_1 →
 ( ((v5_1 < (a.length : Int) →
 (0 ≤ v5_1 ∧ v5_1 < (a.length : Int)) ∧
 (0 ≤ v5_1 ∧ v5_1 < (b.length : Int)) ∧
 ((¬ (el a v5_1 = el b v5_1) →
 Q false) ∧
 (el a v5_1 = el b v5_1 →
 (InI (v5_1 + 1)) ∧
 (H1 (v5_1 + 1) ∧ m1 (v5_1 + 1) < m1 v5_1)))) ∧
 (¬ (v5_1 < (a.length : Int)) →
 Q true)))))

def wp_impl_identity (n : Int) (Q : List Int → Prop) : Prop :=
 (0 ≤ n ∧ n ≤ 1000000000) ∧
 ∃ (H1 : Int → List Int → Prop) (m1 : Int → List Int → Nat),
 H1 0 (List.replicate n.toNat (0 : Int)) ∧
 ∀ (v9_1 : Int) (o6_1 : List Int), H1 v9_1 o6_1 →
 ( ((v9_1 < ((List.replicate n.toNat (0 : Int)).length : Int) →
 (0 ≤ v9_1 ∧ v9_1 < (o6_1.length : Int)) ∧
 (InI (v9_1 + 1)) ∧
 (H1 (v9_1 + 1) (se o6_1 v9_1 v9_1) ∧ m1 (v9_1 + 1) (se o6_1 v9_1 v9_1) < m1 v9_1 o6_1)) ∧
 (¬ (v9_1 < ((List.replicate n.toNat (0 : Int)).length : Int)) →
 Q o6_1)))

def wp_spec_l01Then (p : List Int) (q : List Int) (Q : List Int → Prop) : Prop :=
 ∃ (H1 : Int → List Int → Prop) (m1 : Int → List Int → Nat),
 H1 0 ([] : List Int) ∧
 ∀ (v6_1 : Int) (o7_1 : List Int), H1 v6_1 o7_1 →
 ( ((v6_1 < (p.length : Int) →
 (0 ≤ v6_1 ∧ v6_1 < (p.length : Int)) ∧
 (0 ≤ el p v6_1 ∧ el p v6_1 < (q.length : Int)) ∧
 ((o7_1.length : Int) + (([el q (el p v6_1)]).length : Int) ≤ 1000000000) ∧
 (InI (v6_1 + 1)) ∧
 (H1 (v6_1 + 1) (o7_1 ++ ([el q (el p v6_1)])) ∧ m1 (v6_1 + 1) (o7_1 ++ ([el q (el p v6_1)])) < m1 v6_1 o7_1)) ∧
 (¬ (v6_1 < (p.length : Int)) →
 Q o7_1)))

def wp_impl_then (p : List Int) (q : List Int) (Q : List Int → Prop) : Prop :=
 (0 ≤ (p.length : Int) ∧ (p.length : Int) ≤ 1000000000) ∧
 ∃ (H1 : Int → List Int → Prop) (m1 : Int → List Int → Nat),
 H1 0 (List.replicate (p.length : Int).toNat (0 : Int)) ∧
 ∀ (v13_1 : Int) (o10_1 : List Int), H1 v13_1 o10_1 →
 ( ((v13_1 < (p.length : Int) →
 (0 ≤ v13_1 ∧ v13_1 < (p.length : Int)) ∧
 (0 ≤ el p v13_1 ∧ el p v13_1 < (q.length : Int)) ∧
 (0 ≤ v13_1 ∧ v13_1 < (o10_1.length : Int)) ∧
 (InI (v13_1 + 1)) ∧
 (H1 (v13_1 + 1) (se o10_1 v13_1 (el q (el p v13_1))) ∧ m1 (v13_1 + 1) (se o10_1 v13_1 (el q (el p v13_1))) < m1 v13_1 o10_1)) ∧
 (¬ (v13_1 < (p.length : Int)) →
 Q o10_1)))

def wp_spec_l01Back (p : List Int) (Q : List Int → Prop) : Prop :=
 (0 ≤ (p.length : Int) ∧ (p.length : Int) ≤ 1000000000) ∧
 ∃ (H1 : Int → List Int → Prop) (m1 : Int → List Int → Nat),
 H1 0 (List.replicate (p.length : Int).toNat (0 : Int)) ∧
 ∀ (v4_1 : Int) (o7_1 : List Int), H1 v4_1 o7_1 →
 ( ((v4_1 < (p.length : Int) →
 (0 ≤ v4_1 ∧ v4_1 < (p.length : Int)) ∧
 (0 ≤ el p v4_1 ∧ el p v4_1 < (o7_1.length : Int)) ∧
 (InI (v4_1 + 1)) ∧
 (H1 (v4_1 + 1) (se o7_1 (el p v4_1) v4_1) ∧ m1 (v4_1 + 1) (se o7_1 (el p v4_1) v4_1) < m1 v4_1 o7_1)) ∧
 (¬ (v4_1 < (p.length : Int)) →
 Q o7_1)))

def wp_impl_inverse (p : List Int) (Q : List Int → Prop) : Prop :=
 (0 ≤ (p.length : Int) ∧ (p.length : Int) ≤ 1000000000) ∧
 ∃ (H1 : Int → List Int → Prop) (m1 : Int → List Int → Nat),
 H1 0 (List.replicate (p.length : Int).toNat (0 : Int)) ∧
 ∀ (v11_1 : Int) (o8_1 : List Int), H1 v11_1 o8_1 →
 ( ((v11_1 < (p.length : Int) →
 (0 ≤ v11_1 ∧ v11_1 < (p.length : Int)) ∧
 (0 ≤ el p v11_1 ∧ el p v11_1 < (o8_1.length : Int)) ∧
 (InI (v11_1 + 1)) ∧
 (H1 (v11_1 + 1) (se o8_1 (el p v11_1) v11_1) ∧ m1 (v11_1 + 1) (se o8_1 (el p v11_1) v11_1) < m1 v11_1 o8_1)) ∧
 (¬ (v11_1 < (p.length : Int)) →
 Q o8_1)))

theorem p_k_Equal (a b : List Int) (hp : small a ∧ small b) : wp_k_Equal a b (fun y0 => y0 = decide (a = b)) := by
  unfold wp_k_Equal
  obtain ⟨ha, hb⟩ := hp
  refine ⟨fun h => (decide_eq_false fun e => h (by rw [e])).symm, fun h => ⟨fun i => 0 ≤ i ∧ i ≤ (a.length : Int) ∧ Upto i fun j => el a j = el b j, fun i => ((a.length : Int) - i).toNat, ⟨by omega, by omega, upto0⟩, ?_⟩⟩
  rintro i ⟨h0, h1, hI⟩
  dsimp only
  refine ⟨fun hlt => ⟨⟨h0, hlt⟩, ⟨h0, by omega⟩, fun hf => (decide_eq_false fun e => hf (by rw [e])).symm, fun ht => ⟨⟨by omega, by omega⟩, ⟨by omega, by omega, upto1 hI ht⟩, by omega⟩⟩, fun hge => ?_⟩
  exact (decide_eq_true (ext_el (by omega) fun j h2 h3 => hI j h2 (by omega))).symm
theorem p_spec_l01Same (a b : List Int) (hp : small a ∧ small b) : wp_spec_l01Same a b (fun y0 => y0 = decide (a = b)) := by
  unfold wp_spec_l01Same
  obtain ⟨ha, hb⟩ := hp
  refine ⟨fun h => (decide_eq_false fun e => h (by rw [e])).symm, fun h => ⟨fun i => 0 ≤ i ∧ i ≤ (a.length : Int) ∧ Upto i fun j => el a j = el b j, fun i => ((a.length : Int) - i).toNat, ⟨by omega, by omega, upto0⟩, ?_⟩⟩
  rintro i ⟨h0, h1, hI⟩
  dsimp only
  refine ⟨fun hlt => ⟨⟨h0, hlt⟩, ⟨h0, by omega⟩, fun hf => (decide_eq_false fun e => hf (by rw [e])).symm, fun ht => ⟨⟨by omega, by omega⟩, ⟨by omega, by omega, upto1 hI ht⟩, by omega⟩⟩, fun hge => ?_⟩
  exact (decide_eq_true (ext_el (by omega) fun j h2 h3 => hI j h2 (by omega))).symm
theorem p_impl_identity (n : Int) (hp : 0 ≤ n ∧ n ≤ 1000000) : wp_impl_identity n (fun y0 => y0 = unitI n) := by
  unfold wp_impl_identity
  simp only [List.length_replicate]
  refine ⟨⟨by omega, by omega⟩, fun i o => 0 ≤ i ∧ i ≤ n ∧ o.length = n.toNat ∧ Upto i fun j => el o j = j, fun i _ => (n - i).toNat, ⟨by omega, by omega, by simp, upto0⟩, ?_⟩
  rintro i o ⟨h0, h1, hl, hI⟩
  dsimp only
  exact ⟨fun hlt => by
    refine ⟨?_, ?_⟩ <;> first
      | exact ⟨by omega, by omega⟩
      | exact ⟨⟨by omega, by omega⟩, ⟨by omega, by omega, by simp [hl], fill1 (f := fun j => j) ⟨h0, by omega⟩ hI rfl⟩, by omega⟩
      | exact ⟨⟨by omega, by omega⟩, ⟨by omega, by omega⟩, ⟨by omega, by omega, by simp [hl], fill1 (f := fun j => j) ⟨h0, by omega⟩ hI rfl⟩, by omega⟩, fun hge => eq_ran (f := id) hl fun j h2 h3 => hI j h2 (by omega)⟩
theorem p_spec_l01Then (p q : List Int) (hp : small p ∧ ∀ x_ ∈ p, 0 ≤ x_ ∧ x_ < (q.length : Int)) : wp_spec_l01Then p q (fun y0 => y0 = p.map (el q)) := by
  unfold wp_spec_l01Then
  obtain ⟨h1, h2⟩ := hp
  refine ⟨fun i o => 0 ≤ i ∧ i ≤ (p.length : Int) ∧ o.length = i.toNat ∧ Upto i fun x => el o x = el q (el p x), fun i _ => ((p.length : Int) - i).toNat, ⟨by omega, by omega, by simp, upto0⟩, ?_⟩
  rintro i o ⟨i0, i1, il, iI⟩
  dsimp only
  refine ⟨fun ilt => ⟨⟨i0, ilt⟩, h2 _ (el_mem ⟨i0, ilt⟩), by simp; omega, ⟨by omega, by omega⟩, ⟨by omega, by omega, by simp; omega, app1 (f := fun x => el q (el p x)) (by omega) iI rfl⟩, by omega⟩, fun ige => ext_el (by simp; omega) fun j a b => ?_⟩
  rw [el_map ⟨a, by omega⟩]; exact iI j a (by omega)
theorem p_impl_then (p q : List Int) (hp : small p ∧ ∀ x_ ∈ p, 0 ≤ x_ ∧ x_ < (q.length : Int)) : wp_impl_then p q (fun y0 => y0 = p.map (el q)) := by
  unfold wp_impl_then
  obtain ⟨h1, h2⟩ := hp
  refine ⟨⟨by omega, h1⟩, fun i o => 0 ≤ i ∧ i ≤ (p.length : Int) ∧ o.length = p.length ∧ Upto i fun j => el o j = el q (el p j), fun i _ => ((p.length : Int) - i).toNat, ⟨by omega, by omega, by simp, upto0⟩, ?_⟩
  rintro i o ⟨h0, h3, hl, hI⟩
  dsimp only
  refine ⟨fun hlt => ⟨⟨h0, hlt⟩, h2 _ (el_mem ⟨h0, hlt⟩), ⟨h0, by omega⟩, ⟨by omega, by omega⟩, ⟨by omega, by omega, by simp [hl], fill1 (f := fun j => el q (el p j)) ⟨h0, by omega⟩ hI rfl⟩, by omega⟩, fun hge => ext_el (by simp [hl]) fun j a b => ?_⟩
  rw [el_map ⟨a, by omega⟩]; exact hI j a (by omega)
theorem p_spec_l01Back (p : List Int) (hp : small p ∧ isPerm p = true) : wp_spec_l01Back p (fun y0 => y0 = backI p) := by
  unfold wp_spec_l01Back
  obtain ⟨h1, h2⟩ := hp
  refine ⟨⟨by omega, h1⟩, fun i o => 0 ≤ i ∧ i ≤ (p.length : Int) ∧ o.length = p.length ∧ Upto i fun j => el o (el p j) = j, fun i _ => ((p.length : Int) - i).toNat, ⟨by omega, by omega, by simp, upto0⟩, ?_⟩
  rintro i o ⟨h0, h3, hl, hI⟩
  dsimp only
  refine ⟨fun hlt => ?_, fun hge => backI_uniq h2 hl fun j a b => hI j a (by omega)⟩
  have hb := isPerm_el h2 ⟨h0, hlt⟩
  refine ⟨⟨h0, hlt⟩, ⟨hb.1, by omega⟩, ⟨by omega, by omega⟩, ⟨by omega, by omega, by simp [hl], upto1 (fun j a b => ?_) (by rw [el_se_same ⟨hb.1, by omega⟩])⟩, by omega⟩
  have hj := isPerm_el h2 (i := j) ⟨a, by omega⟩
  rw [el_se_ne hb.1 hj.1 fun e => by have := isPerm_inj h2 ⟨h0, hlt⟩ ⟨a, by omega⟩ e; omega]
  exact hI j a b
theorem p_impl_inverse (p : List Int) (hp : small p ∧ isPerm p = true) : wp_impl_inverse p (fun y0 => y0 = backI p) := p_spec_l01Back p hp
set_option maxRecDepth 100000 in
set_option maxHeartbeats 4000000 in
theorem w_k_Equal (a : List Int) (b : List Int) (Q : Bool → Prop) (h : wp_k_Equal a b Q) : AF Try.prog 97 [.lst (ints a), .lst (ints b)] (fun R_ => ∃ y0, Q y0 ∧ R_ = cb y0) := by
  refine AF.ofWQ (af_enter (n := 26) Try.func97 rfl (by rfl) rfl (Nat.le_of_ble_eq_true rfl) ?_)
  unfold wp_k_Equal at h
  refine aw_seq ?_
  refine aw_gh (gh_to (n := 26) (σ' := []) (env' := [(0, .c (.lst (ints a))), (1, .c (.lst (ints b)))]) rfl rfl ⟨rfl, rfl, trivial⟩) ?_
  refine aw_region ?_
  refine run_s (ss_assign rfl) rfl ?_
  refine run_nil ?_
  refine aw_seq ?_
  refine aw_seq ?_
  refine aw_region ?_
  refine run_s (ss_move rfl) rfl ?_
  refine run_s (ss_lenL (f := ci) rfl) rfl ?_
  refine run_s (ss_move rfl) rfl ?_
  refine run_s (ss_lenL (f := ci) rfl) rfl ?_
  refine run_s (ss_neq rfl rfl) rfl ?_
  refine run_nil ?_
  refine aw_cond rfl (fun q1 => ?_) (fun q1 => ?_)
  ·replace h := h.1 (of_decide_eq_false (bnot_t q1))
   refine aw_seq ?_
   refine aw_gh (gh_to (n := 26) (σ' := []) (env' := [(4, .c (cb false))]) rfl rfl ⟨rfl, trivial⟩) ?_
   refine aw_region ?_
   refine run_s (ss_assign rfl) rfl ?_
   refine run_nil ?_
   refine aw_ret ?_
   exact retAF_mk (retv1 rfl (rv_tmp rfl)) rfl rfl ⟨_, (cle_refl _), _, h, rfl⟩
  ·replace h := h.2 (of_decide_eq_true (bnot_f q1))
   refine aw_skip ?_
   refine aw_seq ?_
   refine aw_seq ?_
   refine aw_gh (gh_to (n := 26) (σ' := []) (env' := [(0, .c (.lst (ints a))), (1, .c (.lst (ints b)))]) rfl rfl ⟨rfl, rfl, trivial⟩) ?_
   refine aw_region ?_
   refine run_s (ss_move rfl) rfl ?_
   refine run_s (ss_lenL (f := ci) rfl) rfl ?_
   refine run_s (ss_move rfl) rfl ?_
   refine run_nil ?_
   refine aw_block ?_
   obtain ⟨H1, m1, q2, h⟩ := h
   refine aw_loop1 (fun (v13_1 : Int) => ⟨[], [(0, .c (.lst (ints a))), (1, .c (.lst (ints b))), (12, .c (ci (a.length : Int))), (13, .c (ci v13_1))], 26⟩) H1 m1 ⟨0, ghe_to (n := 26) rfl rfl ⟨rfl, rfl, rfl, rfl, trivial⟩, q2⟩ ?_
   rintro v13_1 q2
   replace h := h v13_1 q2
   refine aw_seq ?_
   refine aw_region ?_
   refine run_s (ss_lss rfl rfl) rfl ?_
   refine run_nil ?_
   refine aw_seq ?_
   refine aw_cond rfl (fun q3 => ?_) (fun q3 => ?_)
   ·replace h := h.1 (of_decide_eq_true q3)
    refine aw_skip ?_
    refine aw_seq ?_
    refine aw_block ?_
    refine aw_seq ?_
    refine aw_region ?_
    refine run_s (ss_move rfl) rfl ?_
    refine run_s (ss_assign rfl) rfl ?_
    refine run_nil ?_
    refine aw_seq ?_
    refine aw_gh (gh_to (n := 26) (σ' := []) (env' := [(0, .c (.lst (ints a))), (1, .c (.lst (ints b))), (5, .c (ci v13_1)), (12, .c (ci (a.length : Int))), (13, .c (ci v13_1))]) rfl rfl ⟨rfl, rfl, rfl, rfl, rfl, trivial⟩) ?_
    refine aw_regionD (kd := kdl [0, 0, 0, 1, 0, 0, 0, 1, 0]) (ord := [0, 1, 2, 4, 5, 6, 3, 7, 8]) [] mixed (by kernel_rfl) ?_
    refine rd_s rfl rfl trivial (ss_move rfl) rfl ?_
    refine rd_s rfl rfl trivial (ss_move rfl) rfl ?_
    obtain ⟨q4, h⟩ := h
    refine rd_s rfl rfl trivial (ss_idxL rfl rfl q4) rfl ?_
    refine rd_s rfl rfl trivial (ss_move rfl) rfl ?_
    refine rd_s rfl rfl trivial (ss_move rfl) rfl ?_
    obtain ⟨q5, h⟩ := h
    refine rd_s rfl rfl trivial (ss_idxL rfl rfl q5) rfl ?_
    refine rd_l rfl rfl trivial (ss_loadL (f := ci) rfl q4) rfl ?_
    refine rd_l rfl rfl trivial (ss_loadL (f := ci) rfl q5) rfl ?_
    refine rd_s rfl rfl trivial (ss_neq rfl rfl) rfl ?_
    refine rd_nil ?_
    refine aw_cond rfl (fun q6 => ?_) (fun q6 => ?_)
    ·replace h := h.1 (of_decide_eq_false (bnot_t q6))
     refine aw_seq ?_
     refine aw_gh (gh_to (n := 26) (σ' := []) (env' := []) rfl rfl trivial) ?_
     refine aw_region ?_
     refine run_s (ss_assign rfl) rfl ?_
     refine run_nil ?_
     refine aw_ret ?_
     exact retAF_mk (retv1 rfl (rv_tmp rfl)) rfl rfl ⟨_, (cle_refl _), _, h, rfl⟩
    ·replace h := h.2 (of_decide_eq_true (bnot_f q6))
     refine aw_skip ?_
     refine aw_gh (gh_to (n := 26) (σ' := []) (env' := [(0, .c (.lst (ints a))), (1, .c (.lst (ints b))), (12, .c (ci (a.length : Int))), (13, .c (ci v13_1))]) rfl rfl ⟨rfl, rfl, rfl, rfl, trivial⟩) ?_
     refine aw_region ?_
     obtain ⟨q7, h⟩ := h
     refine run_s (ss_add rfl rfl q7) rfl ?_
     refine run_s (ss_move rfl) rfl ?_
     refine run_nil ?_
     exact ⟨v13_1 + 1, ghe_to (n := 26) rfl rfl ⟨rfl, rfl, rfl, rfl, trivial⟩, h.1, h.2⟩
   ·replace h := h.2 (of_decide_eq_false q3)
    refine aw_exit ?_
    refine aw_seq ?_
    refine aw_gh (gh_to (n := 26) (σ' := []) (env' := []) rfl rfl trivial) ?_
    refine aw_region ?_
    refine run_s (ss_assign rfl) rfl ?_
    refine run_nil ?_
    refine aw_ret ?_
    exact retAF_mk (retv1 rfl (rv_tmp rfl)) rfl rfl ⟨_, (cle_refl _), _, h, rfl⟩

theorem c_k_Equal (a : List Int) (b : List Int) (hp : small a ∧ small b) : AF Try.prog 97 [.lst (ints a), .lst (ints b)] (fun R_ => R_ = cb (decide (a = b))) :=
  (w_k_Equal a b (fun y0 => y0 = decide (a = b)) (p_k_Equal a b hp)).mono (by rintro r ⟨_, rfl, rfl⟩; rfl)

set_option maxRecDepth 100000 in
set_option maxHeartbeats 4000000 in
theorem w_spec_l01Same (a : List Int) (b : List Int) (Q : Bool → Prop) (h : wp_spec_l01Same a b Q) : AF Try.prog 50 [.lst (ints a), .lst (ints b)] (fun R_ => ∃ y0, Q y0 ∧ R_ = cb y0) := by
  refine AF.ofWQ (af_enter (n := 26) Try.func50 rfl (by rfl) rfl (Nat.le_of_ble_eq_true rfl) ?_)
  unfold wp_spec_l01Same at h
  refine aw_seq ?_
  refine aw_gh (gh_to (n := 26) (σ' := []) (env' := [(0, .c (.lst (ints a))), (1, .c (.lst (ints b)))]) rfl rfl ⟨rfl, rfl, trivial⟩) ?_
  refine aw_region ?_
  refine run_s (ss_assign rfl) rfl ?_
  refine run_nil ?_
  refine aw_seq ?_
  refine aw_seq ?_
  refine aw_region ?_
  refine run_s (ss_move rfl) rfl ?_
  refine run_s (ss_lenL (f := ci) rfl) rfl ?_
  refine run_s (ss_move rfl) rfl ?_
  refine run_s (ss_lenL (f := ci) rfl) rfl ?_
  refine run_s (ss_neq rfl rfl) rfl ?_
  refine run_nil ?_
  refine aw_cond rfl (fun q1 => ?_) (fun q1 => ?_)
  ·replace h := h.1 (of_decide_eq_false (bnot_t q1))
   refine aw_seq ?_
   refine aw_gh (gh_to (n := 26) (σ' := []) (env' := [(4, .c (cb false))]) rfl rfl ⟨rfl, trivial⟩) ?_
   refine aw_region ?_
   refine run_s (ss_assign rfl) rfl ?_
   refine run_nil ?_
   refine aw_ret ?_
   exact retAF_mk (retv1 rfl (rv_tmp rfl)) rfl rfl ⟨_, (cle_refl _), _, h, rfl⟩
  ·replace h := h.2 (of_decide_eq_true (bnot_f q1))
   refine aw_skip ?_
   refine aw_seq ?_
   refine aw_seq ?_
   refine aw_gh (gh_to (n := 26) (σ' := []) (env' := [(0, .c (.lst (ints a))), (1, .c (.lst (ints b)))]) rfl rfl ⟨rfl, rfl, trivial⟩) ?_
   refine aw_region ?_
   refine run_s (ss_assign rfl) rfl ?_
   refine run_nil ?_
   refine aw_block ?_
   obtain ⟨H1, m1, q2, h⟩ := h
   refine aw_loop1 (fun (v5_1 : Int) => ⟨[], [(0, .c (.lst (ints a))), (1, .c (.lst (ints b))), (5, .c (ci v5_1))], 26⟩) H1 m1 ⟨0, ghe_to (n := 26) rfl rfl ⟨rfl, rfl, rfl, trivial⟩, q2⟩ ?_
   rintro v5_1 q2
   replace h := h v5_1 q2
   refine aw_seq ?_
   refine aw_seq ?_
   refine aw_region ?_
   refine run_s (ss_move rfl) rfl ?_
   refine run_s (ss_move rfl) rfl ?_
   refine run_s (ss_lenL (f := ci) rfl) rfl ?_
   refine run_s (ss_lss rfl rfl) rfl ?_
   refine run_nil ?_
   refine aw_cond rfl (fun q3 => ?_) (fun q3 => ?_)
   ·replace h := h.1 (of_decide_eq_true q3)
    refine aw_skip ?_
    refine aw_seq ?_
    refine aw_block ?_
    refine aw_seq ?_
    refine aw_gh (gh_to (n := 26) (σ' := []) (env' := [(0, .c (.lst (ints a))), (1, .c (.lst (ints b))), (5, .c (ci v5_1))]) rfl rfl ⟨rfl, rfl, rfl, trivial⟩) ?_
    refine aw_regionD (kd := kdl [0, 0, 0, 1, 0, 0, 0, 1, 0]) (ord := [0, 1, 2, 4, 5, 6, 3, 7, 8]) [] mixed (by kernel_rfl) ?_
    refine rd_s rfl rfl trivial (ss_move rfl) rfl ?_
    refine rd_s rfl rfl trivial (ss_move rfl) rfl ?_
    obtain ⟨q4, h⟩ := h
    refine rd_s rfl rfl trivial (ss_idxL rfl rfl q4) rfl ?_
    refine rd_s rfl rfl trivial (ss_move rfl) rfl ?_
    refine rd_s rfl rfl trivial (ss_move rfl) rfl ?_
    obtain ⟨q5, h⟩ := h
    refine rd_s rfl rfl trivial (ss_idxL rfl rfl q5) rfl ?_
    refine rd_l rfl rfl trivial (ss_loadL (f := ci) rfl q4) rfl ?_
    refine rd_l rfl rfl trivial (ss_loadL (f := ci) rfl q5) rfl ?_
    refine rd_s rfl rfl trivial (ss_neq rfl rfl) rfl ?_
    refine rd_nil ?_
    refine aw_cond rfl (fun q6 => ?_) (fun q6 => ?_)
    ·replace h := h.1 (of_decide_eq_false (bnot_t q6))
     refine aw_seq ?_
     refine aw_gh (gh_to (n := 26) (σ' := []) (env' := []) rfl rfl trivial) ?_
     refine aw_region ?_
     refine run_s (ss_assign rfl) rfl ?_
     refine run_nil ?_
     refine aw_ret ?_
     exact retAF_mk (retv1 rfl (rv_tmp rfl)) rfl rfl ⟨_, (cle_refl _), _, h, rfl⟩
    ·replace h := h.2 (of_decide_eq_true (bnot_f q6))
     refine aw_skip ?_
     refine aw_gh (gh_to (n := 26) (σ' := []) (env' := [(0, .c (.lst (ints a))), (1, .c (.lst (ints b))), (5, .c (ci v5_1))]) rfl rfl ⟨rfl, rfl, rfl, trivial⟩) ?_
     refine aw_region ?_
     refine run_s (ss_move rfl) rfl ?_
     obtain ⟨q7, h⟩ := h
     refine run_s (ss_add rfl rfl q7) rfl ?_
     refine run_s (ss_assign rfl) rfl ?_
     refine run_nil ?_
     exact ⟨v5_1 + 1, ghe_to (n := 26) rfl rfl ⟨rfl, rfl, rfl, trivial⟩, h.1, h.2⟩
   ·replace h := h.2 (of_decide_eq_false q3)
    refine aw_exit ?_
    refine aw_seq ?_
    refine aw_gh (gh_to (n := 26) (σ' := []) (env' := []) rfl rfl trivial) ?_
    refine aw_region ?_
    refine run_s (ss_assign rfl) rfl ?_
    refine run_nil ?_
    refine aw_ret ?_
    exact retAF_mk (retv1 rfl (rv_tmp rfl)) rfl rfl ⟨_, (cle_refl _), _, h, rfl⟩

theorem c_spec_l01Same (a : List Int) (b : List Int) (hp : small a ∧ small b) : AF Try.prog 50 [.lst (ints a), .lst (ints b)] (fun R_ => R_ = cb (decide (a = b))) :=
  (w_spec_l01Same a b (fun y0 => y0 = decide (a = b)) (p_spec_l01Same a b hp)).mono (by rintro r ⟨_, rfl, rfl⟩; rfl)

set_option maxRecDepth 100000 in
set_option maxHeartbeats 4000000 in
theorem w_impl_identity (n : Int) (Q : List Int → Prop) (h : wp_impl_identity n Q) : AF Try.prog 68 [ci n] (fun R_ => ∃ y0, Q y0 ∧ R_ = .own (ints y0)) := by
  refine AF.ofWQ (af_enter (n := 18) Try.func68 rfl (by rfl) rfl (Nat.le_of_ble_eq_true rfl) ?_)
  unfold wp_impl_identity at h
  refine aw_seq ?_
  refine aw_gh (gh_to (n := 18) (σ' := []) (env' := [(0, .c (ci n))]) rfl rfl ⟨rfl, trivial⟩) ?_
  refine aw_region ?_
  refine run_s (ss_assign rfl) rfl ?_
  refine run_nil ?_
  refine aw_seq ?_
  refine aw_region ?_
  refine run_s (ss_move rfl) rfl ?_
  obtain ⟨q1, h⟩ := h
  refine run_w (ws_mk (id := 6) ci (0 : Int) rfl rfl rfl q1 (Nat.le_of_ble_eq_true rfl) rfl ⟨rfl, ?_⟩)
  refine run_s (ss_assign rfl) rfl ?_
  refine run_nil ?_
  refine aw_seq ?_
  refine aw_seq ?_
  refine aw_region ?_
  refine run_s (ss_move rfl) rfl ?_
  refine run_s (ss_lenR (f := ci) rfl rfl) rfl ?_
  refine run_s (ss_move rfl) rfl ?_
  refine run_nil ?_
  refine aw_block ?_
  obtain ⟨H1, m1, q2, h⟩ := h
  refine aw_loop2 (fun (v9_1 : Int) (o6_1 : List Int) => ⟨[(6, ⟨ints o6_1, []⟩)], [(3, .ref 6), (8, .c (ci ((List.replicate n.toNat (0 : Int)).length : Int))), (9, .c (ci v9_1))], 18⟩) H1 m1 ⟨0, List.replicate n.toNat (0 : Int), ghe_to (n := 18) rfl rfl ⟨rfl, rfl, rfl, trivial⟩, q2⟩ ?_
  rintro v9_1 o6_1 q2
  replace h := h v9_1 o6_1 q2
  refine aw_seq ?_
  refine aw_region ?_
  refine run_s (ss_lss rfl rfl) rfl ?_
  refine run_nil ?_
  refine aw_seq ?_
  refine aw_cond rfl (fun q3 => ?_) (fun q3 => ?_)
  ·replace h := h.1 (of_decide_eq_true q3)
   refine aw_skip ?_
   refine aw_seq ?_
   refine aw_block ?_
   refine aw_seq ?_
   refine aw_region ?_
   refine run_s (ss_move rfl) rfl ?_
   refine run_s (ss_assign rfl) rfl ?_
   refine run_nil ?_
   refine aw_region ?_
   refine run_s (ss_move rfl) rfl ?_
   refine run_s (ss_move rfl) rfl ?_
   refine run_s (ss_move rfl) rfl ?_
   obtain ⟨q4, h⟩ := h
   refine run_s (ss_idxR (f := ci) rfl rfl rfl q4) rfl ?_
   refine run_w (ws_storeE rfl rfl (map_lt q4) rfl rfl (map_se (f := ci)) rfl ⟨rfl, ?_⟩)
   refine run_nil ?_
   refine aw_gh (gh_to (n := 18) (σ' := [(6, ⟨ints (se o6_1 v9_1 v9_1), []⟩)]) (env' := [(3, .ref 6), (8, .c (ci ((List.replicate n.toNat (0 : Int)).length : Int))), (9, .c (ci v9_1))]) rfl rfl ⟨rfl, rfl, rfl, trivial⟩) ?_
   refine aw_region ?_
   obtain ⟨q5, h⟩ := h
   refine run_s (ss_add rfl rfl q5) rfl ?_
   refine run_s (ss_move rfl) rfl ?_
   refine run_nil ?_
   exact ⟨v9_1 + 1, se o6_1 v9_1 v9_1, ghe_to (n := 18) rfl rfl ⟨rfl, rfl, rfl, trivial⟩, h.1, h.2⟩
  ·replace h := h.2 (of_decide_eq_false q3)
   refine aw_exit ?_
   refine aw_seq ?_
   refine aw_region ?_
   refine run_s (ss_move rfl) rfl ?_
   refine run_s (ss_assign rfl) rfl ?_
   refine run_nil ?_
   refine aw_ret ?_
   exact retAF_mk (retv1 rfl (rv_tmp rfl)) rfl rfl ⟨_, (cle_refl _), _, h, rfl⟩

theorem c_impl_identity (n : Int) (hp : 0 ≤ n ∧ n ≤ 1000000) : AF Try.prog 68 [ci n] (fun R_ => R_ = .own (ints (unitI n))) :=
  (w_impl_identity n (fun y0 => y0 = unitI n) (p_impl_identity n hp)).mono (by rintro r ⟨_, rfl, rfl⟩; rfl)

set_option maxRecDepth 100000 in
set_option maxHeartbeats 4000000 in
theorem w_spec_l01Then (p : List Int) (q : List Int) (Q : List Int → Prop) (h : wp_spec_l01Then p q Q) : AF Try.prog 63 [.lst (ints p), .lst (ints q)] (fun R_ => ∃ y0, Q y0 ∧ R_ = .own (ints y0)) := by
  refine AF.ofWQ (af_enter (n := 25) Try.func63 rfl (by rfl) rfl (Nat.le_of_ble_eq_true rfl) ?_)
  unfold wp_spec_l01Then at h
  refine aw_seq ?_
  refine aw_gh (gh_to (n := 25) (σ' := []) (env' := [(0, .c (.lst (ints p))), (1, .c (.lst (ints q)))]) rfl rfl ⟨rfl, rfl, trivial⟩) ?_
  refine aw_region ?_
  refine run_s (ss_assign rfl) rfl ?_
  refine run_nil ?_
  refine aw_seq ?_
  refine aw_region ?_
  refine run_w (ws_buildSlice (id := 7) (ps := []) rfl rfl (Nat.le_of_ble_eq_true rfl) rfl ⟨rfl, ?_⟩)
  refine run_s (ss_assign rfl) rfl ?_
  refine run_nil ?_
  refine aw_seq ?_
  refine aw_seq ?_
  refine aw_region ?_
  refine run_s (ss_assign rfl) rfl ?_
  refine run_nil ?_
  refine aw_block ?_
  obtain ⟨H1, m1, q1, h⟩ := h
  refine aw_loop2 (fun (v6_1 : Int) (o7_1 : List Int) => ⟨[(7, ⟨ints o7_1, []⟩)], [(0, .c (.lst (ints p))), (1, .c (.lst (ints q))), (5, .ref 7), (6, .c (ci v6_1))], 25⟩) H1 m1 ⟨0, ([] : List Int), ghe_to (n := 25) rfl rfl ⟨rfl, rfl, rfl, rfl, trivial⟩, q1⟩ ?_
  rintro v6_1 o7_1 q1
  replace h := h v6_1 o7_1 q1
  refine aw_seq ?_
  refine aw_seq ?_
  refine aw_region ?_
  refine run_s (ss_move rfl) rfl ?_
  refine run_s (ss_move rfl) rfl ?_
  refine run_s (ss_lenL (f := ci) rfl) rfl ?_
  refine run_s (ss_lss rfl rfl) rfl ?_
  refine run_nil ?_
  refine aw_cond rfl (fun q2 => ?_) (fun q2 => ?_)
  ·replace h := h.1 (of_decide_eq_true q2)
   refine aw_skip ?_
   refine aw_seq ?_
   refine aw_block ?_
   refine aw_region ?_
   refine run_s (ss_move rfl) rfl ?_
   refine run_s (ss_move rfl) rfl ?_
   refine run_s (ss_move rfl) rfl ?_
   refine run_s (ss_move rfl) rfl ?_
   obtain ⟨q3, h⟩ := h
   refine run_s (ss_idxL rfl rfl q3) rfl ?_
   refine run_s (ss_loadL (f := ci) rfl q3) rfl ?_
   obtain ⟨q4, h⟩ := h
   refine run_s (ss_idxL rfl rfl q4) rfl ?_
   refine run_s (ss_loadL (f := ci) rfl q4) rfl ?_
   refine run_w (ws_buildSlice (id := 22) (ps := [(0, .tmp 21)]) rfl rfl (Nat.le_of_ble_eq_true rfl) rfl ⟨rfl, ?_⟩)
   obtain ⟨q5, h⟩ := h
   refine run_w (ws_app1 ci (l := o7_1) (m := [el q (el p v6_1)]) rfl rfl rfl rfl rfl (Nat.le_of_ble_eq_true rfl) q5 ⟨rfl, ?_⟩)
   refine run_s (ss_assign rfl) rfl ?_
   refine run_nil ?_
   refine aw_gh (gh_to (n := 25) (σ' := [(7, ⟨ints (o7_1 ++ ([el q (el p v6_1)])), []⟩)]) (env' := [(0, .c (.lst (ints p))), (1, .c (.lst (ints q))), (5, .ref 7), (6, .c (ci v6_1))]) rfl rfl ⟨rfl, rfl, rfl, rfl, trivial⟩) ?_
   refine aw_region ?_
   refine run_s (ss_move rfl) rfl ?_
   obtain ⟨q6, h⟩ := h
   refine run_s (ss_add rfl rfl q6) rfl ?_
   refine run_s (ss_assign rfl) rfl ?_
   refine run_nil ?_
   exact ⟨v6_1 + 1, o7_1 ++ ([el q (el p v6_1)]), ghe_to (n := 25) rfl rfl ⟨rfl, rfl, rfl, rfl, trivial⟩, h.1, h.2⟩
  ·replace h := h.2 (of_decide_eq_false q2)
   refine aw_exit ?_
   refine aw_seq ?_
   refine aw_gh (gh_to (n := 25) (σ' := [(7, ⟨ints o7_1, []⟩)]) (env' := [(5, .ref 7)]) rfl rfl ⟨rfl, trivial⟩) ?_
   refine aw_region ?_
   refine run_s (ss_move rfl) rfl ?_
   refine run_s (ss_assign rfl) rfl ?_
   refine run_nil ?_
   refine aw_ret ?_
   exact retAF_mk (retv1 rfl (rv_tmp rfl)) rfl rfl ⟨_, (cle_refl _), _, h, rfl⟩

theorem c_spec_l01Then (p : List Int) (q : List Int) (hp : small p ∧ ∀ x_ ∈ p, 0 ≤ x_ ∧ x_ < (q.length : Int)) : AF Try.prog 63 [.lst (ints p), .lst (ints q)] (fun R_ => R_ = .own (ints (p.map (el q)))) :=
  (w_spec_l01Then p q (fun y0 => y0 = p.map (el q)) (p_spec_l01Then p q hp)).mono (by rintro r ⟨_, rfl, rfl⟩; rfl)

set_option maxRecDepth 100000 in
set_option maxHeartbeats 4000000 in
theorem w_impl_then (p : List Int) (q : List Int) (Q : List Int → Prop) (h : wp_impl_then p q Q) : AF Try.prog 69 [.lst (ints p), .lst (ints q)] (fun R_ => ∃ y0, Q y0 ∧ R_ = .own (ints y0)) := by
  refine AF.ofWQ (af_enter (n := 27) Try.func69 rfl (by rfl) rfl (Nat.le_of_ble_eq_true rfl) ?_)
  unfold wp_impl_then at h
  refine aw_seq ?_
  refine aw_gh (gh_to (n := 27) (σ' := []) (env' := [(0, .c (.lst (ints p))), (1, .c (.lst (ints q)))]) rfl rfl ⟨rfl, rfl, trivial⟩) ?_
  refine aw_region ?_
  refine run_s (ss_assign rfl) rfl ?_
  refine run_nil ?_
  refine aw_seq ?_
  refine aw_region ?_
  refine run_s (ss_move rfl) rfl ?_
  refine run_s (ss_lenL (f := ci) rfl) rfl ?_
  obtain ⟨q1, h⟩ := h
  refine run_w (ws_mk (id := 10) ci (0 : Int) rfl rfl rfl q1 (Nat.le_of_ble_eq_true rfl) rfl ⟨rfl, ?_⟩)
  refine run_s (ss_assign rfl) rfl ?_
  refine run_nil ?_
  refine aw_seq ?_
  refine aw_seq ?_
  refine aw_region ?_
  refine run_s (ss_move rfl) rfl ?_
  refine run_s (ss_lenL (f := ci) rfl) rfl ?_
  refine run_s (ss_move rfl) rfl ?_
  refine run_nil ?_
  refine aw_block ?_
  obtain ⟨H1, m1, q2, h⟩ := h
  refine aw_loop2 (fun (v13_1 : Int) (o10_1 : List Int) => ⟨[(10, ⟨ints o10_1, []⟩)], [(1, .c (.lst (ints q))), (5, .ref 10), (11, .c (.lst (ints p))), (12, .c (ci (p.length : Int))), (13, .c (ci v13_1))], 27⟩) H1 m1 ⟨0, List.replicate (p.length : Int).toNat (0 : Int), ghe_to (n := 27) rfl rfl ⟨rfl, rfl, rfl, rfl, rfl, trivial⟩, q2⟩ ?_
  rintro v13_1 o10_1 q2
  replace h := h v13_1 o10_1 q2
  refine aw_seq ?_
  refine aw_region ?_
  refine run_s (ss_lss rfl rfl) rfl ?_
  refine run_nil ?_
  refine aw_seq ?_
  refine aw_cond rfl (fun q3 => ?_) (fun q3 => ?_)
  ·replace h := h.1 (of_decide_eq_true q3)
   refine aw_skip ?_
   refine aw_seq ?_
   refine aw_block ?_
   refine aw_seq ?_
   refine aw_region ?_
   refine run_s (ss_move rfl) rfl ?_
   obtain ⟨q4, h⟩ := h
   refine run_s (ss_idxL rfl rfl q4) rfl ?_
   refine run_s (ss_loadL (f := ci) rfl q4) rfl ?_
   refine run_s (ss_assign rfl) rfl ?_
   refine run_s (ss_assign rfl) rfl ?_
   refine run_nil ?_
   refine aw_region ?_
   refine run_s (ss_move rfl) rfl ?_
   refine run_s (ss_move rfl) rfl ?_
   refine run_s (ss_move rfl) rfl ?_
   refine run_s (ss_move rfl) rfl ?_
   obtain ⟨q5, h⟩ := h
   refine run_s (ss_idxL rfl rfl q5) rfl ?_
   refine run_s (ss_loadL (f := ci) rfl q5) rfl ?_
   obtain ⟨q6, h⟩ := h
   refine run_s (ss_idxR (f := ci) rfl rfl rfl q6) rfl ?_
   refine run_w (ws_storeE rfl rfl (map_lt q6) rfl rfl (map_se (f := ci)) rfl ⟨rfl, ?_⟩)
   refine run_nil ?_
   refine aw_gh (gh_to (n := 27) (σ' := [(10, ⟨ints (se o10_1 v13_1 (el q (el p v13_1))), []⟩)]) (env' := [(1, .c (.lst (ints q))), (5, .ref 10), (11, .c (.lst (ints p))), (12, .c (ci (p.length : Int))), (13, .c (ci v13_1))]) rfl rfl ⟨rfl, rfl, rfl, rfl, rfl, trivial⟩) ?_
   refine aw_region ?_
   obtain ⟨q7, h⟩ := h
   refine run_s (ss_add rfl rfl q7) rfl ?_
   refine run_s (ss_move rfl) rfl ?_
   refine run_nil ?_
   exact ⟨v13_1 + 1, se o10_1 v13_1 (el q (el p v13_1)), ghe_to (n := 27) rfl rfl ⟨rfl, rfl, rfl, rfl, rfl, trivial⟩, h.1, h.2⟩
  ·replace h := h.2 (of_decide_eq_false q3)
   refine aw_exit ?_
   refine aw_seq ?_
   refine aw_gh (gh_to (n := 27) (σ' := [(10, ⟨ints o10_1, []⟩)]) (env' := [(5, .ref 10)]) rfl rfl ⟨rfl, trivial⟩) ?_
   refine aw_region ?_
   refine run_s (ss_move rfl) rfl ?_
   refine run_s (ss_assign rfl) rfl ?_
   refine run_nil ?_
   refine aw_ret ?_
   exact retAF_mk (retv1 rfl (rv_tmp rfl)) rfl rfl ⟨_, (cle_refl _), _, h, rfl⟩

theorem c_impl_then (p : List Int) (q : List Int) (hp : small p ∧ ∀ x_ ∈ p, 0 ≤ x_ ∧ x_ < (q.length : Int)) : AF Try.prog 69 [.lst (ints p), .lst (ints q)] (fun R_ => R_ = .own (ints (p.map (el q)))) :=
  (w_impl_then p q (fun y0 => y0 = p.map (el q)) (p_impl_then p q hp)).mono (by rintro r ⟨_, rfl, rfl⟩; rfl)

set_option maxRecDepth 100000 in
set_option maxHeartbeats 4000000 in
theorem w_spec_l01Back (p : List Int) (Q : List Int → Prop) (h : wp_spec_l01Back p Q) : AF Try.prog 88 [.lst (ints p)] (fun R_ => ∃ y0, Q y0 ∧ R_ = .own (ints y0)) := by
  refine AF.ofWQ (af_enter (n := 22) Try.func88 rfl (by rfl) rfl (Nat.le_of_ble_eq_true rfl) ?_)
  unfold wp_spec_l01Back at h
  refine aw_seq ?_
  refine aw_gh (gh_to (n := 22) (σ' := []) (env' := [(0, .c (.lst (ints p)))]) rfl rfl ⟨rfl, trivial⟩) ?_
  refine aw_region ?_
  refine run_s (ss_assign rfl) rfl ?_
  refine run_nil ?_
  refine aw_seq ?_
  refine aw_region ?_
  refine run_s (ss_move rfl) rfl ?_
  refine run_s (ss_lenL (f := ci) rfl) rfl ?_
  obtain ⟨q1, h⟩ := h
  refine run_w (ws_mk (id := 7) ci (0 : Int) rfl rfl rfl q1 (Nat.le_of_ble_eq_true rfl) rfl ⟨rfl, ?_⟩)
  refine run_s (ss_assign rfl) rfl ?_
  refine run_nil ?_
  refine aw_seq ?_
  refine aw_seq ?_
  refine aw_gh (gh_to (n := 22) (σ' := [(7, ⟨ints (List.replicate (p.length : Int).toNat (0 : Int)), []⟩)]) (env' := [(0, .c (.lst (ints p))), (3, .ref 7)]) rfl rfl ⟨rfl, rfl, trivial⟩) ?_
  refine aw_region ?_
  refine run_s (ss_assign rfl) rfl ?_
  refine run_nil ?_
  refine aw_block ?_
  obtain ⟨H1, m1, q2, h⟩ := h
  refine aw_loop2 (fun (v4_1 : Int) (o7_1 : List Int) => ⟨[(7, ⟨ints o7_1, []⟩)], [(0, .c (.lst (ints p))), (3, .ref 7), (4, .c (ci v4_1))], 22⟩) H1 m1 ⟨0, List.replicate (p.length : Int).toNat (0 : Int), ghe_to (n := 22) rfl rfl ⟨rfl, rfl, rfl, trivial⟩, q2⟩ ?_
  rintro v4_1 o7_1 q2
  replace h := h v4_1 o7_1 q2
  refine aw_seq ?_
  refine aw_seq ?_
  refine aw_region ?_
  refine run_s (ss_move rfl) rfl ?_
  refine run_s (ss_move rfl) rfl ?_
  refine run_s (ss_lenL (f := ci) rfl) rfl ?_
  refine run_s (ss_lss rfl rfl) rfl ?_
  refine run_nil ?_
  refine aw_cond rfl (fun q3 => ?_) (fun q3 => ?_)
  ·replace h := h.1 (of_decide_eq_true q3)
   refine aw_skip ?_
   refine aw_seq ?_
   refine aw_block ?_
   refine aw_region ?_
   refine run_s (ss_move rfl) rfl ?_
   refine run_s (ss_move rfl) rfl ?_
   refine run_s (ss_move rfl) rfl ?_
   obtain ⟨q4, h⟩ := h
   refine run_s (ss_idxL rfl rfl q4) rfl ?_
   refine run_s (ss_loadL (f := ci) rfl q4) rfl ?_
   refine run_s (ss_move rfl) rfl ?_
   obtain ⟨q5, h⟩ := h
   refine run_s (ss_idxR (f := ci) rfl rfl rfl q5) rfl ?_
   refine run_w (ws_storeE rfl rfl (map_lt q5) rfl rfl (map_se (f := ci)) rfl ⟨rfl, ?_⟩)
   refine run_nil ?_
   refine aw_gh (gh_to (n := 22) (σ' := [(7, ⟨ints (se o7_1 (el p v4_1) v4_1), []⟩)]) (env' := [(0, .c (.lst (ints p))), (3, .ref 7), (4, .c (ci v4_1))]) rfl rfl ⟨rfl, rfl, rfl, trivial⟩) ?_
   refine aw_region ?_
   refine run_s (ss_move rfl) rfl ?_
   obtain ⟨q6, h⟩ := h
   refine run_s (ss_add rfl rfl q6) rfl ?_
   refine run_s (ss_assign rfl) rfl ?_
   refine run_nil ?_
   exact ⟨v4_1 + 1, se o7_1 (el p v4_1) v4_1, ghe_to (n := 22) rfl rfl ⟨rfl, rfl, rfl, trivial⟩, h.1, h.2⟩
  ·replace h := h.2 (of_decide_eq_false q3)
   refine aw_exit ?_
   refine aw_seq ?_
   refine aw_gh (gh_to (n := 22) (σ' := [(7, ⟨ints o7_1, []⟩)]) (env' := [(3, .ref 7)]) rfl rfl ⟨rfl, trivial⟩) ?_
   refine aw_region ?_
   refine run_s (ss_move rfl) rfl ?_
   refine run_s (ss_assign rfl) rfl ?_
   refine run_nil ?_
   refine aw_ret ?_
   exact retAF_mk (retv1 rfl (rv_tmp rfl)) rfl rfl ⟨_, (cle_refl _), _, h, rfl⟩

theorem c_spec_l01Back (p : List Int) (hp : small p ∧ isPerm p = true) : AF Try.prog 88 [.lst (ints p)] (fun R_ => R_ = .own (ints (backI p))) :=
  (w_spec_l01Back p (fun y0 => y0 = backI p) (p_spec_l01Back p hp)).mono (by rintro r ⟨_, rfl, rfl⟩; rfl)

set_option maxRecDepth 100000 in
set_option maxHeartbeats 4000000 in
theorem w_impl_inverse (p : List Int) (Q : List Int → Prop) (h : wp_impl_inverse p Q) : AF Try.prog 94 [.lst (ints p)] (fun R_ => ∃ y0, Q y0 ∧ R_ = .own (ints y0)) := by
  refine AF.ofWQ (af_enter (n := 22) Try.func94 rfl (by rfl) rfl (Nat.le_of_ble_eq_true rfl) ?_)
  unfold wp_impl_inverse at h
  refine aw_seq ?_
  refine aw_gh (gh_to (n := 22) (σ' := []) (env' := [(0, .c (.lst (ints p)))]) rfl rfl ⟨rfl, trivial⟩) ?_
  refine aw_region ?_
  refine run_s (ss_assign rfl) rfl ?_
  refine run_nil ?_
  refine aw_seq ?_
  refine aw_region ?_
  refine run_s (ss_move rfl) rfl ?_
  refine run_s (ss_lenL (f := ci) rfl) rfl ?_
  obtain ⟨q1, h⟩ := h
  refine run_w (ws_mk (id := 8) ci (0 : Int) rfl rfl rfl q1 (Nat.le_of_ble_eq_true rfl) rfl ⟨rfl, ?_⟩)
  refine run_s (ss_assign rfl) rfl ?_
  refine run_nil ?_
  refine aw_seq ?_
  refine aw_seq ?_
  refine aw_region ?_
  refine run_s (ss_move rfl) rfl ?_
  refine run_s (ss_lenL (f := ci) rfl) rfl ?_
  refine run_s (ss_move rfl) rfl ?_
  refine run_nil ?_
  refine aw_block ?_
  obtain ⟨H1, m1, q2, h⟩ := h
  refine aw_loop2 (fun (v11_1 : Int) (o8_1 : List Int) => ⟨[(8, ⟨ints o8_1, []⟩)], [(3, .ref 8), (9, .c (.lst (ints p))), (10, .c (ci (p.length : Int))), (11, .c (ci v11_1))], 22⟩) H1 m1 ⟨0, List.replicate (p.length : Int).toNat (0 : Int), ghe_to (n := 22) rfl rfl ⟨rfl, rfl, rfl, rfl, trivial⟩, q2⟩ ?_
  rintro v11_1 o8_1 q2
  replace h := h v11_1 o8_1 q2
  refine aw_seq ?_
  refine aw_region ?_
  refine run_s (ss_lss rfl rfl) rfl ?_
  refine run_nil ?_
  refine aw_seq ?_
  refine aw_cond rfl (fun q3 => ?_) (fun q3 => ?_)
  ·replace h := h.1 (of_decide_eq_true q3)
   refine aw_skip ?_
   refine aw_seq ?_
   refine aw_block ?_
   refine aw_seq ?_
   refine aw_region ?_
   refine run_s (ss_move rfl) rfl ?_
   obtain ⟨q4, h⟩ := h
   refine run_s (ss_idxL rfl rfl q4) rfl ?_
   refine run_s (ss_loadL (f := ci) rfl q4) rfl ?_
   refine run_s (ss_assign rfl) rfl ?_
   refine run_s (ss_assign rfl) rfl ?_
   refine run_nil ?_
   refine aw_region ?_
   refine run_s (ss_move rfl) rfl ?_
   refine run_s (ss_move rfl) rfl ?_
   refine run_s (ss_move rfl) rfl ?_
   obtain ⟨q5, h⟩ := h
   refine run_s (ss_idxR (f := ci) rfl rfl rfl q5) rfl ?_
   refine run_w (ws_storeE rfl rfl (map_lt q5) rfl rfl (map_se (f := ci)) rfl ⟨rfl, ?_⟩)
   refine run_nil ?_
   refine aw_gh (gh_to (n := 22) (σ' := [(8, ⟨ints (se o8_1 (el p v11_1) v11_1), []⟩)]) (env' := [(3, .ref 8), (9, .c (.lst (ints p))), (10, .c (ci (p.length : Int))), (11, .c (ci v11_1))]) rfl rfl ⟨rfl, rfl, rfl, rfl, trivial⟩) ?_
   refine aw_region ?_
   obtain ⟨q6, h⟩ := h
   refine run_s (ss_add rfl rfl q6) rfl ?_
   refine run_s (ss_move rfl) rfl ?_
   refine run_nil ?_
   exact ⟨v11_1 + 1, se o8_1 (el p v11_1) v11_1, ghe_to (n := 22) rfl rfl ⟨rfl, rfl, rfl, rfl, trivial⟩, h.1, h.2⟩
  ·replace h := h.2 (of_decide_eq_false q3)
   refine aw_exit ?_
   refine aw_seq ?_
   refine aw_region ?_
   refine run_s (ss_move rfl) rfl ?_
   refine run_s (ss_assign rfl) rfl ?_
   refine run_nil ?_
   refine aw_ret ?_
   exact retAF_mk (retv1 rfl (rv_tmp rfl)) rfl rfl ⟨_, (cle_refl _), _, h, rfl⟩

theorem c_impl_inverse (p : List Int) (hp : small p ∧ isPerm p = true) : AF Try.prog 94 [.lst (ints p)] (fun R_ => R_ = .own (ints (backI p))) :=
  (w_impl_inverse p (fun y0 => y0 = backI p) (p_impl_inverse p hp)).mono (by rintro r ⟨_, rfl, rfl⟩; rfl)

def wp_spec_l04Find (lists : List (List Int)) (list : List Int) (Q : Int → Prop) : Prop :=
 ∃ (H1 : Int → Prop) (m1 : Int → Nat),
 H1 0 ∧
 ∀ (v5_1 : Int), H1 v5_1 →
 ( ((v5_1 < (lists.length : Int) →
 (0 ≤ v5_1 ∧ v5_1 < (lists.length : Int)) ∧
 (small (el lists v5_1) ∧ small list) ∧
 (((el lists v5_1) = list →
 Q v5_1) ∧
 (¬ ((el lists v5_1) = list) →
 (InI (v5_1 + 1)) ∧
 (H1 (v5_1 + 1) ∧ m1 (v5_1 + 1) < m1 v5_1)))) ∧
 (¬ (v5_1 < (lists.length : Int)) →
 Q (-1))))

def wp_impl_listIndex_1 (own : List Int) (list : List Int) (Q : Bool → Prop) : Prop :=
 (small own ∧ small list) ∧
 Q (decide (own = list))

def wp_impl_listIndex (lists : List (List Int)) (list : List Int) (Q : Int → Prop) : Prop :=
 (small lists ∧ ∀ r_ ∈ lists, (fun z0 => small z0 ∧ small list) r_) ∧
 Q (idxF lists (fun z0 => decide (z0 = list)))

def wp_impl_conjugate (y : List Int) (x : List Int) (Q : List Int → Prop) : Prop :=
 (small x ∧ isPerm x = true) ∧
 (small (backI x) ∧ ∀ x_ ∈ (backI x), 0 ≤ x_ ∧ x_ < (y.length : Int)) ∧
 (small ((backI x).map (el y)) ∧ ∀ x_ ∈ ((backI x).map (el y)), 0 ≤ x_ ∧ x_ < (x.length : Int)) ∧
 Q (((backI x).map (el y)).map (el x))

def wp_spec_l04Conjugate (x : List Int) (y : List Int) (Q : List Int → Prop) : Prop :=
 (small x ∧ isPerm x = true) ∧
 (small (backI x) ∧ ∀ x_ ∈ (backI x), 0 ≤ x_ ∧ x_ < (y.length : Int)) ∧
 (small ((backI x).map (el y)) ∧ ∀ x_ ∈ ((backI x).map (el y)), 0 ≤ x_ ∧ x_ < (x.length : Int)) ∧
 Q (((backI x).map (el y)).map (el x))

def wp_spec_l04Conjugation (list : List (List Int)) (Q : List (List Int) → Prop) : Prop :=
 ∃ (H1 : Int → List (List Int) → Prop) (m1 : Int → List (List Int) → Nat),
 H1 0 ([] : List (List Int)) ∧
 ∀ (v4_1 : Int) (o7_1 : List (List Int)), H1 v4_1 o7_1 →
 ( ((v4_1 < (list.length : Int) →
 ∃ (H2 : Int → List Int → Prop) (m2 : Int → List Int → Nat),
 H2 0 ([] : List Int) ∧
 ∀ (v6_2 : Int) (o14_2 : List Int), H2 v6_2 o14_2 →
 ( ((v6_2 < (list.length : Int) →
 (0 ≤ v4_1 ∧ v4_1 < (list.length : Int)) ∧
 (0 ≤ v6_2 ∧ v6_2 < (list.length : Int)) ∧
 (cjD (el list v4_1) (el list v6_2)) ∧
 (small2 list ∧ small (conjI (el list v4_1) (el list v6_2))) ∧
 ((o14_2.length : Int) + (([idxL list (conjI (el list v4_1) (el list v6_2))]).length : Int) ≤ 1000000000) ∧
 (InI (v6_2 + 1)) ∧
 (H2 (v6_2 + 1) (o14_2 ++ ([idxL list (conjI (el list v4_1) (el list v6_2))])) ∧ m2 (v6_2 + 1) (o14_2 ++ ([idxL list (conjI (el list v4_1) (el list v6_2))])) < m2 v6_2 o14_2)) ∧
 (¬ (v6_2 < (list.length : Int)) →
 ((o7_1.length : Int) + (([o14_2]).length : Int) ≤ 1000000000) ∧
 (InI (v4_1 + 1)) ∧
 (H1 (v4_1 + 1) (o7_1 ++ ([o14_2])) ∧ m1 (v4_1 + 1) (o7_1 ++ ([o14_2])) < m1 v4_1 o7_1))))) ∧
 (¬ (v4_1 < (list.length : Int)) →
 Q o7_1)))

def wp_impl_ConjugationQuandle_1 (x : Int) (y : Int) (list : List (List Int)) (Q : Int → Prop) : Prop :=
 (0 ≤ y ∧ y < (list.length : Int)) ∧
 (0 ≤ x ∧ x < (list.length : Int)) ∧
 (cjD (el list x) (el list y)) ∧
 (small2 list ∧ small (conjI (el list x) (el list y))) ∧
 Q (idxL list (conjI (el list x) (el list y)))

def wp_impl_ConjugationQuandle (list : List (List Int)) (Q : List (List Int) → Int → Prop) : Prop :=
 (((list.length : Int) = 0 →
 Q ([]) 1) ∧
 (¬ ((list.length : Int) = 0) →
 ∃ (H1 : Int → Prop) (m1 : Int → Nat),
 H1 0 ∧
 ∀ (v13_1 : Int), H1 v13_1 →
 ( ((v13_1 < (list.length : Int) →
 (0 ≤ v13_1 ∧ v13_1 < (list.length : Int)) ∧
 (small (el list v13_1)) ∧
 (((permB (el list v13_1)) = false →
 Q ([]) 1) ∧
 ((permB (el list v13_1)) = true →
 ((0 : Int) ≤ 0 ∧ 0 < (list.length : Int)) ∧
 ((¬ (((el list v13_1).length : Int) = ((el list 0).length : Int)) →
 Q ([]) 1) ∧
 (((el list v13_1).length : Int) = ((el list 0).length : Int) →
 ((0 : Int) ≤ 0 ∧ 0 ≤ v13_1 ∧ v13_1 ≤ (list.length : Int)) ∧
 (small2 (sl list 0 v13_1) ∧ small (el list v13_1)) ∧
 ((0 ≤ idxL (sl list 0 v13_1) (el list v13_1) →
 Q ([]) 1) ∧
 (¬ (0 ≤ idxL (sl list 0 v13_1) (el list v13_1)) →
 (InI (v13_1 + 1)) ∧
 (H1 (v13_1 + 1) ∧ m1 (v13_1 + 1) < m1 v13_1)))))))) ∧
 (¬ (v13_1 < (list.length : Int)) →
 ((12 < (list.length : Int) →
 Q ([]) 3) ∧
 (¬ (12 < (list.length : Int)) →
 (0 ≤ (list.length : Int) ∧ (list.length : Int) ≤ 1000000 ∧ ∀ x_ y_, 0 ≤ x_ → x_ < (list.length : Int) → 0 ≤ y_ → y_ < (list.length : Int) → (fun z0 z1 => GoodL list ∧ (list.length : Int) ≤ 12 ∧ 0 ≤ z0 ∧ z0 < (list.length : Int) ∧ 0 ≤ z1 ∧ z1 < (list.length : Int)) x_ y_ ∧ InI ((fun z0 z1 => cjV list z0 z1) x_ y_)) ∧
 (small2 (tab (list.length : Int) (fun z0 z1 => cjV list z0 z1))) ∧
 (((isTab (tab (list.length : Int) (fun z0 z1 => cjV list z0 z1))) = false →
 Q ([]) 5) ∧
 ((isTab (tab (list.length : Int) (fun z0 z1 => cjV list z0 z1))) = true →
 Q (tab (list.length : Int) (fun z0 z1 => cjV list z0 z1)) 0)))))))))

theorem p_spec_l04Find (lists : List (List Int)) (list : List Int) (hp : small2 lists ∧ small list) : wp_spec_l04Find lists list (fun y0 => y0 = idxL lists list) := by
  unfold wp_spec_l04Find idxL
  have h1 := hp.1.1
  refine ⟨fun i => 0 ≤ i ∧ i ≤ (lists.length : Int) ∧ Upto i fun j => decide (el lists j = list) = false, fun i => ((lists.length : Int) - i).toNat, ⟨by omega, by omega, upto0⟩, ?_⟩
  rintro i ⟨i0, i1, hI⟩
  dsimp only
  refine ⟨fun hlt => ⟨⟨i0, hlt⟩, ⟨hp.1.2 _ (el_mem ⟨i0, hlt⟩), hp.2⟩, fun hf => (idxF_found ⟨i0, hlt⟩ hI (decide_eq_true hf)).symm, fun ht => ⟨⟨by omega, by omega⟩, ⟨by omega, by omega, upto1 hI (decide_eq_false ht)⟩, by omega⟩⟩, fun hge => ?_⟩
  exact (idxF_none (by rwa [show i = (lists.length : Int) by omega] at hI)).symm
theorem p_impl_listIndex_1 (own list : List Int) (hp : small own ∧ small list) : wp_impl_listIndex_1 own list (fun y0 => y0 = decide (own = list)) := ⟨hp, rfl⟩
theorem p_impl_listIndex (lists : List (List Int)) (list : List Int) (hp : small2 lists ∧ small list) : wp_impl_listIndex lists list (fun y0 => y0 = idxL lists list) := ⟨⟨hp.1.1, fun r hr => ⟨hp.1.2 r hr, hp.2⟩⟩, rfl⟩
theorem cj_pre {x y : List Int} (hp : cjD x y) : (small x ∧ isPerm x = true) ∧ (small (backI x) ∧ ∀ x_ ∈ backI x, 0 ≤ x_ ∧ x_ < (y.length : Int)) ∧ (small ((backI x).map (el y)) ∧ ∀ x_ ∈ (backI x).map (el y), 0 ≤ x_ ∧ x_ < (x.length : Int)) := by
  obtain ⟨h1, h2, h3, h4⟩ := hp
  have hb := isPerm_backI h2
  have hs : (x.length : Int) ≤ 1000000000 := h1
  have key : ∀ z ∈ backI x, 0 ≤ z ∧ z < (y.length : Int) := fun z hz => by
    have := (isPerm_iff.1 hb).2 z hz
    simp at this; omega
  refine ⟨⟨h1, h2⟩, ⟨by show _ ≤ (1000000000 : Int); simp; omega, key⟩, by show _ ≤ (1000000000 : Int); simp; omega, fun z hz => ?_⟩
  obtain ⟨w, hw, rfl⟩ := List.mem_map.1 hz
  have := isPerm_el h4 (key w hw)
  omega
theorem p_impl_conjugate (y x : List Int) (hp : cjD x y) : wp_impl_conjugate y x (fun y0 => y0 = conjI x y) := ⟨(cj_pre hp).1, (cj_pre hp).2.1, (cj_pre hp).2.2, rfl⟩
theorem p_spec_l04Conjugate (x y : List Int) (hp : cjD x y) : wp_spec_l04Conjugate x y (fun y0 => y0 = conjI x y) := ⟨(cj_pre hp).1, (cj_pre hp).2.1, (cj_pre hp).2.2, rfl⟩
theorem good_cj {list : List (List Int)} (h : GoodL list) {x y : Int} (hx : 0 ≤ x ∧ x < (list.length : Int)) (hy : 0 ≤ y ∧ y < (list.length : Int)) : cjD (el list x) (el list y) := by
  obtain ⟨a1, a2, _⟩ := h.2 x hx.1 hx.2
  obtain ⟨b1, b2, _⟩ := h.2 y hy.1 hy.2
  have := permB_len a1
  exact ⟨by show _ ≤ (1000000000 : Int); omega, permB_isPerm a1, by omega, permB_isPerm b1⟩
theorem small_cj {x y : List Int} (h : small x) : small (conjI x y) := by
  have : (x.length : Int) ≤ 1000000000 := h
  show _ ≤ (1000000000 : Int); simp [conjI]; omega
theorem good_small2 {list : List (List Int)} (h : GoodL list) (h2 : (list.length : Int) ≤ 12) : small2 list := ⟨by show _ ≤ (1000000000 : Int); omega, fun r hr => by
  obtain ⟨i, hi, rfl⟩ := mem_el hr
  have := permB_len (h.2 i hi.1 hi.2).1
  show _ ≤ (1000000000 : Int); omega⟩
theorem idxL_in {lists : List (List Int)} {list : List Int} : -1 ≤ idxL lists list ∧ idxL lists list < (lists.length : Int) ∨ idxL lists list = -1 := by
  unfold idxL idxF
  split
  · rename_i h
    have : lists.findIdx (fun own => decide (own = list)) < lists.length := List.findIdx_lt_length_of_exists (by simpa using h)
    left; omega
  · right; rfl
theorem p_spec_l04Conjugation (list : List (List Int)) (hp : GoodL list ∧ (list.length : Int) ≤ 12) : wp_spec_l04Conjugation list (fun y0 => y0 = cjT list) := by
  unfold wp_spec_l04Conjugation
  obtain ⟨hG, hl⟩ := hp
  have hs2 := good_small2 hG hl
  refine ⟨fun i o => 0 ≤ i ∧ i ≤ (list.length : Int) ∧ o.length = i.toNat ∧ Upto i fun x => el o x = ran (list.length : Int) (cjV list x), fun i _ => ((list.length : Int) - i).toNat, ⟨by omega, by omega, by simp, upto0⟩, ?_⟩
  rintro x o ⟨i0, i1, il, iI⟩
  dsimp only
  refine ⟨fun ilt => ?_, fun ige => eq_ran (by omega) fun j a b => iI j a (by omega)⟩
  refine ⟨fun y q => 0 ≤ y ∧ y ≤ (list.length : Int) ∧ q.length = y.toNat ∧ Upto y fun y => el q y = cjV list x y, fun y _ => ((list.length : Int) - y).toNat, ⟨by omega, by omega, by simp, upto0⟩, ?_⟩
  rintro y q ⟨j0, j1, jl, jI⟩
  dsimp only
  refine ⟨fun jlt => ?_, fun jge => ?_⟩
  · have hc := good_cj hG (x := x) (y := y) ⟨i0, ilt⟩ ⟨j0, jlt⟩
    exact ⟨⟨i0, ilt⟩, ⟨j0, jlt⟩, hc, ⟨hs2, small_cj hc.1⟩, by simp; omega, ⟨by omega, by omega⟩, ⟨by omega, by omega, by simp; omega, app1 (f := cjV list x) (by omega) jI rfl⟩, by omega⟩
  · have hq : q = ran (list.length : Int) (cjV list x) := eq_ran (by omega) fun k u v => jI k u (by omega)
    exact ⟨by simp; omega, ⟨by omega, by omega⟩, ⟨by omega, by omega, by simp; omega, app1 (f := fun x => ran (list.length : Int) (cjV list x)) (by omega) iI hq⟩, by omega⟩
theorem p_impl_ConjugationQuandle_1 (x y : Int) (list : List (List Int)) (hp : GoodL list ∧ (list.length : Int) ≤ 12 ∧ 0 ≤ x ∧ x < (list.length : Int) ∧ 0 ≤ y ∧ y < (list.length : Int)) : wp_impl_ConjugationQuandle_1 x y list (fun y0 => y0 = cjV list x y) := by
  obtain ⟨hG, hl, x0, x1, y0, y1⟩ := hp
  have hc := good_cj hG (x := x) (y := y) ⟨x0, x1⟩ ⟨y0, y1⟩
  exact ⟨⟨y0, y1⟩, ⟨x0, x1⟩, hc, ⟨good_small2 hG hl, small_cj hc.1⟩, rfl⟩
theorem cjq1 {l : List (List Int)} (h : dec (GoodL l) = false) : [] = CjqT l ∧ 1 = CjqE l := by
  have e : CjqE l = 1 := by unfold CjqE; rw [h]; rfl
  exact ⟨by unfold CjqT; rw [e]; rfl, e.symm⟩
theorem cjq3 {l : List (List Int)} (h : dec (GoodL l) = true) (h2 : (12 : Int) < (l.length : Int)) : [] = CjqT l ∧ 3 = CjqE l := by
  have e : CjqE l = 3 := by unfold CjqE; rw [h, if_pos h2]; rfl
  exact ⟨by unfold CjqT; rw [e]; rfl, e.symm⟩
theorem cjq5 {l : List (List Int)} (h : dec (GoodL l) = true) (h2 : ¬ (12 : Int) < (l.length : Int)) (h3 : isTab (cjT l) = false) : [] = CjqT l ∧ 5 = CjqE l := by
  have e : CjqE l = 5 := by unfold CjqE; rw [h, if_neg h2, h3]; rfl
  exact ⟨by unfold CjqT; rw [e]; rfl, e.symm⟩
theorem cjq0 {l : List (List Int)} (h : dec (GoodL l) = true) (h2 : ¬ (12 : Int) < (l.length : Int)) (h3 : isTab (cjT l) = true) : cjT l = CjqT l ∧ 0 = CjqE l := by
  have e : CjqE l = 0 := by unfold CjqE; rw [h, if_neg h2, h3]; rfl
  exact ⟨by unfold CjqT; rw [e]; rfl, e.symm⟩
theorem p_impl_ConjugationQuandle (list : List (List Int)) (hp : small2 list) : wp_impl_ConjugationQuandle list (fun y0 y1 => y0 = CjqT list ∧ y1 = CjqE list) := by
  unfold wp_impl_ConjugationQuandle
  have hs := hp.1
  refine ⟨fun h => cjq1 (dec_f fun hG => by have := hG.1; omega), fun h => ?_⟩
  refine ⟨fun i => 0 ≤ i ∧ i ≤ (list.length : Int) ∧ Upto i fun i => permB (el list i) = true ∧ ((el list i).length : Int) = ((el list 0).length : Int) ∧ ∀ j, 0 ≤ j → j < i → el list j ≠ el list i, fun i => ((list.length : Int) - i).toNat, ⟨by omega, by omega, upto0⟩, ?_⟩
  rintro i ⟨i0, i1, iI⟩
  dsimp only
  refine ⟨fun ilt => ⟨⟨i0, ilt⟩, hp.2 _ (el_mem ⟨i0, ilt⟩), fun h1 => ?_, fun h1 => ⟨⟨by omega, by omega⟩, fun h2 => ?_, fun h2 => ⟨⟨by omega, by omega, by omega⟩, ⟨⟨?_, ?_⟩, hp.2 _ (el_mem ⟨i0, ilt⟩)⟩, fun h3 => ?_, fun h3 => ⟨⟨by omega, by omega⟩, ⟨by omega, by omega, upto1 iI ⟨h1, h2, ?_⟩⟩, by omega⟩⟩⟩⟩, fun ige => ?_⟩
  · exact cjq1 (dec_f fun hG => by rw [(hG.2 i i0 ilt).1] at h1; cases h1)
  · exact cjq1 (dec_f fun hG => h2 (hG.2 i i0 ilt).2.1)
  · have := length_sl (l := list) (a := 0) (b := i) ⟨by omega, by omega, by omega⟩
    show _ ≤ (1000000000 : Int); omega
  · exact fun r hr => hp.2 r (List.mem_of_mem_take (List.mem_of_mem_drop hr))
  · have hsl := length_sl (l := list) (a := 0) (b := i) ⟨by omega, by omega, by omega⟩
    have h4 : (sl list 0 i).any (fun own => decide (own = el list i)) = true := by rw [← idxF_nonneg]; exact decide_eq_true h3
    obtain ⟨j, hj, e⟩ := any_el.1 h4
    rw [el_sl (by omega) hj.1 (by omega), Int.zero_add, decide_eq_true_eq] at e
    exact cjq1 (dec_f fun hG => (hG.2 i i0 ilt).2.2 j hj.1 (by omega) e)
  · intro j j0 j1 e
    have hsl := length_sl (l := list) (a := 0) (b := i) ⟨by omega, by omega, by omega⟩
    have h4 : decide (0 ≤ idxL (sl list 0 i) (el list i)) = true := by
      unfold idxL
      rw [idxF_nonneg]
      exact any_t (i := j) ⟨j0, by omega⟩ (by rw [el_sl (by omega) j0 (by omega), Int.zero_add]; exact decide_eq_true e)
    exact h3 (of_decide_eq_true h4)
  · have hG : GoodL list := ⟨by omega, fun j a b => iI j a (by omega)⟩
    have hd := dec_t hG
    refine ⟨fun h2 => cjq3 hd h2, fun h2 => ⟨⟨by omega, by omega, fun x y x0 x1 y0 y1 => ⟨⟨hG, by omega, x0, x1, y0, y1⟩, ?_⟩⟩, small2_tab' (by omega), fun h3 => cjq5 hd h2 h3, fun h3 => cjq0 hd h2 h3⟩⟩
    rcases idxL_in (lists := list) (list := conjI (el list x) (el list y)) with h5 | h5
    · constructor <;> (try dsimp only) <;> (unfold cjV; omega)
    · constructor <;> (try dsimp only) <;> (unfold cjV; omega)
set_option maxRecDepth 100000 in
set_option maxHeartbeats 4000000 in
theorem w_spec_l04Find (lists : List (List Int)) (list : List Int) (Q : Int → Prop) (h : wp_spec_l04Find lists list Q) : AF Try.prog 90 [.lst (rows lists), .lst (ints list)] (fun R_ => ∃ y0, Q y0 ∧ R_ = ci y0) := by
  refine AF.ofWQ (af_enter (n := 19) Try.func90 rfl (by rfl) rfl (Nat.le_of_ble_eq_true rfl) ?_)
  unfold wp_spec_l04Find at h
  refine aw_seq ?_
  refine aw_gh (gh_to (n := 19) (σ' := []) (env' := [(0, .c (.lst (rows lists))), (1, .c (.lst (ints list)))]) rfl rfl ⟨rfl, rfl, trivial⟩) ?_
  refine aw_region ?_
  refine run_s (ss_assign rfl) rfl ?_
  refine run_nil ?_
  refine aw_seq ?_
  refine aw_seq ?_
  refine aw_region ?_
  refine run_s (ss_assign rfl) rfl ?_
  refine run_nil ?_
  refine aw_block ?_
  obtain ⟨H1, m1, q1, h⟩ := h
  refine aw_loop1 (fun (v5_1 : Int) => ⟨[], [(0, .c (.lst (rows lists))), (1, .c (.lst (ints list))), (5, .c (ci v5_1))], 19⟩) H1 m1 ⟨0, ghe_to (n := 19) rfl rfl ⟨rfl, rfl, rfl, trivial⟩, q1⟩ ?_
  rintro v5_1 q1
  replace h := h v5_1 q1
  refine aw_seq ?_
  refine aw_seq ?_
  refine aw_region ?_
  refine run_s (ss_move rfl) rfl ?_
  refine run_s (ss_move rfl) rfl ?_
  refine run_s (ss_lenL (f := (fun r => C.lst (ints r))) rfl) rfl ?_
  refine run_s (ss_lss rfl rfl) rfl ?_
  refine run_nil ?_
  refine aw_cond rfl (fun q2 => ?_) (fun q2 => ?_)
  ·replace h := h.1 (of_decide_eq_true q2)
   refine aw_skip ?_
   refine aw_seq ?_
   refine aw_block ?_
   refine aw_seq ?_
   refine aw_region ?_
   refine run_s (ss_move rfl) rfl ?_
   refine run_s (ss_move rfl) rfl ?_
   obtain ⟨q3, h⟩ := h
   refine run_s (ss_idxL rfl rfl q3) rfl ?_
   refine run_s (ss_loadL (f := (fun r => C.lst (ints r))) rfl q3) rfl ?_
   refine run_s (ss_move rfl) rfl ?_
   obtain ⟨q4, h⟩ := h
   refine run_w (ws_call (xs := [.tmp 15, .tmp 16]) (ids := []) rfl rfl rfl rfl (c_spec_l01Same (el lists v5_1) list q4) rfl ?_ )
   rintro _ rfl
   refine ⟨rfl, ?_⟩
   refine run_nil ?_
   refine aw_cond rfl (fun q6 => ?_) (fun q6 => ?_)
   ·replace h := h.1 (of_decide_eq_true q6)
    refine aw_seq ?_
    refine aw_gh (gh_to (n := 19) (σ' := []) (env' := [(5, .c (ci v5_1))]) rfl rfl ⟨rfl, trivial⟩) ?_
    refine aw_region ?_
    refine run_s (ss_move rfl) rfl ?_
    refine run_s (ss_assign rfl) rfl ?_
    refine run_nil ?_
    refine aw_ret ?_
    exact retAF_mk (retv1 rfl (rv_tmp rfl)) rfl rfl ⟨_, (cle_refl _), _, h, rfl⟩
   ·replace h := h.2 (of_decide_eq_false q6)
    refine aw_skip ?_
    refine aw_gh (gh_to (n := 19) (σ' := []) (env' := [(0, .c (.lst (rows lists))), (1, .c (.lst (ints list))), (5, .c (ci v5_1))]) rfl rfl ⟨rfl, rfl, rfl, trivial⟩) ?_
    refine aw_region ?_
    refine run_s (ss_move rfl) rfl ?_
    obtain ⟨q7, h⟩ := h
    refine run_s (ss_add rfl rfl q7) rfl ?_
    refine run_s (ss_assign rfl) rfl ?_
    refine run_nil ?_
    exact ⟨v5_1 + 1, ghe_to (n := 19) rfl rfl ⟨rfl, rfl, rfl, trivial⟩, h.1, h.2⟩
  ·replace h := h.2 (of_decide_eq_false q2)
   refine aw_exit ?_
   refine aw_seq ?_
   refine aw_gh (gh_to (n := 19) (σ' := []) (env' := []) rfl rfl trivial) ?_
   refine aw_region ?_
   refine run_s (ss_assign rfl) rfl ?_
   refine run_nil ?_
   refine aw_ret ?_
   exact retAF_mk (retv1 rfl (rv_tmp rfl)) rfl rfl ⟨_, (cle_refl _), _, h, rfl⟩

theorem c_spec_l04Find (lists : List (List Int)) (list : List Int) (hp : small2 lists ∧ small list) : AF Try.prog 90 [.lst (rows lists), .lst (ints list)] (fun R_ => R_ = ci (idxL lists list)) :=
  (w_spec_l04Find lists list (fun y0 => y0 = idxL lists list) (p_spec_l04Find lists list hp)).mono (by rintro r ⟨_, rfl, rfl⟩; rfl)

set_option maxRecDepth 100000 in
set_option maxHeartbeats 4000000 in
theorem w_impl_listIndex_1 (own : List Int) (list : List Int) (Q : Bool → Prop) (h : wp_impl_listIndex_1 own list Q) : AF Try.prog 96 [.lst (ints own), .ptr [.lst (ints list)]] (fun R_ => ∃ y0, Q y0 ∧ R_ = cb y0) := by
  refine AF.ofWQ (af_enter (n := 7) Try.func96 rfl (by rfl) rfl (Nat.le_of_ble_eq_true rfl) ?_)
  unfold wp_impl_listIndex_1 at h
  refine aw_seq ?_
  refine aw_gh (gh_to (n := 7) (σ' := []) (env' := [(0, .c (.lst (ints own))), (1, .c (.ptr [.lst (ints list)]))]) rfl rfl ⟨rfl, rfl, trivial⟩) ?_
  refine aw_region ?_
  refine run_s (ss_assign rfl) rfl ?_
  refine run_nil ?_
  refine aw_seq ?_
  refine aw_region ?_
  refine run_s (ss_move rfl) rfl ?_
  refine run_s (ss_load_ptr rfl rfl) rfl ?_
  obtain ⟨q1, h⟩ := h
  refine run_w (ws_call (xs := [.tmp 4, .tmp 5]) (ids := []) rfl rfl rfl rfl (c_k_Equal own list q1) rfl ?_ )
  rintro _ rfl
  refine ⟨rfl, ?_⟩
  refine run_s (ss_assign rfl) rfl ?_
  refine run_nil ?_
  refine aw_ret ?_
  exact retAF_mk (retv1 rfl (rv_tmp rfl)) rfl rfl ⟨_, (cle_refl _), _, h, rfl⟩

theorem c_impl_listIndex_1 (own : List Int) (list : List Int) (hp : small own ∧ small list) : AF Try.prog 96 [.lst (ints own), .ptr [.lst (ints list)]] (fun R_ => R_ = cb (decide (own = list))) :=
  (w_impl_listIndex_1 own list (fun y0 => y0 = decide (own = list)) (p_impl_listIndex_1 own list hp)).mono (by rintro r ⟨_, rfl, rfl⟩; rfl)

set_option maxRecDepth 100000 in
set_option maxHeartbeats 4000000 in
theorem w_impl_listIndex (lists : List (List Int)) (list : List Int) (Q : Int → Prop) (h : wp_impl_listIndex lists list Q) : AF Try.prog 55 [.lst (rows lists), .lst (ints list)] (fun R_ => ∃ y0, Q y0 ∧ R_ = ci y0) := by
  refine AF.ofWQ (af_enter (n := 8) Try.func55 rfl (by rfl) rfl (Nat.le_of_ble_eq_true rfl) ?_)
  unfold wp_impl_listIndex at h
  refine aw_seq ?_
  refine aw_gh (gh_to (n := 8) (σ' := []) (env' := [(0, .c (.lst (rows lists))), (1, .c (.lst (ints list)))]) rfl rfl ⟨rfl, rfl, trivial⟩) ?_
  refine aw_region ?_
  refine run_w (ws_boxR rfl (.inr rfl) rfl ⟨rfl, ?_⟩)
  refine run_s (ss_assign rfl) rfl ?_
  refine run_nil ?_
  refine aw_seq ?_
  refine aw_region ?_
  refine run_s (ss_move rfl) rfl ?_
  refine run_s (ss_makeFunc (os := [.tmp 3]) rfl) rfl ?_
  obtain ⟨q1, h⟩ := h
  refine run_w (ws_call (xs := [.tmp 5, .tmp 6]) (ids := []) rfl rfl rfl rfl (c_k_IndexFunc_rows lists 96 [.ptr [.lst (ints list)]] (fun z0 => decide (z0 = list)) (fun z0 => small z0 ∧ small list) (fun z0 hD => c_impl_listIndex_1 z0 list hD) q1) rfl ?_ )
  rintro _ rfl
  refine ⟨rfl, ?_⟩
  refine run_s (ss_assign rfl) rfl ?_
  refine run_nil ?_
  refine aw_ret ?_
  exact retAF_mk (retv1 rfl (rv_tmp rfl)) rfl rfl ⟨_, (cle_refl _), _, h, rfl⟩

theorem c_impl_listIndex (lists : List (List Int)) (list : List Int) (hp : small2 lists ∧ small list) : AF Try.prog 55 [.lst (rows lists), .lst (ints list)] (fun R_ => R_ = ci (idxL lists list)) :=
  (w_impl_listIndex lists list (fun y0 => y0 = idxL lists list) (p_impl_listIndex lists list hp)).mono (by rintro r ⟨_, rfl, rfl⟩; rfl)

set_option maxRecDepth 100000 in
set_option maxHeartbeats 4000000 in
theorem w_impl_conjugate (y : List Int) (x : List Int) (Q : List Int → Prop) (h : wp_impl_conjugate y x Q) : AF Try.prog 54 [.lst (ints y), .lst (ints x)] (fun R_ => ∃ y0, Q y0 ∧ R_ = .own (ints y0)) := by
  refine AF.ofWQ (af_enter (n := 11) Try.func54 rfl (by rfl) rfl (Nat.le_of_ble_eq_true rfl) ?_)
  unfold wp_impl_conjugate at h
  refine aw_seq ?_
  refine aw_gh (gh_to (n := 11) (σ' := []) (env' := [(0, .c (.lst (ints y))), (1, .c (.lst (ints x)))]) rfl rfl ⟨rfl, rfl, trivial⟩) ?_
  refine aw_region ?_
  refine run_s (ss_assign rfl) rfl ?_
  refine run_nil ?_
  refine aw_seq ?_
  refine aw_region ?_
  refine run_s (ss_move rfl) rfl ?_
  obtain ⟨q1, h⟩ := h
  refine run_w (ws_call (xs := [.tmp 5]) (ids := [6]) rfl rfl rfl rfl (c_impl_inverse x q1) rfl ?_ )
  rintro _ rfl
  refine ⟨rfl, ?_⟩
  refine run_s (ss_move rfl) rfl ?_
  obtain ⟨q3, h⟩ := h
  refine run_w (ws_callR (xs := [.tmp 6, .tmp 7]) (cs := [.own (ints (backI x)), .lst (ints y)]) (ids := [8]) rfl (.inr ⟨rfl, rfl⟩) rfl rfl (fz_cons (fz_own (fz_map (fun _ => rfl) _)) (fz_cons rfl fz_nil)) (c_impl_then (backI x) y q3) rfl ?_ )
  rintro _ rfl
  refine ⟨(slf_own (slfL_map (f := ci) (fun _ => rfl) _)), rfl, ?_⟩
  refine run_s (ss_move rfl) rfl ?_
  obtain ⟨q5, h⟩ := h
  refine run_w (ws_callR (xs := [.tmp 8, .tmp 9]) (cs := [.own (ints ((backI x).map (el y))), .lst (ints x)]) (ids := [10]) rfl (.inr ⟨rfl, rfl⟩) rfl rfl (fz_cons (fz_own (fz_map (fun _ => rfl) _)) (fz_cons rfl fz_nil)) (c_impl_then ((backI x).map (el y)) x q5) rfl ?_ )
  rintro _ rfl
  refine ⟨(slf_own (slfL_map (f := ci) (fun _ => rfl) _)), rfl, ?_⟩
  refine run_s (ss_assign rfl) rfl ?_
  refine run_nil ?_
  refine aw_ret ?_
  exact retAF_mk (retv1 rfl (rv_tmp rfl)) rfl rfl ⟨_, (cle_refl _), _, h, rfl⟩

theorem c_impl_conjugate (y : List Int) (x : List Int) (hp : cjD x y) : AF Try.prog 54 [.lst (ints y), .lst (ints x)] (fun R_ => R_ = .own (ints (conjI x y))) :=
  (w_impl_conjugate y x (fun y0 => y0 = conjI x y) (p_impl_conjugate y x hp)).mono (by rintro r ⟨_, rfl, rfl⟩; rfl)

set_option maxRecDepth 100000 in
set_option maxHeartbeats 4000000 in
theorem w_spec_l04Conjugate (x : List Int) (y : List Int) (Q : List Int → Prop) (h : wp_spec_l04Conjugate x y Q) : AF Try.prog 48 [.lst (ints x), .lst (ints y)] (fun R_ => ∃ y0, Q y0 ∧ R_ = .own (ints y0)) := by
  refine AF.ofWQ (af_enter (n := 11) Try.func48 rfl (by rfl) rfl (Nat.le_of_ble_eq_true rfl) ?_)
  unfold wp_spec_l04Conjugate at h
  refine aw_seq ?_
  refine aw_gh (gh_to (n := 11) (σ' := []) (env' := [(0, .c (.lst (ints x))), (1, .c (.lst (ints y)))]) rfl rfl ⟨rfl, rfl, trivial⟩) ?_
  refine aw_region ?_
  refine run_s (ss_assign rfl) rfl ?_
  refine run_nil ?_
  refine aw_seq ?_
  refine aw_region ?_
  refine run_s (ss_move rfl) rfl ?_
  obtain ⟨q1, h⟩ := h
  refine run_w (ws_call (xs := [.tmp 5]) (ids := [6]) rfl rfl rfl rfl (c_spec_l01Back x q1) rfl ?_ )
  rintro _ rfl
  refine ⟨rfl, ?_⟩
  refine run_s (ss_move rfl) rfl ?_
  obtain ⟨q3, h⟩ := h
  refine run_w (ws_callR (xs := [.tmp 6, .tmp 7]) (cs := [.own (ints (backI x)), .lst (ints y)]) (ids := [8]) rfl (.inr ⟨rfl, rfl⟩) rfl rfl (fz_cons (fz_own (fz_map (fun _ => rfl) _)) (fz_cons rfl fz_nil)) (c_spec_l01Then (backI x) y q3) rfl ?_ )
  rintro _ rfl
  refine ⟨(slf_own (slfL_map (f := ci) (fun _ => rfl) _)), rfl, ?_⟩
  refine run_s (ss_move rfl) rfl ?_
  obtain ⟨q5, h⟩ := h
  refine run_w (ws_callR (xs := [.tmp 8, .tmp 9]) (cs := [.own (ints ((backI x).map (el y))), .lst (ints x)]) (ids := [10]) rfl (.inr ⟨rfl, rfl⟩) rfl rfl (fz_cons (fz_own (fz_map (fun _ => rfl) _)) (fz_cons rfl fz_nil)) (c_spec_l01Then ((backI x).map (el y)) x q5) rfl ?_ )
  rintro _ rfl
  refine ⟨(slf_own (slfL_map (f := ci) (fun _ => rfl) _)), rfl, ?_⟩
  refine run_s (ss_assign rfl) rfl ?_
  refine run_nil ?_
  refine aw_ret ?_
  exact retAF_mk (retv1 rfl (rv_tmp rfl)) rfl rfl ⟨_, (cle_refl _), _, h, rfl⟩

theorem c_spec_l04Conjugate (x : List Int) (y : List Int) (hp : cjD x y) : AF Try.prog 48 [.lst (ints x), .lst (ints y)] (fun R_ => R_ = .own (ints (conjI x y))) :=
  (w_spec_l04Conjugate x y (fun y0 => y0 = conjI x y) (p_spec_l04Conjugate x y hp)).mono (by rintro r ⟨_, rfl, rfl⟩; rfl)

set_option maxRecDepth 100000 in
set_option maxHeartbeats 4000000 in
theorem w_spec_l04Conjugation (list : List (List Int)) (Q : List (List Int) → Prop) (h : wp_spec_l04Conjugation list Q) : AF Try.prog 51 [.lst (rows list)] (fun R_ => ∃ y0, Q y0 ∧ R_ = .own (orows y0)) := by
  refine AF.ofWQ (af_enter (n := 40) Try.func51 rfl (by rfl) rfl (Nat.le_of_ble_eq_true rfl) ?_)
  unfold wp_spec_l04Conjugation at h
  refine aw_seq ?_
  refine aw_gh (gh_to (n := 40) (σ' := []) (env' := [(0, .c (.lst (rows list)))]) rfl rfl ⟨rfl, trivial⟩) ?_
  refine aw_region ?_
  refine run_s (ss_assign rfl) rfl ?_
  refine run_nil ?_
  refine aw_seq ?_
  refine aw_region ?_
  refine run_w (ws_buildSlice (id := 7) (ps := []) rfl rfl (Nat.le_of_ble_eq_true rfl) rfl ⟨rfl, ?_⟩)
  refine run_s (ss_assign rfl) rfl ?_
  refine run_nil ?_
  refine aw_seq ?_
  refine aw_seq ?_
  refine aw_region ?_
  refine run_s (ss_assign rfl) rfl ?_
  refine run_nil ?_
  refine aw_block ?_
  obtain ⟨H1, m1, q1, h⟩ := h
  refine aw_loop2 (fun (v4_1 : Int) (o7_1 : List (List Int)) => ⟨[(7, ⟨orows o7_1, []⟩)], [(0, .c (.lst (rows list))), (3, .ref 7), (4, .c (ci v4_1))], 40⟩) H1 m1 ⟨0, ([] : List (List Int)), ghe_to (n := 40) rfl rfl ⟨rfl, rfl, rfl, trivial⟩, q1⟩ ?_
  rintro v4_1 o7_1 q1
  replace h := h v4_1 o7_1 q1
  refine aw_seq ?_
  refine aw_seq ?_
  refine aw_region ?_
  refine run_s (ss_move rfl) rfl ?_
  refine run_s (ss_move rfl) rfl ?_
  refine run_s (ss_lenL (f := (fun r => C.lst (ints r))) rfl) rfl ?_
  refine run_s (ss_lss rfl rfl) rfl ?_
  refine run_nil ?_
  refine aw_cond rfl (fun q2 => ?_) (fun q2 => ?_)
  ·replace h := h.1 (of_decide_eq_true q2)
   refine aw_skip ?_
   refine aw_seq ?_
   refine aw_block ?_
   refine aw_seq ?_
   refine aw_region ?_
   refine run_w (ws_buildSlice (id := 14) (ps := []) rfl rfl (Nat.le_of_ble_eq_true rfl) rfl ⟨rfl, ?_⟩)
   refine run_s (ss_assign rfl) rfl ?_
   refine run_nil ?_
   refine aw_seq ?_
   refine aw_seq ?_
   refine aw_gh (gh_to (n := 40) (σ' := [(14, ⟨ints ([] : List Int), []⟩), (7, ⟨orows o7_1, []⟩)]) (env' := [(0, .c (.lst (rows list))), (3, .ref 7), (4, .c (ci v4_1)), (5, .ref 14)]) rfl rfl ⟨rfl, rfl, rfl, rfl, trivial⟩) ?_
   refine aw_region ?_
   refine run_s (ss_assign rfl) rfl ?_
   refine run_nil ?_
   refine aw_block ?_
   obtain ⟨H2, m2, q3, h⟩ := h
   refine aw_loop2 (fun (v6_2 : Int) (o14_2 : List Int) => ⟨[(14, ⟨ints o14_2, []⟩), (7, ⟨orows o7_1, []⟩)], [(0, .c (.lst (rows list))), (3, .ref 7), (4, .c (ci v4_1)), (5, .ref 14), (6, .c (ci v6_2))], 40⟩) H2 m2 ⟨0, ([] : List Int), ghe_to (n := 40) rfl rfl ⟨rfl, rfl, rfl, rfl, rfl, trivial⟩, q3⟩ ?_
   rintro v6_2 o14_2 q3
   replace h := h v6_2 o14_2 q3
   refine aw_seq ?_
   refine aw_seq ?_
   refine aw_region ?_
   refine run_s (ss_move rfl) rfl ?_
   refine run_s (ss_move rfl) rfl ?_
   refine run_s (ss_lenL (f := (fun r => C.lst (ints r))) rfl) rfl ?_
   refine run_s (ss_lss rfl rfl) rfl ?_
   refine run_nil ?_
   refine aw_cond rfl (fun q4 => ?_) (fun q4 => ?_)
   ·replace h := h.1 (of_decide_eq_true q4)
    refine aw_skip ?_
    refine aw_seq ?_
    refine aw_block ?_
    refine aw_gh (gh_to (n := 40) (σ' := [(14, ⟨ints o14_2, []⟩), (7, ⟨orows o7_1, []⟩)]) (env' := [(0, .c (.lst (rows list))), (3, .ref 7), (4, .c (ci v4_1)), (5, .ref 14), (6, .c (ci v6_2))]) rfl rfl ⟨rfl, rfl, rfl, rfl, rfl, trivial⟩) ?_
    refine aw_regionD (kd := kdl [0, 0, 0, 0, 0, 1, 0, 0, 0, 1, 2, 2, 2, 2, 0]) (ord := [0, 1, 2, 3, 4, 6, 7, 8, 5, 9, 10, 11, 12, 13, 14]) [14, 33] mixed (by kernel_rfl) ?_
    refine rd_s rfl rfl trivial (ss_move rfl) rfl ?_
    refine rd_s rfl rfl trivial (ss_move rfl) rfl ?_
    refine rd_s rfl rfl trivial (ss_move rfl) rfl ?_
    refine rd_s rfl rfl trivial (ss_move rfl) rfl ?_
    obtain ⟨q5, h⟩ := h
    refine rd_s rfl rfl trivial (ss_idxL rfl rfl q5) rfl ?_
    refine rd_s rfl rfl trivial (ss_move rfl) rfl ?_
    refine rd_s rfl rfl trivial (ss_move rfl) rfl ?_
    obtain ⟨q6, h⟩ := h
    refine rd_s rfl rfl trivial (ss_idxL rfl rfl q6) rfl ?_
    refine rd_l rfl rfl trivial (ss_loadL (f := (fun r => C.lst (ints r))) rfl q5) rfl ?_
    refine rd_l rfl rfl trivial (ss_loadL (f := (fun r => C.lst (ints r))) rfl q6) rfl ?_
    obtain ⟨q7, h⟩ := h
    refine rd_w rfl rfl trivial rfl rfl (ws_call (xs := [.tmp 26, .tmp 30]) (ids := [31]) rfl rfl rfl rfl (c_spec_l04Conjugate (el list v4_1) (el list v6_2) q7) rfl ?_ )
    rintro _ rfl
    refine ⟨rfl, ?_⟩
    obtain ⟨q9, h⟩ := h
    refine rd_w rfl rfl trivial rfl rfl (ws_callR (xs := [.tmp 22, .tmp 31]) (cs := [.lst (rows list), .own (ints (conjI (el list v4_1) (el list v6_2)))]) (ids := []) rfl (.inr ⟨rfl, rfl⟩) rfl rfl (fz_cons rfl (fz_cons (fz_own (fz_map (fun _ => rfl) _)) fz_nil)) (c_spec_l04Find list (conjI (el list v4_1) (el list v6_2)) q9) rfl ?_ )
    rintro _ rfl
    refine ⟨rfl, rfl, ?_⟩
    refine rd_w rfl rfl trivial rfl rfl (ws_buildSlice (id := 33) (ps := [(0, .tmp 32)]) rfl rfl (Nat.le_of_ble_eq_true rfl) rfl ⟨rfl, ?_⟩)
    obtain ⟨q11, h⟩ := h
    refine rd_w rfl rfl trivial rfl rfl (ws_app1 ci (l := o14_2) (m := [idxL list (conjI (el list v4_1) (el list v6_2))]) rfl rfl rfl rfl rfl (Nat.le_of_ble_eq_true rfl) q11 ⟨rfl, ?_⟩)
    refine rd_s rfl rfl trivial (ss_assign rfl) rfl ?_
    refine rd_nil ?_
    refine aw_gh (gh_to (n := 40) (σ' := [(31, ⟨ints (conjI (el list v4_1) (el list v6_2)), []⟩), (14, ⟨ints (o14_2 ++ ([idxL list (conjI (el list v4_1) (el list v6_2))])), []⟩), (7, ⟨orows o7_1, []⟩)]) (env' := [(0, .c (.lst (rows list))), (3, .ref 7), (4, .c (ci v4_1)), (5, .ref 14), (6, .c (ci v6_2))]) rfl rfl ⟨rfl, rfl, rfl, rfl, rfl, trivial⟩) ?_
    refine aw_region ?_
    refine run_s (ss_move rfl) rfl ?_
    obtain ⟨q12, h⟩ := h
    refine run_s (ss_add rfl rfl q12) rfl ?_
    refine run_s (ss_assign rfl) rfl ?_
    refine run_nil ?_
    exact ⟨v6_2 + 1, o14_2 ++ ([idxL list (conjI (el list v4_1) (el list v6_2))]), ghe_step (gh_frzE (id := 31) ci rfl (fun _ => rfl)) (ghe_to (n := 40) rfl rfl ⟨rfl, rfl, rfl, rfl, rfl, trivial⟩), h.1, h.2⟩
   ·replace h := h.2 (of_decide_eq_false q4)
    refine aw_exit ?_
    refine aw_region ?_
    refine run_s (ss_move rfl) rfl ?_
    refine run_s (ss_move rfl) rfl ?_
    refine run_w (ws_buildSlice (id := 37) (ps := [(0, .tmp 36)]) rfl rfl (Nat.le_of_ble_eq_true rfl) rfl ⟨rfl, ?_⟩)
    refine run_gh (gh_fill (id := 37) (id2 := 14) (j := 0) rfl rfl (Nat.le_of_ble_eq_true rfl) rfl rfl rfl) ?_
    obtain ⟨q13, h⟩ := h
    refine run_w (ws_app1 (fun r => C.own (ints r)) (l := o7_1) (m := [o14_2]) rfl rfl rfl rfl rfl (Nat.le_of_ble_eq_true rfl) q13 ⟨rfl, ?_⟩)
    refine run_s (ss_assign rfl) rfl ?_
    refine run_nil ?_
    refine aw_gh (gh_to (n := 40) (σ' := [(7, ⟨orows (o7_1 ++ ([o14_2])), []⟩)]) (env' := [(0, .c (.lst (rows list))), (3, .ref 7), (4, .c (ci v4_1))]) rfl rfl ⟨rfl, rfl, rfl, trivial⟩) ?_
    refine aw_region ?_
    refine run_s (ss_move rfl) rfl ?_
    obtain ⟨q14, h⟩ := h
    refine run_s (ss_add rfl rfl q14) rfl ?_
    refine run_s (ss_assign rfl) rfl ?_
    refine run_nil ?_
    exact ⟨v4_1 + 1, o7_1 ++ ([o14_2]), ghe_to (n := 40) rfl rfl ⟨rfl, rfl, rfl, trivial⟩, h.1, h.2⟩
  ·replace h := h.2 (of_decide_eq_false q2)
   refine aw_exit ?_
   refine aw_seq ?_
   refine aw_gh (gh_to (n := 40) (σ' := [(7, ⟨orows o7_1, []⟩)]) (env' := [(3, .ref 7)]) rfl rfl ⟨rfl, trivial⟩) ?_
   refine aw_region ?_
   refine run_s (ss_move rfl) rfl ?_
   refine run_s (ss_assign rfl) rfl ?_
   refine run_nil ?_
   refine aw_ret ?_
   exact retAF_mk (retv1 rfl (rv_tmp rfl)) rfl rfl ⟨_, (cle_refl _), _, h, rfl⟩

theorem c_spec_l04Conjugation (list : List (List Int)) (hp : GoodL list ∧ (list.length : Int) ≤ 12) : AF Try.prog 51 [.lst (rows list)] (fun R_ => R_ = .own (orows (cjT list))) :=
  (w_spec_l04Conjugation list (fun y0 => y0 = cjT list) (p_spec_l04Conjugation list hp)).mono (by rintro r ⟨_, rfl, rfl⟩; rfl)

set_option maxRecDepth 100000 in
set_option maxHeartbeats 4000000 in
theorem w_impl_ConjugationQuandle_1 (x : Int) (y : Int) (list : List (List Int)) (Q : Int → Prop) (h : wp_impl_ConjugationQuandle_1 x y list Q) : AF Try.prog 102 [ci x, ci y, .ptr [.lst (rows list)]] (fun R_ => ∃ y0, Q y0 ∧ R_ = ci y0) := by
  refine AF.ofWQ (af_enter (n := 17) Try.func102 rfl (by rfl) rfl (Nat.le_of_ble_eq_true rfl) ?_)
  unfold wp_impl_ConjugationQuandle_1 at h
  refine aw_seq ?_
  refine aw_gh (gh_to (n := 17) (σ' := []) (env' := [(0, .c (ci x)), (1, .c (ci y)), (2, .c (.ptr [.lst (rows list)]))]) rfl rfl ⟨rfl, rfl, rfl, trivial⟩) ?_
  refine aw_region ?_
  refine run_s (ss_assign rfl) rfl ?_
  refine run_nil ?_
  refine aw_seq ?_
  refine aw_gh (gh_to (n := 17) (σ' := []) (env' := [(0, .c (ci x)), (1, .c (ci y)), (2, .c (.ptr [.lst (rows list)])), (5, .c (ci 0))]) rfl rfl ⟨rfl, rfl, rfl, rfl, trivial⟩) ?_
  refine aw_regionD (kd := kdl [1, 1, 0, 0, 1, 1, 0, 0, 1, 2, 2, 0]) (ord := [2, 6, 0, 1, 3, 4, 5, 7, 8, 9, 10, 11]) [] mixed (by kernel_rfl) ?_
  refine rd_s rfl rfl trivial (ss_move rfl) rfl ?_
  refine rd_s rfl rfl trivial (ss_move rfl) rfl ?_
  refine rd_l rfl rfl trivial (ss_load_ptr rfl rfl) rfl ?_
  refine rd_l rfl rfl trivial (ss_load_ptr rfl rfl) rfl ?_
  obtain ⟨q1, h⟩ := h
  refine rd_s rfl rfl trivial (ss_idxL rfl rfl q1) rfl ?_
  refine rd_l rfl rfl trivial (ss_loadL (f := (fun r => C.lst (ints r))) rfl q1) rfl ?_
  refine rd_l rfl rfl trivial (ss_load_ptr rfl rfl) rfl ?_
  obtain ⟨q2, h⟩ := h
  refine rd_s rfl rfl trivial (ss_idxL rfl rfl q2) rfl ?_
  refine rd_l rfl rfl trivial (ss_loadL (f := (fun r => C.lst (ints r))) rfl q2) rfl ?_
  obtain ⟨q3, h⟩ := h
  refine rd_w rfl rfl trivial rfl rfl (ws_call (xs := [.tmp 10, .tmp 14]) (ids := [15]) rfl rfl rfl rfl (c_impl_conjugate (el list y) (el list x) q3) rfl ?_ )
  rintro _ rfl
  refine ⟨rfl, ?_⟩
  obtain ⟨q5, h⟩ := h
  refine rd_w rfl rfl trivial rfl rfl (ws_callR (xs := [.tmp 6, .tmp 15]) (cs := [.lst (rows list), .own (ints (conjI (el list x) (el list y)))]) (ids := []) rfl (.inr ⟨rfl, rfl⟩) rfl rfl (fz_cons rfl (fz_cons (fz_own (fz_map (fun _ => rfl) _)) fz_nil)) (c_impl_listIndex list (conjI (el list x) (el list y)) q5) rfl ?_ )
  rintro _ rfl
  refine ⟨rfl, rfl, ?_⟩
  refine rd_s rfl rfl trivial (ss_assign rfl) rfl ?_
  refine rd_nil ?_
  refine aw_ret ?_
  exact retAF_mk (retv1 rfl (rv_tmp rfl)) rfl rfl ⟨_, (cle_refl _), _, h, rfl⟩

theorem c_impl_ConjugationQuandle_1 (x : Int) (y : Int) (list : List (List Int)) (hp : GoodL list ∧ (list.length : Int) ≤ 12 ∧ 0 ≤ x ∧ x < (list.length : Int) ∧ 0 ≤ y ∧ y < (list.length : Int)) : AF Try.prog 102 [ci x, ci y, .ptr [.lst (rows list)]] (fun R_ => R_ = ci (cjV list x y)) :=
  (w_impl_ConjugationQuandle_1 x y list (fun y0 => y0 = cjV list x y) (p_impl_ConjugationQuandle_1 x y list hp)).mono (by rintro r ⟨_, rfl, rfl⟩; rfl)

set_option maxRecDepth 100000 in
set_option maxHeartbeats 4000000 in
theorem w_impl_ConjugationQuandle (list : List (List Int)) (Q : List (List Int) → Int → Prop) (h : wp_impl_ConjugationQuandle list Q) : AF Try.prog 58 [.lst (rows list)] (fun R_ => ∃ y0 y1, Q y0 y1 ∧ R_ = .tup [.agg [.own (orows y0)], ci y1]) := by
  refine AF.ofWQ (af_enter (n := 54) Try.func58 rfl (by rfl) rfl (Nat.le_of_ble_eq_true rfl) ?_)
  unfold wp_impl_ConjugationQuandle at h
  refine aw_seq ?_
  refine aw_gh (gh_to (n := 54) (σ' := []) (env' := [(0, .c (.lst (rows list)))]) rfl rfl ⟨rfl, trivial⟩) ?_
  refine aw_region ?_
  refine run_w (ws_boxR rfl (.inr rfl) rfl ⟨rfl, ?_⟩)
  refine run_w (ws_alloc (id := 2) rfl (Nat.le_of_ble_eq_true rfl) ⟨rfl, ?_⟩)
  refine run_s (ss_assign rfl) rfl ?_
  refine run_nil ?_
  refine aw_seq ?_
  refine aw_seq ?_
  refine aw_region ?_
  refine run_s (ss_load_ptr rfl rfl) rfl ?_
  refine run_s (ss_lenL (f := (fun r => C.lst (ints r))) rfl) rfl ?_
  refine run_s (ss_eql rfl rfl) rfl ?_
  refine run_nil ?_
  refine aw_cond rfl (fun q1 => ?_) (fun q1 => ?_)
  ·replace h := h.1 (of_decide_eq_true q1)
   refine aw_seq ?_
   refine aw_gh (gh_to (n := 54) (σ' := [(2, ⟨[cnil], []⟩)]) (env' := [(2, .cell 2 0), (3, .c (ci 0))]) rfl rfl ⟨rfl, rfl, trivial⟩) ?_
   refine aw_region ?_
   refine run_s (ss_build0) rfl ?_
   refine run_w (ws_storeS rfl rfl (Nat.le_of_ble_eq_true rfl) rfl rfl rfl ⟨rfl, ?_⟩)
   refine run_s (ss_assign rfl) rfl ?_
   refine run_nil ?_
   refine aw_ret ?_
   exact retAF_mk (retv2 rfl (rv_struct rfl rfl rfl) (rv_tmp rfl)) rfl rfl ⟨_, (cle_tup (cleL_cons (cle_agg (cleL_cons cle_nilO cleL_nil)) (cleL_cons (cle_refl _) cleL_nil))), _, _, h, rfl⟩
  ·replace h := h.2 (of_decide_eq_false q1)
   refine aw_skip ?_
   refine aw_seq ?_
   refine aw_seq ?_
   refine aw_region ?_
   refine run_s (ss_load_ptr rfl rfl) rfl ?_
   refine run_s (ss_lenL (f := (fun r => C.lst (ints r))) rfl) rfl ?_
   refine run_s (ss_move rfl) rfl ?_
   refine run_nil ?_
   refine aw_block ?_
   obtain ⟨H1, m1, q2, h⟩ := h
   refine aw_loop1 (fun (v13_1 : Int) => ⟨[(2, ⟨[cnil], []⟩)], [(1, .c (.ptr [.lst (rows list)])), (2, .cell 2 0), (11, .c (.lst (rows list))), (12, .c (ci (list.length : Int))), (13, .c (ci v13_1))], 54⟩) H1 m1 ⟨0, ghe_to (n := 54) rfl rfl ⟨rfl, rfl, rfl, rfl, rfl, trivial⟩, q2⟩ ?_
   rintro v13_1 q2
   replace h := h v13_1 q2
   refine aw_seq ?_
   refine aw_region ?_
   refine run_s (ss_lss rfl rfl) rfl ?_
   refine run_nil ?_
   refine aw_seq ?_
   refine aw_cond rfl (fun q3 => ?_) (fun q3 => ?_)
   ·replace h := h.1 (of_decide_eq_true q3)
    refine aw_skip ?_
    refine aw_seq ?_
    refine aw_block ?_
    refine aw_seq ?_
    refine aw_region ?_
    refine run_s (ss_move rfl) rfl ?_
    obtain ⟨q4, h⟩ := h
    refine run_s (ss_idxL rfl rfl q4) rfl ?_
    refine run_s (ss_loadL (f := (fun r => C.lst (ints r))) rfl q4) rfl ?_
    refine run_s (ss_assign rfl) rfl ?_
    refine run_s (ss_assign rfl) rfl ?_
    refine run_nil ?_
    refine aw_seq ?_
    refine aw_region ?_
    refine run_s (ss_move rfl) rfl ?_
    obtain ⟨q5, h⟩ := h
    refine run_w (ws_call (xs := [.tmp 18]) (ids := []) rfl rfl rfl rfl (c_impl_IsPermutation (el list v13_1) q5) rfl ?_ )
    rintro _ rfl
    refine ⟨rfl, ?_⟩
    refine run_s (ss_not rfl) rfl ?_
    refine run_s (ss_move rfl) rfl ?_
    refine run_split (s := 21) rfl (fun q7 => ?_) (fun q7 => ?_)
    ·replace h := h.1 ((bnot_t q7))
     refine run_gf rfl rfl q7 rfl ?_
     refine run_gf rfl rfl q7 rfl ?_
     refine run_gf rfl rfl q7 rfl ?_
     refine run_gf rfl rfl q7 rfl ?_
     refine run_gf rfl rfl q7 rfl ?_
     refine run_gf rfl rfl q7 rfl ?_
     refine run_gf rfl rfl q7 rfl ?_
     refine run_s (ss_pickT rfl q7 rfl) rfl ?_
     refine run_s (ss_move rfl) rfl ?_
     refine run_split (s := 30) rfl (fun q8 => ?_) (fun q8 => ?_)
     ·skip
      refine run_gf rfl rfl q8 rfl ?_
      refine run_gf rfl rfl q8 rfl ?_
      refine run_gf rfl rfl q8 rfl ?_
      refine run_gf rfl rfl q8 rfl ?_
      refine run_gf rfl rfl q8 rfl ?_
      refine run_gf rfl rfl q8 rfl ?_
      refine run_s (ss_pickT rfl q8 rfl) rfl ?_
      refine run_nil ?_
      refine aw_cond rfl (fun q9 => ?_) (fun q9 => ?_)
      ·skip
       refine aw_seq ?_
       refine aw_gh (gh_to (n := 54) (σ' := [(2, ⟨[cnil], []⟩)]) (env' := [(2, .cell 2 0)]) rfl rfl ⟨rfl, trivial⟩) ?_
       refine aw_region ?_
       refine run_s (ss_build0) rfl ?_
       refine run_w (ws_storeS rfl rfl (Nat.le_of_ble_eq_true rfl) rfl rfl rfl ⟨rfl, ?_⟩)
       refine run_s (ss_assign rfl) rfl ?_
       refine run_nil ?_
       refine aw_ret ?_
       exact retAF_mk (retv2 rfl (rv_struct rfl rfl rfl) (rv_tmp rfl)) rfl rfl ⟨_, (cle_tup (cleL_cons (cle_agg (cleL_cons cle_nilO cleL_nil)) (cleL_cons (cle_refl _) cleL_nil))), _, _, h, rfl⟩
      ·cases q9
     ·cases q8
    ·replace h := h.2 ((bnot_f q7))
     refine run_gt rfl rfl q7 ?_
     refine run_s (ss_move rfl) rfl ?_
     refine run_gt rfl rfl q7 ?_
     refine run_s (ss_lenL (f := ci) rfl) rfl ?_
     refine run_gt rfl rfl q7 ?_
     refine run_s (ss_load_ptr rfl rfl) rfl ?_
     refine run_gt rfl rfl q7 ?_
     obtain ⟨q10, h⟩ := h
     refine run_s (ss_idxL rfl rfl q10) rfl ?_
     refine run_gt rfl rfl q7 ?_
     refine run_s (ss_loadL (f := (fun r => C.lst (ints r))) rfl q10) rfl ?_
     refine run_gt rfl rfl q7 ?_
     refine run_s (ss_lenL (f := ci) rfl) rfl ?_
     refine run_gt rfl rfl q7 ?_
     refine run_s (ss_neq rfl rfl) rfl ?_
     refine run_s (ss_pickF rfl q7 rfl) rfl ?_
     refine run_s (ss_move rfl) rfl ?_
     refine run_split (s := 30) rfl (fun q11 => ?_) (fun q11 => ?_)
     ·replace h := h.1 (of_decide_eq_false (bnot_t q11))
      refine run_gf rfl rfl q11 rfl ?_
      refine run_gf rfl rfl q11 rfl ?_
      refine run_gf rfl rfl q11 rfl ?_
      refine run_gf rfl rfl q11 rfl ?_
      refine run_gf rfl rfl q11 rfl ?_
      refine run_gf rfl rfl q11 rfl ?_
      refine run_s (ss_pickT rfl q11 rfl) rfl ?_
      refine run_nil ?_
      refine aw_cond rfl (fun q12 => ?_) (fun q12 => ?_)
      ·skip
       refine aw_seq ?_
       refine aw_gh (gh_to (n := 54) (σ' := [(2, ⟨[cnil], []⟩)]) (env' := [(2, .cell 2 0)]) rfl rfl ⟨rfl, trivial⟩) ?_
       refine aw_region ?_
       refine run_s (ss_build0) rfl ?_
       refine run_w (ws_storeS rfl rfl (Nat.le_of_ble_eq_true rfl) rfl rfl rfl ⟨rfl, ?_⟩)
       refine run_s (ss_assign rfl) rfl ?_
       refine run_nil ?_
       refine aw_ret ?_
       exact retAF_mk (retv2 rfl (rv_struct rfl rfl rfl) (rv_tmp rfl)) rfl rfl ⟨_, (cle_tup (cleL_cons (cle_agg (cleL_cons cle_nilO cleL_nil)) (cleL_cons (cle_refl _) cleL_nil))), _, _, h, rfl⟩
      ·cases q12
     ·replace h := h.2 (of_decide_eq_true (bnot_f q11))
      refine run_gt rfl rfl q11 ?_
      refine run_s (ss_load_ptr rfl rfl) rfl ?_
      refine run_gt rfl rfl q11 ?_
      refine run_s (ss_move rfl) rfl ?_
      refine run_gt rfl rfl q11 ?_
      obtain ⟨q13, h⟩ := h
      refine run_s (ss_slL (f := (fun r => C.lst (ints r))) rfl rfl ⟨_, rfl⟩ q13) rfl ?_
      refine run_gt rfl rfl q11 ?_
      refine run_s (ss_move rfl) rfl ?_
      refine run_gt rfl rfl q11 ?_
      obtain ⟨q14, h⟩ := h
      refine run_w (ws_call (xs := [.tmp 33, .tmp 34]) (ids := []) rfl rfl rfl rfl (c_impl_listIndex (sl list 0 v13_1) (el list v13_1) q14) rfl ?_ )
      rintro _ rfl
      refine ⟨rfl, ?_⟩
      refine run_gt rfl rfl q11 ?_
      refine run_s (ss_geq rfl rfl) rfl ?_
      refine run_s (ss_pickF rfl q11 rfl) rfl ?_
      refine run_nil ?_
      refine aw_cond rfl (fun q16 => ?_) (fun q16 => ?_)
      ·replace h := h.1 (of_decide_eq_true q16)
       refine aw_seq ?_
       refine aw_gh (gh_to (n := 54) (σ' := [(2, ⟨[cnil], []⟩)]) (env' := [(2, .cell 2 0)]) rfl rfl ⟨rfl, trivial⟩) ?_
       refine aw_region ?_
       refine run_s (ss_build0) rfl ?_
       refine run_w (ws_storeS rfl rfl (Nat.le_of_ble_eq_true rfl) rfl rfl rfl ⟨rfl, ?_⟩)
       refine run_s (ss_assign rfl) rfl ?_
       refine run_nil ?_
       refine aw_ret ?_
       exact retAF_mk (retv2 rfl (rv_struct rfl rfl rfl) (rv_tmp rfl)) rfl rfl ⟨_, (cle_tup (cleL_cons (cle_agg (cleL_cons cle_nilO cleL_nil)) (cleL_cons (cle_refl _) cleL_nil))), _, _, h, rfl⟩
      ·replace h := h.2 (of_decide_eq_false q16)
       refine aw_skip ?_
       refine aw_gh (gh_to (n := 54) (σ' := [(2, ⟨[cnil], []⟩)]) (env' := [(1, .c (.ptr [.lst (rows list)])), (2, .cell 2 0), (11, .c (.lst (rows list))), (12, .c (ci (list.length : Int))), (13, .c (ci v13_1)), (22, .c (.lst (ints (el list v13_1)))), (23, .c (ci ((el list v13_1).length : Int))), (24, .c (.lst (rows list))), (25, .c (.ptr ((rows list).drop (0 : Int).toNat))), (26, .c (.lst (ints (el list 0)))), (27, .c (ci ((el list 0).length : Int))), (28, .c (cb (!(decide (((el list v13_1).length : Int) = ((el list 0).length : Int)))))), (31, .c (.lst (rows list))), (32, .c (ci v13_1)), (33, .c (.lst (rows (sl list 0 v13_1)))), (34, .c (.lst (ints (el list v13_1)))), (35, .c (ci (idxL (sl list 0 v13_1) (el list v13_1)))), (36, .c (cb (decide (0 ≤ idxL (sl list 0 v13_1) (el list v13_1)))))]) rfl rfl ⟨rfl, rfl, rfl, rfl, rfl, rfl, rfl, rfl, rfl, rfl, rfl, rfl, rfl, rfl, rfl, rfl, rfl, rfl, trivial⟩) ?_
       refine aw_region ?_
       obtain ⟨q17, h⟩ := h
       refine run_s (ss_add rfl rfl q17) rfl ?_
       refine run_s (ss_move rfl) rfl ?_
       refine run_nil ?_
       exact ⟨v13_1 + 1, ghe_to (n := 54) rfl rfl ⟨rfl, rfl, rfl, rfl, rfl, trivial⟩, h.1, h.2⟩
   ·replace h := h.2 (of_decide_eq_false q3)
    refine aw_exit ?_
    refine aw_seq ?_
    refine aw_seq ?_
    refine aw_region ?_
    refine run_s (ss_load_ptr rfl rfl) rfl ?_
    refine run_s (ss_lenL (f := (fun r => C.lst (ints r))) rfl) rfl ?_
    refine run_s (ss_gtr rfl rfl) rfl ?_
    refine run_nil ?_
    refine aw_cond rfl (fun q18 => ?_) (fun q18 => ?_)
    ·replace h := h.1 (of_decide_eq_true q18)
     refine aw_seq ?_
     refine aw_gh (gh_to (n := 54) (σ' := [(2, ⟨[cnil], []⟩)]) (env' := [(2, .cell 2 0)]) rfl rfl ⟨rfl, trivial⟩) ?_
     refine aw_region ?_
     refine run_s (ss_build0) rfl ?_
     refine run_w (ws_storeS rfl rfl (Nat.le_of_ble_eq_true rfl) rfl rfl rfl ⟨rfl, ?_⟩)
     refine run_s (ss_assign rfl) rfl ?_
     refine run_nil ?_
     refine aw_ret ?_
     exact retAF_mk (retv2 rfl (rv_struct rfl rfl rfl) (rv_tmp rfl)) rfl rfl ⟨_, (cle_tup (cleL_cons (cle_agg (cleL_cons cle_nilO cleL_nil)) (cleL_cons (cle_refl _) cleL_nil))), _, _, h, rfl⟩
    ·replace h := h.2 (of_decide_eq_false q18)
     refine aw_skip ?_
     refine aw_seq ?_
     refine aw_region ?_
     refine run_s (ss_load_ptr rfl rfl) rfl ?_
     refine run_s (ss_lenL (f := (fun r => C.lst (ints r))) rfl) rfl ?_
     refine run_s (ss_makeFunc (os := [.tmp 1]) rfl) rfl ?_
     obtain ⟨q19, h⟩ := h
     refine run_w (ws_call (xs := [.tmp 45, .tmp 46]) (ids := [47]) rfl rfl rfl rfl (c_impl_rackBy (list.length : Int) 102 [.ptr [.lst (rows list)]] (fun z0 z1 => cjV list z0 z1) (fun z0 z1 => GoodL list ∧ (list.length : Int) ≤ 12 ∧ 0 ≤ z0 ∧ z0 < (list.length : Int) ∧ 0 ≤ z1 ∧ z1 < (list.length : Int)) (fun z0 z1 hD => c_impl_ConjugationQuandle_1 z0 z1 list hD) q19) rfl ?_ )
     rintro _ rfl
     refine ⟨rfl, ?_⟩
     refine run_w (ws_alloc (id := 6) rfl (Nat.le_of_ble_eq_true rfl) ⟨rfl, ?_⟩)
     refine run_w (ws_storeS rfl rfl (Nat.le_of_ble_eq_true rfl) rfl rfl rfl ⟨rfl, ?_⟩)
     refine run_nil ?_
     refine aw_seq ?_
     refine aw_seq ?_
     refine aw_gh (gh_to (n := 54) (σ' := [(6, ⟨[.hole], [(0, .ref 47)]⟩), (47, ⟨orows (tab (list.length : Int) (fun z0 z1 => cjV list z0 z1)), []⟩), (2, ⟨[cnil], []⟩)]) (env' := [(2, .cell 2 0), (6, .cell 6 0)]) rfl rfl ⟨rfl, rfl, trivial⟩) ?_
     refine aw_region ?_
     refine run_s (ss_field_cell rfl) rfl ?_
     refine run_s (ss_loadH rfl rfl rfl rfl) rfl ?_
     obtain ⟨q21, h⟩ := h
     refine run_w (ws_callR (xs := [.tmp 49]) (cs := [.own (orows (tab (list.length : Int) (fun z0 z1 => cjV list z0 z1)))]) (ids := []) rfl (.inr ⟨rfl, rfl⟩) rfl rfl (fz_cons (fz_own (fz_map (fun _ => (fz_own (fz_map (fun _ => rfl) _))) _)) fz_nil) (c_impl_IsTable (tab (list.length : Int) (fun z0 z1 => cjV list z0 z1)) q21) rfl ?_ )
     rintro _ rfl
     refine ⟨rfl, rfl, ?_⟩
     refine run_s (ss_not rfl) rfl ?_
     refine run_nil ?_
     refine aw_cond rfl (fun q23 => ?_) (fun q23 => ?_)
     ·replace h := h.1 ((bnot_t q23))
      refine aw_seq ?_
      refine aw_gh (gh_to (n := 54) (σ' := [(6, ⟨[.hole], [(0, .ref 47)]⟩), (47, ⟨orows (tab (list.length : Int) (fun z0 z1 => cjV list z0 z1)), []⟩), (2, ⟨[cnil], []⟩)]) (env' := [(2, .cell 2 0)]) rfl rfl ⟨rfl, trivial⟩) ?_
      refine aw_region ?_
      refine run_s (ss_build0) rfl ?_
      refine run_w (ws_storeS rfl rfl (Nat.le_of_ble_eq_true rfl) rfl rfl rfl ⟨rfl, ?_⟩)
      refine run_s (ss_assign rfl) rfl ?_
      refine run_nil ?_
      refine aw_ret ?_
      exact retAF_mk (retv2 rfl (rv_struct rfl rfl rfl) (rv_tmp rfl)) rfl rfl ⟨_, (cle_tup (cleL_cons (cle_agg (cleL_cons cle_nilO cleL_nil)) (cleL_cons (cle_refl _) cleL_nil))), _, _, h, rfl⟩
     ·replace h := h.2 ((bnot_f q23))
      refine aw_skip ?_
      refine aw_seq ?_
      refine aw_region ?_
      refine run_s (ss_loadS rfl rfl rfl rfl) rfl ?_
      refine run_w (ws_storeS rfl rfl (Nat.le_of_ble_eq_true rfl) rfl rfl rfl ⟨rfl, ?_⟩)
      refine run_s (ss_assign rfl) rfl ?_
      refine run_nil ?_
      refine aw_ret ?_
      exact retAF_mk (retv2 rfl (rv_struct rfl rfl rfl) (rv_tmp rfl)) rfl rfl ⟨_, (cle_refl _), _, _, h, rfl⟩

theorem c_impl_ConjugationQuandle (list : List (List Int)) (hp : small2 list) : AF Try.prog 58 [.lst (rows list)] (fun R_ => R_ = .tup [.agg [.own (orows (CjqT list))], ci (CjqE list)]) :=
  (w_impl_ConjugationQuandle list (fun y0 y1 => y0 = CjqT list ∧ y1 = CjqE list) (p_impl_ConjugationQuandle list hp)).mono (by rintro r ⟨_, _, ⟨rfl, rfl⟩, rfl⟩; rfl)

def wp_spec_l01Grow (n : Int) (start : List Int) (list : List (List Int)) (Q : List (List Int) → Prop) : Prop :=
 (((start.length : Int) = n →
 ((list.length : Int) + (([start]).length : Int) ≤ 1000000000) ∧
 Q (list ++ ([start]))) ∧
 (¬ ((start.length : Int) = n) →
 ∃ (H1 : Int → List (List Int) → Prop) (m1 : Int → List (List Int) → Nat),
 H1 0 list ∧
 ∀ (v7_1 : Int) (o801_1 : List (List Int)), H1 v7_1 o801_1 →
 ( ((v7_1 < n →
 (small start) ∧
 (((start.contains v7_1) = false →
 (small start) ∧
 ((start.length : Int) + (([v7_1]).length : Int) ≤ 1000000000) ∧
 ((n - ((start ++ ([v7_1])).length : Int)).toNat < (n - (start.length : Int)).toNat) ∧
 (((start ++ ([v7_1])).length : Int) ≤ n ∧ n ≤ 8 ∧ ((o801_1 ++ growL n (start ++ ([v7_1]))).length : Int) ≤ 100000000) ∧
 (InI (v7_1 + 1)) ∧
 (H1 (v7_1 + 1) (o801_1 ++ growL n (start ++ ([v7_1]))) ∧ m1 (v7_1 + 1) (o801_1 ++ growL n (start ++ ([v7_1]))) < m1 v7_1 o801_1)) ∧
 ((start.contains v7_1) = true →
 (InI (v7_1 + 1)) ∧
 (H1 (v7_1 + 1) o801_1 ∧ m1 (v7_1 + 1) o801_1 < m1 v7_1 o801_1)))) ∧
 (¬ (v7_1 < n) →
 Q o801_1)))))

def wp_spec_l01Perms (n : Int) (Q : List (List Int) → Prop) : Prop :=
 ((([] : List Int).length : Int) ≤ n ∧ n ≤ 8 ∧ ((([] : List (List Int)) ++ growL n ([] : List Int)).length : Int) ≤ 100000000) ∧
 Q (([] : List (List Int)) ++ growL n ([] : List Int))

theorem p_spec_l01Grow (n : Int) (start : List Int) (list : List (List Int)) (hp : (start.length : Int) ≤ n ∧ n ≤ 8 ∧ ((list ++ growL n start).length : Int) ≤ 100000000) : wp_spec_l01Grow n start list (fun y0 => y0 = list ++ growL n start) := by
  obtain ⟨h1, h2, h3⟩ := hp
  refine ⟨fun e => ?_, fun e => ?_⟩
  · rw [growL_end e] at h3 ⊢
    exact ⟨by rw [List.length_append] at h3; omega, rfl⟩
  · have hs : small start := by show (start.length : Int) ≤ _; omega
    have hlt : (start.length : Int) < n := by omega
    refine ⟨fun x o => (0 ≤ x ∧ x ≤ n) ∧ o = list ++ growT n start x, fun x _ => (n - x).toNat, ⟨⟨by omega, by omega⟩, by rw [growT_zero, List.append_nil]⟩, ?_⟩
    rintro x o ⟨⟨x0, x1⟩, rfl⟩
    dsimp only
    refine ⟨fun xn => ⟨hs, fun hc => ?_, fun hc => ?_⟩, fun xn => by rw [growL_step hlt, show x = n by omega]⟩
    · refine ⟨hs, by rw [List.length_singleton]; omega, by simp; omega, ⟨by simp; omega, h2, ?_⟩, ⟨by omega, by omega⟩, ⟨⟨by omega, by omega⟩, ?_⟩, by omega⟩
      · have := growT_len (n := n) (s := start) (x := x + 1) (y := n) ⟨by omega, by omega⟩
        rw [growT_succ x0, hc] at this
        rw [growL_step hlt] at h3
        simp at this h3 ⊢; omega
      · rw [growT_succ x0, hc]; simp
    · exact ⟨⟨by omega, by omega⟩, ⟨⟨by omega, by omega⟩, by rw [growT_succ x0, hc]; simp⟩, by omega⟩
theorem p_spec_l01Perms (n : Int) (hp : 0 ≤ n ∧ n ≤ 8) : wp_spec_l01Perms n (fun y0 => y0 = growL n []) := by
  have := growL_len8 hp
  refine ⟨⟨by simp; omega, hp.2, by rw [List.nil_append]; omega⟩, by rw [List.nil_append]⟩
set_option maxRecDepth 100000 in
set_option maxHeartbeats 4000000 in
theorem w_spec_l01Grow (n : Int) (start : List Int) (list : List (List Int)) (Q : List (List Int) → Prop) (hrec : ∀ (n' : Int) (start' : List Int) (list' : List (List Int)), (n' - (start'.length : Int)).toNat < (n - (start.length : Int)).toNat → ((start'.length : Int) ≤ n' ∧ n' ≤ 8 ∧ ((list' ++ growL n' start').length : Int) ≤ 100000000) → AM Try.prog 87 [ci n', .own (ints start'), .own (orows list')] (fun R_ O_ => R_ = .own (orows (list' ++ growL n' start')) ∧ O_ = [ci n', .hole, .hole])) (h : wp_spec_l01Grow n start list Q) : AM Try.prog 87 [ci n, .own (ints start), .own (orows list)] (fun R_ O_ => ∃ y0, Q y0 ∧ R_ = .own (orows y0) ∧ O_ = [ci n, .hole, .hole]) := by
  refine am_enter (n := 34) (m := 3) Try.func87 rfl (by rfl) rfl rfl (Nat.le_of_ble_eq_true rfl) [800, 801] rfl ?_
  unfold wp_spec_l01Grow at h
  refine aw_gh (gh_to (n := 34) (σ' := [(800, ⟨ints start, []⟩), (801, ⟨orows list, []⟩)]) (env' := [(0, .c (ci n)), (1, .ref 800), (2, .ref 801), (34, .c (ci n))]) rfl rfl ⟨rfl, rfl, rfl, rfl, trivial⟩) ?_
  refine aw_seq ?_
  refine aw_gh (gh_to (n := 34) (σ' := [(800, ⟨ints start, []⟩), (801, ⟨orows list, []⟩)]) (env' := [(0, .c (ci n)), (1, .ref 800), (2, .ref 801), (34, .c (ci n))]) rfl rfl ⟨rfl, rfl, rfl, rfl, trivial⟩) ?_
  refine aw_region ?_
  refine run_s (ss_assign rfl) rfl ?_
  refine run_nil ?_
  refine aw_seq ?_
  refine aw_seq ?_
  refine aw_region ?_
  refine run_s (ss_move rfl) rfl ?_
  refine run_s (ss_lenR (f := ci) rfl rfl) rfl ?_
  refine run_s (ss_move rfl) rfl ?_
  refine run_s (ss_eql rfl rfl) rfl ?_
  refine run_nil ?_
  refine aw_cond rfl (fun q1 => ?_) (fun q1 => ?_)
  ·replace h := h.1 (of_decide_eq_true q1)
   refine aw_seq ?_
   refine aw_region ?_
   refine run_s (ss_move rfl) rfl ?_
   refine run_s (ss_move rfl) rfl ?_
   refine run_w (ws_buildSlice (id := 14) (ps := [(0, .tmp 13)]) rfl rfl (Nat.le_of_ble_eq_true rfl) rfl ⟨rfl, ?_⟩)
   refine run_gh (gh_fill (id := 14) (id2 := 800) (j := 0) rfl rfl (Nat.le_of_ble_eq_true rfl) rfl rfl rfl) ?_
   obtain ⟨q2, h⟩ := h
   refine run_w (ws_app1 (fun r => C.own (ints r)) (l := list) (m := [start]) rfl rfl rfl rfl rfl (Nat.le_of_ble_eq_true rfl) q2 ⟨rfl, ?_⟩)
   refine run_s (ss_assign rfl) rfl ?_
   refine run_nil ?_
   refine aw_ret ?_
   exact retAM_mk (retv1 rfl (rv_tmp rfl)) rfl rfl rfl ⟨_, h, rfl, rfl⟩
  ·replace h := h.2 (of_decide_eq_false q1)
   refine aw_skip ?_
   refine aw_seq ?_
   refine aw_seq ?_
   refine aw_gh (gh_to (n := 34) (σ' := [(800, ⟨ints start, []⟩), (801, ⟨orows list, []⟩)]) (env' := [(0, .c (ci n)), (1, .ref 800), (2, .ref 801), (34, .c (ci n))]) rfl rfl ⟨rfl, rfl, rfl, rfl, trivial⟩) ?_
   refine aw_region ?_
   refine run_s (ss_assign rfl) rfl ?_
   refine run_nil ?_
   refine aw_block ?_
   obtain ⟨H1, m1, q3, h⟩ := h
   refine aw_loop2 (fun (v7_1 : Int) (o801_1 : List (List Int)) => ⟨[(800, ⟨ints start, []⟩), (801, ⟨orows o801_1, []⟩)], [(0, .c (ci n)), (1, .ref 800), (2, .ref 801), (7, .c (ci v7_1)), (34, .c (ci n))], 34⟩) H1 m1 ⟨0, list, ghe_to (n := 34) rfl rfl ⟨rfl, rfl, rfl, rfl, rfl, trivial⟩, q3⟩ ?_
   rintro v7_1 o801_1 q3
   replace h := h v7_1 o801_1 q3
   refine aw_seq ?_
   refine aw_seq ?_
   refine aw_region ?_
   refine run_s (ss_move rfl) rfl ?_
   refine run_s (ss_move rfl) rfl ?_
   refine run_s (ss_lss rfl rfl) rfl ?_
   refine run_nil ?_
   refine aw_cond rfl (fun q4 => ?_) (fun q4 => ?_)
   ·replace h := h.1 (of_decide_eq_true q4)
    refine aw_skip ?_
    refine aw_seq ?_
    refine aw_block ?_
    refine aw_seq ?_
    refine aw_region ?_
    refine run_s (ss_move rfl) rfl ?_
    refine run_s (ss_move rfl) rfl ?_
    obtain ⟨q5, h⟩ := h
    refine run_w (ws_callR (xs := [.tmp 21, .tmp 22]) (cs := [.own (ints start), ci v7_1]) (ids := []) rfl (.inr ⟨rfl, rfl⟩) rfl rfl (fz_cons (fz_own (fz_map (fun _ => rfl) _)) (fz_cons rfl fz_nil)) (c_spec_l01Has start v7_1 q5) rfl ?_ )
    rintro _ rfl
    refine ⟨rfl, rfl, ?_⟩
    refine run_s (ss_not rfl) rfl ?_
    refine run_nil ?_
    refine aw_cond rfl (fun q7 => ?_) (fun q7 => ?_)
    ·replace h := h.1 ((bnot_t q7))
     refine aw_gh (gh_to (n := 34) (σ' := [(800, ⟨ints start, []⟩), (801, ⟨orows o801_1, []⟩)]) (env' := [(0, .c (ci n)), (1, .ref 800), (2, .ref 801), (7, .c (ci v7_1)), (34, .c (ci n))]) rfl rfl ⟨rfl, rfl, rfl, rfl, rfl, trivial⟩) ?_
     refine aw_region ?_
     refine run_s (ss_move rfl) rfl ?_
     refine run_s (ss_move rfl) rfl ?_
     obtain ⟨q8, h⟩ := h
     refine run_w (ws_callR (xs := [.tmp 26]) (cs := [.own (ints start)]) (ids := [27]) rfl (.inr ⟨rfl, rfl⟩) rfl rfl (fz_cons (fz_own (fz_map (fun _ => rfl) _)) fz_nil) (c_spec_l01Own start q8) rfl ?_ )
     rintro _ rfl
     refine ⟨(slf_own (slfL_map (f := ci) (fun _ => rfl) _)), rfl, ?_⟩
     refine run_s (ss_move rfl) rfl ?_
     refine run_w (ws_buildSlice (id := 29) (ps := [(0, .tmp 28)]) rfl rfl (Nat.le_of_ble_eq_true rfl) rfl ⟨rfl, ?_⟩)
     obtain ⟨q10, h⟩ := h
     refine run_w (ws_app1 ci (l := start) (m := [v7_1]) rfl rfl rfl rfl rfl (Nat.le_of_ble_eq_true rfl) q10 ⟨rfl, ?_⟩)
     refine run_s (ss_move rfl) rfl ?_
     obtain ⟨q11, h⟩ := h
     obtain ⟨q12, h⟩ := h
     refine run_w (ws_callC (xs := [.tmp 25, .tmp 30, .tmp 31]) (cs := [ci n, .own (ints (start ++ ([v7_1]))), .own (orows o801_1)]) (ids := [32]) rfl rfl rfl rfl (hrec n (start ++ ([v7_1])) o801_1 q11 q12) rfl ?_ )
     rintro _ _ ⟨rfl, rfl⟩
     refine ⟨rfl, ?_⟩
     refine run_s (ss_assign rfl) rfl ?_
     refine run_nil ?_
     refine aw_gh (gh_to (n := 34) (σ' := [(32, ⟨orows (o801_1 ++ growL n (start ++ ([v7_1]))), []⟩), (800, ⟨ints start, []⟩)]) (env' := [(0, .c (ci n)), (1, .ref 800), (2, .ref 32), (7, .c (ci v7_1)), (34, .c (ci n))]) rfl rfl ⟨rfl, rfl, rfl, rfl, rfl, trivial⟩) ?_
     refine aw_region ?_
     refine run_s (ss_move rfl) rfl ?_
     obtain ⟨q14, h⟩ := h
     refine run_s (ss_add rfl rfl q14) rfl ?_
     refine run_s (ss_assign rfl) rfl ?_
     refine run_nil ?_
     exact ⟨v7_1 + 1, o801_1 ++ growL n (start ++ ([v7_1])), ghe_step (gh_ren (a := 32) (b := 801) rfl rfl) (ghe_step (gh_to (n := 34) (σ' := [(801, ⟨orows (o801_1 ++ growL n (start ++ ([v7_1]))), []⟩), (800, ⟨ints start, []⟩)]) (env' := [(0, .c (ci n)), (1, .ref 800), (2, .ref 801), (7, .c (ci (v7_1 + 1))), (34, .c (ci n))]) rfl rfl ⟨rfl, rfl, rfl, rfl, rfl, trivial⟩) (ghe_step (gh_sort _) (ghe_to (n := 34) rfl rfl ⟨rfl, rfl, rfl, rfl, rfl, trivial⟩))), h.1, h.2⟩
    ·replace h := h.2 ((bnot_f q7))
     refine aw_skip ?_
     refine aw_gh (gh_to (n := 34) (σ' := [(800, ⟨ints start, []⟩), (801, ⟨orows o801_1, []⟩)]) (env' := [(0, .c (ci n)), (1, .ref 800), (2, .ref 801), (7, .c (ci v7_1)), (34, .c (ci n))]) rfl rfl ⟨rfl, rfl, rfl, rfl, rfl, trivial⟩) ?_
     refine aw_region ?_
     refine run_s (ss_move rfl) rfl ?_
     obtain ⟨q15, h⟩ := h
     refine run_s (ss_add rfl rfl q15) rfl ?_
     refine run_s (ss_assign rfl) rfl ?_
     refine run_nil ?_
     exact ⟨v7_1 + 1, o801_1, ghe_to (n := 34) rfl rfl ⟨rfl, rfl, rfl, rfl, rfl, trivial⟩, h.1, h.2⟩
   ·replace h := h.2 (of_decide_eq_false q4)
    refine aw_exit ?_
    refine aw_seq ?_
    refine aw_gh (gh_to (n := 34) (σ' := [(800, ⟨ints start, []⟩), (801, ⟨orows o801_1, []⟩)]) (env' := [(2, .ref 801), (34, .c (ci n))]) rfl rfl ⟨rfl, rfl, trivial⟩) ?_
    refine aw_region ?_
    refine run_s (ss_move rfl) rfl ?_
    refine run_s (ss_assign rfl) rfl ?_
    refine run_nil ?_
    refine aw_ret ?_
    exact retAM_mk (retv1 rfl (rv_tmp rfl)) rfl rfl rfl ⟨_, h, rfl, rfl⟩

theorem c_spec_l01Grow : ∀ (n : Int) (start : List Int) (list : List (List Int)), ((start.length : Int) ≤ n ∧ n ≤ 8 ∧ ((list ++ growL n start).length : Int) ≤ 100000000) → AM Try.prog 87 [ci n, .own (ints start), .own (orows list)] (fun R_ O_ => R_ = .own (orows (list ++ growL n start)) ∧ O_ = [ci n, .hole, .hole]) := by
  have key : ∀ (k_ : Nat) (n : Int) (start : List Int) (list : List (List Int)), (n - (start.length : Int)).toNat ≤ k_ → ((start.length : Int) ≤ n ∧ n ≤ 8 ∧ ((list ++ growL n start).length : Int) ≤ 100000000) → AM Try.prog 87 [ci n, .own (ints start), .own (orows list)] (fun R_ O_ => R_ = .own (orows (list ++ growL n start)) ∧ O_ = [ci n, .hole, .hole]) := by
    intro k_; induction k_ with
    | zero => intro n start list hn hp; exact (w_spec_l01Grow n start list (fun y0 => y0 = list ++ growL n start) (fun _ _ _ hlt => absurd hlt (by omega)) (p_spec_l01Grow n start list hp)).mono (by rintro r o ⟨_, rfl, rfl, rfl⟩; exact ⟨rfl, rfl⟩)
    | succ k_ ih => intro n start list hn hp; exact (w_spec_l01Grow n start list (fun y0 => y0 = list ++ growL n start) (fun n' start' list' hlt => ih n' start' list' (by omega)) (p_spec_l01Grow n start list hp)).mono (by rintro r o ⟨_, rfl, rfl, rfl⟩; exact ⟨rfl, rfl⟩)
  exact fun n start list => key _ n start list (Nat.le_refl _)

set_option maxRecDepth 100000 in
set_option maxHeartbeats 4000000 in
theorem w_spec_l01Perms (n : Int) (Q : List (List Int) → Prop) (h : wp_spec_l01Perms n Q) : AF Try.prog 47 [ci n] (fun R_ => ∃ y0, Q y0 ∧ R_ = .own (orows y0)) := by
  refine AF.ofWQ (af_enter (n := 7) Try.func47 rfl (by rfl) rfl (Nat.le_of_ble_eq_true rfl) ?_)
  unfold wp_spec_l01Perms at h
  refine aw_seq ?_
  refine aw_gh (gh_to (n := 7) (σ' := []) (env' := [(0, .c (ci n))]) rfl rfl ⟨rfl, trivial⟩) ?_
  refine aw_region ?_
  refine run_s (ss_assign rfl) rfl ?_
  refine run_nil ?_
  refine aw_seq ?_
  refine aw_region ?_
  refine run_s (ss_move rfl) rfl ?_
  refine run_w (ws_buildSlice (id := 4) (ps := []) rfl rfl (Nat.le_of_ble_eq_true rfl) rfl ⟨rfl, ?_⟩)
  refine run_w (ws_buildSlice (id := 5) (ps := []) rfl rfl (Nat.le_of_ble_eq_true rfl) rfl ⟨rfl, ?_⟩)
  obtain ⟨q1, h⟩ := h
  refine run_w (ws_callC (xs := [.tmp 3, .tmp 4, .tmp 5]) (cs := [ci n, .own (ints ([] : List Int)), .own (orows ([] : List (List Int)))]) (ids := [6]) rfl rfl rfl rfl (c_spec_l01Grow n ([] : List Int) ([] : List (List Int)) q1) rfl ?_ )
  rintro _ _ ⟨rfl, rfl⟩
  refine ⟨rfl, ?_⟩
  refine run_s (ss_assign rfl) rfl ?_
  refine run_nil ?_
  refine aw_ret ?_
  exact retAF_mk (retv1 rfl (rv_tmp rfl)) rfl rfl ⟨_, (cle_refl _), _, h, rfl⟩

theorem c_spec_l01Perms (n : Int) (hp : 0 ≤ n ∧ n ≤ 8) : AF Try.prog 47 [ci n] (fun R_ => R_ = .own (orows (growL n []))) :=
  (w_spec_l01Perms n (fun y0 => y0 = growL n []) (p_spec_l01Perms n hp)).mono (by rintro r ⟨_, rfl, rfl⟩; rfl)

def wp_cmp_isNaN_int64_ (x : Int) (Q : Bool → Prop) : Prop :=
 Q (!(decide (x = x)))

def wp_cmp_Compare_int64_ (x : Int) (y : Int) (Q : Int → Prop) : Prop :=
 ((x < y →
 Q (-1)) ∧
 (¬ (x < y) →
 ((y < x →
 Q 1) ∧
 (¬ (y < x) →
 Q 0))))

def wp_slices_Compare___int64_int64_ (s1 : List Int) (s2 : List Int) (Q : Int → Prop) : Prop :=
 ∃ (H1 : Int → Prop) (m1 : Int → Nat),
 H1 0 ∧
 ∀ (v11_1 : Int), H1 v11_1 →
 ( ((v11_1 < (s1.length : Int) →
 (0 ≤ v11_1 ∧ v11_1 < (s1.length : Int)) ∧
 (((s2.length : Int) ≤ v11_1 →
 Q 1) ∧
 (¬ ((s2.length : Int) ≤ v11_1) →
 (0 ≤ v11_1 ∧ v11_1 < (s2.length : Int)) ∧
 ((¬ (cmp1 (el s1 v11_1) (el s2 v11_1) = 0) →
 Q (cmp1 (el s1 v11_1) (el s2 v11_1))) ∧
 (cmp1 (el s1 v11_1) (el s2 v11_1) = 0 →
 (InI (v11_1 + 1)) ∧
 (H1 (v11_1 + 1) ∧ m1 (v11_1 + 1) < m1 v11_1)))))) ∧
 (¬ (v11_1 < (s1.length : Int)) →
 (((s1.length : Int) < (s2.length : Int) →
 Q (-1)) ∧
 (¬ ((s1.length : Int) < (s2.length : Int)) →
 Q 0)))))

def wp_spec_l01Less (a : List Int) (b : List Int) (Q : Bool → Prop) : Prop :=
 ∃ (H1 : Int → Prop) (m1 : Int → Nat),
 H1 0 ∧
 ∀ (v5_1 : Int), H1 v5_1 →
 ( ((v5_1 < (a.length : Int) →
 ((v5_1 < (b.length : Int) →
 (0 ≤ v5_1 ∧ v5_1 < (a.length : Int)) ∧
 (0 ≤ v5_1 ∧ v5_1 < (b.length : Int)) ∧
 ((¬ (el a v5_1 = el b v5_1) →
 (0 ≤ v5_1 ∧ v5_1 < (a.length : Int)) ∧
 (0 ≤ v5_1 ∧ v5_1 < (b.length : Int)) ∧
 Q (decide (el a v5_1 < el b v5_1))) ∧
 (el a v5_1 = el b v5_1 →
 (InI (v5_1 + 1)) ∧
 (H1 (v5_1 + 1) ∧ m1 (v5_1 + 1) < m1 v5_1)))) ∧
 (¬ (v5_1 < (b.length : Int)) →
 Q (decide ((a.length : Int) < (b.length : Int)))))) ∧
 (¬ (v5_1 < (a.length : Int)) →
 Q (decide ((a.length : Int) < (b.length : Int))))))

def wp_impl_nextPermutation (p : List Int) (Q : Bool → List Int → Prop) : Prop :=
 (InI ((p.length : Int) - 2)) ∧
 ∃ (H1 : Int → Prop) (m1 : Int → Nat),
 H1 ((p.length : Int) - 2) ∧
 ∀ (v3_1 : Int), H1 v3_1 →
 ( ((0 ≤ v3_1 →
 (0 ≤ v3_1 ∧ v3_1 < (p.length : Int)) ∧
 (InI (v3_1 + 1)) ∧
 (0 ≤ v3_1 + 1 ∧ v3_1 + 1 < (p.length : Int)) ∧
 ((el p (v3_1 + 1) < el p v3_1 →
 (InI (v3_1 - 1)) ∧
 (H1 (v3_1 - 1) ∧ m1 (v3_1 - 1) < m1 v3_1)) ∧
 (¬ (el p (v3_1 + 1) < el p v3_1) →
 ((v3_1 < 0 →
 Q false p) ∧
 (¬ (v3_1 < 0) →
 (InI ((p.length : Int) - 1)) ∧
 ∃ (H2 : Int → Prop) (m2 : Int → Nat),
 H2 ((p.length : Int) - 1) ∧
 ∀ (v4_2 : Int), H2 v4_2 →
 ( (0 ≤ v4_2 ∧ v4_2 < (p.length : Int)) ∧
 (0 ≤ v3_1 ∧ v3_1 < (p.length : Int)) ∧
 ((el p v4_2 < el p v3_1 →
 (InI (v4_2 - 1)) ∧
 (H2 (v4_2 - 1) ∧ m2 (v4_2 - 1) < m2 v4_2)) ∧
 (¬ (el p v4_2 < el p v3_1) →
 (0 ≤ v4_2 ∧ v4_2 < (p.length : Int)) ∧
 (0 ≤ v3_1 ∧ v3_1 < (p.length : Int)) ∧
 (0 ≤ v3_1 ∧ v3_1 < (p.length : Int)) ∧
 (0 ≤ v4_2 ∧ v4_2 < ((se p v3_1 (el p v4_2)).length : Int)) ∧
 (InI (v3_1 + 1)) ∧
 (0 ≤ v3_1 + 1 ∧ v3_1 + 1 ≤ ((se (se p v3_1 (el p v4_2)) v4_2 (el p v3_1)).length : Int)) ∧
 (small (se (se p v3_1 (el p v4_2)) v4_2 (el p v3_1))) ∧
 Q true ((se (se p v3_1 (el p v4_2)) v4_2 (el p v3_1)).take (v3_1 + 1).toNat ++ List.reverse ((se (se p v3_1 (el p v4_2)) v4_2 (el p v3_1)).drop (v3_1 + 1).toNat)))))))))) ∧
 (¬ (0 ≤ v3_1) →
 ((v3_1 < 0 →
 Q false p) ∧
 (¬ (v3_1 < 0) →
 (InI ((p.length : Int) - 1)) ∧
 ∃ (H3 : Int → Prop) (m3 : Int → Nat),
 H3 ((p.length : Int) - 1) ∧
 ∀ (v4_2 : Int), H3 v4_2 →
 ( (0 ≤ v4_2 ∧ v4_2 < (p.length : Int)) ∧
 (0 ≤ v3_1 ∧ v3_1 < (p.length : Int)) ∧
 ((el p v4_2 < el p v3_1 →
 (InI (v4_2 - 1)) ∧
 (H3 (v4_2 - 1) ∧ m3 (v4_2 - 1) < m3 v4_2)) ∧
 (¬ (el p v4_2 < el p v3_1) →
 (0 ≤ v4_2 ∧ v4_2 < (p.length : Int)) ∧
 (0 ≤ v3_1 ∧ v3_1 < (p.length : Int)) ∧
 (0 ≤ v3_1 ∧ v3_1 < (p.length : Int)) ∧
 (0 ≤ v4_2 ∧ v4_2 < ((se p v3_1 (el p v4_2)).length : Int)) ∧
 (InI (v3_1 + 1)) ∧
 (0 ≤ v3_1 + 1 ∧ v3_1 + 1 ≤ ((se (se p v3_1 (el p v4_2)) v4_2 (el p v3_1)).length : Int)) ∧
 (small (se (se p v3_1 (el p v4_2)) v4_2 (el p v3_1))) ∧
 Q true ((se (se p v3_1 (el p v4_2)) v4_2 (el p v3_1)).take (v3_1 + 1).toNat ++ List.reverse ((se (se p v3_1 (el p v4_2)) v4_2 (el p v3_1)).drop (v3_1 + 1).toNat))))))))))

theorem p_cmp_isNaN_int64_ (x : Int) : wp_cmp_isNaN_int64_ x (fun y0 => y0 = false) := by unfold wp_cmp_isNaN_int64_; simp
theorem p_cmp_Compare_int64_ (x y : Int) : wp_cmp_Compare_int64_ x y (fun y0 => y0 = cmp1 x y) := by
  unfold wp_cmp_Compare_int64_ cmp1
  exact ⟨fun h => by rw [if_pos h], fun h => ⟨fun g => by rw [if_neg h, if_pos g], fun g => by rw [if_neg h, if_neg g]⟩⟩
theorem p_slices_Compare___int64_int64_ (s1 s2 : List Int) (hp : small s1 ∧ small s2) : wp_slices_Compare___int64_int64_ s1 s2 (fun y0 => y0 = cmpG cmp1 s1 s2) := by
  have h1 : (s1.length : Int) ≤ 1000000000 := hp.1
  refine ⟨fun i => (0 ≤ i ∧ i ≤ (s1.length : Int) ∧ i ≤ (s2.length : Int)) ∧ Upto i fun j => cmp1 (el s1 j) (el s2 j) = 0, fun i => ((s1.length : Int) - i).toNat, ⟨⟨by omega, by omega, by omega⟩, upto0⟩, ?_⟩
  rintro i ⟨⟨i0, i1, i2⟩, hu⟩
  dsimp only
  refine ⟨fun hlt => ⟨⟨i0, hlt⟩, fun g => (cmpG_long hu ⟨i0, hlt⟩ (by omega)).symm, fun g => ⟨⟨i0, by omega⟩, fun h => (cmpG_ne hu ⟨i0, hlt⟩ (by omega) h).symm, fun h => ⟨⟨by omega, by omega⟩, ⟨⟨by omega, by omega, by omega⟩, upto1 hu h⟩, by omega⟩⟩⟩, fun hge => ⟨fun g => (cmpG_short hu ⟨i0, by omega⟩ (by omega)).symm, fun g => (cmpG_same hu ⟨i0, by omega⟩ (by omega)).symm⟩⟩
theorem p_spec_l01Less (a b : List Int) (hp : small a ∧ small b) : wp_spec_l01Less a b (fun y0 => y0 = decide (cmpG cmp1 a b < 0)) := by
  have h1 : (a.length : Int) ≤ 1000000000 := hp.1
  refine ⟨fun i => (0 ≤ i ∧ i ≤ (a.length : Int) ∧ i ≤ (b.length : Int)) ∧ Upto i fun j => cmp1 (el a j) (el b j) = 0, fun i => ((a.length : Int) - i).toNat, ⟨⟨by omega, by omega, by omega⟩, upto0⟩, ?_⟩
  rintro i ⟨⟨i0, i1, i2⟩, hu⟩
  have fin : ¬ (i < (a.length : Int) ∧ i < (b.length : Int)) → decide ((a.length : Int) < (b.length : Int)) = decide (cmpG cmp1 a b < 0) := fun g => by
    by_cases ha : i < (a.length : Int)
    · rw [cmpG_long hu ⟨i0, ha⟩ (by omega)]; simp; omega
    · by_cases hb : i < (b.length : Int)
      · rw [cmpG_short hu ⟨i0, by omega⟩ hb]; simp; omega
      · rw [cmpG_same hu ⟨i0, by omega⟩ (by omega)]; simp; omega
  dsimp only
  refine ⟨fun hlt => ⟨fun hb => ⟨⟨i0, hlt⟩, ⟨i0, hb⟩, fun h => ⟨⟨i0, hlt⟩, ⟨i0, hb⟩, ?_⟩, fun h => ⟨⟨by omega, by omega⟩, ⟨⟨by omega, by omega, by omega⟩, upto1 hu (cmp1_zero.2 h)⟩, by omega⟩⟩, fun hb => fin fun g => hb g.2⟩, fun hge => fin fun g => hge g.1⟩
  rw [cmpG_ne hu ⟨i0, hlt⟩ hb fun g => h (cmp1_zero.1 g)]
  unfold cmp1
  split
  · simp [*]
  · split <;> simp [*]
theorem p_impl_nextPermutation (p : List Int) (hp : isPerm p = true ∧ (p.length : Int) ≤ 12) : wp_impl_nextPermutation p (fun y0 w0 => (y0 = true ∧ ∃ i_ k_, NxI p i_ k_ ∧ w0 = nxtL p i_ k_) ∨ (y0 = false ∧ w0 = p ∧ ∀ j_ : Int, -1 < j_ → j_ + 1 < (p.length : Int) → el p (j_ + 1) < el p j_)) := by
  obtain ⟨hP, hl⟩ := hp
  refine ⟨⟨by omega, by omega⟩, fun i => (-2 ≤ i ∧ i ≤ (p.length : Int) - 2) ∧ (i = -2 → (p.length : Int) = 0) ∧ ∀ j, i < j → 0 ≤ j → j + 1 < (p.length : Int) → el p (j + 1) < el p j, fun i => (i + 2).toNat, ⟨⟨by omega, by omega⟩, fun _ => by omega, fun j j0 _ j1 => by omega⟩, ?_⟩
  rintro i ⟨⟨i0, i1⟩, i2, dn⟩
  have last : ¬ (0 ≤ i) → (false = true ∧ ∃ i_ k_, NxI p i_ k_ ∧ p = nxtL p i_ k_) ∨ (false = false ∧ p = p ∧ ∀ j_ : Int, -1 < j_ → j_ + 1 < (p.length : Int) → el p (j_ + 1) < el p j_) := fun g => .inr ⟨rfl, rfl, fun j j0 j1 => dn j (by omega) (by omega) j1⟩
  dsimp only
  refine ⟨fun h0 => ⟨⟨h0, by omega⟩, ⟨by omega, by omega⟩, ⟨by omega, by omega⟩, fun hc => ⟨⟨by omega, by omega⟩, ⟨⟨by omega, by omega⟩, fun e => by omega, fun j j0 j1 j2 => ?_⟩, by omega⟩, fun hc => ⟨fun g => by omega, fun _ => ⟨⟨by omega, by omega⟩, ?_⟩⟩⟩, fun h0 => ⟨fun _ => last h0, fun g => by omega⟩⟩
  · by_cases e : j = i
    · subst e; exact hc
    · exact dn j (by omega) j1 j2
  · have hup : el p i < el p (i + 1) := by
      have : el p i ≠ el p (i + 1) := fun e => by have := isPerm_inj hP (i := i) (j := i + 1) ⟨h0, by omega⟩ ⟨by omega, by omega⟩ e; omega
      omega
    refine ⟨fun k => (i < k ∧ k < (p.length : Int)) ∧ ∀ j, k < j → j < (p.length : Int) → el p j < el p i, fun k => k.toNat, ⟨⟨by omega, by omega⟩, fun j j0 j1 => by omega⟩, ?_⟩
    rintro k ⟨⟨k0, k1⟩, kd⟩
    dsimp only
    refine ⟨⟨by omega, k1⟩, ⟨h0, by omega⟩, fun hk => ⟨⟨by omega, by omega⟩, ⟨⟨?_, by omega⟩, fun j j0 j1 => ?_⟩, by omega⟩, fun hk => ⟨⟨by omega, k1⟩, ⟨h0, by omega⟩, ⟨h0, by omega⟩, ⟨by omega, by simp; omega⟩, ⟨by omega, by omega⟩, ⟨by omega, by simp; omega⟩, by show (_ : Int) ≤ _; simp; omega, .inl ⟨rfl, i, k, ⟨⟨h0, by omega⟩, hup, fun j j0 j1 => dn j j0 (by omega) j1, ⟨k0, k1⟩, ?_, kd⟩, rfl⟩⟩⟩
    · rcases Int.lt_or_le i (k - 1) with g | g
      · exact g
      · rw [show k = i + 1 by omega] at hk; omega
    · by_cases e : j = k
      · subst e; exact hk
      · exact kd j (by omega) j1
    · have : el p k ≠ el p i := fun e => by have := isPerm_inj hP (i := k) (j := i) ⟨by omega, by omega⟩ ⟨h0, by omega⟩ e; omega
      omega

set_option maxRecDepth 100000 in
set_option maxHeartbeats 4000000 in
theorem w_cmp_isNaN_int64_ (x : Int) (Q : Bool → Prop) (h : wp_cmp_isNaN_int64_ x Q) : AF Try.prog 123 [ci x] (fun R_ => ∃ y0, Q y0 ∧ R_ = cb y0) := by
  refine AF.ofWQ (af_enter (n := 6) Try.func123 rfl (by rfl) rfl (Nat.le_of_ble_eq_true rfl) ?_)
  unfold wp_cmp_isNaN_int64_ at h
  refine aw_seq ?_
  refine aw_gh (gh_to (n := 6) (σ' := []) (env' := [(0, .c (ci x))]) rfl rfl ⟨rfl, trivial⟩) ?_
  refine aw_region ?_
  refine run_s (ss_assign rfl) rfl ?_
  refine run_nil ?_
  refine aw_seq ?_
  refine aw_region ?_
  refine run_s (ss_move rfl) rfl ?_
  refine run_s (ss_move rfl) rfl ?_
  refine run_s (ss_neq rfl rfl) rfl ?_
  refine run_s (ss_assign rfl) rfl ?_
  refine run_nil ?_
  refine aw_ret ?_
  exact retAF_mk (retv1 rfl (rv_tmp rfl)) rfl rfl ⟨_, (cle_refl _), _, h, rfl⟩

theorem c_cmp_isNaN_int64_ (x : Int)  : AF Try.prog 123 [ci x] (fun R_ => R_ = cb false) :=
  (w_cmp_isNaN_int64_ x (fun y0 => y0 = false) (p_cmp_isNaN_int64_ x)).mono (by rintro r ⟨_, rfl, rfl⟩; rfl)

set_option maxRecDepth 100000 in
set_option maxHeartbeats 4000000 in
theorem w_cmp_Compare_int64_ (x : Int) (y : Int) (Q : Int → Prop) (h : wp_cmp_Compare_int64_ x y Q) : AF Try.prog 100 [ci x, ci y] (fun R_ => ∃ y0, Q y0 ∧ R_ = ci y0) := by
  refine AF.ofWQ (af_enter (n := 20) Try.func100 rfl (by rfl) rfl (Nat.le_of_ble_eq_true rfl) ?_)
  unfold wp_cmp_Compare_int64_ at h
  refine aw_seq ?_
  refine aw_gh (gh_to (n := 20) (σ' := []) (env' := [(0, .c (ci x)), (1, .c (ci y))]) rfl rfl ⟨rfl, rfl, trivial⟩) ?_
  refine aw_region ?_
  refine run_s (ss_assign rfl) rfl ?_
  refine run_nil ?_
  refine aw_seq ?_
  refine aw_region ?_
  refine run_s (ss_move rfl) rfl ?_
  refine run_w (ws_call (xs := [.tmp 7]) (ids := []) rfl rfl rfl rfl (c_cmp_isNaN_int64_ x) rfl ?_ )
  rintro _ rfl
  refine ⟨rfl, ?_⟩
  refine run_s (ss_assign rfl) rfl ?_
  refine run_nil ?_
  refine aw_seq ?_
  refine aw_region ?_
  refine run_s (ss_move rfl) rfl ?_
  refine run_w (ws_call (xs := [.tmp 9]) (ids := []) rfl rfl rfl rfl (c_cmp_isNaN_int64_ y) rfl ?_ )
  rintro _ rfl
  refine ⟨rfl, ?_⟩
  refine run_s (ss_assign rfl) rfl ?_
  refine run_nil ?_
  refine aw_seq ?_
  refine aw_seq ?_
  refine aw_gh (gh_to (n := 20) (σ' := []) (env' := [(0, .c (ci x)), (1, .c (ci y)), (5, .c (cb false)), (6, .c (cb false))]) rfl rfl ⟨rfl, rfl, rfl, rfl, trivial⟩) ?_
  refine aw_region ?_
  refine run_s (ss_move rfl) rfl ?_
  refine run_nil ?_
  refine aw_cond rfl (fun q3 => ?_) (fun q3 => ?_)
  ·cases q3
  ·skip
   refine aw_skip ?_
   refine aw_seq ?_
   refine aw_seq ?_
   refine aw_region ?_
   refine run_s (ss_move rfl) rfl ?_
   refine run_nil ?_
   refine aw_cond rfl (fun q4 => ?_) (fun q4 => ?_)
   ·cases q4
   ·skip
    refine aw_skip ?_
    refine aw_seq ?_
    refine aw_seq ?_
    refine aw_region ?_
    refine run_s (ss_move rfl) rfl ?_
    refine run_s (ss_move rfl) rfl ?_
    refine run_s (ss_lss rfl rfl) rfl ?_
    refine run_nil ?_
    refine aw_cond rfl (fun q5 => ?_) (fun q5 => ?_)
    ·replace h := h.1 (of_decide_eq_true q5)
     refine aw_seq ?_
     refine aw_gh (gh_to (n := 20) (σ' := []) (env' := []) rfl rfl trivial) ?_
     refine aw_region ?_
     refine run_s (ss_assign rfl) rfl ?_
     refine run_nil ?_
     refine aw_ret ?_
     exact retAF_mk (retv1 rfl (rv_tmp rfl)) rfl rfl ⟨_, (cle_refl _), _, h, rfl⟩
    ·replace h := h.2 (of_decide_eq_false q5)
     refine aw_skip ?_
     refine aw_seq ?_
     refine aw_seq ?_
     refine aw_gh (gh_to (n := 20) (σ' := []) (env' := [(0, .c (ci x)), (1, .c (ci y))]) rfl rfl ⟨rfl, rfl, trivial⟩) ?_
     refine aw_region ?_
     refine run_s (ss_move rfl) rfl ?_
     refine run_s (ss_move rfl) rfl ?_
     refine run_s (ss_gtr rfl rfl) rfl ?_
     refine run_nil ?_
     refine aw_cond rfl (fun q6 => ?_) (fun q6 => ?_)
     ·replace h := h.1 (of_decide_eq_true q6)
      refine aw_seq ?_
      refine aw_gh (gh_to (n := 20) (σ' := []) (env' := []) rfl rfl trivial) ?_
      refine aw_region ?_
      refine run_s (ss_assign rfl) rfl ?_
      refine run_nil ?_
      refine aw_ret ?_
      exact retAF_mk (retv1 rfl (rv_tmp rfl)) rfl rfl ⟨_, (cle_refl _), _, h, rfl⟩
     ·replace h := h.2 (of_decide_eq_false q6)
      refine aw_skip ?_
      refine aw_seq ?_
      refine aw_gh (gh_to (n := 20) (σ' := []) (env' := []) rfl rfl trivial) ?_
      refine aw_region ?_
      refine run_s (ss_assign rfl) rfl ?_
      refine run_nil ?_
      refine aw_ret ?_
      exact retAF_mk (retv1 rfl (rv_tmp rfl)) rfl rfl ⟨_, (cle_refl _), _, h, rfl⟩

theorem c_cmp_Compare_int64_ (x : Int) (y : Int)  : AF Try.prog 100 [ci x, ci y] (fun R_ => R_ = ci (cmp1 x y)) :=
  (w_cmp_Compare_int64_ x y (fun y0 => y0 = cmp1 x y) (p_cmp_Compare_int64_ x y)).mono (by rintro r ⟨_, rfl, rfl⟩; rfl)

set_option maxRecDepth 100000 in
set_option maxHeartbeats 4000000 in
theorem w_slices_Compare___int64_int64_ (s1 : List Int) (s2 : List Int) (Q : Int → Prop) (h : wp_slices_Compare___int64_int64_ s1 s2 Q) : AF Try.prog 57 [.lst (ints s1), .lst (ints s2)] (fun R_ => ∃ y0, Q y0 ∧ R_ = ci y0) := by
  refine AF.ofWQ (af_enter (n := 36) Try.func57 rfl (by rfl) rfl (Nat.le_of_ble_eq_true rfl) ?_)
  unfold wp_slices_Compare___int64_int64_ at h
  refine aw_seq ?_
  refine aw_gh (gh_to (n := 36) (σ' := []) (env' := [(0, .c (.lst (ints s1))), (1, .c (.lst (ints s2)))]) rfl rfl ⟨rfl, rfl, trivial⟩) ?_
  refine aw_region ?_
  refine run_s (ss_assign rfl) rfl ?_
  refine run_nil ?_
  refine aw_seq ?_
  refine aw_seq ?_
  refine aw_region ?_
  refine run_s (ss_move rfl) rfl ?_
  refine run_s (ss_lenL (f := ci) rfl) rfl ?_
  refine run_s (ss_move rfl) rfl ?_
  refine run_nil ?_
  refine aw_block ?_
  obtain ⟨H1, m1, q1, h⟩ := h
  refine aw_loop1 (fun (v11_1 : Int) => ⟨[], [(0, .c (.lst (ints s1))), (1, .c (.lst (ints s2))), (9, .c (.lst (ints s1))), (10, .c (ci (s1.length : Int))), (11, .c (ci v11_1))], 36⟩) H1 m1 ⟨0, ghe_to (n := 36) rfl rfl ⟨rfl, rfl, rfl, rfl, rfl, trivial⟩, q1⟩ ?_
  rintro v11_1 q1
  replace h := h v11_1 q1
  refine aw_seq ?_
  refine aw_region ?_
  refine run_s (ss_lss rfl rfl) rfl ?_
  refine run_nil ?_
  refine aw_seq ?_
  refine aw_cond rfl (fun q2 => ?_) (fun q2 => ?_)
  ·replace h := h.1 (of_decide_eq_true q2)
   refine aw_skip ?_
   refine aw_seq ?_
   refine aw_block ?_
   refine aw_seq ?_
   refine aw_region ?_
   refine run_s (ss_move rfl) rfl ?_
   obtain ⟨q3, h⟩ := h
   refine run_s (ss_idxL rfl rfl q3) rfl ?_
   refine run_s (ss_loadL (f := ci) rfl q3) rfl ?_
   refine run_s (ss_assign rfl) rfl ?_
   refine run_s (ss_assign rfl) rfl ?_
   refine run_nil ?_
   refine aw_seq ?_
   refine aw_seq ?_
   refine aw_region ?_
   refine run_s (ss_move rfl) rfl ?_
   refine run_s (ss_move rfl) rfl ?_
   refine run_s (ss_lenL (f := ci) rfl) rfl ?_
   refine run_s (ss_geq rfl rfl) rfl ?_
   refine run_nil ?_
   refine aw_cond rfl (fun q4 => ?_) (fun q4 => ?_)
   ·replace h := h.1 (of_decide_eq_true q4)
    refine aw_seq ?_
    refine aw_gh (gh_to (n := 36) (σ' := []) (env' := []) rfl rfl trivial) ?_
    refine aw_region ?_
    refine run_s (ss_assign rfl) rfl ?_
    refine run_nil ?_
    refine aw_ret ?_
    exact retAF_mk (retv1 rfl (rv_tmp rfl)) rfl rfl ⟨_, (cle_refl _), _, h, rfl⟩
   ·replace h := h.2 (of_decide_eq_false q4)
    refine aw_skip ?_
    refine aw_seq ?_
    refine aw_gh (gh_to (n := 36) (σ' := []) (env' := [(0, .c (.lst (ints s1))), (1, .c (.lst (ints s2))), (5, .c (ci v11_1)), (6, .c (ci (el s1 v11_1))), (9, .c (.lst (ints s1))), (10, .c (ci (s1.length : Int))), (11, .c (ci v11_1))]) rfl rfl ⟨rfl, rfl, rfl, rfl, rfl, rfl, rfl, trivial⟩) ?_
    refine aw_region ?_
    refine run_s (ss_move rfl) rfl ?_
    refine run_s (ss_move rfl) rfl ?_
    obtain ⟨q5, h⟩ := h
    refine run_s (ss_idxL rfl rfl q5) rfl ?_
    refine run_s (ss_loadL (f := ci) rfl q5) rfl ?_
    refine run_s (ss_assign rfl) rfl ?_
    refine run_nil ?_
    refine aw_seq ?_
    refine aw_region ?_
    refine run_s (ss_move rfl) rfl ?_
    refine run_s (ss_move rfl) rfl ?_
    refine run_w (ws_call (xs := [.tmp 24, .tmp 25]) (ids := []) rfl rfl rfl rfl (c_cmp_Compare_int64_ (el s1 v11_1) (el s2 v11_1)) rfl ?_ )
    rintro _ rfl
    refine ⟨rfl, ?_⟩
    refine run_s (ss_assign rfl) rfl ?_
    refine run_nil ?_
    refine aw_seq ?_
    refine aw_gh (gh_to (n := 36) (σ' := []) (env' := [(0, .c (.lst (ints s1))), (1, .c (.lst (ints s2))), (8, .c (ci (cmp1 (el s1 v11_1) (el s2 v11_1)))), (9, .c (.lst (ints s1))), (10, .c (ci (s1.length : Int))), (11, .c (ci v11_1))]) rfl rfl ⟨rfl, rfl, rfl, rfl, rfl, rfl, trivial⟩) ?_
    refine aw_region ?_
    refine run_s (ss_move rfl) rfl ?_
    refine run_s (ss_neq rfl rfl) rfl ?_
    refine run_nil ?_
    refine aw_cond rfl (fun q7 => ?_) (fun q7 => ?_)
    ·replace h := h.1 (of_decide_eq_false (bnot_t q7))
     refine aw_seq ?_
     refine aw_gh (gh_to (n := 36) (σ' := []) (env' := [(8, .c (ci (cmp1 (el s1 v11_1) (el s2 v11_1))))]) rfl rfl ⟨rfl, trivial⟩) ?_
     refine aw_region ?_
     refine run_s (ss_move rfl) rfl ?_
     refine run_s (ss_assign rfl) rfl ?_
     refine run_nil ?_
     refine aw_ret ?_
     exact retAF_mk (retv1 rfl (rv_tmp rfl)) rfl rfl ⟨_, (cle_refl _), _, h, rfl⟩
    ·replace h := h.2 (of_decide_eq_true (bnot_f q7))
     refine aw_skip ?_
     refine aw_region ?_
     obtain ⟨q8, h⟩ := h
     refine run_s (ss_add rfl rfl q8) rfl ?_
     refine run_s (ss_move rfl) rfl ?_
     refine run_nil ?_
     exact ⟨v11_1 + 1, ghe_to (n := 36) rfl rfl ⟨rfl, rfl, rfl, rfl, rfl, trivial⟩, h.1, h.2⟩
  ·replace h := h.2 (of_decide_eq_false q2)
   refine aw_exit ?_
   refine aw_seq ?_
   refine aw_seq ?_
   refine aw_region ?_
   refine run_s (ss_move rfl) rfl ?_
   refine run_s (ss_lenL (f := ci) rfl) rfl ?_
   refine run_s (ss_move rfl) rfl ?_
   refine run_s (ss_lenL (f := ci) rfl) rfl ?_
   refine run_s (ss_lss rfl rfl) rfl ?_
   refine run_nil ?_
   refine aw_cond rfl (fun q9 => ?_) (fun q9 => ?_)
   ·replace h := h.1 (of_decide_eq_true q9)
    refine aw_seq ?_
    refine aw_gh (gh_to (n := 36) (σ' := []) (env' := []) rfl rfl trivial) ?_
    refine aw_region ?_
    refine run_s (ss_assign rfl) rfl ?_
    refine run_nil ?_
    refine aw_ret ?_
    exact retAF_mk (retv1 rfl (rv_tmp rfl)) rfl rfl ⟨_, (cle_refl _), _, h, rfl⟩
   ·replace h := h.2 (of_decide_eq_false q9)
    refine aw_skip ?_
    refine aw_seq ?_
    refine aw_gh (gh_to (n := 36) (σ' := []) (env' := []) rfl rfl trivial) ?_
    refine aw_region ?_
    refine run_s (ss_assign rfl) rfl ?_
    refine run_nil ?_
    refine aw_ret ?_
    exact retAF_mk (retv1 rfl (rv_tmp rfl)) rfl rfl ⟨_, (cle_refl _), _, h, rfl⟩

theorem c_slices_Compare___int64_int64_ (s1 : List Int) (s2 : List Int) (hp : small s1 ∧ small s2) : AF Try.prog 57 [.lst (ints s1), .lst (ints s2)] (fun R_ => R_ = ci (cmpG cmp1 s1 s2)) :=
  (w_slices_Compare___int64_int64_ s1 s2 (fun y0 => y0 = cmpG cmp1 s1 s2) (p_slices_Compare___int64_int64_ s1 s2 hp)).mono (by rintro r ⟨_, rfl, rfl⟩; rfl)

set_option maxRecDepth 100000 in
set_option maxHeartbeats 4000000 in
theorem w_spec_l01Less (a : List Int) (b : List Int) (Q : Bool → Prop) (h : wp_spec_l01Less a b Q) : AF Try.prog 89 [.lst (ints a), .lst (ints b)] (fun R_ => ∃ y0, Q y0 ∧ R_ = cb y0) := by
  refine AF.ofWQ (af_enter (n := 41) Try.func89 rfl (by rfl) rfl (Nat.le_of_ble_eq_true rfl) ?_)
  unfold wp_spec_l01Less at h
  refine aw_seq ?_
  refine aw_gh (gh_to (n := 41) (σ' := []) (env' := [(0, .c (.lst (ints a))), (1, .c (.lst (ints b)))]) rfl rfl ⟨rfl, rfl, trivial⟩) ?_
  refine aw_region ?_
  refine run_s (ss_assign rfl) rfl ?_
  refine run_nil ?_
  refine aw_seq ?_
  refine aw_seq ?_
  refine aw_region ?_
  refine run_s (ss_assign rfl) rfl ?_
  refine run_nil ?_
  refine aw_block ?_
  obtain ⟨H1, m1, q1, h⟩ := h
  refine aw_loop1 (fun (v5_1 : Int) => ⟨[], [(0, .c (.lst (ints a))), (1, .c (.lst (ints b))), (5, .c (ci v5_1))], 41⟩) H1 m1 ⟨0, ghe_to (n := 41) rfl rfl ⟨rfl, rfl, rfl, trivial⟩, q1⟩ ?_
  rintro v5_1 q1
  replace h := h v5_1 q1
  refine aw_seq ?_
  refine aw_seq ?_
  refine aw_region ?_
  refine run_s (ss_move rfl) rfl ?_
  refine run_s (ss_move rfl) rfl ?_
  refine run_s (ss_lenL (f := ci) rfl) rfl ?_
  refine run_s (ss_lss rfl rfl) rfl ?_
  refine run_s (ss_move rfl) rfl ?_
  refine run_split (s := 10) rfl (fun q2 => ?_) (fun q2 => ?_)
  ·replace h := h.1 (of_decide_eq_true q2)
   refine run_gt rfl rfl q2 ?_
   refine run_s (ss_move rfl) rfl ?_
   refine run_gt rfl rfl q2 ?_
   refine run_s (ss_move rfl) rfl ?_
   refine run_gt rfl rfl q2 ?_
   refine run_s (ss_lenL (f := ci) rfl) rfl ?_
   refine run_gt rfl rfl q2 ?_
   refine run_s (ss_lss rfl rfl) rfl ?_
   refine run_s (ss_pickT rfl q2 rfl) rfl ?_
   refine run_nil ?_
   refine aw_cond rfl (fun q3 => ?_) (fun q3 => ?_)
   ·replace h := h.1 (of_decide_eq_true q3)
    refine aw_skip ?_
    refine aw_seq ?_
    refine aw_block ?_
    refine aw_seq ?_
    refine aw_gh (gh_to (n := 41) (σ' := []) (env' := [(0, .c (.lst (ints a))), (1, .c (.lst (ints b))), (5, .c (ci v5_1)), (11, .c (ci v5_1)), (12, .c (.lst (ints b))), (13, .c (ci (b.length : Int))), (14, .c (cb (decide (v5_1 < (b.length : Int)))))]) rfl rfl ⟨rfl, rfl, rfl, rfl, rfl, rfl, rfl, trivial⟩) ?_
    refine aw_regionD (kd := kdl [0, 0, 0, 1, 0, 0, 0, 1, 0]) (ord := [0, 1, 2, 4, 5, 6, 3, 7, 8]) [] mixed (by kernel_rfl) ?_
    refine rd_s rfl rfl trivial (ss_move rfl) rfl ?_
    refine rd_s rfl rfl trivial (ss_move rfl) rfl ?_
    obtain ⟨q4, h⟩ := h
    refine rd_s rfl rfl trivial (ss_idxL rfl rfl q4) rfl ?_
    refine rd_s rfl rfl trivial (ss_move rfl) rfl ?_
    refine rd_s rfl rfl trivial (ss_move rfl) rfl ?_
    obtain ⟨q5, h⟩ := h
    refine rd_s rfl rfl trivial (ss_idxL rfl rfl q5) rfl ?_
    refine rd_l rfl rfl trivial (ss_loadL (f := ci) rfl q4) rfl ?_
    refine rd_l rfl rfl trivial (ss_loadL (f := ci) rfl q5) rfl ?_
    refine rd_s rfl rfl trivial (ss_neq rfl rfl) rfl ?_
    refine rd_nil ?_
    refine aw_cond rfl (fun q6 => ?_) (fun q6 => ?_)
    ·replace h := h.1 (of_decide_eq_false (bnot_t q6))
     refine aw_seq ?_
     refine aw_gh (gh_to (n := 41) (σ' := []) (env' := [(0, .c (.lst (ints a))), (1, .c (.lst (ints b))), (5, .c (ci v5_1))]) rfl rfl ⟨rfl, rfl, rfl, trivial⟩) ?_
     refine aw_regionD (kd := kdl [0, 0, 0, 1, 0, 0, 0, 1, 0, 0]) (ord := [0, 1, 2, 4, 5, 6, 3, 7, 8, 9]) [] mixed (by kernel_rfl) ?_
     refine rd_s rfl rfl trivial (ss_move rfl) rfl ?_
     refine rd_s rfl rfl trivial (ss_move rfl) rfl ?_
     obtain ⟨q7, h⟩ := h
     refine rd_s rfl rfl trivial (ss_idxL rfl rfl q7) rfl ?_
     refine rd_s rfl rfl trivial (ss_move rfl) rfl ?_
     refine rd_s rfl rfl trivial (ss_move rfl) rfl ?_
     obtain ⟨q8, h⟩ := h
     refine rd_s rfl rfl trivial (ss_idxL rfl rfl q8) rfl ?_
     refine rd_l rfl rfl trivial (ss_loadL (f := ci) rfl q7) rfl ?_
     refine rd_l rfl rfl trivial (ss_loadL (f := ci) rfl q8) rfl ?_
     refine rd_s rfl rfl trivial (ss_lss rfl rfl) rfl ?_
     refine rd_s rfl rfl trivial (ss_assign rfl) rfl ?_
     refine rd_nil ?_
     refine aw_ret ?_
     exact retAF_mk (retv1 rfl (rv_tmp rfl)) rfl rfl ⟨_, (cle_refl _), _, h, rfl⟩
    ·replace h := h.2 (of_decide_eq_true (bnot_f q6))
     refine aw_skip ?_
     refine aw_gh (gh_to (n := 41) (σ' := []) (env' := [(0, .c (.lst (ints a))), (1, .c (.lst (ints b))), (5, .c (ci v5_1)), (11, .c (ci v5_1)), (12, .c (.lst (ints b))), (13, .c (ci (b.length : Int))), (14, .c (cb (decide (v5_1 < (b.length : Int)))))]) rfl rfl ⟨rfl, rfl, rfl, rfl, rfl, rfl, rfl, trivial⟩) ?_
     refine aw_region ?_
     refine run_s (ss_move rfl) rfl ?_
     obtain ⟨q9, h⟩ := h
     refine run_s (ss_add rfl rfl q9) rfl ?_
     refine run_s (ss_assign rfl) rfl ?_
     refine run_nil ?_
     exact ⟨v5_1 + 1, ghe_to (n := 41) rfl rfl ⟨rfl, rfl, rfl, trivial⟩, h.1, h.2⟩
   ·replace h := h.2 (of_decide_eq_false q3)
    refine aw_exit ?_
    refine aw_seq ?_
    refine aw_gh (gh_to (n := 41) (σ' := []) (env' := [(0, .c (.lst (ints a))), (1, .c (.lst (ints b)))]) rfl rfl ⟨rfl, rfl, trivial⟩) ?_
    refine aw_region ?_
    refine run_s (ss_move rfl) rfl ?_
    refine run_s (ss_lenL (f := ci) rfl) rfl ?_
    refine run_s (ss_move rfl) rfl ?_
    refine run_s (ss_lenL (f := ci) rfl) rfl ?_
    refine run_s (ss_lss rfl rfl) rfl ?_
    refine run_s (ss_assign rfl) rfl ?_
    refine run_nil ?_
    refine aw_ret ?_
    exact retAF_mk (retv1 rfl (rv_tmp rfl)) rfl rfl ⟨_, (cle_refl _), _, h, rfl⟩
  ·replace h := h.2 (of_decide_eq_false q2)
   refine run_gf rfl rfl q2 rfl ?_
   refine run_gf rfl rfl q2 rfl ?_
   refine run_gf rfl rfl q2 rfl ?_
   refine run_gf rfl rfl q2 rfl ?_
   refine run_s (ss_pickF rfl q2 rfl) rfl ?_
   refine run_nil ?_
   refine aw_cond rfl (fun q10 => ?_) (fun q10 => ?_)
   ·cases q10
   ·skip
    refine aw_exit ?_
    refine aw_seq ?_
    refine aw_gh (gh_to (n := 41) (σ' := []) (env' := [(0, .c (.lst (ints a))), (1, .c (.lst (ints b)))]) rfl rfl ⟨rfl, rfl, trivial⟩) ?_
    refine aw_region ?_
    refine run_s (ss_move rfl) rfl ?_
    refine run_s (ss_lenL (f := ci) rfl) rfl ?_
    refine run_s (ss_move rfl) rfl ?_
    refine run_s (ss_lenL (f := ci) rfl) rfl ?_
    refine run_s (ss_lss rfl rfl) rfl ?_
    refine run_s (ss_assign rfl) rfl ?_
    refine run_nil ?_
    refine aw_ret ?_
    exact retAF_mk (retv1 rfl (rv_tmp rfl)) rfl rfl ⟨_, (cle_refl _), _, h, rfl⟩

theorem c_spec_l01Less (a : List Int) (b : List Int) (hp : small a ∧ small b) : AF Try.prog 89 [.lst (ints a), .lst (ints b)] (fun R_ => R_ = cb (decide (cmpG cmp1 a b < 0))) :=
  (w_spec_l01Less a b (fun y0 => y0 = decide (cmpG cmp1 a b < 0)) (p_spec_l01Less a b hp)).mono (by rintro r ⟨_, rfl, rfl⟩; rfl)

set_option maxRecDepth 100000 in
set_option maxHeartbeats 4000000 in
theorem w_impl_nextPermutation (p : List Int) (Q : Bool → List Int → Prop) (h : wp_impl_nextPermutation p Q) : AM Try.prog 93 [.own (ints p)] (fun R_ O_ => ∃ y0 w0, Q y0 w0 ∧ R_ = cb y0 ∧ O_ = [.own (ints w0)]) := by
  refine am_enter (n := 59) (m := 1) Try.func93 rfl (by rfl) rfl rfl (Nat.le_of_ble_eq_true rfl) [800] rfl ?_
  unfold wp_impl_nextPermutation at h
  refine aw_seq ?_
  refine aw_gh (gh_to (n := 59) (σ' := [(800, ⟨ints p, []⟩)]) (env' := [(0, .ref 800), (59, .ref 800)]) rfl rfl ⟨rfl, rfl, trivial⟩) ?_
  refine aw_region ?_
  refine run_s (ss_assign rfl) rfl ?_
  refine run_nil ?_
  refine aw_seq ?_
  refine aw_region ?_
  refine run_s (ss_move rfl) rfl ?_
  refine run_s (ss_lenR (f := ci) rfl rfl) rfl ?_
  obtain ⟨q1, h⟩ := h
  refine run_s (ss_sub rfl rfl q1) rfl ?_
  refine run_s (ss_assign rfl) rfl ?_
  refine run_nil ?_
  refine aw_seq ?_
  refine aw_block ?_
  obtain ⟨H1, m1, q2, h⟩ := h
  refine aw_loop1 (fun (v3_1 : Int) => ⟨[(800, ⟨ints p, []⟩)], [(0, .ref 800), (3, .c (ci v3_1)), (59, .ref 800)], 59⟩) H1 m1 ⟨(p.length : Int) - 2, ghe_to (n := 59) rfl rfl ⟨rfl, rfl, rfl, trivial⟩, q2⟩ ?_
  rintro v3_1 q2
  replace h := h v3_1 q2
  refine aw_seq ?_
  refine aw_seq ?_
  refine aw_gh (gh_to (n := 59) (σ' := [(800, ⟨ints p, []⟩)]) (env' := [(0, .ref 800), (3, .c (ci v3_1)), (59, .ref 800)]) rfl rfl ⟨rfl, rfl, rfl, trivial⟩) ?_
  refine aw_regionD (kd := kdl [0, 0, 0, 0, 0, 0, 1, 0, 0, 0, 0, 1, 0, 0]) (ord := [0, 1, 2, 3, 4, 5, 7, 8, 9, 10, 6, 11, 12, 13]) [] mixed (by kernel_rfl) ?_
  refine rd_s rfl rfl trivial (ss_move rfl) rfl ?_
  refine rd_s rfl rfl trivial (ss_geq rfl rfl) rfl ?_
  refine rd_s rfl rfl trivial (ss_move rfl) rfl ?_
  refine rd_split (s := 10) rfl (fun q3 => ?_) (fun q3 => ?_)
  ·replace h := h.1 (of_decide_eq_true q3)
   refine rd_s rfl rfl ⟨_, _, rfl, rfl, q3⟩ (ss_move rfl) rfl ?_
   refine rd_s rfl rfl ⟨_, _, rfl, rfl, q3⟩ (ss_move rfl) rfl ?_
   obtain ⟨q4, h⟩ := h
   refine rd_s rfl rfl ⟨_, _, rfl, rfl, q3⟩ (ss_idxR (f := ci) rfl rfl rfl q4) rfl ?_
   refine rd_s rfl rfl ⟨_, _, rfl, rfl, q3⟩ (ss_move rfl) rfl ?_
   refine rd_s rfl rfl ⟨_, _, rfl, rfl, q3⟩ (ss_move rfl) rfl ?_
   obtain ⟨q5, h⟩ := h
   refine rd_s rfl rfl ⟨_, _, rfl, rfl, q3⟩ (ss_add rfl rfl q5) rfl ?_
   obtain ⟨q6, h⟩ := h
   refine rd_s rfl rfl ⟨_, _, rfl, rfl, q3⟩ (ss_idxR (f := ci) rfl rfl rfl q6) rfl ?_
   refine rd_l rfl rfl ⟨_, _, rfl, rfl, q3⟩ (ss_loadR (f := ci) rfl rfl q4 rfl rfl) rfl ?_
   refine rd_l rfl rfl ⟨_, _, rfl, rfl, q3⟩ (ss_loadR (f := ci) rfl rfl q6 rfl rfl) rfl ?_
   refine rd_s rfl rfl ⟨_, _, rfl, rfl, q3⟩ (ss_gtr rfl rfl) rfl ?_
   refine rd_s rfl rfl trivial (ss_pickT rfl q3 rfl) rfl ?_
   refine rd_nil ?_
   refine aw_cond rfl (fun q7 => ?_) (fun q7 => ?_)
   ·replace h := h.1 (of_decide_eq_true q7)
    refine aw_skip ?_
    refine aw_block ?_
    refine aw_gh (gh_to (n := 59) (σ' := [(800, ⟨ints p, []⟩)]) (env' := [(0, .ref 800), (3, .c (ci v3_1)), (11, .ref 800), (12, .c (ci v3_1)), (13, .cell 800 v3_1.toNat), (14, .c (ci (el p v3_1))), (15, .ref 800), (16, .c (ci v3_1)), (17, .c (ci (v3_1 + 1))), (18, .cell 800 (v3_1 + 1).toNat), (19, .c (ci (el p (v3_1 + 1)))), (20, .c (cb (decide (el p (v3_1 + 1) < el p v3_1)))), (59, .ref 800)]) rfl rfl ⟨rfl, rfl, rfl, rfl, rfl, rfl, rfl, rfl, rfl, rfl, rfl, rfl, rfl, trivial⟩) ?_
    refine aw_region ?_
    refine run_s (ss_move rfl) rfl ?_
    obtain ⟨q8, h⟩ := h
    refine run_s (ss_sub rfl rfl q8) rfl ?_
    refine run_s (ss_assign rfl) rfl ?_
    refine run_nil ?_
    exact ⟨v3_1 - 1, ghe_to (n := 59) rfl rfl ⟨rfl, rfl, rfl, trivial⟩, h.1, h.2⟩
   ·replace h := h.2 (of_decide_eq_false q7)
    refine aw_exit ?_
    refine aw_seq ?_
    refine aw_seq ?_
    refine aw_gh (gh_to (n := 59) (σ' := [(800, ⟨ints p, []⟩)]) (env' := [(0, .ref 800), (3, .c (ci v3_1)), (59, .ref 800)]) rfl rfl ⟨rfl, rfl, rfl, trivial⟩) ?_
    refine aw_region ?_
    refine run_s (ss_move rfl) rfl ?_
    refine run_s (ss_lss rfl rfl) rfl ?_
    refine run_nil ?_
    refine aw_cond rfl (fun q9 => ?_) (fun q9 => ?_)
    ·replace h := h.1 (of_decide_eq_true q9)
     refine aw_seq ?_
     refine aw_gh (gh_to (n := 59) (σ' := [(800, ⟨ints p, []⟩)]) (env' := [(59, .ref 800)]) rfl rfl ⟨rfl, trivial⟩) ?_
     refine aw_region ?_
     refine run_s (ss_assign rfl) rfl ?_
     refine run_nil ?_
     refine aw_ret ?_
     exact retAM_mk (retv1 rfl (rv_tmp rfl)) rfl rfl rfl ⟨_, _, h, rfl, rfl⟩
    ·replace h := h.2 (of_decide_eq_false q9)
     refine aw_skip ?_
     refine aw_seq ?_
     refine aw_region ?_
     refine run_s (ss_move rfl) rfl ?_
     refine run_s (ss_lenR (f := ci) rfl rfl) rfl ?_
     obtain ⟨q10, h⟩ := h
     refine run_s (ss_sub rfl rfl q10) rfl ?_
     refine run_s (ss_assign rfl) rfl ?_
     refine run_nil ?_
     refine aw_seq ?_
     refine aw_block ?_
     obtain ⟨H2, m2, q11, h⟩ := h
     refine aw_loop1 (fun (v4_2 : Int) => ⟨[(800, ⟨ints p, []⟩)], [(0, .ref 800), (3, .c (ci v3_1)), (4, .c (ci v4_2)), (59, .ref 800)], 59⟩) H2 m2 ⟨(p.length : Int) - 1, ghe_to (n := 59) rfl rfl ⟨rfl, rfl, rfl, rfl, trivial⟩, q11⟩ ?_
     rintro v4_2 q11
     replace h := h v4_2 q11
     refine aw_seq ?_
     refine aw_seq ?_
     refine aw_gh (gh_to (n := 59) (σ' := [(800, ⟨ints p, []⟩)]) (env' := [(0, .ref 800), (3, .c (ci v3_1)), (4, .c (ci v4_2)), (59, .ref 800)]) rfl rfl ⟨rfl, rfl, rfl, rfl, trivial⟩) ?_
     refine aw_regionD (kd := kdl [0, 0, 0, 1, 0, 0, 0, 1, 0]) (ord := [0, 1, 2, 4, 5, 6, 3, 7, 8]) [] mixed (by kernel_rfl) ?_
     refine rd_s rfl rfl trivial (ss_move rfl) rfl ?_
     refine rd_s rfl rfl trivial (ss_move rfl) rfl ?_
     obtain ⟨q12, h⟩ := h
     refine rd_s rfl rfl trivial (ss_idxR (f := ci) rfl rfl rfl q12) rfl ?_
     refine rd_s rfl rfl trivial (ss_move rfl) rfl ?_
     refine rd_s rfl rfl trivial (ss_move rfl) rfl ?_
     obtain ⟨q13, h⟩ := h
     refine rd_s rfl rfl trivial (ss_idxR (f := ci) rfl rfl rfl q13) rfl ?_
     refine rd_l rfl rfl trivial (ss_loadR (f := ci) rfl rfl q12 rfl rfl) rfl ?_
     refine rd_l rfl rfl trivial (ss_loadR (f := ci) rfl rfl q13 rfl rfl) rfl ?_
     refine rd_s rfl rfl trivial (ss_lss rfl rfl) rfl ?_
     refine rd_nil ?_
     refine aw_cond rfl (fun q14 => ?_) (fun q14 => ?_)
     ·replace h := h.1 (of_decide_eq_true q14)
      refine aw_skip ?_
      refine aw_block ?_
      refine aw_gh (gh_to (n := 59) (σ' := [(800, ⟨ints p, []⟩)]) (env' := [(0, .ref 800), (3, .c (ci v3_1)), (4, .c (ci v4_2)), (59, .ref 800)]) rfl rfl ⟨rfl, rfl, rfl, rfl, trivial⟩) ?_
      refine aw_region ?_
      refine run_s (ss_move rfl) rfl ?_
      obtain ⟨q15, h⟩ := h
      refine run_s (ss_sub rfl rfl q15) rfl ?_
      refine run_s (ss_assign rfl) rfl ?_
      refine run_nil ?_
      exact ⟨v4_2 - 1, ghe_to (n := 59) rfl rfl ⟨rfl, rfl, rfl, rfl, trivial⟩, h.1, h.2⟩
     ·replace h := h.2 (of_decide_eq_false q14)
      refine aw_exit ?_
      refine aw_seq ?_
      refine aw_gh (gh_to (n := 59) (σ' := [(800, ⟨ints p, []⟩)]) (env' := [(0, .ref 800), (3, .c (ci v3_1)), (4, .c (ci v4_2)), (59, .ref 800)]) rfl rfl ⟨rfl, rfl, rfl, rfl, trivial⟩) ?_
      refine aw_regionD (kd := kdl [0, 0, 0, 0, 0, 0, 0, 1, 0, 0, 0, 1, 0, 3, 0, 3]) (ord := [0, 1, 2, 3, 4, 5, 6, 8, 9, 10, 7, 11, 12, 13, 14, 15]) [] mixed (by kernel_rfl) ?_
      refine rd_s rfl rfl trivial (ss_move rfl) rfl ?_
      refine rd_s rfl rfl trivial (ss_move rfl) rfl ?_
      refine rd_s rfl rfl trivial (ss_move rfl) rfl ?_
      refine rd_s rfl rfl trivial (ss_move rfl) rfl ?_
      refine rd_s rfl rfl trivial (ss_move rfl) rfl ?_
      refine rd_s rfl rfl trivial (ss_move rfl) rfl ?_
      obtain ⟨q16, h⟩ := h
      refine rd_s rfl rfl trivial (ss_idxR (f := ci) rfl rfl rfl q16) rfl ?_
      refine rd_s rfl rfl trivial (ss_move rfl) rfl ?_
      refine rd_s rfl rfl trivial (ss_move rfl) rfl ?_
      obtain ⟨q17, h⟩ := h
      refine rd_s rfl rfl trivial (ss_idxR (f := ci) rfl rfl rfl q17) rfl ?_
      refine rd_l rfl rfl trivial (ss_loadR (f := ci) rfl rfl q16 rfl rfl) rfl ?_
      refine rd_l rfl rfl trivial (ss_loadR (f := ci) rfl rfl q17 rfl rfl) rfl ?_
      obtain ⟨q18, h⟩ := h
      refine rd_s rfl rfl trivial (ss_idxR (f := ci) rfl rfl rfl q18) rfl ?_
      refine rd_f rfl rfl trivial (ws_storeE rfl rfl (map_lt q18) rfl rfl (map_se (f := ci)) rfl ⟨rfl, ?_⟩)
      obtain ⟨q19, h⟩ := h
      refine rd_s rfl rfl trivial (ss_idxR (f := ci) rfl rfl rfl q19) rfl ?_
      refine rd_f rfl rfl trivial (ws_storeE rfl rfl (map_lt q19) rfl rfl (map_se (f := ci)) rfl ⟨rfl, ?_⟩)
      refine rd_nil ?_
      refine aw_seq ?_
      refine aw_gh (gh_to (n := 59) (σ' := [(800, ⟨ints (se (se p v3_1 (el p v4_2)) v4_2 (el p v3_1)), []⟩)]) (env' := [(0, .ref 800), (3, .c (ci v3_1)), (59, .ref 800)]) rfl rfl ⟨rfl, rfl, rfl, trivial⟩) ?_
      refine aw_region ?_
      refine run_s (ss_move rfl) rfl ?_
      refine run_s (ss_move rfl) rfl ?_
      obtain ⟨q20, h⟩ := h
      refine run_s (ss_add rfl rfl q20) rfl ?_
      obtain ⟨q21, h⟩ := h
      obtain ⟨q22, h⟩ := h
      refine run_part (F := List.reverse) at_Reverse rfl rfl rfl q21 q22 rfl rfl rfl ?_
      refine run_nil ?_
      refine aw_seq ?_
      refine aw_gh (gh_to (n := 59) (σ' := [(800, ⟨ints ((se (se p v3_1 (el p v4_2)) v4_2 (el p v3_1)).take (v3_1 + 1).toNat ++ List.reverse ((se (se p v3_1 (el p v4_2)) v4_2 (el p v3_1)).drop (v3_1 + 1).toNat)), []⟩)]) (env' := [(59, .ref 800)]) rfl rfl ⟨rfl, trivial⟩) ?_
      refine aw_region ?_
      refine run_s (ss_assign rfl) rfl ?_
      refine run_nil ?_
      refine aw_ret ?_
      exact retAM_mk (retv1 rfl (rv_tmp rfl)) rfl rfl rfl ⟨_, _, h, rfl, rfl⟩
  ·replace h := h.2 (of_decide_eq_false q3)
   refine rd_no rfl rfl rfl q3 rfl ?_
   refine rd_no rfl rfl rfl q3 rfl ?_
   refine rd_no rfl rfl rfl q3 rfl ?_
   refine rd_no rfl rfl rfl q3 rfl ?_
   refine rd_no rfl rfl rfl q3 rfl ?_
   refine rd_no rfl rfl rfl q3 rfl ?_
   refine rd_no rfl rfl rfl q3 rfl ?_
   refine rd_no rfl rfl rfl q3 rfl ?_
   refine rd_no rfl rfl rfl q3 rfl ?_
   refine rd_no rfl rfl rfl q3 rfl ?_
   refine rd_s rfl rfl trivial (ss_pickF rfl q3 rfl) rfl ?_
   refine rd_nil ?_
   refine aw_cond rfl (fun q23 => ?_) (fun q23 => ?_)
   ·cases q23
   ·skip
    refine aw_exit ?_
    refine aw_seq ?_
    refine aw_seq ?_
    refine aw_gh (gh_to (n := 59) (σ' := [(800, ⟨ints p, []⟩)]) (env' := [(0, .ref 800), (3, .c (ci v3_1)), (59, .ref 800)]) rfl rfl ⟨rfl, rfl, rfl, trivial⟩) ?_
    refine aw_region ?_
    refine run_s (ss_move rfl) rfl ?_
    refine run_s (ss_lss rfl rfl) rfl ?_
    refine run_nil ?_
    refine aw_cond rfl (fun q24 => ?_) (fun q24 => ?_)
    ·replace h := h.1 (of_decide_eq_true q24)
     refine aw_seq ?_
     refine aw_gh (gh_to (n := 59) (σ' := [(800, ⟨ints p, []⟩)]) (env' := [(59, .ref 800)]) rfl rfl ⟨rfl, trivial⟩) ?_
     refine aw_region ?_
     refine run_s (ss_assign rfl) rfl ?_
     refine run_nil ?_
     refine aw_ret ?_
     exact retAM_mk (retv1 rfl (rv_tmp rfl)) rfl rfl rfl ⟨_, _, h, rfl, rfl⟩
    ·replace h := h.2 (of_decide_eq_false q24)
     refine aw_skip ?_
     refine aw_seq ?_
     refine aw_region ?_
     refine run_s (ss_move rfl) rfl ?_
     refine run_s (ss_lenR (f := ci) rfl rfl) rfl ?_
     obtain ⟨q25, h⟩ := h
     refine run_s (ss_sub rfl rfl q25) rfl ?_
     refine run_s (ss_assign rfl) rfl ?_
     refine run_nil ?_
     refine aw_seq ?_
     refine aw_block ?_
     obtain ⟨H3, m3, q26, h⟩ := h
     refine aw_loop1 (fun (v4_2 : Int) => ⟨[(800, ⟨ints p, []⟩)], [(0, .ref 800), (3, .c (ci v3_1)), (4, .c (ci v4_2)), (59, .ref 800)], 59⟩) H3 m3 ⟨(p.length : Int) - 1, ghe_to (n := 59) rfl rfl ⟨rfl, rfl, rfl, rfl, trivial⟩, q26⟩ ?_
     rintro v4_2 q26
     replace h := h v4_2 q26
     refine aw_seq ?_
     refine aw_seq ?_
     refine aw_gh (gh_to (n := 59) (σ' := [(800, ⟨ints p, []⟩)]) (env' := [(0, .ref 800), (3, .c (ci v3_1)), (4, .c (ci v4_2)), (59, .ref 800)]) rfl rfl ⟨rfl, rfl, rfl, rfl, trivial⟩) ?_
     refine aw_regionD (kd := kdl [0, 0, 0, 1, 0, 0, 0, 1, 0]) (ord := [0, 1, 2, 4, 5, 6, 3, 7, 8]) [] mixed (by kernel_rfl) ?_
     refine rd_s rfl rfl trivial (ss_move rfl) rfl ?_
     refine rd_s rfl rfl trivial (ss_move rfl) rfl ?_
     obtain ⟨q27, h⟩ := h
     refine rd_s rfl rfl trivial (ss_idxR (f := ci) rfl rfl rfl q27) rfl ?_
     refine rd_s rfl rfl trivial (ss_move rfl) rfl ?_
     refine rd_s rfl rfl trivial (ss_move rfl) rfl ?_
     obtain ⟨q28, h⟩ := h
     refine rd_s rfl rfl trivial (ss_idxR (f := ci) rfl rfl rfl q28) rfl ?_
     refine rd_l rfl rfl trivial (ss_loadR (f := ci) rfl rfl q27 rfl rfl) rfl ?_
     refine rd_l rfl rfl trivial (ss_loadR (f := ci) rfl rfl q28 rfl rfl) rfl ?_
     refine rd_s rfl rfl trivial (ss_lss rfl rfl) rfl ?_
     refine rd_nil ?_
     refine aw_cond rfl (fun q29 => ?_) (fun q29 => ?_)
     ·replace h := h.1 (of_decide_eq_true q29)
      refine aw_skip ?_
      refine aw_block ?_
      refine aw_gh (gh_to (n := 59) (σ' := [(800, ⟨ints p, []⟩)]) (env' := [(0, .ref 800), (3, .c (ci v3_1)), (4, .c (ci v4_2)), (59, .ref 800)]) rfl rfl ⟨rfl, rfl, rfl, rfl, trivial⟩) ?_
      refine aw_region ?_
      refine run_s (ss_move rfl) rfl ?_
      obtain ⟨q30, h⟩ := h
      refine run_s (ss_sub rfl rfl q30) rfl ?_
      refine run_s (ss_assign rfl) rfl ?_
      refine run_nil ?_
      exact ⟨v4_2 - 1, ghe_to (n := 59) rfl rfl ⟨rfl, rfl, rfl, rfl, trivial⟩, h.1, h.2⟩
     ·replace h := h.2 (of_decide_eq_false q29)
      refine aw_exit ?_
      refine aw_seq ?_
      refine aw_gh (gh_to (n := 59) (σ' := [(800, ⟨ints p, []⟩)]) (env' := [(0, .ref 800), (3, .c (ci v3_1)), (4, .c (ci v4_2)), (59, .ref 800)]) rfl rfl ⟨rfl, rfl, rfl, rfl, trivial⟩) ?_
      refine aw_regionD (kd := kdl [0, 0, 0, 0, 0, 0, 0, 1, 0, 0, 0, 1, 0, 3, 0, 3]) (ord := [0, 1, 2, 3, 4, 5, 6, 8, 9, 10, 7, 11, 12, 13, 14, 15]) [] mixed (by kernel_rfl) ?_
      refine rd_s rfl rfl trivial (ss_move rfl) rfl ?_
      refine rd_s rfl rfl trivial (ss_move rfl) rfl ?_
      refine rd_s rfl rfl trivial (ss_move rfl) rfl ?_
      refine rd_s rfl rfl trivial (ss_move rfl) rfl ?_
      refine rd_s rfl rfl trivial (ss_move rfl) rfl ?_
      refine rd_s rfl rfl trivial (ss_move rfl) rfl ?_
      obtain ⟨q31, h⟩ := h
      refine rd_s rfl rfl trivial (ss_idxR (f := ci) rfl rfl rfl q31) rfl ?_
      refine rd_s rfl rfl trivial (ss_move rfl) rfl ?_
      refine rd_s rfl rfl trivial (ss_move rfl) rfl ?_
      obtain ⟨q32, h⟩ := h
      refine rd_s rfl rfl trivial (ss_idxR (f := ci) rfl rfl rfl q32) rfl ?_
      refine rd_l rfl rfl trivial (ss_loadR (f := ci) rfl rfl q31 rfl rfl) rfl ?_
      refine rd_l rfl rfl trivial (ss_loadR (f := ci) rfl rfl q32 rfl rfl) rfl ?_
      obtain ⟨q33, h⟩ := h
      refine rd_s rfl rfl trivial (ss_idxR (f := ci) rfl rfl rfl q33) rfl ?_
      refine rd_f rfl rfl trivial (ws_storeE rfl rfl (map_lt q33) rfl rfl (map_se (f := ci)) rfl ⟨rfl, ?_⟩)
      obtain ⟨q34, h⟩ := h
      refine rd_s rfl rfl trivial (ss_idxR (f := ci) rfl rfl rfl q34) rfl ?_
      refine rd_f rfl rfl trivial (ws_storeE rfl rfl (map_lt q34) rfl rfl (map_se (f := ci)) rfl ⟨rfl, ?_⟩)
      refine rd_nil ?_
      refine aw_seq ?_
      refine aw_gh (gh_to (n := 59) (σ' := [(800, ⟨ints (se (se p v3_1 (el p v4_2)) v4_2 (el p v3_1)), []⟩)]) (env' := [(0, .ref 800), (3, .c (ci v3_1)), (59, .ref 800)]) rfl rfl ⟨rfl, rfl, rfl, trivial⟩) ?_
      refine aw_region ?_
      refine run_s (ss_move rfl) rfl ?_
      refine run_s (ss_move rfl) rfl ?_
      obtain ⟨q35, h⟩ := h
      refine run_s (ss_add rfl rfl q35) rfl ?_
      obtain ⟨q36, h⟩ := h
      obtain ⟨q37, h⟩ := h
      refine run_part (F := List.reverse) at_Reverse rfl rfl rfl q36 q37 rfl rfl rfl ?_
      refine run_nil ?_
      refine aw_seq ?_
      refine aw_gh (gh_to (n := 59) (σ' := [(800, ⟨ints ((se (se p v3_1 (el p v4_2)) v4_2 (el p v3_1)).take (v3_1 + 1).toNat ++ List.reverse ((se (se p v3_1 (el p v4_2)) v4_2 (el p v3_1)).drop (v3_1 + 1).toNat)), []⟩)]) (env' := [(59, .ref 800)]) rfl rfl ⟨rfl, trivial⟩) ?_
      refine aw_region ?_
      refine run_s (ss_assign rfl) rfl ?_
      refine run_nil ?_
      refine aw_ret ?_
      exact retAM_mk (retv1 rfl (rv_tmp rfl)) rfl rfl rfl ⟨_, _, h, rfl, rfl⟩

theorem c_impl_nextPermutation (p : List Int) (hp : isPerm p = true ∧ (p.length : Int) ≤ 12) : AM Try.prog 93 [.own (ints p)] (fun R_ O_ => ∃ y0 w0, ((y0 = true ∧ ∃ i_ k_, NxI p i_ k_ ∧ w0 = nxtL p i_ k_) ∨ (y0 = false ∧ w0 = p ∧ ∀ j_ : Int, -1 < j_ → j_ + 1 < (p.length : Int) → el p (j_ + 1) < el p j_)) ∧ R_ = cb y0 ∧ O_ = [.own (ints w0)]) :=
  w_impl_nextPermutation p (fun y0 w0 => (y0 = true ∧ ∃ i_ k_, NxI p i_ k_ ∧ w0 = nxtL p i_ k_) ∨ (y0 = false ∧ w0 = p ∧ ∀ j_ : Int, -1 < j_ → j_ + 1 < (p.length : Int) → el p (j_ + 1) < el p j_)) (p_impl_nextPermutation p hp)

/-- The iterator of impl.permutations yields the permutations in order. -/
theorem sq_permutations (n : Int) (hp : 0 ≤ n ∧ n ≤ 12) : SeqA Try.prog 92 [.ptr [ci n]] ((growL n []).map fun p_ => .lst (ints p_)) := by
  have hfirst := growL_first hp.1
  have hpos : 0 < (growL n []).length := (List.getElem?_eq_some_iff.1 hfirst).1
  have hat : ∀ k, k < (growL n []).length → (growL n [])[k]? = some ((growL n []).getD k []) := fun k hk => by
    rw [List.getD_eq_getElem?_getD, List.getElem?_eq_getElem hk]; rfl
  have hfz : ∀ l : List Int, frzL (ints l) = ints l := fun l => by
    induction l with
    | nil => rfl
    | cons x l ih => show frzL (ci x :: ints l) = _; simp only [frzL, ih]; rfl
  refine seq_loop (n := 12) (id := 5) (N := (growL n []).length)
    (fun l k => ⟨[(5, ⟨ints ((growL n []).getD k []), []⟩)], [(0, .c (.val (yv l))), (1, .c (.ptr [ci n])), (3, .ref 5)], 12⟩)
    (fun k => ints ((growL n []).getD k [])) Try.func92 rfl (by rfl) rfl (Nat.le_of_ble_eq_true rfl) rfl hpos (by simp) (fun _ _ => rfl) ⟨by decide, by decide, by decide⟩
    (fun _ _ => rfl) (fun _ _ => rfl) (fun _ _ => rfl) (fun _ _ => rfl) (fun _ _ _ => rfl) (fun k hk => ?_) (fun l => ?_) (fun l k hk => ?_) (fun l k hk => ?_)
  · rw [List.getElem?_map, hat k hk, hfz]; rfl
  · -- the first permutation
    refine aw_region ?_
    refine run_s (ss_load_ptr rfl rfl) rfl ?_
    refine run_w (ws_call (xs := [.tmp 4]) (ids := [5]) rfl rfl rfl rfl (c_impl_identity n ⟨hp.1, by omega⟩) rfl ?_)
    rintro _ rfl
    refine ⟨rfl, ?_⟩
    refine run_s (ss_assign rfl) rfl ?_
    refine run_nil ?_
    have e : (growL n []).getD 0 [] = unitI n := by rw [List.getD_eq_getElem?_getD, hfirst]; rfl
    refine ⟨[], ?_⟩
    rw [e]
    exact gh_to (n := 12) (σ' := [(5, ⟨ints (unitI n), []⟩)]) (env' := [(0, .c (.val (yv l))), (1, .c (.ptr [ci n])), (3, .ref 5)]) rfl rfl ⟨rfl, rfl, rfl, trivial⟩
  · obtain ⟨pl, pP⟩ := growL_perm hp.1 (List.mem_of_getElem? (hat k hk))
    have hk2 := hat k hk
    generalize hpe : (growL n []).getD k [] = p at *
    refine aw_cond rfl (fun _ => ?_) (fun q => by cases q)
    refine aw_skip ?_
    refine aw_block ?_
    refine aw_seq ?_
    refine aw_gh (gh_to (n := 12) (σ' := [(5, ⟨ints p, []⟩)]) (env' := [(0, .c (.val (yv l))), (1, .c (.ptr [ci n])), (3, .ref 5)]) rfl rfl ⟨rfl, rfl, rfl, trivial⟩) ?_
    refine aw_region ?_
    refine run_s (ss_move rfl) rfl ?_
    refine run_w (ws_callM (xs := [.tmp 9]) (cs := [.own (ints p)]) (ids := []) rfl (.inr ⟨rfl, rfl⟩) rfl rfl rfl (c_impl_nextPermutation p ⟨pP, by omega⟩) rfl rfl ?_ )
    rintro _ _ ⟨r0, o0, q, rfl, rfl⟩
    refine ⟨rfl, rfl, ?_⟩
    refine run_s (ss_not rfl) rfl ?_
    refine run_nil ?_
    rcases q with ⟨rfl, i, j, hx, rfl⟩ | ⟨rfl, rfl, hx⟩
    · refine aw_cond rfl (fun q => by cases q) (fun _ => ?_)
      refine aw_skip ?_
      have h1 := growL_next hp.1 hk2 hx
      refine ⟨(List.getElem?_eq_some_iff.1 h1).1, [], ?_⟩
      have e : (growL n []).getD (k + 1) [] = nxtL p i j := by rw [List.getD_eq_getElem?_getD, h1]; rfl
      show Gh [] _ ⟨[(5, ⟨ints ((growL n []).getD (k + 1) []), []⟩)], _, 12⟩
      rw [e]
      exact gh_to (n := 12) (σ' := [(5, ⟨ints (nxtL p i j), []⟩)]) (env' := [(0, .c (.val (yv l))), (1, .c (.ptr [ci n])), (3, .ref 5)]) rfl rfl ⟨rfl, rfl, rfl, trivial⟩
    · refine aw_cond rfl (fun _ => ?_) (fun q => by cases q)
      refine aw_ret ?_
      exact growL_last hp.1 hk2 hx
  · refine aw_cond rfl (fun q => by cases q) (fun _ => ?_)
    exact aw_exit rfl
theorem c_impl_permutations (n : Int) (_hp : 0 ≤ n ∧ n ≤ 12) : AF Try.prog 53 [ci n] (fun R_ => R_ = .clo 92 [.ptr [ci n]]) := by
  refine af_enter (n := 4) Try.func53 rfl (by rfl) rfl (Nat.le_of_ble_eq_true rfl) ?_
  refine aw_seq ?_
  refine aw_gh (gh_to (n := 4) (σ' := []) (env' := [(0, .c (ci n))]) rfl rfl ⟨rfl, trivial⟩) ?_
  refine aw_region ?_
  refine run_w (ws_boxR rfl (.inr rfl) rfl ⟨rfl, ?_⟩)
  refine run_s (ss_assign rfl) rfl ?_
  refine run_nil ?_
  refine aw_seq ?_
  refine aw_region ?_
  refine run_s (ss_makeFunc (os := [.tmp 1]) rfl) rfl ?_
  refine run_s (ss_assign rfl) rfl ?_
  refine run_nil ?_
  refine aw_ret ?_
  exact retAF_mk (retv1 rfl (rv_tmp rfl)) rfl rfl rfl



end Go.Proofs.Ytfpkpefokcphpaa
