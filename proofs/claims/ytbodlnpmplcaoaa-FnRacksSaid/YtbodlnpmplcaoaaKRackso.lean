/- Contracts of functions that the law FnRacks reaches: conditions, plain proofs, walks; no condition. -/
import Derived.Test.YtbodlnpmplcaoaaKRacksn
import Derived.Test.YtbodlnpmplcaoaaPo
namespace Go.Proofs.Ytbodlnpmplcaoaa

def wp_laws_likeInts (a : List Int) (b : List Int) (Q : Bool → Prop) : Prop :=
 ((¬ ((a.length : Int) = (b.length : Int)) →
  Q false) ∧
 ((a.length : Int) = (b.length : Int) →
  ∃ (H1 : Int → Prop) (m1 : Int → Nat),
  H1 0 ∧
  ∀ (v5_1 : Int), H1 v5_1 →
  ( ((v5_1 < (a.length : Int) →
    (0 ≤ v5_1 ∧ v5_1 < (a.length : Int)) ∧
    (0 ≤ v5_1 ∧ v5_1 < (b.length : Int)) ∧
    ((¬ (el a v5_1 = el b v5_1) →
     Q false) ∧
    (el a v5_1 = el b v5_1 →
     (InI (v5_1 + 1)) ∧
     (H1 (v5_1 + 1) ∧ m1 (v5_1 + 1) < m1 v5_1)))) ∧
   (¬ (v5_1 < (a.length : Int)) →
    Q true)))))

def wp_laws_same9 (a : List (List Int)) (b : List (List Int)) (Q : Bool → Prop) : Prop :=
 ((¬ ((a.length : Int) = (b.length : Int)) →
  Q false) ∧
 ((a.length : Int) = (b.length : Int) →
  ∃ (H1 : Int → Prop) (m1 : Int → Nat),
  H1 0 ∧
  ∀ (v5_1 : Int), H1 v5_1 →
  ( ((v5_1 < (a.length : Int) →
    (0 ≤ v5_1 ∧ v5_1 < (a.length : Int)) ∧
    (0 ≤ v5_1 ∧ v5_1 < (b.length : Int)) ∧
    (small (el a v5_1) ∧ small (el b v5_1)) ∧
    ((¬ ((el a v5_1) = (el b v5_1)) →
     Q false) ∧
    ((el a v5_1) = (el b v5_1) →
     (InI (v5_1 + 1)) ∧
     (H1 (v5_1 + 1) ∧ m1 (v5_1 + 1) < m1 v5_1)))) ∧
   (¬ (v5_1 < (a.length : Int)) →
    Q true)))))

def wp_spec_IsPermutation (p : List Int) (Q : Bool → Prop) : Prop :=
 (small p) ∧
 Q (permB p)

def wp_laws_image9 (t : List (List Int)) (p : List Int) (Q : List (List Int) → Prop) : Prop :=
 ((¬ ((p.length : Int) = (t.length : Int)) →
  Q ([])) ∧
 ((p.length : Int) = (t.length : Int) →
  (small p) ∧
  (((permB p) = false →
   Q ([])) ∧
  ((permB p) = true →
   ∃ (H1 : Int → List (List Int) → Prop) (m1 : Int → List (List Int) → Nat),
   H1 0 ([] : List (List Int)) ∧
   ∀ (v6_1 : Int) (o19_1 : List (List Int)), H1 v6_1 o19_1 →
   ( ((v6_1 < (t.length : Int) →
     (0 ≤ (t.length : Int) ∧ (t.length : Int) ≤ 1000000000) ∧
     ((o19_1.length : Int) + (([List.replicate (t.length : Int).toNat (0 : Int)]).length : Int) ≤ 1000000000) ∧
     (InI (v6_1 + 1)) ∧
     (H1 (v6_1 + 1) (o19_1 ++ ([List.replicate (t.length : Int).toNat (0 : Int)])) ∧ m1 (v6_1 + 1) (o19_1 ++ ([List.replicate (t.length : Int).toNat (0 : Int)])) < m1 v6_1 o19_1)) ∧
    (¬ (v6_1 < (t.length : Int)) →
     ∃ (H2 : Int → List (List Int) → Prop) (m2 : Int → List (List Int) → Nat),
     H2 0 o19_1 ∧
     ∀ (v7_2 : Int) (o19_2 : List (List Int)), H2 v7_2 o19_2 →
     ( ((v7_2 < (t.length : Int) →
       ∃ (H3 : Int → List (List Int) → Prop) (m3 : Int → List (List Int) → Nat),
       H3 0 o19_2 ∧
       ∀ (v8_3 : Int) (o19_3 : List (List Int)), H3 v8_3 o19_3 →
       ( (0 ≤ v7_2 ∧ v7_2 < (t.length : Int)) ∧
        ((v8_3 < ((el t v7_2).length : Int) →
         ((v8_3 < (t.length : Int) →
          (0 ≤ v7_2 ∧ v7_2 < (t.length : Int)) ∧
          (0 ≤ v8_3 ∧ v8_3 < ((el t v7_2).length : Int)) ∧
          ((el (el t v7_2) v8_3 < 0 →
           Q ([])) ∧
          (¬ (el (el t v7_2) v8_3 < 0) →
           (0 ≤ v7_2 ∧ v7_2 < (t.length : Int)) ∧
           (0 ≤ v8_3 ∧ v8_3 < ((el t v7_2).length : Int)) ∧
           (((p.length : Int) ≤ el (el t v7_2) v8_3 →
            Q ([])) ∧
           (¬ ((p.length : Int) ≤ el (el t v7_2) v8_3) →
            (0 ≤ v7_2 ∧ v7_2 < (p.length : Int)) ∧
            (0 ≤ v8_3 ∧ v8_3 < (p.length : Int)) ∧
            (0 ≤ v7_2 ∧ v7_2 < (t.length : Int)) ∧
            (0 ≤ el p v7_2 ∧ el p v7_2 < (o19_3.length : Int)) ∧
            (0 ≤ v8_3 ∧ v8_3 < ((el t v7_2).length : Int)) ∧
            (0 ≤ el (el t v7_2) v8_3 ∧ el (el t v7_2) v8_3 < (p.length : Int)) ∧
            (0 ≤ el p v8_3 ∧ el p v8_3 < ((el o19_3 (el p v7_2)).length : Int)) ∧
            (InI (v8_3 + 1)) ∧
            (H3 (v8_3 + 1) (se o19_3 (el p v7_2) (se (el o19_3 (el p v7_2)) (el p v8_3) (el p (el (el t v7_2) v8_3)))) ∧ m3 (v8_3 + 1) (se o19_3 (el p v7_2) (se (el o19_3 (el p v7_2)) (el p v8_3) (el p (el (el t v7_2) v8_3)))) < m3 v8_3 o19_3)))))) ∧
         (¬ (v8_3 < (t.length : Int)) →
          (InI (v7_2 + 1)) ∧
          (H2 (v7_2 + 1) o19_3 ∧ m2 (v7_2 + 1) o19_3 < m2 v7_2 o19_2)))) ∧
        (¬ (v8_3 < ((el t v7_2).length : Int)) →
         (InI (v7_2 + 1)) ∧
         (H2 (v7_2 + 1) o19_3 ∧ m2 (v7_2 + 1) o19_3 < m2 v7_2 o19_2))))) ∧
      (¬ (v7_2 < (t.length : Int)) →
       Q o19_2))))))))))

def wp_impl_IsQuandle (r : List (List Int)) (Q : Bool → Int → Prop) : Prop :=
 (small2 r) ∧
 (((isRk r) = false →
  Q false 1) ∧
 ((isRk r) = true →
  (isTab r = true) ∧
  (small (diag r)) ∧
  Q (incB (diag r)) 0))

def wp_spec_DrawRackFault (code : List Int) (Q : List (List Int) → Prop) : Prop :=
 (small code ∧ bytes code) ∧
 ∀ (r1_0 : List Int) (r1_1 : Int) (r1_2 : Int), (r1_0 = code ∧ okS code r1_1 r1_2) →
 (okS r1_0 r1_1 r1_2 ∧ 1 ≤ (5 : Int) ∧ (5 : Int) ≤ 12) ∧
 ∀ (r2_0 : List (List Int)) (o2_0 : List Int) (o2_1 : Int) (o2_2 : Int), (drT (5 : Int) r2_0 ∧ o2_0 = r1_0 ∧ okS r1_0 o2_1 o2_2) →
 ((0 < (r2_0.length : Int) →
  (okS o2_0 o2_1 o2_2 ∧ InI (2 : Int)) ∧
  ∀ (r3_0 : Int) (o3_0 : List Int) (o3_1 : Int) (o3_2 : Int), (nxP (2 : Int) r3_0 ∧ o3_0 = o2_0 ∧ okS o2_0 o3_1 o3_2) →
  ((r3_0 = 0 →
   (okS o3_0 o3_1 o3_2 ∧ InI (r2_0.length : Int)) ∧
   ∀ (r4_0 : Int) (o4_0 : List Int) (o4_1 : Int) (o4_2 : Int), (nxP (r2_0.length : Int) r4_0 ∧ o4_0 = o3_0 ∧ okS o3_0 o4_1 o4_2) →
   (okS o4_0 o4_1 o4_2 ∧ (r2_0.length : Int) ≤ 1000) ∧
   ∀ (r5_0 : List Int) (o5_0 : List Int) (o5_1 : Int) (o5_2 : Int), (((r5_0.length : Int) = max (r2_0.length : Int) 0 ∧ ∀ z_ ∈ r5_0, 0 ≤ z_ ∧ z_ < (r2_0.length : Int)) ∧ o5_0 = o4_0 ∧ okS o4_0 o5_1 o5_2) →
   (0 ≤ r4_0 ∧ r4_0 < (r2_0.length : Int)) ∧
   Q (se r2_0 r4_0 r5_0)) ∧
  (¬ (r3_0 = 0) →
   Q r2_0))) ∧
 (¬ (0 < (r2_0.length : Int)) →
  Q r2_0))

theorem p_laws_likeInts (a b : List Int) (hp : small a ∧ small b) : wp_laws_likeInts a b (fun y0 => y0 = decide (a = b)) := by
  unfold wp_laws_likeInts
  obtain ⟨ha, hb⟩ := hp
  refine ⟨fun h => (decide_eq_false fun e => h (by rw [e])).symm, fun h => ⟨fun i => 0 ≤ i ∧ i ≤ (a.length : Int) ∧ Upto i fun j => el a j = el b j, fun i => ((a.length : Int) - i).toNat, ⟨by omega, by omega, upto0⟩, ?_⟩⟩
  rintro i ⟨h0, h1, hI⟩
  dsimp only
  refine ⟨fun hlt => ⟨⟨h0, hlt⟩, ⟨h0, by omega⟩, fun hf => (decide_eq_false fun e => hf (by rw [e])).symm, fun ht => ⟨⟨by omega, by omega⟩, ⟨by omega, by omega, upto1 hI ht⟩, by omega⟩⟩, fun hge => ?_⟩
  exact (decide_eq_true (ext_el (by omega) fun j h2 h3 => hI j h2 (by omega))).symm
theorem p_laws_same9 (a b : List (List Int)) (hp : small2 a ∧ small2 b) : wp_laws_same9 a b (fun y0 => y0 = decide (a = b)) := by
  unfold wp_laws_same9
  obtain ⟨⟨ha, ha2⟩, hb, hb2⟩ := hp
  refine ⟨fun h => (decide_eq_false fun e => h (by rw [e])).symm, fun h => ⟨fun i => 0 ≤ i ∧ i ≤ (a.length : Int) ∧ Upto i fun j => el a j = el b j, fun i => ((a.length : Int) - i).toNat, ⟨by omega, by omega, upto0⟩, ?_⟩⟩
  rintro i ⟨h0, h1, hI⟩
  dsimp only
  refine ⟨fun hlt => ⟨⟨h0, hlt⟩, ⟨h0, by omega⟩, ⟨ha2 _ (el_mem ⟨h0, hlt⟩), hb2 _ (el_mem ⟨h0, by omega⟩)⟩, fun hf => (decide_eq_false fun e => hf (by rw [e])).symm, fun ht => ⟨⟨by omega, by omega⟩, ⟨by omega, by omega, upto1 hI ht⟩, by omega⟩⟩, fun hge => ?_⟩
  exact (decide_eq_true (ext_el (by omega) fun j h2 h3 => hI j h2 (by omega))).symm
theorem p_spec_IsPermutation (p : List Int) (hp : small p) : wp_spec_IsPermutation p (fun y0 => y0 = permB p) := ⟨hp, rfl⟩
theorem p_laws_image9 (t : List (List Int)) (p : List Int) (hp : isTab t = true ∧ small p) : wp_laws_image9 t p (fun y0 => y0 = imgI t p) := by
  obtain ⟨ht, hs⟩ := hp
  have hn := isTab_len ht
  unfold wp_laws_image9 imgI
  refine ⟨fun h => by rw [if_neg fun g => h g.1], fun hl => ⟨hs, fun h => by rw [if_neg fun g => by rw [h] at g; exact absurd g.2 (by simp)], fun hpm => ?_⟩⟩
  rw [if_pos ⟨hl, hpm⟩]
  have hP := permB_isPerm hpm
  refine ⟨fun x o => (0 ≤ x ∧ x ≤ (t.length : Int)) ∧ (o.length : Int) = x ∧ ∀ q ∈ o, (q.length : Int) = (t.length : Int), fun x _ => ((t.length : Int) - x).toNat, ⟨⟨by omega, by omega⟩, rfl, by simp⟩, ?_⟩
  rintro x o ⟨⟨x0, x1⟩, ol, ho⟩
  dsimp only
  refine ⟨fun xn => ⟨⟨by omega, by omega⟩, by rw [List.length_singleton]; omega, ⟨by omega, by omega⟩, ⟨⟨by omega, by omega⟩, by simp; omega, mem_app ho (by simp)⟩, by omega⟩, fun xn => ?_⟩
  refine ⟨fun x o => (0 ≤ x ∧ x ≤ (t.length : Int)) ∧ RnI t p x 0 o, fun x _ => ((t.length : Int) - x).toNat, ⟨⟨by omega, by omega⟩, by omega, fun u u0 u1 => ho _ (el_mem ⟨u0, by omega⟩), fun u v u0 u1 v0 v1 hc => absurd hc (by omega)⟩, ?_⟩
  rintro x o ⟨⟨x0, x1⟩, hR⟩
  dsimp only
  refine ⟨fun xn => ?_, fun xn => by rw [show x = (t.length : Int) by omega] at hR; exact rnI_end hP hl hR⟩
  have lx := rk_len ht ⟨x0, xn⟩
  refine ⟨fun y o => (0 ≤ y ∧ y ≤ (t.length : Int)) ∧ RnI t p x y o, fun y _ => ((t.length : Int) - y).toNat, ⟨⟨by omega, by omega⟩, hR⟩, ?_⟩
  rintro y o ⟨⟨y0, y1⟩, hR⟩
  dsimp only
  refine ⟨⟨x0, xn⟩, fun yl => ⟨fun yn => ?_, fun yn => absurd yn (by omega)⟩, fun yl => ?_⟩
  · have v := rk_el ht ⟨x0, xn⟩ ⟨y0, yn⟩
    have px := permB_el hpm (i := x) ⟨x0, by omega⟩
    have py := permB_el hpm (i := y) ⟨y0, by omega⟩
    have ho := hR.len
    have hr := hR.row (el p x) px.1 (by omega)
    exact ⟨⟨x0, xn⟩, ⟨y0, yl⟩, fun g => absurd g (by omega), fun _ => ⟨⟨x0, xn⟩, ⟨y0, yl⟩, fun g => absurd g (by omega), fun _ => ⟨⟨x0, by omega⟩, ⟨y0, by omega⟩, ⟨x0, xn⟩, ⟨px.1, by omega⟩, ⟨y0, yl⟩, ⟨v.1, by omega⟩, ⟨py.1, by omega⟩, ⟨by omega, by omega⟩, ⟨⟨by omega, by omega⟩, rnI_step hP hl hR ⟨x0, xn⟩ ⟨y0, yn⟩⟩, by omega⟩⟩⟩
  · rw [show y = (t.length : Int) by omega] at hR
    exact ⟨⟨by omega, by omega⟩, ⟨⟨by omega, by omega⟩, rnI_row hR⟩, by omega⟩
theorem p_impl_IsQuandle (r : List (List Int)) (hp : small2 r) : wp_impl_IsQuandle r (fun y0 y1 => y0 = (isRk r && decide (diag r = unitI (r.length : Int))) ∧ y1 = rkE r) := by
  unfold wp_impl_IsQuandle rkE
  refine ⟨hp, fun h => by rw [h]; exact ⟨rfl, rfl⟩, fun h => ?_⟩
  have ht := isRk_tab h
  have hn := isTab_len ht
  refine ⟨ht, by show (_ : Int) ≤ _; rw [length_diag]; omega, ?_, by rw [h]; rfl⟩
  rw [h, incB_unit fun i i0 i1 => by rw [length_diag] at i1 ⊢; rw [el_diag ⟨i0, i1⟩]; exact rk_el ht ⟨i0, i1⟩ ⟨i0, i1⟩, length_diag]
  rfl
theorem p_spec_DrawRackFault (code : List Int) (hp : small code ∧ bytes code) : wp_spec_DrawRackFault code (fun y0 => drT 5 y0) := by
  refine ⟨hp, ?_⟩
  rintro c a h ⟨rfl, h1⟩
  refine ⟨⟨h1, by omega, by omega⟩, ?_⟩
  rintro t o0 o1 o2 ⟨ht, rfl, h2⟩
  have hl := ht.1
  refine ⟨fun hn => ⟨⟨h2, by omega, by omega⟩, ?_⟩, fun _ => ht⟩
  rintro k p0 p1 p2 ⟨_, rfl, h3⟩
  refine ⟨fun _ => ⟨⟨h3, by omega, by omega⟩, ?_⟩, fun _ => ht⟩
  rintro i q0 q1 q2 ⟨hi, rfl, h4⟩
  refine ⟨⟨h4, by omega⟩, ?_⟩
  rintro p w0 w1 w2 ⟨⟨pl, pz⟩, rfl, _⟩
  exact ⟨hi.2 (by omega), drT_se ht ⟨by omega, fun z hz => by have := pz z hz; omega⟩⟩

set_option maxRecDepth 100000 in
set_option maxHeartbeats 4000000 in
theorem w_laws_likeInts (a : List Int) (b : List Int) (Q : Bool → Prop) (h : wp_laws_likeInts a b Q) : AF Try.prog 13 [.lst (ints a), .lst (ints b)] (fun R_ => ∃ y0, Q y0 ∧ R_ = cb y0) := by
  refine AF.ofWQ (af_enter (n := 26) Try.func13 rfl (by rfl) rfl (Nat.le_of_ble_eq_true rfl) ?_)
  unfold wp_laws_likeInts at h
  refine aw_seq ?_
  refine aw_gh (gh_to (n := 26) (σ' := []) (env' := [(0, .c (.lst (ints a))), (1, .c (.lst (ints b)))]) rfl rfl ⟨rfl, rfl, trivial⟩) ?_
  refine aw_region ?_
  refine run_s (ss_assign rfl) rfl ?_
  refine run_nil ?_
  refine aw_seq ?_
  refine aw_seq ?_
  refine aw_region ?_
  refine run_s (ss_move rfl) rfl ?_
  refine run_s (ss_lenL (f := ci) rfl) rfl ?_
  refine run_s (ss_move rfl) rfl ?_
  refine run_s (ss_lenL (f := ci) rfl) rfl ?_
  refine run_s (ss_neq rfl rfl) rfl ?_
  refine run_nil ?_
  refine aw_cond rfl (fun q1 => ?_) (fun q1 => ?_)
  · replace h := h.1 (of_decide_eq_false (bnot_t q1))
    refine aw_seq ?_
    refine aw_gh (gh_to (n := 26) (σ' := []) (env' := [(4, .c (cb false))]) rfl rfl ⟨rfl, trivial⟩) ?_
    refine aw_region ?_
    refine run_s (ss_assign rfl) rfl ?_
    refine run_nil ?_
    refine aw_ret ?_
    exact retAF_mk (retv1 rfl (rv_tmp rfl)) rfl rfl ⟨_, (cle_refl _), _, h, rfl⟩
  · replace h := h.2 (of_decide_eq_true (bnot_f q1))
    refine aw_skip ?_
    refine aw_seq ?_
    refine aw_seq ?_
    refine aw_gh (gh_to (n := 26) (σ' := []) (env' := [(0, .c (.lst (ints a))), (1, .c (.lst (ints b)))]) rfl rfl ⟨rfl, rfl, trivial⟩) ?_
    refine aw_region ?_
    refine run_s (ss_assign rfl) rfl ?_
    refine run_nil ?_
    refine aw_block ?_
    obtain ⟨H1, m1, q2, h⟩ := h
    refine aw_loop1 (fun (v5_1 : Int) => ⟨[], [(0, .c (.lst (ints a))), (1, .c (.lst (ints b))), (5, .c (ci v5_1))], 26⟩) H1 m1 ⟨0, ghe_to (n := 26) rfl rfl ⟨rfl, rfl, rfl, trivial⟩, q2⟩ ?_
    rintro v5_1 q2
    replace h := h v5_1 q2
    refine aw_seq ?_
    refine aw_seq ?_
    refine aw_region ?_
    refine run_s (ss_move rfl) rfl ?_
    refine run_s (ss_move rfl) rfl ?_
    refine run_s (ss_lenL (f := ci) rfl) rfl ?_
    refine run_s (ss_lss rfl rfl) rfl ?_
    refine run_nil ?_
    refine aw_cond rfl (fun q3 => ?_) (fun q3 => ?_)
    · replace h := h.1 (of_decide_eq_true q3)
      refine aw_skip ?_
      refine aw_seq ?_
      refine aw_block ?_
      refine aw_seq ?_
      refine aw_gh (gh_to (n := 26) (σ' := []) (env' := [(0, .c (.lst (ints a))), (1, .c (.lst (ints b))), (5, .c (ci v5_1))]) rfl rfl ⟨rfl, rfl, rfl, trivial⟩) ?_
      refine aw_regionD (kd := kdl [0, 0, 0, 1, 0, 0, 0, 1, 0]) (ord := [0, 1, 2, 4, 5, 6, 3, 7, 8]) [] mixed (by kernel_rfl) ?_
      refine rd_s rfl rfl trivial (ss_move rfl) rfl ?_
      refine rd_s rfl rfl trivial (ss_move rfl) rfl ?_
      obtain ⟨q4, h⟩ := h
      refine rd_s rfl rfl trivial (ss_idxL rfl rfl q4) rfl ?_
      refine rd_s rfl rfl trivial (ss_move rfl) rfl ?_
      refine rd_s rfl rfl trivial (ss_move rfl) rfl ?_
      obtain ⟨q5, h⟩ := h
      refine rd_s rfl rfl trivial (ss_idxL rfl rfl q5) rfl ?_
      refine rd_l rfl rfl trivial (ss_loadL (f := ci) rfl q4) rfl ?_
      refine rd_l rfl rfl trivial (ss_loadL (f := ci) rfl q5) rfl ?_
      refine rd_s rfl rfl trivial (ss_neq rfl rfl) rfl ?_
      refine rd_nil ?_
      refine aw_cond rfl (fun q6 => ?_) (fun q6 => ?_)
      · replace h := h.1 (of_decide_eq_false (bnot_t q6))
        refine aw_seq ?_
        refine aw_gh (gh_to (n := 26) (σ' := []) (env' := []) rfl rfl trivial) ?_
        refine aw_region ?_
        refine run_s (ss_assign rfl) rfl ?_
        refine run_nil ?_
        refine aw_ret ?_
        exact retAF_mk (retv1 rfl (rv_tmp rfl)) rfl rfl ⟨_, (cle_refl _), _, h, rfl⟩
      · replace h := h.2 (of_decide_eq_true (bnot_f q6))
        refine aw_skip ?_
        refine aw_gh (gh_to (n := 26) (σ' := []) (env' := [(0, .c (.lst (ints a))), (1, .c (.lst (ints b))), (5, .c (ci v5_1))]) rfl rfl ⟨rfl, rfl, rfl, trivial⟩) ?_
        refine aw_region ?_
        refine run_s (ss_move rfl) rfl ?_
        obtain ⟨q7, h⟩ := h
        refine run_s (ss_add rfl rfl q7) rfl ?_
        refine run_s (ss_assign rfl) rfl ?_
        refine run_nil ?_
        exact ⟨v5_1 + 1, ghe_to (n := 26) rfl rfl ⟨rfl, rfl, rfl, trivial⟩, h.1, h.2⟩
    · replace h := h.2 (of_decide_eq_false q3)
      refine aw_exit ?_
      refine aw_seq ?_
      refine aw_gh (gh_to (n := 26) (σ' := []) (env' := []) rfl rfl trivial) ?_
      refine aw_region ?_
      refine run_s (ss_assign rfl) rfl ?_
      refine run_nil ?_
      refine aw_ret ?_
      exact retAF_mk (retv1 rfl (rv_tmp rfl)) rfl rfl ⟨_, (cle_refl _), _, h, rfl⟩

theorem c_laws_likeInts (a : List Int) (b : List Int) (hp : small a ∧ small b) : AF Try.prog 13 [.lst (ints a), .lst (ints b)] (fun R_ => R_ = cb (decide (a = b))) :=
  (w_laws_likeInts a b (fun y0 => y0 = decide (a = b)) (p_laws_likeInts a b hp)).mono (by rintro r ⟨_, rfl, rfl⟩; rfl)

set_option maxRecDepth 100000 in
set_option maxHeartbeats 4000000 in
theorem w_laws_same9 (a : List (List Int)) (b : List (List Int)) (Q : Bool → Prop) (h : wp_laws_same9 a b Q) : AF Try.prog 26 [.lst (rows a), .lst (rows b)] (fun R_ => ∃ y0, Q y0 ∧ R_ = cb y0) := by
  refine AF.ofWQ (af_enter (n := 27) Try.func26 rfl (by rfl) rfl (Nat.le_of_ble_eq_true rfl) ?_)
  unfold wp_laws_same9 at h
  refine aw_seq ?_
  refine aw_gh (gh_to (n := 27) (σ' := []) (env' := [(0, .c (.lst (rows a))), (1, .c (.lst (rows b)))]) rfl rfl ⟨rfl, rfl, trivial⟩) ?_
  refine aw_region ?_
  refine run_s (ss_assign rfl) rfl ?_
  refine run_nil ?_
  refine aw_seq ?_
  refine aw_seq ?_
  refine aw_region ?_
  refine run_s (ss_move rfl) rfl ?_
  refine run_s (ss_lenL (f := (fun r => C.lst (ints r))) rfl) rfl ?_
  refine run_s (ss_move rfl) rfl ?_
  refine run_s (ss_lenL (f := (fun r => C.lst (ints r))) rfl) rfl ?_
  refine run_s (ss_neq rfl rfl) rfl ?_
  refine run_nil ?_
  refine aw_cond rfl (fun q1 => ?_) (fun q1 => ?_)
  · replace h := h.1 (of_decide_eq_false (bnot_t q1))
    refine aw_seq ?_
    refine aw_gh (gh_to (n := 27) (σ' := []) (env' := [(4, .c (cb false))]) rfl rfl ⟨rfl, trivial⟩) ?_
    refine aw_region ?_
    refine run_s (ss_assign rfl) rfl ?_
    refine run_nil ?_
    refine aw_ret ?_
    exact retAF_mk (retv1 rfl (rv_tmp rfl)) rfl rfl ⟨_, (cle_refl _), _, h, rfl⟩
  · replace h := h.2 (of_decide_eq_true (bnot_f q1))
    refine aw_skip ?_
    refine aw_seq ?_
    refine aw_seq ?_
    refine aw_gh (gh_to (n := 27) (σ' := []) (env' := [(0, .c (.lst (rows a))), (1, .c (.lst (rows b)))]) rfl rfl ⟨rfl, rfl, trivial⟩) ?_
    refine aw_region ?_
    refine run_s (ss_assign rfl) rfl ?_
    refine run_nil ?_
    refine aw_block ?_
    obtain ⟨H1, m1, q2, h⟩ := h
    refine aw_loop1 (fun (v5_1 : Int) => ⟨[], [(0, .c (.lst (rows a))), (1, .c (.lst (rows b))), (5, .c (ci v5_1))], 27⟩) H1 m1 ⟨0, ghe_to (n := 27) rfl rfl ⟨rfl, rfl, rfl, trivial⟩, q2⟩ ?_
    rintro v5_1 q2
    replace h := h v5_1 q2
    refine aw_seq ?_
    refine aw_seq ?_
    refine aw_region ?_
    refine run_s (ss_move rfl) rfl ?_
    refine run_s (ss_move rfl) rfl ?_
    refine run_s (ss_lenL (f := (fun r => C.lst (ints r))) rfl) rfl ?_
    refine run_s (ss_lss rfl rfl) rfl ?_
    refine run_nil ?_
    refine aw_cond rfl (fun q3 => ?_) (fun q3 => ?_)
    · replace h := h.1 (of_decide_eq_true q3)
      refine aw_skip ?_
      refine aw_seq ?_
      refine aw_block ?_
      refine aw_seq ?_
      refine aw_gh (gh_to (n := 27) (σ' := []) (env' := [(0, .c (.lst (rows a))), (1, .c (.lst (rows b))), (5, .c (ci v5_1))]) rfl rfl ⟨rfl, rfl, rfl, trivial⟩) ?_
      refine aw_regionD (kd := kdl [0, 0, 0, 1, 0, 0, 0, 1, 2, 0]) (ord := [0, 1, 2, 4, 5, 6, 3, 7, 8, 9]) [] mixed (by kernel_rfl) ?_
      refine rd_s rfl rfl trivial (ss_move rfl) rfl ?_
      refine rd_s rfl rfl trivial (ss_move rfl) rfl ?_
      obtain ⟨q4, h⟩ := h
      refine rd_s rfl rfl trivial (ss_idxL rfl rfl q4) rfl ?_
      refine rd_s rfl rfl trivial (ss_move rfl) rfl ?_
      refine rd_s rfl rfl trivial (ss_move rfl) rfl ?_
      obtain ⟨q5, h⟩ := h
      refine rd_s rfl rfl trivial (ss_idxL rfl rfl q5) rfl ?_
      refine rd_l rfl rfl trivial (ss_loadL (f := (fun r => C.lst (ints r))) rfl q4) rfl ?_
      refine rd_l rfl rfl trivial (ss_loadL (f := (fun r => C.lst (ints r))) rfl q5) rfl ?_
      obtain ⟨q6, h⟩ := h
      refine rd_w rfl rfl trivial rfl rfl (ws_call (xs := [.tmp 20, .tmp 24]) (ids := []) rfl rfl rfl rfl (c_laws_likeInts (el a v5_1) (el b v5_1) q6) rfl ?_ )
      rintro _ rfl
      refine ⟨rfl, ?_⟩
      refine rd_s rfl rfl trivial (ss_not rfl) rfl ?_
      refine rd_nil ?_
      refine aw_cond rfl (fun q8 => ?_) (fun q8 => ?_)
      · replace h := h.1 (of_decide_eq_false (bnot_t q8))
        refine aw_seq ?_
        refine aw_gh (gh_to (n := 27) (σ' := []) (env' := []) rfl rfl trivial) ?_
        refine aw_region ?_
        refine run_s (ss_assign rfl) rfl ?_
        refine run_nil ?_
        refine aw_ret ?_
        exact retAF_mk (retv1 rfl (rv_tmp rfl)) rfl rfl ⟨_, (cle_refl _), _, h, rfl⟩
      · replace h := h.2 (of_decide_eq_true (bnot_f q8))
        refine aw_skip ?_
        refine aw_gh (gh_to (n := 27) (σ' := []) (env' := [(0, .c (.lst (rows a))), (1, .c (.lst (rows b))), (5, .c (ci v5_1))]) rfl rfl ⟨rfl, rfl, rfl, trivial⟩) ?_
        refine aw_region ?_
        refine run_s (ss_move rfl) rfl ?_
        obtain ⟨q9, h⟩ := h
        refine run_s (ss_add rfl rfl q9) rfl ?_
        refine run_s (ss_assign rfl) rfl ?_
        refine run_nil ?_
        exact ⟨v5_1 + 1, ghe_to (n := 27) rfl rfl ⟨rfl, rfl, rfl, trivial⟩, h.1, h.2⟩
    · replace h := h.2 (of_decide_eq_false q3)
      refine aw_exit ?_
      refine aw_seq ?_
      refine aw_gh (gh_to (n := 27) (σ' := []) (env' := []) rfl rfl trivial) ?_
      refine aw_region ?_
      refine run_s (ss_assign rfl) rfl ?_
      refine run_nil ?_
      refine aw_ret ?_
      exact retAF_mk (retv1 rfl (rv_tmp rfl)) rfl rfl ⟨_, (cle_refl _), _, h, rfl⟩

theorem c_laws_same9 (a : List (List Int)) (b : List (List Int)) (hp : small2 a ∧ small2 b) : AF Try.prog 26 [.lst (rows a), .lst (rows b)] (fun R_ => R_ = cb (decide (a = b))) :=
  (w_laws_same9 a b (fun y0 => y0 = decide (a = b)) (p_laws_same9 a b hp)).mono (by rintro r ⟨_, rfl, rfl⟩; rfl)

set_option maxRecDepth 100000 in
set_option maxHeartbeats 4000000 in
theorem w_spec_IsPermutation (p : List Int) (Q : Bool → Prop) (h : wp_spec_IsPermutation p Q) : AF Try.prog 98 [.lst (ints p)] (fun R_ => ∃ y0, Q y0 ∧ R_ = cb y0) := by
  refine AF.ofWQ (af_enter (n := 5) Try.func98 rfl (by rfl) rfl (Nat.le_of_ble_eq_true rfl) ?_)
  unfold wp_spec_IsPermutation at h
  refine aw_seq ?_
  refine aw_gh (gh_to (n := 5) (σ' := []) (env' := [(0, .c (.lst (ints p)))]) rfl rfl ⟨rfl, trivial⟩) ?_
  refine aw_region ?_
  refine run_s (ss_assign rfl) rfl ?_
  refine run_nil ?_
  refine aw_seq ?_
  refine aw_region ?_
  refine run_s (ss_move rfl) rfl ?_
  obtain ⟨q1, h⟩ := h
  refine run_w (ws_call (xs := [.tmp 3]) (ids := []) rfl rfl rfl rfl (c_spec_l01Perm p q1) rfl ?_ )
  rintro _ rfl
  refine ⟨rfl, ?_⟩
  refine run_s (ss_assign rfl) rfl ?_
  refine run_nil ?_
  refine aw_ret ?_
  exact retAF_mk (retv1 rfl (rv_tmp rfl)) rfl rfl ⟨_, (cle_refl _), _, h, rfl⟩

theorem c_spec_IsPermutation (p : List Int) (hp : small p) : AF Try.prog 98 [.lst (ints p)] (fun R_ => R_ = cb (permB p)) :=
  (w_spec_IsPermutation p (fun y0 => y0 = permB p) (p_spec_IsPermutation p hp)).mono (by rintro r ⟨_, rfl, rfl⟩; rfl)

set_option maxRecDepth 100000 in
set_option maxHeartbeats 4000000 in
theorem w_laws_image9 (t : List (List Int)) (p : List Int) (Q : List (List Int) → Prop) (h : wp_laws_image9 t p Q) : AF Try.prog 27 [.lst (rows t), .lst (ints p)] (fun R_ => ∃ y0, Q y0 ∧ R_ = .own (orows y0)) := by
  refine AF.ofWQ (af_enter (n := 96) Try.func27 rfl (by rfl) rfl (Nat.le_of_ble_eq_true rfl) ?_)
  unfold wp_laws_image9 at h
  refine aw_seq ?_
  refine aw_gh (gh_to (n := 96) (σ' := []) (env' := [(0, .c (.lst (rows t))), (1, .c (.lst (ints p)))]) rfl rfl ⟨rfl, rfl, trivial⟩) ?_
  refine aw_region ?_
  refine run_s (ss_assign rfl) rfl ?_
  refine run_nil ?_
  refine aw_seq ?_
  refine aw_seq ?_
  refine aw_region ?_
  refine run_s (ss_move rfl) rfl ?_
  refine run_s (ss_lenL (f := ci) rfl) rfl ?_
  refine run_s (ss_move rfl) rfl ?_
  refine run_s (ss_lenL (f := (fun r => C.lst (ints r))) rfl) rfl ?_
  refine run_s (ss_neq rfl rfl) rfl ?_
  refine run_s (ss_move rfl) rfl ?_
  refine run_split (s := 14) rfl (fun q1 => ?_) (fun q1 => ?_)
  · replace h := h.1 (of_decide_eq_false (bnot_t q1))
    refine run_gf rfl rfl q1 rfl ?_
    refine run_gf rfl rfl q1 rfl ?_
    refine run_gf rfl rfl q1 rfl ?_
    refine run_s (ss_pickT rfl q1 rfl) rfl ?_
    refine run_nil ?_
    refine aw_cond rfl (fun q2 => ?_) (fun q2 => ?_)
    · skip
      refine aw_seq ?_
      refine aw_gh (gh_to (n := 96) (σ' := []) (env' := [(4, .c (cnil))]) rfl rfl ⟨rfl, trivial⟩) ?_
      refine aw_region ?_
      refine run_s (ss_assign rfl) rfl ?_
      refine run_nil ?_
      refine aw_ret ?_
      exact retAF_mk (retv1 rfl (rv_tmp rfl)) rfl rfl ⟨_, cle_nilO, _, h, rfl⟩
    · cases q2
  · replace h := h.2 (of_decide_eq_true (bnot_f q1))
    refine run_gt rfl rfl q1 ?_
    refine run_s (ss_move rfl) rfl ?_
    refine run_gt rfl rfl q1 ?_
    obtain ⟨q3, h⟩ := h
    refine run_w (ws_call (xs := [.tmp 15]) (ids := []) rfl rfl rfl rfl (c_spec_IsPermutation p q3) rfl ?_ )
    rintro _ rfl
    refine ⟨rfl, ?_⟩
    refine run_gt rfl rfl q1 ?_
    refine run_s (ss_not rfl) rfl ?_
    refine run_s (ss_pickF rfl q1 rfl) rfl ?_
    refine run_nil ?_
    refine aw_cond rfl (fun q5 => ?_) (fun q5 => ?_)
    · replace h := h.1 ((bnot_t q5))
      refine aw_seq ?_
      refine aw_gh (gh_to (n := 96) (σ' := []) (env' := [(4, .c (cnil))]) rfl rfl ⟨rfl, trivial⟩) ?_
      refine aw_region ?_
      refine run_s (ss_assign rfl) rfl ?_
      refine run_nil ?_
      refine aw_ret ?_
      exact retAF_mk (retv1 rfl (rv_tmp rfl)) rfl rfl ⟨_, cle_nilO, _, h, rfl⟩
    · replace h := h.2 ((bnot_f q5))
      refine aw_skip ?_
      refine aw_seq ?_
      refine aw_region ?_
      refine run_w (ws_buildSlice (id := 19) (ps := []) rfl rfl (Nat.le_of_ble_eq_true rfl) rfl ⟨rfl, ?_⟩)
      refine run_s (ss_assign rfl) rfl ?_
      refine run_nil ?_
      refine aw_seq ?_
      refine aw_seq ?_
      refine aw_region ?_
      refine run_s (ss_assign rfl) rfl ?_
      refine run_nil ?_
      refine aw_block ?_
      obtain ⟨H1, m1, q6, h⟩ := h
      refine aw_loop2 (fun (v6_1 : Int) (o19_1 : List (List Int)) => ⟨[(19, ⟨orows o19_1, []⟩)], [(0, .c (.lst (rows t))), (1, .c (.lst (ints p))), (5, .ref 19), (6, .c (ci v6_1))], 96⟩) H1 m1 ⟨0, ([] : List (List Int)), ghe_to (n := 96) rfl rfl ⟨rfl, rfl, rfl, rfl, trivial⟩, q6⟩ ?_
      rintro v6_1 o19_1 q6
      replace h := h v6_1 o19_1 q6
      refine aw_seq ?_
      refine aw_seq ?_
      refine aw_region ?_
      refine run_s (ss_move rfl) rfl ?_
      refine run_s (ss_move rfl) rfl ?_
      refine run_s (ss_lenL (f := (fun r => C.lst (ints r))) rfl) rfl ?_
      refine run_s (ss_lss rfl rfl) rfl ?_
      refine run_nil ?_
      refine aw_cond rfl (fun q7 => ?_) (fun q7 => ?_)
      · replace h := h.1 (of_decide_eq_true q7)
        refine aw_skip ?_
        refine aw_seq ?_
        refine aw_block ?_
        refine aw_region ?_
        refine run_s (ss_move rfl) rfl ?_
        refine run_s (ss_move rfl) rfl ?_
        refine run_s (ss_lenL (f := (fun r => C.lst (ints r))) rfl) rfl ?_
        obtain ⟨q8, h⟩ := h
        refine run_w (ws_mk (id := 29) ci (0 : Int) rfl rfl rfl q8 (Nat.le_of_ble_eq_true rfl) rfl ⟨rfl, ?_⟩)
        refine run_w (ws_buildSlice (id := 30) (ps := [(0, .tmp 29)]) rfl rfl (Nat.le_of_ble_eq_true rfl) rfl ⟨rfl, ?_⟩)
        refine run_gh (gh_fill (id := 30) (id2 := 29) (j := 0) rfl rfl (Nat.le_of_ble_eq_true rfl) rfl rfl rfl) ?_
        obtain ⟨q9, h⟩ := h
        refine run_w (ws_app1 (fun r => C.own (ints r)) (l := o19_1) (m := [List.replicate (t.length : Int).toNat (0 : Int)]) rfl rfl rfl rfl rfl (Nat.le_of_ble_eq_true rfl) q9 ⟨rfl, ?_⟩)
        refine run_s (ss_assign rfl) rfl ?_
        refine run_nil ?_
        refine aw_region ?_
        refine run_s (ss_move rfl) rfl ?_
        obtain ⟨q10, h⟩ := h
        refine run_s (ss_add rfl rfl q10) rfl ?_
        refine run_s (ss_assign rfl) rfl ?_
        refine run_nil ?_
        exact ⟨v6_1 + 1, o19_1 ++ ([List.replicate (t.length : Int).toNat (0 : Int)]), ghe_to (n := 96) rfl rfl ⟨rfl, rfl, rfl, rfl, trivial⟩, h.1, h.2⟩
      · replace h := h.2 (of_decide_eq_false q7)
        refine aw_exit ?_
        refine aw_seq ?_
        refine aw_seq ?_
        refine aw_region ?_
        refine run_s (ss_assign rfl) rfl ?_
        refine run_nil ?_
        refine aw_block ?_
        obtain ⟨H2, m2, q11, h⟩ := h
        refine aw_loop2 (fun (v7_2 : Int) (o19_2 : List (List Int)) => ⟨[(19, ⟨orows o19_2, []⟩)], [(0, .c (.lst (rows t))), (1, .c (.lst (ints p))), (5, .ref 19), (7, .c (ci v7_2))], 96⟩) H2 m2 ⟨0, o19_1, ghe_to (n := 96) rfl rfl ⟨rfl, rfl, rfl, rfl, trivial⟩, q11⟩ ?_
        rintro v7_2 o19_2 q11
        replace h := h v7_2 o19_2 q11
        refine aw_seq ?_
        refine aw_seq ?_
        refine aw_region ?_
        refine run_s (ss_move rfl) rfl ?_
        refine run_s (ss_move rfl) rfl ?_
        refine run_s (ss_lenL (f := (fun r => C.lst (ints r))) rfl) rfl ?_
        refine run_s (ss_lss rfl rfl) rfl ?_
        refine run_nil ?_
        refine aw_cond rfl (fun q12 => ?_) (fun q12 => ?_)
        · replace h := h.1 (of_decide_eq_true q12)
          refine aw_skip ?_
          refine aw_seq ?_
          refine aw_block ?_
          refine aw_seq ?_
          refine aw_region ?_
          refine run_s (ss_assign rfl) rfl ?_
          refine run_nil ?_
          refine aw_block ?_
          obtain ⟨H3, m3, q13, h⟩ := h
          refine aw_loop2 (fun (v8_3 : Int) (o19_3 : List (List Int)) => ⟨[(19, ⟨orows o19_3, []⟩)], [(0, .c (.lst (rows t))), (1, .c (.lst (ints p))), (5, .ref 19), (7, .c (ci v7_2)), (8, .c (ci v8_3))], 96⟩) H3 m3 ⟨0, o19_2, ghe_to (n := 96) rfl rfl ⟨rfl, rfl, rfl, rfl, rfl, trivial⟩, q13⟩ ?_
          rintro v8_3 o19_3 q13
          replace h := h v8_3 o19_3 q13
          refine aw_seq ?_
          refine aw_seq ?_
          refine aw_region ?_
          refine run_s (ss_move rfl) rfl ?_
          refine run_s (ss_move rfl) rfl ?_
          refine run_s (ss_move rfl) rfl ?_
          obtain ⟨q14, h⟩ := h
          refine run_s (ss_idxL rfl rfl q14) rfl ?_
          refine run_s (ss_loadL (f := (fun r => C.lst (ints r))) rfl q14) rfl ?_
          refine run_s (ss_lenL (f := ci) rfl) rfl ?_
          refine run_s (ss_lss rfl rfl) rfl ?_
          refine run_s (ss_move rfl) rfl ?_
          refine run_split (s := 45) rfl (fun q15 => ?_) (fun q15 => ?_)
          · replace h := h.1 (of_decide_eq_true q15)
            refine run_gt rfl rfl q15 ?_
            refine run_s (ss_move rfl) rfl ?_
            refine run_gt rfl rfl q15 ?_
            refine run_s (ss_move rfl) rfl ?_
            refine run_gt rfl rfl q15 ?_
            refine run_s (ss_lenL (f := (fun r => C.lst (ints r))) rfl) rfl ?_
            refine run_gt rfl rfl q15 ?_
            refine run_s (ss_lss rfl rfl) rfl ?_
            refine run_s (ss_pickT rfl q15 rfl) rfl ?_
            refine run_nil ?_
            refine aw_cond rfl (fun q16 => ?_) (fun q16 => ?_)
            · replace h := h.1 (of_decide_eq_true q16)
              refine aw_skip ?_
              refine aw_seq ?_
              refine aw_block ?_
              refine aw_seq ?_
              refine aw_seq ?_
              refine aw_region ?_
              refine run_s (ss_move rfl) rfl ?_
              refine run_s (ss_move rfl) rfl ?_
              obtain ⟨q17, h⟩ := h
              refine run_s (ss_idxL rfl rfl q17) rfl ?_
              refine run_s (ss_loadL (f := (fun r => C.lst (ints r))) rfl q17) rfl ?_
              refine run_s (ss_move rfl) rfl ?_
              obtain ⟨q18, h⟩ := h
              refine run_s (ss_idxL rfl rfl q18) rfl ?_
              refine run_s (ss_loadL (f := ci) rfl q18) rfl ?_
              refine run_s (ss_lss rfl rfl) rfl ?_
              refine run_s (ss_move rfl) rfl ?_
              refine run_split (s := 61) rfl (fun q19 => ?_) (fun q19 => ?_)
              · replace h := h.1 (of_decide_eq_true q19)
                refine run_gf rfl rfl q19 rfl ?_
                refine run_gf rfl rfl q19 rfl ?_
                refine run_gf rfl rfl q19 rfl ?_
                refine run_gf rfl rfl q19 rfl ?_
                refine run_gf rfl rfl q19 rfl ?_
                refine run_gf rfl rfl q19 rfl ?_
                refine run_gf rfl rfl q19 rfl ?_
                refine run_gf rfl rfl q19 rfl ?_
                refine run_gf rfl rfl q19 rfl ?_
                refine run_gf rfl rfl q19 rfl ?_
                refine run_s (ss_pickT rfl q19 rfl) rfl ?_
                refine run_nil ?_
                refine aw_cond rfl (fun q20 => ?_) (fun q20 => ?_)
                · skip
                  refine aw_seq ?_
                  refine aw_gh (gh_to (n := 96) (σ' := [(19, ⟨orows o19_3, []⟩)]) (env' := []) rfl rfl trivial) ?_
                  refine aw_region ?_
                  refine run_s (ss_assign rfl) rfl ?_
                  refine run_nil ?_
                  refine aw_ret ?_
                  exact retAF_mk (retv1 rfl (rv_tmp rfl)) rfl rfl ⟨_, cle_nilO, _, h, rfl⟩
                · cases q20
              · replace h := h.2 (of_decide_eq_false q19)
                refine run_gt rfl rfl q19 ?_
                refine run_s (ss_move rfl) rfl ?_
                refine run_gt rfl rfl q19 ?_
                refine run_s (ss_move rfl) rfl ?_
                refine run_gt rfl rfl q19 ?_
                obtain ⟨q21, h⟩ := h
                refine run_s (ss_idxL rfl rfl q21) rfl ?_
                refine run_gt rfl rfl q19 ?_
                refine run_s (ss_loadL (f := (fun r => C.lst (ints r))) rfl q21) rfl ?_
                refine run_gt rfl rfl q19 ?_
                refine run_s (ss_move rfl) rfl ?_
                refine run_gt rfl rfl q19 ?_
                obtain ⟨q22, h⟩ := h
                refine run_s (ss_idxL rfl rfl q22) rfl ?_
                refine run_gt rfl rfl q19 ?_
                refine run_s (ss_loadL (f := ci) rfl q22) rfl ?_
                refine run_gt rfl rfl q19 ?_
                refine run_s (ss_move rfl) rfl ?_
                refine run_gt rfl rfl q19 ?_
                refine run_s (ss_lenL (f := ci) rfl) rfl ?_
                refine run_gt rfl rfl q19 ?_
                refine run_s (ss_geq rfl rfl) rfl ?_
                refine run_s (ss_pickF rfl q19 rfl) rfl ?_
                refine run_nil ?_
                refine aw_cond rfl (fun q23 => ?_) (fun q23 => ?_)
                · replace h := h.1 (of_decide_eq_true q23)
                  refine aw_seq ?_
                  refine aw_gh (gh_to (n := 96) (σ' := [(19, ⟨orows o19_3, []⟩)]) (env' := []) rfl rfl trivial) ?_
                  refine aw_region ?_
                  refine run_s (ss_assign rfl) rfl ?_
                  refine run_nil ?_
                  refine aw_ret ?_
                  exact retAF_mk (retv1 rfl (rv_tmp rfl)) rfl rfl ⟨_, cle_nilO, _, h, rfl⟩
                · replace h := h.2 (of_decide_eq_false q23)
                  refine aw_skip ?_
                  refine aw_gh (gh_to (n := 96) (σ' := [(19, ⟨orows o19_3, []⟩)]) (env' := [(0, .c (.lst (rows t))), (1, .c (.lst (ints p))), (5, .ref 19), (7, .c (ci v7_2)), (8, .c (ci v8_3)), (46, .c (ci v8_3)), (47, .c (.lst (rows t))), (48, .c (ci (t.length : Int))), (49, .c (cb (decide (v8_3 < (t.length : Int))))), (62, .c (.lst (rows t))), (63, .c (ci v7_2)), (64, .c (.ptr ((rows t).drop v7_2.toNat))), (65, .c (.lst (ints (el t v7_2)))), (66, .c (ci v8_3)), (67, .c (.ptr ((ints (el t v7_2)).drop v8_3.toNat))), (68, .c (ci (el (el t v7_2) v8_3))), (69, .c (.lst (ints p))), (70, .c (ci (p.length : Int))), (71, .c (cb (decide ((p.length : Int) ≤ el (el t v7_2) v8_3))))]) rfl rfl ⟨rfl, rfl, rfl, rfl, rfl, rfl, rfl, rfl, rfl, rfl, rfl, rfl, rfl, rfl, rfl, rfl, rfl, rfl, rfl, trivial⟩) ?_
                  refine aw_regionD (kd := kdl [0, 0, 0, 0, 1, 0, 1, 0, 0, 0, 1, 0, 0, 0, 0, 1, 0, 0, 1, 0, 1, 0, 3]) (ord := [0, 1, 2, 3, 7, 8, 9, 11, 12, 13, 14, 16, 4, 5, 6, 10, 15, 17, 18, 19, 20, 21, 22]) [] mixed (by kernel_rfl) ?_
                  refine rd_s rfl rfl trivial (ss_move rfl) rfl ?_
                  refine rd_s rfl rfl trivial (ss_move rfl) rfl ?_
                  refine rd_s rfl rfl trivial (ss_move rfl) rfl ?_
                  obtain ⟨q24, h⟩ := h
                  refine rd_s rfl rfl trivial (ss_idxL rfl rfl q24) rfl ?_
                  refine rd_s rfl rfl trivial (ss_move rfl) rfl ?_
                  refine rd_s rfl rfl trivial (ss_move rfl) rfl ?_
                  obtain ⟨q25, h⟩ := h
                  refine rd_s rfl rfl trivial (ss_idxL rfl rfl q25) rfl ?_
                  refine rd_s rfl rfl trivial (ss_move rfl) rfl ?_
                  refine rd_s rfl rfl trivial (ss_move rfl) rfl ?_
                  refine rd_s rfl rfl trivial (ss_move rfl) rfl ?_
                  obtain ⟨q26, h⟩ := h
                  refine rd_s rfl rfl trivial (ss_idxL rfl rfl q26) rfl ?_
                  refine rd_s rfl rfl trivial (ss_move rfl) rfl ?_
                  refine rd_l rfl rfl trivial (ss_loadL (f := ci) rfl q24) rfl ?_
                  obtain ⟨q27, h⟩ := h
                  refine rd_s rfl rfl trivial (ss_idxR (f := (fun r => C.own (ints r))) rfl rfl rfl q27) rfl ?_
                  refine rd_open 1001 (id := 19) (j := (el p v7_2).toNat) rfl (map_get (f := (fun r => C.own (ints r))) q27) rfl rfl rfl ?_
                  refine rd_l rfl rfl trivial (ss_loadH rfl rfl lk_self rfl) rfl ?_
                  refine rd_l rfl rfl trivial (ss_loadL (f := ci) rfl q25) rfl ?_
                  refine rd_l rfl rfl trivial (ss_loadL (f := (fun r => C.lst (ints r))) rfl q26) rfl ?_
                  obtain ⟨q28, h⟩ := h
                  refine rd_s rfl rfl trivial (ss_idxL rfl rfl q28) rfl ?_
                  refine rd_l rfl rfl trivial (ss_loadL (f := ci) rfl q28) rfl ?_
                  obtain ⟨q29, h⟩ := h
                  refine rd_s rfl rfl trivial (ss_idxL rfl rfl q29) rfl ?_
                  refine rd_l rfl rfl trivial (ss_loadL (f := ci) rfl q29) rfl ?_
                  obtain ⟨q30, h⟩ := h
                  refine rd_s rfl rfl trivial (ss_idxR (f := ci) rfl rfl rfl q30) rfl ?_
                  refine rd_f rfl rfl trivial (ws_storeE rfl rfl (map_lt q30) rfl rfl (map_se (f := ci)) rfl ⟨rfl, ?_⟩)
                  refine rd_nil ?_
                  refine aw_gh (gh_to (n := 96) (σ' := [(1001, ⟨ints (se (el o19_3 (el p v7_2)) (el p v8_3) (el p (el (el t v7_2) v8_3))), []⟩), (19, ⟨(orows o19_3).set (el p v7_2).toNat .hole, [((el p v7_2).toNat, .ref 1001)]⟩)]) (env' := [(0, .c (.lst (rows t))), (1, .c (.lst (ints p))), (5, .ref 19), (7, .c (ci v7_2)), (8, .c (ci v8_3)), (46, .c (ci v8_3)), (47, .c (.lst (rows t))), (48, .c (ci (t.length : Int))), (49, .c (cb (decide (v8_3 < (t.length : Int))))), (62, .c (.lst (rows t))), (63, .c (ci v7_2)), (64, .c (.ptr ((rows t).drop v7_2.toNat))), (65, .c (.lst (ints (el t v7_2)))), (66, .c (ci v8_3)), (67, .c (.ptr ((ints (el t v7_2)).drop v8_3.toNat))), (68, .c (ci (el (el t v7_2) v8_3))), (69, .c (.lst (ints p))), (70, .c (ci (p.length : Int))), (71, .c (cb (decide ((p.length : Int) ≤ el (el t v7_2) v8_3))))]) rfl rfl ⟨rfl, rfl, rfl, rfl, rfl, rfl, rfl, rfl, rfl, rfl, rfl, rfl, rfl, rfl, rfl, rfl, rfl, rfl, rfl, trivial⟩) ?_
                  refine aw_region ?_
                  refine run_s (ss_move rfl) rfl ?_
                  obtain ⟨q31, h⟩ := h
                  refine run_s (ss_add rfl rfl q31) rfl ?_
                  refine run_s (ss_assign rfl) rfl ?_
                  refine run_nil ?_
                  exact ⟨v8_3 + 1, se o19_3 (el p v7_2) (se (el o19_3 (el p v7_2)) (el p v8_3) (el p (el (el t v7_2) v8_3))), ghe_step (gh_fillA (id := 19) (id2 := 1001) (f := (fun r => C.own (ints r))) (v := se (el o19_3 (el p v7_2)) (el p v8_3) (el p (el (el t v7_2) v8_3))) rfl lk_self rfl q27 rfl rfl kr_self) (ghe_to (n := 96) rfl rfl ⟨rfl, rfl, rfl, rfl, rfl, trivial⟩), h.1, h.2⟩
            · replace h := h.2 (of_decide_eq_false q16)
              refine aw_exit ?_
              refine aw_region ?_
              refine run_s (ss_move rfl) rfl ?_
              obtain ⟨q32, h⟩ := h
              refine run_s (ss_add rfl rfl q32) rfl ?_
              refine run_s (ss_assign rfl) rfl ?_
              refine run_nil ?_
              exact ⟨v7_2 + 1, o19_3, ghe_to (n := 96) rfl rfl ⟨rfl, rfl, rfl, rfl, trivial⟩, h.1, h.2⟩
          · replace h := h.2 (of_decide_eq_false q15)
            refine run_gf rfl rfl q15 rfl ?_
            refine run_gf rfl rfl q15 rfl ?_
            refine run_gf rfl rfl q15 rfl ?_
            refine run_gf rfl rfl q15 rfl ?_
            refine run_s (ss_pickF rfl q15 rfl) rfl ?_
            refine run_nil ?_
            refine aw_cond rfl (fun q33 => ?_) (fun q33 => ?_)
            · cases q33
            · skip
              refine aw_exit ?_
              refine aw_region ?_
              refine run_s (ss_move rfl) rfl ?_
              obtain ⟨q34, h⟩ := h
              refine run_s (ss_add rfl rfl q34) rfl ?_
              refine run_s (ss_assign rfl) rfl ?_
              refine run_nil ?_
              exact ⟨v7_2 + 1, o19_3, ghe_to (n := 96) rfl rfl ⟨rfl, rfl, rfl, rfl, trivial⟩, h.1, h.2⟩
        · replace h := h.2 (of_decide_eq_false q12)
          refine aw_exit ?_
          refine aw_seq ?_
          refine aw_gh (gh_to (n := 96) (σ' := [(19, ⟨orows o19_2, []⟩)]) (env' := [(5, .ref 19)]) rfl rfl ⟨rfl, trivial⟩) ?_
          refine aw_region ?_
          refine run_s (ss_move rfl) rfl ?_
          refine run_s (ss_assign rfl) rfl ?_
          refine run_nil ?_
          refine aw_ret ?_
          exact retAF_mk (retv1 rfl (rv_tmp rfl)) rfl rfl ⟨_, (cle_refl _), _, h, rfl⟩

theorem c_laws_image9 (t : List (List Int)) (p : List Int) (hp : isTab t = true ∧ small p) : AF Try.prog 27 [.lst (rows t), .lst (ints p)] (fun R_ => R_ = .own (orows (imgI t p))) :=
  (w_laws_image9 t p (fun y0 => y0 = imgI t p) (p_laws_image9 t p hp)).mono (by rintro r ⟨_, rfl, rfl⟩; rfl)

set_option maxRecDepth 100000 in
set_option maxHeartbeats 4000000 in
theorem w_impl_IsQuandle (r : List (List Int)) (Q : Bool → Int → Prop) (h : wp_impl_IsQuandle r Q) : AF Try.prog 31 [.agg [.lst (rows r)]] (fun R_ => ∃ y0 y1, Q y0 y1 ∧ R_ = .tup [cb y0, ci y1]) := by
  refine AF.ofWQ (af_enter (n := 10) Try.func31 rfl (by rfl) rfl (Nat.le_of_ble_eq_true rfl) ?_)
  unfold wp_impl_IsQuandle at h
  refine aw_seq ?_
  refine aw_gh (gh_to (n := 10) (σ' := []) (env' := [(0, .c (.agg [.lst (rows r)]))]) rfl rfl ⟨rfl, trivial⟩) ?_
  refine aw_region ?_
  refine run_w (ws_boxR rfl (.inl rfl) rfl ⟨rfl, ?_⟩)
  refine run_s (ss_assign rfl) rfl ?_
  refine run_s (ss_assign rfl) rfl ?_
  refine run_nil ?_
  refine aw_seq ?_
  refine aw_seq ?_
  refine aw_region ?_
  refine run_s (ss_load_struct rfl (Nat.le_of_ble_eq_true rfl)) rfl ?_
  obtain ⟨q1, h⟩ := h
  refine run_w (ws_call (xs := [.tmp 4]) (ids := []) rfl rfl rfl rfl (c_impl_IsRack r q1) rfl ?_ )
  rintro _ rfl
  refine ⟨rfl, ?_⟩
  refine run_s (ss_not rfl) rfl ?_
  refine run_nil ?_
  refine aw_cond rfl (fun q3 => ?_) (fun q3 => ?_)
  · replace h := h.1 ((bnot_t q3))
    refine aw_seq ?_
    refine aw_gh (gh_to (n := 10) (σ' := []) (env' := [(2, .c (cb false)), (3, .c (ci 0))]) rfl rfl ⟨rfl, rfl, trivial⟩) ?_
    refine aw_region ?_
    refine run_s (ss_assign rfl) rfl ?_
    refine run_s (ss_assign rfl) rfl ?_
    refine run_nil ?_
    refine aw_ret ?_
    exact retAF_mk (retv2 rfl (rv_tmp rfl) (rv_tmp rfl)) rfl rfl ⟨_, (cle_refl _), _, _, h, rfl⟩
  · replace h := h.2 ((bnot_f q3))
    refine aw_skip ?_
    refine aw_seq ?_
    refine aw_region ?_
    refine run_s (ss_load_struct rfl (Nat.le_of_ble_eq_true rfl)) rfl ?_
    obtain ⟨q4, h⟩ := h
    refine run_w (ws_call (xs := [.tmp 7]) (ids := [8]) rfl rfl rfl rfl (c_impl_kinkOf r q4) rfl ?_ )
    rintro _ rfl
    refine ⟨rfl, ?_⟩
    obtain ⟨q6, h⟩ := h
    refine run_w (ws_callR (xs := [.tmp 8]) (cs := [.own (ints (diag r))]) (ids := []) rfl (.inr ⟨rfl, rfl⟩) rfl rfl (fz_cons (fz_own (fz_map (fun _ => rfl) _)) fz_nil) (c_impl_isIdentity (diag r) q6) rfl ?_ )
    rintro _ rfl
    refine ⟨rfl, rfl, ?_⟩
    refine run_s (ss_assign rfl) rfl ?_
    refine run_s (ss_assign rfl) rfl ?_
    refine run_nil ?_
    refine aw_ret ?_
    exact retAF_mk (retv2 rfl (rv_tmp rfl) (rv_tmp rfl)) rfl rfl ⟨_, (cle_refl _), _, _, h, rfl⟩

theorem c_impl_IsQuandle (r : List (List Int)) (hp : small2 r) : AF Try.prog 31 [.agg [.lst (rows r)]] (fun R_ => R_ = .tup [cb (isRk r && decide (diag r = unitI (r.length : Int))), ci (rkE r)]) :=
  (w_impl_IsQuandle r (fun y0 y1 => y0 = (isRk r && decide (diag r = unitI (r.length : Int))) ∧ y1 = rkE r) (p_impl_IsQuandle r hp)).mono (by rintro r ⟨_, _, ⟨rfl, rfl⟩, rfl⟩; rfl)

set_option maxRecDepth 100000 in
set_option maxHeartbeats 4000000 in
theorem w_spec_DrawRackFault (code : List Int) (Q : List (List Int) → Prop) (h : wp_spec_DrawRackFault code Q) : AF Try.prog 22 [.lst (bys code)] (fun R_ => ∃ y0, Q y0 ∧ R_ = .agg [.own (orows y0)]) := by
  refine AF.ofWQ (af_enter (n := 30) Try.func22 rfl (by rfl) rfl (Nat.le_of_ble_eq_true rfl) ?_)
  unfold wp_spec_DrawRackFault at h
  refine aw_seq ?_
  refine aw_gh (gh_to (n := 30) (σ' := []) (env' := [(0, .c (.lst (bys code)))]) rfl rfl ⟨rfl, trivial⟩) ?_
  refine aw_region ?_
  refine run_w (ws_alloc (id := 2) rfl (Nat.le_of_ble_eq_true rfl) ⟨rfl, ?_⟩)
  refine run_nil ?_
  refine aw_seq ?_
  refine aw_region ?_
  refine run_s (ss_move rfl) rfl ?_
  obtain ⟨q1, h⟩ := h
  refine run_w (ws_call (xs := [.tmp 6]) (ids := [7]) rfl rfl rfl rfl (c_spec_l01From code q1) rfl ?_ )
  rintro _ ⟨r1_0, r1_1, r1_2, q2, rfl⟩
  replace h := h r1_0 r1_1 r1_2 q2
  refine ⟨rfl, ?_⟩
  refine run_s (ss_assign rfl) rfl ?_
  refine run_nil ?_
  refine aw_seq ?_
  refine aw_region ?_
  refine run_s (ss_move rfl) rfl ?_
  obtain ⟨q3, h⟩ := h
  refine run_w (ws_callM (xs := [.tmp 8, .const (.int .i64 (5))]) (cs := [.obox [.lst (bys r1_0), ci r1_1, cu r1_2], ci 5]) (ids := [9]) rfl (.inr ⟨rfl, rfl⟩) rfl rfl rfl (c_spec_l03DrawAny r1_0 r1_1 r1_2 5 q3) rfl rfl ?_ )
  rintro _ _ ⟨r2_0, o2_0, o2_1, o2_2, q4, rfl, rfl⟩
  replace h := h r2_0 o2_0 o2_1 o2_2 q4
  refine ⟨rfl, rfl, ?_⟩
  refine run_w (ws_alloc (id := 4) rfl (Nat.le_of_ble_eq_true rfl) ⟨rfl, ?_⟩)
  refine run_w (ws_storeS rfl rfl (Nat.le_of_ble_eq_true rfl) rfl rfl rfl ⟨rfl, ?_⟩)
  refine run_nil ?_
  refine aw_seq ?_
  refine aw_seq ?_
  refine aw_region ?_
  refine run_s (ss_field_cell rfl) rfl ?_
  refine run_s (ss_loadH rfl rfl rfl rfl) rfl ?_
  refine run_s (ss_lenR (f := (fun r => C.own (ints r))) rfl rfl) rfl ?_
  refine run_s (ss_assign rfl) rfl ?_
  refine run_nil ?_
  refine aw_seq ?_
  refine aw_region ?_
  refine run_s (ss_move rfl) rfl ?_
  refine run_s (ss_gtr rfl rfl) rfl ?_
  refine run_s (ss_move rfl) rfl ?_
  refine run_split (s := 15) rfl (fun q5 => ?_) (fun q5 => ?_)
  · replace h := h.1 (of_decide_eq_true q5)
    refine run_gt rfl rfl q5 ?_
    refine run_s (ss_move rfl) rfl ?_
    refine run_gt rfl rfl q5 ?_
    obtain ⟨q6, h⟩ := h
    refine run_w (ws_callM (xs := [.tmp 16, .const (.int .i64 (2))]) (cs := [.obox [.lst (bys o2_0), ci o2_1, cu o2_2], ci 2]) (ids := []) rfl (.inr ⟨rfl, rfl⟩) rfl rfl rfl (c_spec_l01Next o2_0 o2_1 o2_2 2 q6) rfl rfl ?_ )
    rintro _ _ ⟨r3_0, o3_0, o3_1, o3_2, q7, rfl, rfl⟩
    replace h := h r3_0 o3_0 o3_1 o3_2 q7
    refine ⟨rfl, rfl, ?_⟩
    refine run_gt rfl rfl q5 ?_
    refine run_s (ss_eql rfl rfl) rfl ?_
    refine run_s (ss_pickT rfl q5 rfl) rfl ?_
    refine run_nil ?_
    refine aw_cond rfl (fun q8 => ?_) (fun q8 => ?_)
    · replace h := h.1 (of_decide_eq_true q8)
      refine aw_gh (gh_to (n := 30) (σ' := [(4, ⟨[.hole], [(0, .ref 9)]⟩), (9, ⟨orows r2_0, []⟩), (7, ⟨[.lst (bys o3_0), ci o3_1, cu o3_2], []⟩), (2, ⟨[cnil], []⟩)]) (env' := [(2, .cell 2 0), (3, .cell 7 0), (4, .cell 4 0), (5, .c (ci (r2_0.length : Int)))]) rfl rfl ⟨rfl, rfl, rfl, rfl, trivial⟩) ?_
      refine aw_regionD (kd := kdl [0, 1, 0, 0, 2, 0, 0, 2, 0, 3]) (ord := [0, 2, 3, 5, 6, 1, 4, 7, 8, 9]) [7] mixed (by kernel_rfl) ?_
      refine rd_s rfl rfl trivial (ss_field_cell rfl) rfl ?_
      refine rd_s rfl rfl trivial (ss_move rfl) rfl ?_
      refine rd_s rfl rfl trivial (ss_move rfl) rfl ?_
      refine rd_s rfl rfl trivial (ss_move rfl) rfl ?_
      refine rd_s rfl rfl trivial (ss_move rfl) rfl ?_
      refine rd_l rfl rfl trivial (ss_loadH rfl rfl rfl rfl) rfl ?_
      obtain ⟨q9, h⟩ := h
      refine rd_w rfl rfl trivial rfl rfl (ws_callM (xs := [.tmp 22, .tmp 23]) (cs := [.obox [.lst (bys o3_0), ci o3_1, cu o3_2], ci (r2_0.length : Int)]) (ids := []) rfl (.inr ⟨rfl, rfl⟩) rfl rfl rfl (c_spec_l01Next o3_0 o3_1 o3_2 (r2_0.length : Int) q9) rfl rfl ?_ )
      rintro _ _ ⟨r4_0, o4_0, o4_1, o4_2, q10, rfl, rfl⟩
      replace h := h r4_0 o4_0 o4_1 o4_2 q10
      refine ⟨rfl, rfl, ?_⟩
      obtain ⟨q11, h⟩ := h
      refine rd_w rfl rfl trivial rfl rfl (ws_callM (xs := [.tmp 25, .tmp 26]) (cs := [.obox [.lst (bys o4_0), ci o4_1, cu o4_2], ci (r2_0.length : Int)]) (ids := [27]) rfl (.inr ⟨rfl, rfl⟩) rfl rfl rfl (c_spec_l03DrawPerm o4_0 o4_1 o4_2 (r2_0.length : Int) q11) rfl rfl ?_ )
      rintro _ _ ⟨r5_0, o5_0, o5_1, o5_2, q12, rfl, rfl⟩
      replace h := h r5_0 o5_0 o5_1 o5_2 q12
      refine ⟨rfl, rfl, ?_⟩
      obtain ⟨q13, h⟩ := h
      refine rd_s rfl rfl trivial (ss_idxR (f := (fun r => C.own (ints r))) rfl rfl rfl q13) rfl ?_
      refine rd_f rfl rfl trivial (ws_storeV rfl rfl (map_lt q13) rfl rfl rfl rfl ⟨rfl, ?_⟩)
      refine rd_nil ?_
      refine aw_seq ?_
      refine aw_gh (gh_to (n := 30) (σ' := [(27, ⟨ints r5_0, []⟩), (4, ⟨[.hole], [(0, .ref 9)]⟩), (9, ⟨(orows r2_0).set r4_0.toNat .hole, [(r4_0.toNat, .ref 27)]⟩), (7, ⟨[.lst (bys o5_0), ci o5_1, cu o5_2], []⟩), (2, ⟨[cnil], []⟩)]) (env' := [(2, .cell 2 0), (4, .cell 4 0)]) rfl rfl ⟨rfl, rfl, trivial⟩) ?_
      refine aw_region ?_
      refine run_s (ss_loadS rfl rfl rfl rfl) rfl ?_
      refine run_w (ws_storeS rfl rfl (Nat.le_of_ble_eq_true rfl) rfl rfl rfl ⟨rfl, ?_⟩)
      refine run_nil ?_
      refine aw_gh (gh_fillA (id := 9) (id2 := 27) (f := (fun r => C.own (ints r))) (v := r5_0) rfl lk_self rfl q13 rfl rfl kr_self) ?_
      refine aw_ret ?_
      exact retAF_mk (retv1 rfl (rv_struct rfl rfl rfl)) rfl rfl ⟨_, (cle_refl _), _, h, rfl⟩
    · replace h := h.2 (of_decide_eq_false q8)
      refine aw_skip ?_
      refine aw_seq ?_
      refine aw_gh (gh_to (n := 30) (σ' := [(4, ⟨[.hole], [(0, .ref 9)]⟩), (9, ⟨orows r2_0, []⟩), (7, ⟨[.lst (bys o3_0), ci o3_1, cu o3_2], []⟩), (2, ⟨[cnil], []⟩)]) (env' := [(2, .cell 2 0), (4, .cell 4 0)]) rfl rfl ⟨rfl, rfl, trivial⟩) ?_
      refine aw_region ?_
      refine run_s (ss_loadS rfl rfl rfl rfl) rfl ?_
      refine run_w (ws_storeS rfl rfl (Nat.le_of_ble_eq_true rfl) rfl rfl rfl ⟨rfl, ?_⟩)
      refine run_nil ?_
      refine aw_ret ?_
      exact retAF_mk (retv1 rfl (rv_struct rfl rfl rfl)) rfl rfl ⟨_, (cle_refl _), _, h, rfl⟩
  · replace h := h.2 (of_decide_eq_false q5)
    refine run_gf rfl rfl q5 rfl ?_
    refine run_gf rfl rfl q5 rfl ?_
    refine run_gf rfl rfl q5 rfl ?_
    refine run_s (ss_pickF rfl q5 rfl) rfl ?_
    refine run_nil ?_
    refine aw_cond rfl (fun q14 => ?_) (fun q14 => ?_)
    · cases q14
    · skip
      refine aw_skip ?_
      refine aw_seq ?_
      refine aw_gh (gh_to (n := 30) (σ' := [(4, ⟨[.hole], [(0, .ref 9)]⟩), (9, ⟨orows r2_0, []⟩), (7, ⟨[.lst (bys o2_0), ci o2_1, cu o2_2], []⟩), (2, ⟨[cnil], []⟩)]) (env' := [(2, .cell 2 0), (4, .cell 4 0)]) rfl rfl ⟨rfl, rfl, trivial⟩) ?_
      refine aw_region ?_
      refine run_s (ss_loadS rfl rfl rfl rfl) rfl ?_
      refine run_w (ws_storeS rfl rfl (Nat.le_of_ble_eq_true rfl) rfl rfl rfl ⟨rfl, ?_⟩)
      refine run_nil ?_
      refine aw_ret ?_
      exact retAF_mk (retv1 rfl (rv_struct rfl rfl rfl)) rfl rfl ⟨_, (cle_refl _), _, h, rfl⟩

theorem c_spec_DrawRackFault (code : List Int) (hp : small code ∧ bytes code) : AF Try.prog 22 [.lst (bys code)] (fun R_ => ∃ y0, (drT 5 y0) ∧ R_ = .agg [.own (orows y0)]) :=
  w_spec_DrawRackFault code (fun y0 => drT 5 y0) (p_spec_DrawRackFault code hp)

end Go.Proofs.Ytbodlnpmplcaoaa
