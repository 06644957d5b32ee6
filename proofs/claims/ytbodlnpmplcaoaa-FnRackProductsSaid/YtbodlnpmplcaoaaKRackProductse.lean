/- Contracts of functions that the law FnRackProducts reaches: conditions, plain proofs, walks; no condition. -/
import Derived.Test.YtbodlnpmplcaoaaKRackProductsd
import Derived.Test.YtbodlnpmplcaoaaPe
namespace Go.Proofs.Ytbodlnpmplcaoaa

def wp_impl_orbitLabels (n : Int) (list : List (List Int)) (Q : List Int → Prop) : Prop :=
 (0 ≤ n ∧ n ≤ 1000000000) ∧
 ∃ (H1 : Int → List Int → Prop) (m1 : Int → List Int → Nat),
 H1 0 (List.replicate n.toNat (0 : Int)) ∧
 ∀ (v17_1 : Int) (o14_1 : List Int), H1 v17_1 o14_1 →
 ( ((v17_1 < ((List.replicate n.toNat (0 : Int)).length : Int) →
   (0 ≤ v17_1 ∧ v17_1 < (o14_1.length : Int)) ∧
   (InI (v17_1 + 1)) ∧
   (H1 (v17_1 + 1) (se o14_1 v17_1 (-1)) ∧ m1 (v17_1 + 1) (se o14_1 v17_1 (-1)) < m1 v17_1 o14_1)) ∧
  (¬ (v17_1 < ((List.replicate n.toNat (0 : Int)).length : Int)) →
   ∃ (H2 : Int → Int → List Int → Prop) (m2 : Int → Int → List Int → Nat),
   H2 0 0 o14_1 ∧
   ∀ (v7_2 : Int) (v26_2 : Int) (o14_2 : List Int), H2 v7_2 v26_2 o14_2 →
   ( ((v26_2 < (o14_1.length : Int) →
     (0 ≤ v26_2 ∧ v26_2 < (o14_2.length : Int)) ∧
     ((0 ≤ el o14_2 v26_2 →
      (InI (v26_2 + 1)) ∧
      (H2 v7_2 (v26_2 + 1) o14_2 ∧ m2 v7_2 (v26_2 + 1) o14_2 < m2 v7_2 v26_2 o14_2)) ∧
     (¬ (0 ≤ el o14_2 v26_2) →
      (0 ≤ v26_2 ∧ v26_2 < (o14_2.length : Int)) ∧
      ∃ (H3 : List Int → List Int → Prop) (m3 : List Int → List Int → Nat),
      H3 (se o14_2 v26_2 v7_2) ([v26_2]) ∧
      ∀ (o14_3 : List Int) (o39_3 : List Int), H3 o14_3 o39_3 →
      ( ((0 < (o39_3.length : Int) →
        ∃ (H4 : Int → List Int → List Int → Prop) (m4 : Int → List Int → List Int → Nat),
        H4 0 o14_3 o39_3 ∧
        ∀ (v47_4 : Int) (o14_4 : List Int) (o39_4 : List Int), H4 v47_4 o14_4 o39_4 →
        ( ((v47_4 < (list.length : Int) →
          (0 ≤ v47_4 ∧ v47_4 < (list.length : Int)) ∧
          ((0 : Int) ≤ 0 ∧ 0 < (o39_4.length : Int)) ∧
          (0 ≤ el o39_4 0 ∧ el o39_4 0 < ((el list v47_4).length : Int)) ∧
          (0 ≤ el (el list v47_4) (el o39_4 0) ∧ el (el list v47_4) (el o39_4 0) < (o14_4.length : Int)) ∧
          ((el o14_4 (el (el list v47_4) (el o39_4 0)) < 0 →
           (0 ≤ el (el list v47_4) (el o39_4 0) ∧ el (el list v47_4) (el o39_4 0) < (o14_4.length : Int)) ∧
           ((o39_4.length : Int) + (([el (el list v47_4) (el o39_4 0)]).length : Int) ≤ 1000000000) ∧
           (InI (v47_4 + 1)) ∧
           (H4 (v47_4 + 1) (se o14_4 (el (el list v47_4) (el o39_4 0)) v7_2) (o39_4 ++ ([el (el list v47_4) (el o39_4 0)])) ∧ m4 (v47_4 + 1) (se o14_4 (el (el list v47_4) (el o39_4 0)) v7_2) (o39_4 ++ ([el (el list v47_4) (el o39_4 0)])) < m4 v47_4 o14_4 o39_4)) ∧
          (¬ (el o14_4 (el (el list v47_4) (el o39_4 0)) < 0) →
           (InI (v47_4 + 1)) ∧
           (H4 (v47_4 + 1) o14_4 o39_4 ∧ m4 (v47_4 + 1) o14_4 o39_4 < m4 v47_4 o14_4 o39_4)))) ∧
         (¬ (v47_4 < (list.length : Int)) →
          ((0 : Int) ≤ 1 ∧ 1 ≤ (o39_4.length : Int) ∧ (o39_4.length : Int) ≤ (o39_4.length : Int)) ∧
          (H3 o14_4 (sl o39_4 1 (o39_4.length : Int)) ∧ m3 o14_4 (sl o39_4 1 (o39_4.length : Int)) < m3 o14_3 o39_3))))) ∧
       (¬ (0 < (o39_3.length : Int)) →
        (InI (v7_2 + 1)) ∧
        (InI (v26_2 + 1)) ∧
        (H2 (v7_2 + 1) (v26_2 + 1) o14_3 ∧ m2 (v7_2 + 1) (v26_2 + 1) o14_3 < m2 v7_2 v26_2 o14_2))))))) ∧
    (¬ (v26_2 < (o14_1.length : Int)) →
     Q o14_2))))))

def wp_impl_RackOrbits (r : List (List Int)) (Q : List Int → Int → Prop) : Prop :=
 (small2 r) ∧
 (((isRk r) = false →
  Q ([]) 1) ∧
 ((isRk r) = true →
  (0 ≤ (r.length : Int) ∧ (r.length : Int) ≤ 12 ∧ small r ∧ permsN (r.length : Int) r) ∧
  Q (orbI (r.length : Int) r) 0))


theorem p_impl_orbitLabels (n : Int) (list : List (List Int)) (hp : 0 ≤ n ∧ n ≤ 12 ∧ small list ∧ permsN n list) : wp_impl_orbitLabels n list (fun y0 => y0 = orbI n list) := by
  unfold wp_impl_orbitLabels
  obtain ⟨n0, n1, hs, hp⟩ := hp
  have hs' : (list.length : Int) ≤ 1000000000 := hs
  have hpe : ∀ {i y : Int}, (0 ≤ i ∧ i < (list.length : Int)) → (0 ≤ y ∧ y < n) → ((el list i).length : Int) = n ∧ 0 ≤ el (el list i) y ∧ el (el list i) y < n := fun hi hy => by
    obtain ⟨a, b⟩ := hp _ (el_mem hi)
    have := isPerm_el b ⟨hy.1, by omega⟩
    exact ⟨a, this.1, by omega⟩
  have hrl : ((List.replicate n.toNat (0 : Int)).length : Int) = n := by simp; omega
  rw [hrl]
  refine ⟨⟨n0, by omega⟩, fun i o => 0 ≤ i ∧ i ≤ n ∧ (o.length : Int) = n ∧ Upto i fun j => el o j = -1, fun i _ => (n - i).toNat, ⟨by omega, n0, hrl, upto0⟩, ?_⟩
  rintro i o ⟨i0, i1, ol, oI⟩
  dsimp only
  refine ⟨fun ilt => ⟨⟨i0, by omega⟩, ⟨by omega, by omega⟩, ⟨by omega, by omega, by simpa using ol, fill1 (f := fun _ => -1) ⟨i0, by omega⟩ oI rfl⟩, by omega⟩, fun ige => ?_⟩
  have hn' : i = n := by omega
  subst hn'
  refine ⟨fun k x L => OrbI i list x k L, fun _ x _ => (i - x).toNat, orb_init n0 ol oI, ?_⟩
  rintro k x L0 hO
  dsimp only
  have hx0 := hO.xn
  have hk0 := hO.kx
  have hl0 := hO.len
  refine ⟨fun xlt => ?_, fun xge => ?_⟩
  · have xlt' : x < i := by omega
    have hxx : 0 ≤ x ∧ x < i := ⟨hx0.1, xlt'⟩
    refine ⟨⟨hx0.1, by omega⟩, fun h0 => ⟨⟨by omega, by omega⟩, orb_skip hO xlt' h0, by omega⟩, fun h0 => ⟨⟨hx0.1, by omega⟩, ?_⟩⟩
    have hneg : el L0 x < 0 := by omega
    -- the set of those labelled before is closed
    have hclosed : ∀ p, p ∈ list → ∀ y, (0 ≤ y ∧ y < i) → 0 ≤ el L0 (el p y) → 0 ≤ el L0 y := fun p hpm y hy h1 => by
      obtain ⟨a, b⟩ := hp _ hpm
      refine closed_back a b (S := fun w => 0 ≤ el L0 w) (fun w hw h2 => ?_) hy h1
      have hb := isPerm_el b (i := w) ⟨hw.1, by omega⟩
      have := (hO.ker w (el p w) hw ⟨hb.1, by omega⟩ h2).2 (.step .base hpm)
      show 0 ≤ el L0 (el p w)
      omega
    let B : List Int → List Int → Prop := fun L Q => (L.length : Int) = i ∧ (∀ y, 0 ≤ y → y < i → el L y = k ∨ el L y = el L0 y) ∧ (∀ y, 0 ≤ y → y < i → el L y = k → Rch list x y) ∧ (∀ q ∈ Q, (0 ≤ q ∧ q < i) ∧ el L q = k) ∧ el L x = k
    refine ⟨fun L Q => B L Q ∧ (∀ y, 0 ≤ y → y < i → el L y = k → y ∈ Q ∨ ∀ p ∈ list, 0 ≤ el L (el p y)) ∧ negs L + Q.length ≤ 13, fun L Q => negs L + Q.length, ⟨⟨by simpa using hl0, fun y a b => ?_, fun y a b e => ?_, fun q hq => ?_, el_se_same ⟨hx0.1, by omega⟩⟩, fun y a b e => ?_, ?_⟩, ?_⟩
    · by_cases e : y = x
      · subst e; exact .inl (el_se_same ⟨hx0.1, by omega⟩)
      · exact .inr (el_se_ne hx0.1 a (Ne.symm e))
    · by_cases e2 : y = x
      · subst e2; exact .base
      · rw [el_se_ne hx0.1 a (Ne.symm e2)] at e
        have := hO.rng y a b; omega
    · simp only [List.mem_singleton] at hq
      subst hq
      exact ⟨hxx, el_se_same ⟨hx0.1, by omega⟩⟩
    · by_cases e2 : y = x
      · subst e2; exact .inl (by simp)
      · rw [el_se_ne hx0.1 a (Ne.symm e2)] at e
        have := hO.rng y a b; omega
    · have a := negs_se (l := L0) (i := x) (k := k) ⟨hx0.1, by omega⟩ hneg hk0.1
      have b := negs_le L0
      simp; omega
    rintro L Q ⟨hB, hC, hM⟩
    dsimp only
    refine ⟨fun qlt => ?_, fun qge => ?_⟩
    · cases Q with
      | nil => simp at qlt
      | cons q0 Q0 =>
      have hq0 := hB.2.2.2.1 q0 List.mem_cons_self
      refine ⟨fun j L' Q' => 0 ≤ j ∧ j ≤ (list.length : Int) ∧ B L' Q' ∧ (∃ s, Q' = q0 :: s) ∧ (∀ y, 0 ≤ y → y < i → el L' y = k → y ∈ Q' ∨ ∀ p ∈ list, 0 ≤ el L' (el p y)) ∧ (Upto j fun j => 0 ≤ el L' (el (el list j) q0)) ∧ negs L' + Q'.length = negs L + (q0 :: Q0).length,
        fun j _ _ => ((list.length : Int) - j).toNat, ⟨by omega, by omega, hB, ⟨_, rfl⟩, hC, upto0, rfl⟩, ?_⟩
      rintro j L' Q' ⟨j0, j1, hB', ⟨s, rfl⟩, hC', hU, hM'⟩
      dsimp only
      obtain ⟨bl, be, br, bq, bx⟩ := hB'
      have hql : (((q0 :: s).length : Nat) : Int) = (s.length : Int) + 1 := by simp
      refine ⟨fun jlt => ?_, fun jge => ?_⟩
      · rw [el_cons_0]
        have hj : 0 ≤ j ∧ j < (list.length : Int) := ⟨j0, jlt⟩
        obtain ⟨pl, pe⟩ := hpe hj hq0.1
        have hpm := el_mem hj
        have hq0k := (bq q0 List.mem_cons_self).2
        have hrq := br q0 hq0.1.1 hq0.1.2 hq0k
        refine ⟨hj, ⟨by omega, by omega⟩, ⟨hq0.1.1, by omega⟩, ⟨pe.1, by omega⟩, fun hlt => ⟨⟨pe.1, by omega⟩, by simp at hM hM' ⊢; omega, ⟨by omega, by omega⟩, ⟨by omega, by omega, ⟨by simpa using bl, fun y a b => ?_, fun y a b e => ?_, fun q hq => ?_, ?_⟩, ⟨s ++ [el (el list j) q0], rfl⟩, fun y a b e => ?_, ?_, ?_⟩, by omega⟩, fun hge => ⟨⟨by omega, by omega⟩, ⟨by omega, by omega, ⟨bl, be, br, bq, bx⟩, ⟨s, rfl⟩, hC', upto1 hU (by show 0 ≤ el L' (el (el list j) q0); omega), hM'⟩, by omega⟩⟩
        · by_cases e : y = el (el list j) q0
          · subst e; exact .inl (el_se_same ⟨a, by omega⟩)
          · rw [el_se_ne pe.1 a (Ne.symm e)]; exact be y a b
        · by_cases e2 : y = el (el list j) q0
          · rw [e2]; exact .step hrq hpm
          · rw [el_se_ne pe.1 a (Ne.symm e2)] at e; exact br y a b e
        · by_cases e2 : q = el (el list j) q0
          · subst e2; exact ⟨pe, el_se_same ⟨pe.1, by omega⟩⟩
          · have hq' : q ∈ q0 :: s := by
              rcases List.mem_append.1 hq with h | h
              · exact h
              · simp only [List.mem_singleton] at h; exact absurd h e2
            have := bq q hq'
            exact ⟨this.1, by rw [el_se_ne pe.1 this.1.1 (Ne.symm e2)]; exact this.2⟩
        · by_cases e2 : x = el (el list j) q0
          · rw [← e2]; exact el_se_same ⟨hx0.1, by omega⟩
          · rw [el_se_ne pe.1 hx0.1 (Ne.symm e2)]; exact bx
        · have mono : ∀ w, 0 ≤ w → w < i → 0 ≤ el L' w → 0 ≤ el (se L' (el (el list j) q0) k) w := fun w w0 w1 h => by
            by_cases e2 : w = el (el list j) q0
            · subst e2; rw [el_se_same ⟨w0, by omega⟩]; exact hk0.1
            · rw [el_se_ne pe.1 w0 (Ne.symm e2)]; exact h
          by_cases e2 : y = el (el list j) q0
          · exact .inl (by rw [e2]; exact List.mem_append_right _ List.mem_cons_self)
          · rw [el_se_ne pe.1 a (Ne.symm e2)] at e
            rcases hC' y a b e with h | h
            · exact .inl (List.mem_append_left _ h)
            · refine .inr fun p hpm' => ?_
              obtain ⟨c, d⟩ := hp _ hpm'
              have := isPerm_el d (i := y) ⟨a, by omega⟩
              exact mono _ this.1 (by omega) (h p hpm')
        · refine upto1 (fun m m0 m1 => ?_) ?_
          · show 0 ≤ el (se L' (el (el list j) q0) k) (el (el list m) q0)
            by_cases e2 : el (el list m) q0 = el (el list j) q0
            · rw [e2, el_se_same ⟨pe.1, by omega⟩]; exact hk0.1
            · have := (hpe (i := m) ⟨m0, by omega⟩ hq0.1).2
              rw [el_se_ne pe.1 this.1 (Ne.symm e2)]; exact hU m m0 m1
          · show 0 ≤ el (se L' (el (el list j) q0) k) (el (el list j) q0)
            rw [el_se_same ⟨pe.1, by omega⟩]; exact hk0.1
        · have a := negs_se (l := L') (i := el (el list j) q0) (k := k) ⟨pe.1, by omega⟩ hlt hk0.1
          simp at hM' ⊢; omega
      · have hsl : sl (q0 :: s) 1 (((q0 :: s).length : Nat) : Int) = s := by simp [sl]
        refine ⟨⟨by omega, by omega, by omega⟩, ?_, ?_⟩
        · rw [hsl]
          refine ⟨⟨bl, be, br, fun q hq => bq q (List.mem_cons_of_mem _ hq), bx⟩, fun y a b e => ?_, by simp at hM hM' ⊢; omega⟩
          rcases hC' y a b e with h | h
          · rcases List.mem_cons.1 h with h | h
            · refine .inr fun p hpm => ?_
              obtain ⟨m, hm, rfl⟩ := mem_el hpm
              rw [h]
              exact hU m hm.1 (by omega)
            · exact .inl h
          · exact .inr h
        · rw [hsl]; simp at hM' ⊢; omega
    · have hQ : Q = [] := List.eq_nil_of_length_eq_zero (by omega)
      subst hQ
      obtain ⟨bl, be, br, bq, bx⟩ := hB
      have hall : ∀ y, Rch list x y → el L y = k := fun y hr => by
        induction hr with
        | base => exact bx
        | step h hpm ih =>
          rename_i y p
          have hy := rch_in hp hxx h
          have h1 : 0 ≤ el L (el p y) := by
            rcases hC y hy.1 hy.2 ih with h2 | h2
            · exact (List.not_mem_nil h2).elim
            · exact h2 p hpm
          obtain ⟨c, d⟩ := hp _ hpm
          have hb := isPerm_el d (i := y) ⟨hy.1, by omega⟩
          rcases be (el p y) hb.1 (by omega) with h2 | h2
          · exact h2
          · rw [h2] at h1
            exact absurd h (orb_not hp hO xlt' hneg hy (hclosed p hpm y hy h1))
      refine ⟨⟨by omega, by omega⟩, ⟨by omega, by omega⟩, orb_step hp hO xlt' hneg bl fun y a b => ⟨hall y, fun hn => ?_⟩, by omega⟩
      rcases be y a b with h | h
      · exact absurd (br y a b h) hn
      · exact h
  · have : x = i := by omega
    subst this
    exact orb_end hO
theorem p_impl_RackOrbits (r : List (List Int)) (hp : small2 r) : wp_impl_RackOrbits r (fun y0 y1 => y0 = RorT r ∧ y1 = rkE r) := by
  unfold wp_impl_RackOrbits RorT rkE
  refine ⟨hp, fun h => by rw [h]; exact ⟨rfl, rfl⟩, fun h => ?_⟩
  have hn := isTab_len (isRk_tab h)
  exact ⟨⟨by omega, by omega, hp.1, isRk_permsN h⟩, by rw [h]; exact ⟨rfl, rfl⟩⟩
theorem orbI_len {n : Int} {list : List (List Int)} (hn : 0 ≤ n) (hp : permsN n list) : ((orbI n list).length : Int) = n := (orbI_is hn hp).1
set_option maxRecDepth 100000 in
set_option maxHeartbeats 4000000 in
theorem w_impl_orbitLabels (n : Int) (list : List (List Int)) (Q : List Int → Prop) (h : wp_impl_orbitLabels n list Q) : AF Try.prog 111 [ci n, .lst (rows list)] (fun R_ => ∃ y0, Q y0 ∧ R_ = .own (ints y0)) := by
  refine AF.ofWQ (af_enter (n := 75) Try.func111 rfl (by rfl) rfl (Nat.le_of_ble_eq_true rfl) ?_)
  unfold wp_impl_orbitLabels at h
  refine aw_seq ?_
  refine aw_gh (gh_to (n := 75) (σ' := []) (env' := [(0, .c (ci n)), (1, .c (.lst (rows list)))]) rfl rfl ⟨rfl, rfl, trivial⟩) ?_
  refine aw_region ?_
  refine run_s (ss_assign rfl) rfl ?_
  refine run_nil ?_
  refine aw_seq ?_
  refine aw_region ?_
  refine run_s (ss_move rfl) rfl ?_
  obtain ⟨q1, h⟩ := h
  refine run_w (ws_mk (id := 14) ci (0 : Int) rfl rfl rfl q1 (Nat.le_of_ble_eq_true rfl) rfl ⟨rfl, ?_⟩)
  refine run_s (ss_assign rfl) rfl ?_
  refine run_nil ?_
  refine aw_seq ?_
  refine aw_seq ?_
  refine aw_region ?_
  refine run_s (ss_move rfl) rfl ?_
  refine run_s (ss_lenR (f := ci) rfl rfl) rfl ?_
  refine run_s (ss_move rfl) rfl ?_
  refine run_nil ?_
  refine aw_block ?_
  obtain ⟨H1, m1, q2, h⟩ := h
  refine aw_loop2 (fun (v17_1 : Int) (o14_1 : List Int) => ⟨[(14, ⟨ints o14_1, []⟩)], [(1, .c (.lst (rows list))), (5, .ref 14), (16, .c (ci ((List.replicate n.toNat (0 : Int)).length : Int))), (17, .c (ci v17_1))], 75⟩) H1 m1 ⟨0, List.replicate n.toNat (0 : Int), ghe_to (n := 75) rfl rfl ⟨rfl, rfl, rfl, rfl, trivial⟩, q2⟩ ?_
  rintro v17_1 o14_1 q2
  replace h := h v17_1 o14_1 q2
  refine aw_seq ?_
  refine aw_region ?_
  refine run_s (ss_lss rfl rfl) rfl ?_
  refine run_nil ?_
  refine aw_seq ?_
  refine aw_cond rfl (fun q3 => ?_) (fun q3 => ?_)
  · replace h := h.1 (of_decide_eq_true q3)
    refine aw_skip ?_
    refine aw_seq ?_
    refine aw_block ?_
    refine aw_seq ?_
    refine aw_region ?_
    refine run_s (ss_move rfl) rfl ?_
    refine run_s (ss_assign rfl) rfl ?_
    refine run_nil ?_
    refine aw_region ?_
    refine run_s (ss_move rfl) rfl ?_
    refine run_s (ss_move rfl) rfl ?_
    obtain ⟨q4, h⟩ := h
    refine run_s (ss_idxR (f := ci) rfl rfl rfl q4) rfl ?_
    refine run_w (ws_storeE rfl rfl (map_lt q4) rfl rfl (map_se (f := ci)) rfl ⟨rfl, ?_⟩)
    refine run_nil ?_
    refine aw_gh (gh_to (n := 75) (σ' := [(14, ⟨ints (se o14_1 v17_1 (-1)), []⟩)]) (env' := [(1, .c (.lst (rows list))), (5, .ref 14), (16, .c (ci ((List.replicate n.toNat (0 : Int)).length : Int))), (17, .c (ci v17_1))]) rfl rfl ⟨rfl, rfl, rfl, rfl, trivial⟩) ?_
    refine aw_region ?_
    obtain ⟨q5, h⟩ := h
    refine run_s (ss_add rfl rfl q5) rfl ?_
    refine run_s (ss_move rfl) rfl ?_
    refine run_nil ?_
    exact ⟨v17_1 + 1, se o14_1 v17_1 (-1), ghe_to (n := 75) rfl rfl ⟨rfl, rfl, rfl, rfl, trivial⟩, h.1, h.2⟩
  · replace h := h.2 (of_decide_eq_false q3)
    refine aw_exit ?_
    refine aw_seq ?_
    refine aw_region ?_
    refine run_s (ss_assign rfl) rfl ?_
    refine run_nil ?_
    refine aw_seq ?_
    refine aw_seq ?_
    refine aw_region ?_
    refine run_s (ss_move rfl) rfl ?_
    refine run_s (ss_lenR (f := ci) rfl rfl) rfl ?_
    refine run_s (ss_move rfl) rfl ?_
    refine run_nil ?_
    refine aw_block ?_
    obtain ⟨H2, m2, q6, h⟩ := h
    refine aw_loop3 (fun (v7_2 : Int) (v26_2 : Int) (o14_2 : List Int) => ⟨[(14, ⟨ints o14_2, []⟩)], [(1, .c (.lst (rows list))), (5, .ref 14), (7, .c (ci v7_2)), (25, .c (ci (o14_1.length : Int))), (26, .c (ci v26_2))], 75⟩) H2 m2 ⟨0, 0, o14_1, ghe_to (n := 75) rfl rfl ⟨rfl, rfl, rfl, rfl, rfl, trivial⟩, q6⟩ ?_
    rintro v7_2 v26_2 o14_2 q6
    replace h := h v7_2 v26_2 o14_2 q6
    refine aw_seq ?_
    refine aw_region ?_
    refine run_s (ss_lss rfl rfl) rfl ?_
    refine run_nil ?_
    refine aw_seq ?_
    refine aw_cond rfl (fun q7 => ?_) (fun q7 => ?_)
    · replace h := h.1 (of_decide_eq_true q7)
      refine aw_skip ?_
      refine aw_seq ?_
      refine aw_block ?_
      refine aw_seq ?_
      refine aw_region ?_
      refine run_s (ss_move rfl) rfl ?_
      refine run_s (ss_assign rfl) rfl ?_
      refine run_nil ?_
      refine aw_seq ?_
      refine aw_seq ?_
      refine aw_region ?_
      refine run_s (ss_move rfl) rfl ?_
      refine run_s (ss_move rfl) rfl ?_
      obtain ⟨q8, h⟩ := h
      refine run_s (ss_idxR (f := ci) rfl rfl rfl q8) rfl ?_
      refine run_s (ss_loadR (f := ci) rfl rfl q8 rfl rfl) rfl ?_
      refine run_s (ss_geq rfl rfl) rfl ?_
      refine run_nil ?_
      refine aw_cond rfl (fun q9 => ?_) (fun q9 => ?_)
      · replace h := h.1 (of_decide_eq_true q9)
        refine aw_exit ?_
        refine aw_gh (gh_to (n := 75) (σ' := [(14, ⟨ints o14_2, []⟩)]) (env' := [(1, .c (.lst (rows list))), (5, .ref 14), (7, .c (ci v7_2)), (25, .c (ci (o14_1.length : Int))), (26, .c (ci v26_2))]) rfl rfl ⟨rfl, rfl, rfl, rfl, rfl, trivial⟩) ?_
        refine aw_region ?_
        obtain ⟨q10, h⟩ := h
        refine run_s (ss_add rfl rfl q10) rfl ?_
        refine run_s (ss_move rfl) rfl ?_
        refine run_nil ?_
        exact ⟨v7_2, v26_2 + 1, o14_2, ghe_to (n := 75) rfl rfl ⟨rfl, rfl, rfl, rfl, rfl, trivial⟩, h.1, h.2⟩
      · replace h := h.2 (of_decide_eq_false q9)
        refine aw_skip ?_
        refine aw_seq ?_
        refine aw_gh (gh_to (n := 75) (σ' := [(14, ⟨ints o14_2, []⟩)]) (env' := [(1, .c (.lst (rows list))), (5, .ref 14), (7, .c (ci v7_2)), (8, .c (ci v26_2)), (25, .c (ci (o14_1.length : Int))), (26, .c (ci v26_2))]) rfl rfl ⟨rfl, rfl, rfl, rfl, rfl, rfl, trivial⟩) ?_
        refine aw_region ?_
        refine run_s (ss_move rfl) rfl ?_
        refine run_s (ss_move rfl) rfl ?_
        refine run_s (ss_move rfl) rfl ?_
        obtain ⟨q11, h⟩ := h
        refine run_s (ss_idxR (f := ci) rfl rfl rfl q11) rfl ?_
        refine run_w (ws_storeE rfl rfl (map_lt q11) rfl rfl (map_se (f := ci)) rfl ⟨rfl, ?_⟩)
        refine run_nil ?_
        refine aw_seq ?_
        refine aw_seq ?_
        refine aw_region ?_
        refine run_s (ss_move rfl) rfl ?_
        refine run_w (ws_buildSlice (id := 39) (ps := [(0, .tmp 38)]) rfl rfl (Nat.le_of_ble_eq_true rfl) rfl ⟨rfl, ?_⟩)
        refine run_s (ss_assign rfl) rfl ?_
        refine run_nil ?_
        refine aw_block ?_
        obtain ⟨H3, m3, q12, h⟩ := h
        refine aw_loop2 (fun (o14_3 : List Int) (o39_3 : List Int) => ⟨[(39, ⟨ints o39_3, []⟩), (14, ⟨ints o14_3, []⟩)], [(1, .c (.lst (rows list))), (5, .ref 14), (7, .c (ci v7_2)), (9, .ref 39), (25, .c (ci (o14_1.length : Int))), (26, .c (ci v26_2))], 75⟩) H3 m3 ⟨se o14_2 v26_2 v7_2, [v26_2], ghe_to (n := 75) rfl rfl ⟨rfl, rfl, rfl, rfl, rfl, rfl, trivial⟩, q12⟩ ?_
        rintro o14_3 o39_3 q12
        replace h := h o14_3 o39_3 q12
        refine aw_seq ?_
        refine aw_seq ?_
        refine aw_region ?_
        refine run_s (ss_move rfl) rfl ?_
        refine run_s (ss_lenR (f := ci) rfl rfl) rfl ?_
        refine run_s (ss_gtr rfl rfl) rfl ?_
        refine run_nil ?_
        refine aw_cond rfl (fun q13 => ?_) (fun q13 => ?_)
        · replace h := h.1 (of_decide_eq_true q13)
          refine aw_skip ?_
          refine aw_seq ?_
          refine aw_block ?_
          refine aw_seq ?_
          refine aw_region ?_
          refine run_s (ss_move rfl) rfl ?_
          refine run_s (ss_lenL (f := (fun r => C.lst (ints r))) rfl) rfl ?_
          refine run_s (ss_move rfl) rfl ?_
          refine run_nil ?_
          refine aw_block ?_
          obtain ⟨H4, m4, q14, h⟩ := h
          refine aw_loop3 (fun (v47_4 : Int) (o14_4 : List Int) (o39_4 : List Int) => ⟨[(39, ⟨ints o39_4, []⟩), (14, ⟨ints o14_4, []⟩)], [(1, .c (.lst (rows list))), (5, .ref 14), (7, .c (ci v7_2)), (9, .ref 39), (25, .c (ci (o14_1.length : Int))), (26, .c (ci v26_2)), (45, .c (.lst (rows list))), (46, .c (ci (list.length : Int))), (47, .c (ci v47_4))], 75⟩) H4 m4 ⟨0, o14_3, o39_3, ghe_to (n := 75) rfl rfl ⟨rfl, rfl, rfl, rfl, rfl, rfl, rfl, rfl, rfl, trivial⟩, q14⟩ ?_
          rintro v47_4 o14_4 o39_4 q14
          replace h := h v47_4 o14_4 o39_4 q14
          refine aw_seq ?_
          refine aw_region ?_
          refine run_s (ss_lss rfl rfl) rfl ?_
          refine run_nil ?_
          refine aw_seq ?_
          refine aw_cond rfl (fun q15 => ?_) (fun q15 => ?_)
          · replace h := h.1 (of_decide_eq_true q15)
            refine aw_skip ?_
            refine aw_seq ?_
            refine aw_block ?_
            refine aw_seq ?_
            refine aw_region ?_
            obtain ⟨q16, h⟩ := h
            refine run_s (ss_idxL rfl rfl q16) rfl ?_
            refine run_s (ss_loadL (f := (fun r => C.lst (ints r))) rfl q16) rfl ?_
            refine run_s (ss_assign rfl) rfl ?_
            refine run_nil ?_
            refine aw_seq ?_
            refine aw_region ?_
            refine run_s (ss_move rfl) rfl ?_
            refine run_s (ss_move rfl) rfl ?_
            obtain ⟨q17, h⟩ := h
            refine run_s (ss_idxR (f := ci) rfl rfl rfl q17) rfl ?_
            refine run_s (ss_loadR (f := ci) rfl rfl q17 rfl rfl) rfl ?_
            obtain ⟨q18, h⟩ := h
            refine run_s (ss_idxL rfl rfl q18) rfl ?_
            refine run_s (ss_loadL (f := ci) rfl q18) rfl ?_
            refine run_s (ss_assign rfl) rfl ?_
            refine run_nil ?_
            refine aw_seq ?_
            refine aw_gh (gh_to (n := 75) (σ' := [(39, ⟨ints o39_4, []⟩), (14, ⟨ints o14_4, []⟩)]) (env' := [(1, .c (.lst (rows list))), (5, .ref 14), (7, .c (ci v7_2)), (9, .ref 39), (12, .c (ci (el (el list v47_4) (el o39_4 0)))), (25, .c (ci (o14_1.length : Int))), (26, .c (ci v26_2)), (45, .c (.lst (rows list))), (46, .c (ci (list.length : Int))), (47, .c (ci v47_4))]) rfl rfl ⟨rfl, rfl, rfl, rfl, rfl, rfl, rfl, rfl, rfl, rfl, trivial⟩) ?_
            refine aw_region ?_
            refine run_s (ss_move rfl) rfl ?_
            refine run_s (ss_move rfl) rfl ?_
            obtain ⟨q19, h⟩ := h
            refine run_s (ss_idxR (f := ci) rfl rfl rfl q19) rfl ?_
            refine run_s (ss_loadR (f := ci) rfl rfl q19 rfl rfl) rfl ?_
            refine run_s (ss_lss rfl rfl) rfl ?_
            refine run_nil ?_
            refine aw_cond rfl (fun q20 => ?_) (fun q20 => ?_)
            · replace h := h.1 (of_decide_eq_true q20)
              refine aw_seq ?_
              refine aw_region ?_
              refine run_s (ss_move rfl) rfl ?_
              refine run_s (ss_move rfl) rfl ?_
              refine run_s (ss_move rfl) rfl ?_
              obtain ⟨q21, h⟩ := h
              refine run_s (ss_idxR (f := ci) rfl rfl rfl q21) rfl ?_
              refine run_w (ws_storeE rfl rfl (map_lt q21) rfl rfl (map_se (f := ci)) rfl ⟨rfl, ?_⟩)
              refine run_nil ?_
              refine aw_gh (gh_to (n := 75) (σ' := [(39, ⟨ints o39_4, []⟩), (14, ⟨ints (se o14_4 (el (el list v47_4) (el o39_4 0)) v7_2), []⟩)]) (env' := [(1, .c (.lst (rows list))), (5, .ref 14), (7, .c (ci v7_2)), (9, .ref 39), (12, .c (ci (el (el list v47_4) (el o39_4 0)))), (25, .c (ci (o14_1.length : Int))), (26, .c (ci v26_2)), (45, .c (.lst (rows list))), (46, .c (ci (list.length : Int))), (47, .c (ci v47_4))]) rfl rfl ⟨rfl, rfl, rfl, rfl, rfl, rfl, rfl, rfl, rfl, rfl, trivial⟩) ?_
              refine aw_region ?_
              refine run_s (ss_move rfl) rfl ?_
              refine run_s (ss_move rfl) rfl ?_
              refine run_w (ws_buildSlice (id := 68) (ps := [(0, .tmp 67)]) rfl rfl (Nat.le_of_ble_eq_true rfl) rfl ⟨rfl, ?_⟩)
              obtain ⟨q22, h⟩ := h
              refine run_w (ws_app1 ci (l := o39_4) (m := [el (el list v47_4) (el o39_4 0)]) rfl rfl rfl rfl rfl (Nat.le_of_ble_eq_true rfl) q22 ⟨rfl, ?_⟩)
              refine run_s (ss_assign rfl) rfl ?_
              refine run_nil ?_
              refine aw_gh (gh_to (n := 75) (σ' := [(39, ⟨ints (o39_4 ++ ([el (el list v47_4) (el o39_4 0)])), []⟩), (14, ⟨ints (se o14_4 (el (el list v47_4) (el o39_4 0)) v7_2), []⟩)]) (env' := [(1, .c (.lst (rows list))), (5, .ref 14), (7, .c (ci v7_2)), (9, .ref 39), (25, .c (ci (o14_1.length : Int))), (26, .c (ci v26_2)), (45, .c (.lst (rows list))), (46, .c (ci (list.length : Int))), (47, .c (ci v47_4))]) rfl rfl ⟨rfl, rfl, rfl, rfl, rfl, rfl, rfl, rfl, rfl, trivial⟩) ?_
              refine aw_region ?_
              obtain ⟨q23, h⟩ := h
              refine run_s (ss_add rfl rfl q23) rfl ?_
              refine run_s (ss_move rfl) rfl ?_
              refine run_nil ?_
              exact ⟨v47_4 + 1, se o14_4 (el (el list v47_4) (el o39_4 0)) v7_2, o39_4 ++ ([el (el list v47_4) (el o39_4 0)]), ghe_to (n := 75) rfl rfl ⟨rfl, rfl, rfl, rfl, rfl, rfl, rfl, rfl, rfl, trivial⟩, h.1, h.2⟩
            · replace h := h.2 (of_decide_eq_false q20)
              refine aw_skip ?_
              refine aw_gh (gh_to (n := 75) (σ' := [(39, ⟨ints o39_4, []⟩), (14, ⟨ints o14_4, []⟩)]) (env' := [(1, .c (.lst (rows list))), (5, .ref 14), (7, .c (ci v7_2)), (9, .ref 39), (25, .c (ci (o14_1.length : Int))), (26, .c (ci v26_2)), (45, .c (.lst (rows list))), (46, .c (ci (list.length : Int))), (47, .c (ci v47_4))]) rfl rfl ⟨rfl, rfl, rfl, rfl, rfl, rfl, rfl, rfl, rfl, trivial⟩) ?_
              refine aw_region ?_
              obtain ⟨q24, h⟩ := h
              refine run_s (ss_add rfl rfl q24) rfl ?_
              refine run_s (ss_move rfl) rfl ?_
              refine run_nil ?_
              exact ⟨v47_4 + 1, o14_4, o39_4, ghe_to (n := 75) rfl rfl ⟨rfl, rfl, rfl, rfl, rfl, rfl, rfl, rfl, rfl, trivial⟩, h.1, h.2⟩
          · replace h := h.2 (of_decide_eq_false q15)
            refine aw_exit ?_
            refine aw_region ?_
            refine run_s (ss_move rfl) rfl ?_
            obtain ⟨q25, h⟩ := h
            refine run_w (ws_slR (f := ci) rfl rfl (bnd_some rfl) bnd_none q25 ⟨rfl, ?_⟩)
            refine run_s (ss_assign rfl) rfl ?_
            refine run_nil ?_
            exact ⟨o14_4, sl o39_4 1 (o39_4.length : Int), ghe_to (n := 75) rfl rfl ⟨rfl, rfl, rfl, rfl, rfl, rfl, trivial⟩, h.1, h.2⟩
        · replace h := h.2 (of_decide_eq_false q13)
          refine aw_exit ?_
          refine aw_region ?_
          refine run_s (ss_move rfl) rfl ?_
          obtain ⟨q26, h⟩ := h
          refine run_s (ss_add rfl rfl q26) rfl ?_
          refine run_s (ss_assign rfl) rfl ?_
          refine run_nil ?_
          refine aw_gh (gh_to (n := 75) (σ' := [(39, ⟨ints o39_3, []⟩), (14, ⟨ints o14_3, []⟩)]) (env' := [(1, .c (.lst (rows list))), (5, .ref 14), (7, .c (ci (v7_2 + 1))), (25, .c (ci (o14_1.length : Int))), (26, .c (ci v26_2))]) rfl rfl ⟨rfl, rfl, rfl, rfl, rfl, trivial⟩) ?_
          refine aw_region ?_
          obtain ⟨q27, h⟩ := h
          refine run_s (ss_add rfl rfl q27) rfl ?_
          refine run_s (ss_move rfl) rfl ?_
          refine run_nil ?_
          exact ⟨v7_2 + 1, v26_2 + 1, o14_3, ghe_step (gh_frzE (id := 39) ci rfl (fun _ => rfl)) (ghe_to (n := 75) rfl rfl ⟨rfl, rfl, rfl, rfl, rfl, trivial⟩), h.1, h.2⟩
    · replace h := h.2 (of_decide_eq_false q7)
      refine aw_exit ?_
      refine aw_seq ?_
      refine aw_gh (gh_to (n := 75) (σ' := [(14, ⟨ints o14_2, []⟩)]) (env' := [(5, .ref 14)]) rfl rfl ⟨rfl, trivial⟩) ?_
      refine aw_region ?_
      refine run_s (ss_move rfl) rfl ?_
      refine run_s (ss_assign rfl) rfl ?_
      refine run_nil ?_
      refine aw_ret ?_
      exact retAF_mk (retv1 rfl (rv_tmp rfl)) rfl rfl ⟨_, (cle_refl _), _, h, rfl⟩

theorem c_impl_orbitLabels (n : Int) (list : List (List Int)) (hp : 0 ≤ n ∧ n ≤ 12 ∧ small list ∧ permsN n list) : AF Try.prog 111 [ci n, .lst (rows list)] (fun R_ => R_ = .own (ints (orbI n list))) :=
  (w_impl_orbitLabels n list (fun y0 => y0 = orbI n list) (p_impl_orbitLabels n list hp)).mono (by rintro r ⟨_, rfl, rfl⟩; rfl)

set_option maxRecDepth 100000 in
set_option maxHeartbeats 4000000 in
theorem w_impl_RackOrbits (r : List (List Int)) (Q : List Int → Int → Prop) (h : wp_impl_RackOrbits r Q) : AF Try.prog 38 [.agg [.lst (rows r)]] (fun R_ => ∃ y0 y1, Q y0 y1 ∧ R_ = .tup [.own (ints y0), ci y1]) := by
  refine AF.ofWQ (af_enter (n := 13) Try.func38 rfl (by rfl) rfl (Nat.le_of_ble_eq_true rfl) ?_)
  unfold wp_impl_RackOrbits at h
  refine aw_seq ?_
  refine aw_gh (gh_to (n := 13) (σ' := []) (env' := [(0, .c (.agg [.lst (rows r)]))]) rfl rfl ⟨rfl, trivial⟩) ?_
  refine aw_region ?_
  refine run_w (ws_boxR rfl (.inl rfl) rfl ⟨rfl, ?_⟩)
  refine run_s (ss_assign rfl) rfl ?_
  refine run_s (ss_assign rfl) rfl ?_
  refine run_nil ?_
  refine aw_seq ?_
  refine aw_seq ?_
  refine aw_region ?_
  refine run_s (ss_load_struct rfl (Nat.le_of_ble_eq_true rfl)) rfl ?_
  obtain ⟨q1, h⟩ := h
  refine run_w (ws_call (xs := [.tmp 4]) (ids := []) rfl rfl rfl rfl (c_impl_IsRack r q1) rfl ?_ )
  rintro _ rfl
  refine ⟨rfl, ?_⟩
  refine run_s (ss_not rfl) rfl ?_
  refine run_nil ?_
  refine aw_cond rfl (fun q3 => ?_) (fun q3 => ?_)
  · replace h := h.1 ((bnot_t q3))
    refine aw_seq ?_
    refine aw_gh (gh_to (n := 13) (σ' := []) (env' := [(2, .c (cnil)), (3, .c (ci 0))]) rfl rfl ⟨rfl, rfl, trivial⟩) ?_
    refine aw_region ?_
    refine run_s (ss_assign rfl) rfl ?_
    refine run_s (ss_assign rfl) rfl ?_
    refine run_nil ?_
    refine aw_ret ?_
    exact retAF_mk (retv2 rfl (rv_tmp rfl) (rv_tmp rfl)) rfl rfl ⟨_, (cle_tup (cleL_cons cle_nilO (cleL_cons (cle_refl _) cleL_nil))), _, _, h, rfl⟩
  · replace h := h.2 ((bnot_f q3))
    refine aw_skip ?_
    refine aw_seq ?_
    refine aw_region ?_
    refine run_s (ss_field_ptr rfl) rfl ?_
    refine run_s (ss_load_ptr rfl rfl) rfl ?_
    refine run_s (ss_lenL (f := (fun r => C.lst (ints r))) rfl) rfl ?_
    refine run_s (ss_field_ptr rfl) rfl ?_
    refine run_s (ss_load_ptr rfl rfl) rfl ?_
    obtain ⟨q4, h⟩ := h
    refine run_w (ws_call (xs := [.tmp 9, .tmp 11]) (ids := [12]) rfl rfl rfl rfl (c_impl_orbitLabels (r.length : Int) r q4) rfl ?_ )
    rintro _ rfl
    refine ⟨rfl, ?_⟩
    refine run_s (ss_assign rfl) rfl ?_
    refine run_s (ss_assign rfl) rfl ?_
    refine run_nil ?_
    refine aw_ret ?_
    exact retAF_mk (retv2 rfl (rv_tmp rfl) (rv_tmp rfl)) rfl rfl ⟨_, (cle_refl _), _, _, h, rfl⟩

theorem c_impl_RackOrbits (r : List (List Int)) (hp : small2 r) : AF Try.prog 38 [.agg [.lst (rows r)]] (fun R_ => R_ = .tup [.own (ints (RorT r)), ci (rkE r)]) :=
  (w_impl_RackOrbits r (fun y0 y1 => y0 = RorT r ∧ y1 = rkE r) (p_impl_RackOrbits r hp)).mono (by rintro r ⟨_, _, ⟨rfl, rfl⟩, rfl⟩; rfl)

end Go.Proofs.Ytbodlnpmplcaoaa
