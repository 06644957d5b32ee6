/- Contracts of functions that the law FnExactIsConnectedRack reaches: conditions, plain proofs, walks; no condition. -/
import Derived.Test.YtgekmhiemakaaaaKEIsConnectedRackd
import Derived.Test.YtgekmhiemakaaaaPe
namespace Go.Proofs.Ytgekmhiemakaaaa

def wp_impl_orbitLabels (n : Int) (list : List (List Int)) (Q : List Int → Prop) : Prop :=
 (0 ≤ n ∧ n ≤ 1000000000) ∧
 ∃ (H1 : Int → List Int → Prop) (m1 : Int → List Int → Nat),
 H1 0 (List.replicate n.toNat (0 : Int)) ∧
 ∀ (v17_1 : Int) (o14_1 : List Int), H1 v17_1 o14_1 →
 ( ((v17_1 < ((List.replicate n.toNat (0 : Int)).length : Int) →
   (0 ≤ v17_1 ∧ v17_1 < (o14_1.length : Int)) ∧
   (InI (v17_1 + 1)) ∧
   (H1 (v17_1 + 1) (se o14_1 v17_1 (-1)) ∧ m1 (v17_1 + 1) (se o14_1 v17_1 (-1)) < m1 v17_1 o14_1)) ∧
  (¬ (v17_1 < ((List.replicate n.toNat (0 : Int)).length : Int)) →
   ∃ (H2 : Int → Int → List Int → Prop) (m2 : Int → Int → List Int → Nat),
   H2 0 0 o14_1 ∧
   ∀ (v7_2 : Int) (v26_2 : Int) (o14_2 : List Int), H2 v7_2 v26_2 o14_2 →
   ( ((v26_2 < (o14_1.length : Int) →
     (0 ≤ v26_2 ∧ v26_2 < (o14_2.length : Int)) ∧
     ((0 ≤ el o14_2 v26_2 →
      (InI (v26_2 + 1)) ∧
      (H2 v7_2 (v26_2 + 1) o14_2 ∧ m2 v7_2 (v26_2 + 1) o14_2 < m2 v7_2 v26_2 o14_2)) ∧
     (¬ (0 ≤ el o14_2 v26_2) →
      (0 ≤ v26_2 ∧ v26_2 < (o14_2.length : Int)) ∧
      ∃ (H3 : List Int → List Int → Prop) (m3 : List Int → List Int → Nat),
      H3 (se o14_2 v26_2 v7_2) ([v26_2]) ∧
      ∀ (o14_3 : List Int) (o39_3 : List Int), H3 o14_3 o39_3 →
      ( ((0 < (o39_3.length : Int) →
        ∃ (H4 : Int → List Int → List Int → Prop) (m4 : Int → List Int → List Int → Nat),
        H4 0 o14_3 o39_3 ∧
        ∀ (v47_4 : Int) (o14_4 : List Int) (o39_4 : List Int), H4 v47_4 o14_4 o39_4 →
        ( ((v47_4 < (list.length : Int) →
          (0 ≤ v47_4 ∧ v47_4 < (list.length : Int)) ∧
          ((0 : Int) ≤ 0 ∧ 0 < (o39_4.length : Int)) ∧
          (0 ≤ el o39_4 0 ∧ el o39_4 0 < ((el list v47_4).length : Int)) ∧
          (0 ≤ el (el list v47_4) (el o39_4 0) ∧ el (el list v47_4) (el o39_4 0) < (o14_4.length : Int)) ∧
          ((el o14_4 (el (el list v47_4) (el o39_4 0)) < 0 →
           (0 ≤ el (el list v47_4) (el o39_4 0) ∧ el (el list v47_4) (el o39_4 0) < (o14_4.length : Int)) ∧
           ((o39_4.length : Int) + (([el (el list v47_4) (el o39_4 0)]).length : Int) ≤ 1000000000) ∧
           (InI (v47_4 + 1)) ∧
           (H4 (v47_4 + 1) (se o14_4 (el (el list v47_4) (el o39_4 0)) v7_2) (o39_4 ++ ([el (el list v47_4) (el o39_4 0)])) ∧ m4 (v47_4 + 1) (se o14_4 (el (el list v47_4) (el o39_4 0)) v7_2) (o39_4 ++ ([el (el list v47_4) (el o39_4 0)])) < m4 v47_4 o14_4 o39_4)) ∧
          (¬ (el o14_4 (el (el list v47_4) (el o39_4 0)) < 0) →
           (InI (v47_4 + 1)) ∧
           (H4 (v47_4 + 1) o14_4 o39_4 ∧ m4 (v47_4 + 1) o14_4 o39_4 < m4 v47_4 o14_4 o39_4)))) ∧
         (¬ (v47_4 < (list.length : Int)) →
          ((0 : Int) ≤ 1 ∧ 1 ≤ (o39_4.length : Int) ∧ (o39_4.length : Int) ≤ (o39_4.length : Int)) ∧
          (H3 o14_4 (sl o39_4 1 (o39_4.length : Int)) ∧ m3 o14_4 (sl o39_4 1 (o39_4.length : Int)) < m3 o14_3 o39_3))))) ∧
       (¬ (0 < (o39_3.length : Int)) →
        (InI (v7_2 + 1)) ∧
        (InI (v26_2 + 1)) ∧
        (H2 (v7_2 + 1) (v26_2 + 1) o14_3 ∧ m2 (v7_2 + 1) (v26_2 + 1) o14_3 < m2 v7_2 v26_2 o14_2))))))) ∧
    (¬ (v26_2 < (o14_1.length : Int)) →
     Q o14_2))))))

def wp_spec_l01Orbit (list : List (List Int)) (x : Int) (Q : List Int → Prop) : Prop :=
 ∃ (H1 : Int → List Int → Prop) (m1 : Int → List Int → Nat),
 H1 0 ([x]) ∧
 ∀ (v6_1 : Int) (o9_1 : List Int), H1 v6_1 o9_1 →
 ( ((v6_1 < (o9_1.length : Int) →
   ∃ (H2 : Int → List Int → Prop) (m2 : Int → List Int → Nat),
   H2 0 o9_1 ∧
   ∀ (v7_2 : Int) (o9_2 : List Int), H2 v7_2 o9_2 →
   ( ((v7_2 < (list.length : Int) →
     (0 ≤ v7_2 ∧ v7_2 < (list.length : Int)) ∧
     (0 ≤ v6_1 ∧ v6_1 < (o9_2.length : Int)) ∧
     (0 ≤ el o9_2 v6_1 ∧ el o9_2 v6_1 < ((el list v7_2).length : Int)) ∧
     (small o9_2) ∧
     (((o9_2.contains (el (el list v7_2) (el o9_2 v6_1))) = false →
      (0 ≤ v7_2 ∧ v7_2 < (list.length : Int)) ∧
      (0 ≤ v6_1 ∧ v6_1 < (o9_2.length : Int)) ∧
      (0 ≤ el o9_2 v6_1 ∧ el o9_2 v6_1 < ((el list v7_2).length : Int)) ∧
      ((o9_2.length : Int) + (([el (el list v7_2) (el o9_2 v6_1)]).length : Int) ≤ 1000000000) ∧
      (InI (v7_2 + 1)) ∧
      (H2 (v7_2 + 1) (o9_2 ++ ([el (el list v7_2) (el o9_2 v6_1)])) ∧ m2 (v7_2 + 1) (o9_2 ++ ([el (el list v7_2) (el o9_2 v6_1)])) < m2 v7_2 o9_2)) ∧
     ((o9_2.contains (el (el list v7_2) (el o9_2 v6_1))) = true →
      (InI (v7_2 + 1)) ∧
      (H2 (v7_2 + 1) o9_2 ∧ m2 (v7_2 + 1) o9_2 < m2 v7_2 o9_2)))) ∧
    (¬ (v7_2 < (list.length : Int)) →
     (InI (v6_1 + 1)) ∧
     (H1 (v6_1 + 1) o9_2 ∧ m1 (v6_1 + 1) o9_2 < m1 v6_1 o9_1))))) ∧
  (¬ (v6_1 < (o9_1.length : Int)) →
   Q o9_1)))

def wp_spec_l01Orbits (n : Int) (list : List (List Int)) (Q : List Int → Prop) : Prop :=
 ∃ (H1 : Int → List Int → Prop) (m1 : Int → List Int → Nat),
 H1 0 ([] : List Int) ∧
 ∀ (v6_1 : Int) (o11_1 : List Int), H1 v6_1 o11_1 →
 ( ((v6_1 < n →
   ((o11_1.length : Int) + (([(-1)]).length : Int) ≤ 1000000000) ∧
   (InI (v6_1 + 1)) ∧
   (H1 (v6_1 + 1) (o11_1 ++ ([(-1)])) ∧ m1 (v6_1 + 1) (o11_1 ++ ([(-1)])) < m1 v6_1 o11_1)) ∧
  (¬ (v6_1 < n) →
   ∃ (H2 : Int → Int → List Int → Prop) (m2 : Int → Int → List Int → Nat),
   H2 0 0 o11_1 ∧
   ∀ (v7_2 : Int) (v8_2 : Int) (o11_2 : List Int), H2 v7_2 v8_2 o11_2 →
   ( ((v8_2 < n →
     (0 ≤ v8_2 ∧ v8_2 < (o11_2.length : Int)) ∧
     ((0 ≤ el o11_2 v8_2 →
      (InI (v8_2 + 1)) ∧
      (H2 v7_2 (v8_2 + 1) o11_2 ∧ m2 v7_2 (v8_2 + 1) o11_2 < m2 v7_2 v8_2 o11_2)) ∧
     (¬ (0 ≤ el o11_2 v8_2) →
      (∃ n_ : Int, 0 ≤ v8_2 ∧ v8_2 < n_ ∧ n_ ≤ 12 ∧ small list ∧ permsN n_ list) ∧
      ∀ (r1_0 : List Int), (orbL list v8_2 r1_0) →
      ∃ (H3 : Int → List Int → Prop) (m3 : Int → List Int → Nat),
      H3 0 o11_2 ∧
      ∀ (v10_3 : Int) (o11_3 : List Int), H3 v10_3 o11_3 →
      ( ((v10_3 < (r1_0.length : Int) →
        (0 ≤ v10_3 ∧ v10_3 < (r1_0.length : Int)) ∧
        (0 ≤ el r1_0 v10_3 ∧ el r1_0 v10_3 < (o11_3.length : Int)) ∧
        (InI (v10_3 + 1)) ∧
        (H3 (v10_3 + 1) (se o11_3 (el r1_0 v10_3) v7_2) ∧ m3 (v10_3 + 1) (se o11_3 (el r1_0 v10_3) v7_2) < m3 v10_3 o11_3)) ∧
       (¬ (v10_3 < (r1_0.length : Int)) →
        (InI (v7_2 + 1)) ∧
        (InI (v8_2 + 1)) ∧
        (H2 (v7_2 + 1) (v8_2 + 1) o11_3 ∧ m2 (v7_2 + 1) (v8_2 + 1) o11_3 < m2 v7_2 v8_2 o11_2))))))) ∧
    (¬ (v8_2 < n) →
     Q o11_2))))))

def wp_spec_IsConnectedRack (r : List (List Int)) (Q : Bool → Int → Prop) : Prop :=
 (small2 r) ∧
 (((isRk r) = false →
  Q false 1) ∧
 ((isRk r) = true →
  (0 ≤ (r.length : Int) ∧ (r.length : Int) ≤ 12 ∧ small r ∧ permsN (r.length : Int) r) ∧
  ∃ (H1 : Int → Prop) (m1 : Int → Nat),
  H1 0 ∧
  ∀ (v5_1 : Int), H1 v5_1 →
  ( ((v5_1 < ((orbI (r.length : Int) r).length : Int) →
    (0 ≤ v5_1 ∧ v5_1 < ((orbI (r.length : Int) r).length : Int)) ∧
    ((¬ (el (orbI (r.length : Int) r) v5_1 = 0) →
     Q false 0) ∧
    (el (orbI (r.length : Int) r) v5_1 = 0 →
     (InI (v5_1 + 1)) ∧
     (H1 (v5_1 + 1) ∧ m1 (v5_1 + 1) < m1 v5_1)))) ∧
   (¬ (v5_1 < ((orbI (r.length : Int) r).length : Int)) →
    Q true 0)))))

def wp_impl_IsConnectedRack (r : List (List Int)) (Q : Bool → Int → Prop) : Prop :=
 (small2 r) ∧
 (((isRk r) = false →
  Q false 1) ∧
 ((isRk r) = true →
  (0 ≤ (r.length : Int) ∧ (r.length : Int) ≤ 12 ∧ small r ∧ permsN (r.length : Int) r) ∧
  (small (orbI (r.length : Int) r) ∧ 1 ≤ ((orbI (r.length : Int) r).length : Int)) ∧
  Q (decide (maxI (orbI (r.length : Int) r) = 0)) 0))


theorem p_impl_orbitLabels (n : Int) (list : List (List Int)) (hp : 0 ≤ n ∧ n ≤ 12 ∧ small list ∧ permsN n list) : wp_impl_orbitLabels n list (fun y0 => y0 = orbI n list) := by
  unfold wp_impl_orbitLabels
  obtain ⟨n0, n1, hs, hp⟩ := hp
  have hs' : (list.length : Int) ≤ 1000000000 := hs
  have hpe : ∀ {i y : Int}, (0 ≤ i ∧ i < (list.length : Int)) → (0 ≤ y ∧ y < n) → ((el list i).length : Int) = n ∧ 0 ≤ el (el list i) y ∧ el (el list i) y < n := fun hi hy => by
    obtain ⟨a, b⟩ := hp _ (el_mem hi)
    have := isPerm_el b ⟨hy.1, by omega⟩
    exact ⟨a, this.1, by omega⟩
  have hrl : ((List.replicate n.toNat (0 : Int)).length : Int) = n := by simp; omega
  rw [hrl]
  refine ⟨⟨n0, by omega⟩, fun i o => 0 ≤ i ∧ i ≤ n ∧ (o.length : Int) = n ∧ Upto i fun j => el o j = -1, fun i _ => (n - i).toNat, ⟨by omega, n0, hrl, upto0⟩, ?_⟩
  rintro i o ⟨i0, i1, ol, oI⟩
  dsimp only
  refine ⟨fun ilt => ⟨⟨i0, by omega⟩, ⟨by omega, by omega⟩, ⟨by omega, by omega, by simpa using ol, fill1 (f := fun _ => -1) ⟨i0, by omega⟩ oI rfl⟩, by omega⟩, fun ige => ?_⟩
  have hn' : i = n := by omega
  subst hn'
  refine ⟨fun k x L => OrbI i list x k L, fun _ x _ => (i - x).toNat, orb_init n0 ol oI, ?_⟩
  rintro k x L0 hO
  dsimp only
  have hx0 := hO.xn
  have hk0 := hO.kx
  have hl0 := hO.len
  refine ⟨fun xlt => ?_, fun xge => ?_⟩
  · have xlt' : x < i := by omega
    have hxx : 0 ≤ x ∧ x < i := ⟨hx0.1, xlt'⟩
    refine ⟨⟨hx0.1, by omega⟩, fun h0 => ⟨⟨by omega, by omega⟩, orb_skip hO xlt' h0, by omega⟩, fun h0 => ⟨⟨hx0.1, by omega⟩, ?_⟩⟩
    have hneg : el L0 x < 0 := by omega
    -- the set of those labelled before is closed
    have hclosed : ∀ p, p ∈ list → ∀ y, (0 ≤ y ∧ y < i) → 0 ≤ el L0 (el p y) → 0 ≤ el L0 y := fun p hpm y hy h1 => by
      obtain ⟨a, b⟩ := hp _ hpm
      refine closed_back a b (S := fun w => 0 ≤ el L0 w) (fun w hw h2 => ?_) hy h1
      have hb := isPerm_el b (i := w) ⟨hw.1, by omega⟩
      have := (hO.ker w (el p w) hw ⟨hb.1, by omega⟩ h2).2 (.step .base hpm)
      show 0 ≤ el L0 (el p w)
      omega
    let B : List Int → List Int → Prop := fun L Q => (L.length : Int) = i ∧ (∀ y, 0 ≤ y → y < i → el L y = k ∨ el L y = el L0 y) ∧ (∀ y, 0 ≤ y → y < i → el L y = k → Rch list x y) ∧ (∀ q ∈ Q, (0 ≤ q ∧ q < i) ∧ el L q = k) ∧ el L x = k
    refine ⟨fun L Q => B L Q ∧ (∀ y, 0 ≤ y → y < i → el L y = k → y ∈ Q ∨ ∀ p ∈ list, 0 ≤ el L (el p y)) ∧ negs L + Q.length ≤ 13, fun L Q => negs L + Q.length, ⟨⟨by simpa using hl0, fun y a b => ?_, fun y a b e => ?_, fun q hq => ?_, el_se_same ⟨hx0.1, by omega⟩⟩, fun y a b e => ?_, ?_⟩, ?_⟩
    · by_cases e : y = x
      · subst e; exact .inl (el_se_same ⟨hx0.1, by omega⟩)
      · exact .inr (el_se_ne hx0.1 a (Ne.symm e))
    · by_cases e2 : y = x
      · subst e2; exact .base
      · rw [el_se_ne hx0.1 a (Ne.symm e2)] at e
        have := hO.rng y a b; omega
    · simp only [List.mem_singleton] at hq
      subst hq
      exact ⟨hxx, el_se_same ⟨hx0.1, by omega⟩⟩
    · by_cases e2 : y = x
      · subst e2; exact .inl (by simp)
      · rw [el_se_ne hx0.1 a (Ne.symm e2)] at e
        have := hO.rng y a b; omega
    · have a := negs_se (l := L0) (i := x) (k := k) ⟨hx0.1, by omega⟩ hneg hk0.1
      have b := negs_le L0
      simp; omega
    rintro L Q ⟨hB, hC, hM⟩
    dsimp only
    refine ⟨fun qlt => ?_, fun qge => ?_⟩
    · cases Q with
      | nil => simp at qlt
      | cons q0 Q0 =>
      have hq0 := hB.2.2.2.1 q0 List.mem_cons_self
      refine ⟨fun j L' Q' => 0 ≤ j ∧ j ≤ (list.length : Int) ∧ B L' Q' ∧ (∃ s, Q' = q0 :: s) ∧ (∀ y, 0 ≤ y → y < i → el L' y = k → y ∈ Q' ∨ ∀ p ∈ list, 0 ≤ el L' (el p y)) ∧ (Upto j fun j => 0 ≤ el L' (el (el list j) q0)) ∧ negs L' + Q'.length = negs L + (q0 :: Q0).length,
        fun j _ _ => ((list.length : Int) - j).toNat, ⟨by omega, by omega, hB, ⟨_, rfl⟩, hC, upto0, rfl⟩, ?_⟩
      rintro j L' Q' ⟨j0, j1, hB', ⟨s, rfl⟩, hC', hU, hM'⟩
      dsimp only
      obtain ⟨bl, be, br, bq, bx⟩ := hB'
      have hql : (((q0 :: s).length : Nat) : Int) = (s.length : Int) + 1 := by simp
      refine ⟨fun jlt => ?_, fun jge => ?_⟩
      · rw [el_cons_0]
        have hj : 0 ≤ j ∧ j < (list.length : Int) := ⟨j0, jlt⟩
        obtain ⟨pl, pe⟩ := hpe hj hq0.1
        have hpm := el_mem hj
        have hq0k := (bq q0 List.mem_cons_self).2
        have hrq := br q0 hq0.1.1 hq0.1.2 hq0k
        refine ⟨hj, ⟨by omega, by omega⟩, ⟨hq0.1.1, by omega⟩, ⟨pe.1, by omega⟩, fun hlt => ⟨⟨pe.1, by omega⟩, by simp at hM hM' ⊢; omega, ⟨by omega, by omega⟩, ⟨by omega, by omega, ⟨by simpa using bl, fun y a b => ?_, fun y a b e => ?_, fun q hq => ?_, ?_⟩, ⟨s ++ [el (el list j) q0], rfl⟩, fun y a b e => ?_, ?_, ?_⟩, by omega⟩, fun hge => ⟨⟨by omega, by omega⟩, ⟨by omega, by omega, ⟨bl, be, br, bq, bx⟩, ⟨s, rfl⟩, hC', upto1 hU (by show 0 ≤ el L' (el (el list j) q0); omega), hM'⟩, by omega⟩⟩
        · by_cases e : y = el (el list j) q0
          · subst e; exact .inl (el_se_same ⟨a, by omega⟩)
          · rw [el_se_ne pe.1 a (Ne.symm e)]; exact be y a b
        · by_cases e2 : y = el (el list j) q0
          · rw [e2]; exact .step hrq hpm
          · rw [el_se_ne pe.1 a (Ne.symm e2)] at e; exact br y a b e
        · by_cases e2 : q = el (el list j) q0
          · subst e2; exact ⟨pe, el_se_same ⟨pe.1, by omega⟩⟩
          · have hq' : q ∈ q0 :: s := by
              rcases List.mem_append.1 hq with h | h
              · exact h
              · simp only [List.mem_singleton] at h; exact absurd h e2
            have := bq q hq'
            exact ⟨this.1, by rw [el_se_ne pe.1 this.1.1 (Ne.symm e2)]; exact this.2⟩
        · by_cases e2 : x = el (el list j) q0
          · rw [← e2]; exact el_se_same ⟨hx0.1, by omega⟩
          · rw [el_se_ne pe.1 hx0.1 (Ne.symm e2)]; exact bx
        · have mono : ∀ w, 0 ≤ w → w < i → 0 ≤ el L' w → 0 ≤ el (se L' (el (el list j) q0) k) w := fun w w0 w1 h => by
            by_cases e2 : w = el (el list j) q0
            · subst e2; rw [el_se_same ⟨w0, by omega⟩]; exact hk0.1
            · rw [el_se_ne pe.1 w0 (Ne.symm e2)]; exact h
          by_cases e2 : y = el (el list j) q0
          · exact .inl (by rw [e2]; exact List.mem_append_right _ List.mem_cons_self)
          · rw [el_se_ne pe.1 a (Ne.symm e2)] at e
            rcases hC' y a b e with h | h
            · exact .inl (List.mem_append_left _ h)
            · refine .inr fun p hpm' => ?_
              obtain ⟨c, d⟩ := hp _ hpm'
              have := isPerm_el d (i := y) ⟨a, by omega⟩
              exact mono _ this.1 (by omega) (h p hpm')
        · refine upto1 (fun m m0 m1 => ?_) ?_
          · show 0 ≤ el (se L' (el (el list j) q0) k) (el (el list m) q0)
            by_cases e2 : el (el list m) q0 = el (el list j) q0
            · rw [e2, el_se_same ⟨pe.1, by omega⟩]; exact hk0.1
            · have := (hpe (i := m) ⟨m0, by omega⟩ hq0.1).2
              rw [el_se_ne pe.1 this.1 (Ne.symm e2)]; exact hU m m0 m1
          · show 0 ≤ el (se L' (el (el list j) q0) k) (el (el list j) q0)
            rw [el_se_same ⟨pe.1, by omega⟩]; exact hk0.1
        · have a := negs_se (l := L') (i := el (el list j) q0) (k := k) ⟨pe.1, by omega⟩ hlt hk0.1
          simp at hM' ⊢; omega
      · have hsl : sl (q0 :: s) 1 (((q0 :: s).length : Nat) : Int) = s := by simp [sl]
        refine ⟨⟨by omega, by omega, by omega⟩, ?_, ?_⟩
        · rw [hsl]
          refine ⟨⟨bl, be, br, fun q hq => bq q (List.mem_cons_of_mem _ hq), bx⟩, fun y a b e => ?_, by simp at hM hM' ⊢; omega⟩
          rcases hC' y a b e with h | h
          · rcases List.mem_cons.1 h with h | h
            · refine .inr fun p hpm => ?_
              obtain ⟨m, hm, rfl⟩ := mem_el hpm
              rw [h]
              exact hU m hm.1 (by omega)
            · exact .inl h
          · exact .inr h
        · rw [hsl]; simp at hM' ⊢; omega
    · have hQ : Q = [] := List.eq_nil_of_length_eq_zero (by omega)
      subst hQ
      obtain ⟨bl, be, br, bq, bx⟩ := hB
      have hall : ∀ y, Rch list x y → el L y = k := fun y hr => by
        induction hr with
        | base => exact bx
        | step h hpm ih =>
          rename_i y p
          have hy := rch_in hp hxx h
          have h1 : 0 ≤ el L (el p y) := by
            rcases hC y hy.1 hy.2 ih with h2 | h2
            · exact (List.not_mem_nil h2).elim
            · exact h2 p hpm
          obtain ⟨c, d⟩ := hp _ hpm
          have hb := isPerm_el d (i := y) ⟨hy.1, by omega⟩
          rcases be (el p y) hb.1 (by omega) with h2 | h2
          · exact h2
          · rw [h2] at h1
            exact absurd h (orb_not hp hO xlt' hneg hy (hclosed p hpm y hy h1))
      refine ⟨⟨by omega, by omega⟩, ⟨by omega, by omega⟩, orb_step hp hO xlt' hneg bl fun y a b => ⟨hall y, fun hn => ?_⟩, by omega⟩
      rcases be y a b with h | h
      · exact absurd (br y a b h) hn
      · exact h
  · have : x = i := by omega
    subst this
    exact orb_end hO
theorem p_spec_l01Orbit (list : List (List Int)) (x : Int) (hp : ∃ n_ : Int, 0 ≤ x ∧ x < n_ ∧ n_ ≤ 12 ∧ small list ∧ permsN n_ list) : wp_spec_l01Orbit list x (fun y0 => orbL list x y0) := by
  unfold wp_spec_l01Orbit
  obtain ⟨n, x0, x1, n1, hs, hp⟩ := hp
  have hs' : (list.length : Int) ≤ 1000000000 := hs
  have hxx : 0 ≤ x ∧ x < n := ⟨x0, x1⟩
  have ln : ∀ o : List Int, o.Nodup → (∀ y ∈ o, Rch list x y) → (o.length : Int) ≤ n := fun o h1 h2 => nodup_len_ran (by omega) h1 fun y hy => rch_in hp hxx (h2 y hy)
  refine ⟨fun i o => 0 ≤ i ∧ i ≤ (o.length : Int) ∧ o.Nodup ∧ (∀ y ∈ o, Rch list x y) ∧ x ∈ o ∧ Upto i fun j => ∀ p ∈ list, el p (el o j) ∈ o, fun i _ => (n - i).toNat, ⟨by omega, by simp, by simp, fun y hy => by simp at hy; subst hy; exact .base, by simp, upto0⟩, ?_⟩
  rintro i o ⟨i0, i1, hnd, hr, hxo, hI⟩
  dsimp only
  have hol := ln o hnd hr
  refine ⟨fun ilt => ?_, fun ige => ⟨hnd, fun y => ⟨hr y, fun h => ?_⟩⟩⟩
  · refine ⟨fun k o' => 0 ≤ k ∧ k ≤ (list.length : Int) ∧ (∃ s, o' = o ++ s) ∧ o'.Nodup ∧ (∀ y ∈ o', Rch list x y) ∧ Upto k fun k => el (el list k) (el o i) ∈ o', fun k _ => ((list.length : Int) - k).toNat, ⟨by omega, by omega, ⟨[], by simp⟩, hnd, hr, upto0⟩, ?_⟩
    rintro k o' ⟨k0, k1, ⟨s, rfl⟩, hnd', hr', hU⟩
    dsimp only
    have hol' := ln _ hnd' hr'
    have ei : el (o ++ s) i = el o i := el_append_l ⟨i0, ilt⟩
    rw [ei]
    refine ⟨fun klt => ?_, fun kge => ?_⟩
    · have hk : 0 ≤ k ∧ k < (list.length : Int) := ⟨k0, klt⟩
      have hoi := hr _ (el_mem (l := o) (i := i) ⟨i0, ilt⟩)
      have hoir := rch_in hp hxx hoi
      obtain ⟨a, b⟩ := hp _ (el_mem hk)
      have hle : ((o ++ s).length : Int) ≤ 12 := by omega
      have hin : i < ((o ++ s).length : Int) := by simp; omega
      refine ⟨hk, ⟨i0, hin⟩, ⟨hoir.1, by omega⟩, by show _ ≤ (1000000000 : Int); omega, fun hf => ⟨hk, ⟨i0, hin⟩, ⟨hoir.1, by omega⟩, by simp at hle ⊢; omega, ⟨by omega, by omega⟩, ⟨by omega, by omega, ⟨s ++ [el (el list k) (el o i)], by simp⟩, ?_, fun y hy => ?_, upto1 (fun j a b => List.mem_append_left _ (hU j a b)) (List.mem_append_right _ List.mem_cons_self)⟩, by omega⟩, fun ht => ⟨⟨by omega, by omega⟩, ⟨by omega, by omega, ⟨s, rfl⟩, hnd', hr', upto1 hU (List.contains_iff_mem.1 ht)⟩, by omega⟩⟩
      · refine List.nodup_append.2 ⟨hnd', by simp, fun y hy z hz e => ?_⟩
        simp only [List.mem_singleton] at hz
        subst e; subst hz
        rw [List.contains_iff_mem.2 hy] at hf; cases hf
      · rcases List.mem_append.1 hy with hy | hy
        · exact hr' y hy
        · simp only [List.mem_singleton] at hy
          rw [hy]; exact .step hoi (el_mem hk)
    · refine ⟨⟨by omega, by omega⟩, ⟨by omega, by simp; omega, hnd', hr', List.mem_append_left _ hxo, upto1 (fun j a b p hpm => ?_) fun p hpm => ?_⟩, by omega⟩
      · rw [el_append_l ⟨a, by omega⟩]; exact List.mem_append_left _ (hI j a b p hpm)
      · rw [ei]
        obtain ⟨m, hm, rfl⟩ := mem_el hpm
        exact hU m hm.1 (by omega)
  · induction h with
    | base => exact hxo
    | step h hpm ih =>
      obtain ⟨j, hj, e⟩ := mem_el ih
      rw [← e]
      exact hI j hj.1 (by omega) _ hpm
theorem p_spec_l01Orbits (n : Int) (list : List (List Int)) (hp : 0 ≤ n ∧ n ≤ 12 ∧ small list ∧ permsN n list) : wp_spec_l01Orbits n list (fun y0 => y0 = orbI n list) := by
  unfold wp_spec_l01Orbits
  obtain ⟨n0, n1, hs, hp⟩ := hp
  refine ⟨fun i o => 0 ≤ i ∧ i ≤ n ∧ (o.length : Int) = i ∧ Upto i fun j => el o j = -1, fun i _ => (n - i).toNat, ⟨by omega, n0, by simp, upto0⟩, ?_⟩
  rintro i o ⟨i0, i1, ol, oI⟩
  dsimp only
  refine ⟨fun ilt => ⟨by simp; omega, ⟨by omega, by omega⟩, ⟨by omega, by omega, by simp; omega, app1 (f := fun _ => -1) (by omega) oI rfl⟩, by omega⟩, fun ige => ?_⟩
  have hn' : i = n := by omega
  subst hn'
  refine ⟨fun k x L => OrbI i list x k L, fun _ x _ => (i - x).toNat, orb_init n0 ol oI, ?_⟩
  rintro k x L0 hO
  dsimp only
  have hx0 := hO.xn
  have hk0 := hO.kx
  have hl0 := hO.len
  refine ⟨fun xlt => ?_, fun xge => ?_⟩
  · refine ⟨⟨hx0.1, by omega⟩, fun h0 => ⟨⟨by omega, by omega⟩, orb_skip hO xlt h0, by omega⟩, fun h0 => ⟨⟨i, hx0.1, xlt, n1, hs, hp⟩, fun r hr => ?_⟩⟩
    have hneg : el L0 x < 0 := by omega
    have hin : ∀ j, 0 ≤ j → j < (r.length : Int) → 0 ≤ el r j ∧ el r j < i := fun j a b => rch_in hp ⟨hx0.1, xlt⟩ ((hr.2 _).1 (el_mem ⟨a, b⟩))
    have hrl := nodup_len_ran n0 hr.1 fun y hy => rch_in hp ⟨hx0.1, xlt⟩ ((hr.2 y).1 hy)
    refine ⟨fun j L => 0 ≤ j ∧ j ≤ (r.length : Int) ∧ (L.length : Int) = i ∧ ∀ y, 0 ≤ y → y < i → ((∃ m, (0 ≤ m ∧ m < j) ∧ el r m = y) → el L y = k) ∧ ((¬ ∃ m, (0 ≤ m ∧ m < j) ∧ el r m = y) → el L y = el L0 y), fun j _ => ((r.length : Int) - j).toNat, ⟨by omega, by omega, hl0, fun y a b => ⟨fun ⟨m, hm, _⟩ => by omega, fun _ => rfl⟩⟩, ?_⟩
    rintro j L ⟨j0, j1, hl, hL⟩
    dsimp only
    refine ⟨fun jlt => ?_, fun jge => ?_⟩
    · have hj := hin j j0 jlt
      refine ⟨⟨j0, jlt⟩, ⟨hj.1, by omega⟩, ⟨by omega, by omega⟩, ⟨by omega, by omega, by simpa using hl, fun y a b => ⟨fun ⟨m, hm, e⟩ => ?_, fun hn => ?_⟩⟩, by omega⟩
      · by_cases e2 : y = el r j
        · rw [e2]; exact el_se_same ⟨hj.1, by omega⟩
        · rw [el_se_ne hj.1 a (Ne.symm e2)]
          refine (hL y a b).1 ⟨m, ⟨hm.1, ?_⟩, e⟩
          by_cases e3 : m = j
          · subst e3; exact absurd e.symm e2
          · omega
      · have e2 : y ≠ el r j := fun e => hn ⟨j, ⟨j0, by omega⟩, e.symm⟩
        rw [el_se_ne hj.1 a (Ne.symm e2)]
        exact (hL y a b).2 fun ⟨m, hm, e⟩ => hn ⟨m, ⟨hm.1, by omega⟩, e⟩
    · refine ⟨⟨by omega, by omega⟩, ⟨by omega, by omega⟩, orb_step hp hO xlt hneg hl fun y a b => ⟨fun h => (hL y a b).1 ?_, fun h => (hL y a b).2 fun ⟨m, hm, e⟩ => h ?_⟩, by omega⟩
      · obtain ⟨m, hm, e⟩ := mem_el ((hr.2 y).2 h)
        exact ⟨m, ⟨hm.1, by omega⟩, e⟩
      · rw [← e]; exact (hr.2 _).1 (el_mem ⟨hm.1, by omega⟩)
  · have : x = i := by omega
    subst this
    exact orb_end hO
theorem orbI_len {n : Int} {list : List (List Int)} (hn : 0 ≤ n) (hp : permsN n list) : ((orbI n list).length : Int) = n := (orbI_is hn hp).1
theorem p_spec_IsConnectedRack (r : List (List Int)) (hp : small2 r) : wp_spec_IsConnectedRack r (fun y0 y1 => y0 = RcoB r ∧ y1 = rkE r) := by
  unfold wp_spec_IsConnectedRack RcoB rkE
  refine ⟨hp, fun h => by rw [h]; exact ⟨rfl, rfl⟩, fun h => ?_⟩
  have hn := isTab_len (isRk_tab h)
  have hpm := isRk_permsN h
  have hl := orbI_len (by omega) hpm
  rw [h, hl]
  refine ⟨⟨by omega, by omega, hp.1, hpm⟩, fun i => 0 ≤ i ∧ i ≤ (r.length : Int) ∧ Upto i fun j => el (orbI (r.length : Int) r) j = 0, fun i => ((r.length : Int) - i).toNat, ⟨by omega, by omega, upto0⟩, ?_⟩
  rintro i ⟨i0, i1, hI⟩
  dsimp only
  refine ⟨fun ilt => ⟨⟨i0, by omega⟩, fun h1 => ⟨?_, rfl⟩, fun h1 => ⟨⟨by omega, by omega⟩, ⟨by omega, by omega, upto1 hI h1⟩, by omega⟩⟩, fun ige => ⟨?_, rfl⟩⟩
  · rw [dec_f fun hO => h1 (hO i i0 ilt)]; rfl
  · rw [dec_t (show OneOrb r from fun j a b => hI j a (by omega))]; rfl
theorem p_impl_IsConnectedRack (r : List (List Int)) (hp : small2 r) : wp_impl_IsConnectedRack r (fun y0 y1 => y0 = RcoB r ∧ y1 = rkE r) := by
  unfold wp_impl_IsConnectedRack RcoB rkE
  refine ⟨hp, fun h => by rw [h]; exact ⟨rfl, rfl⟩, fun h => ?_⟩
  have hn := isTab_len (isRk_tab h)
  have hpm := isRk_permsN h
  obtain ⟨hl, hc, _⟩ := orbI_is (by omega) hpm
  rw [h]
  refine ⟨⟨by omega, by omega, hp.1, hpm⟩, ⟨by show _ ≤ (1000000000 : Int); omega, by omega⟩, ?_, rfl⟩
  rw [Bool.true_and, Bool.eq_iff_iff, decide_eq_true_eq, dec_iff]
  constructor
  · intro e i a b
    have h1 := maxI_ge (l := orbI (r.length : Int) r) (i := i) ⟨a, by omega⟩
    have h2 := (hc i a (by omega)).1
    omega
  · intro hO
    obtain ⟨i, hi, e⟩ := mem_el (maxI_mem (l := orbI (r.length : Int) r) (by omega))
    rw [← e]; exact hO i hi.1 (by omega)

set_option maxRecDepth 100000 in
set_option maxHeartbeats 1000000 in
theorem w_impl_orbitLabels (n : Int) (list : List (List Int)) (Q : List Int → Prop) (h : wp_impl_orbitLabels n list Q) : AF Try.prog 86 [ci n, .lst (rows list)] (fun R_ => ∃ y0, Q y0 ∧ R_ = .own (ints y0)) := by
  refine AF.ofWQ (af_enter (n := 75) Try.func86 rfl (by rfl) rfl (Nat.le_of_ble_eq_true rfl) ?_)
  unfold wp_impl_orbitLabels at h
  refine aw_seq ?_
  refine aw_gh (gh_to (n := 75) (σ' := []) (env' := [(0, .c (ci n)), (1, .c (.lst (rows list)))]) rfl rfl ⟨rfl, rfl, trivial⟩) ?_
  refine aw_region ?_
  refine run_s (ss_assign rfl) rfl ?_
  refine run_nil ?_
  refine aw_seq ?_
  refine aw_region ?_
  refine run_s (ss_move rfl) rfl ?_
  obtain ⟨q1, h⟩ := h
  refine run_w (ws_mk (id := 14) ci (0 : Int) rfl rfl rfl q1 (Nat.le_of_ble_eq_true rfl) rfl ⟨rfl, ?_⟩)
  refine run_s (ss_assign rfl) rfl ?_
  refine run_nil ?_
  refine aw_seq ?_
  refine aw_seq ?_
  refine aw_region ?_
  refine run_s (ss_move rfl) rfl ?_
  refine run_s (ss_lenR (f := ci) rfl rfl) rfl ?_
  refine run_s (ss_move rfl) rfl ?_
  refine run_nil ?_
  refine aw_block ?_
  obtain ⟨H1, m1, q2, h⟩ := h
  refine aw_loop2 (fun (v17_1 : Int) (o14_1 : List Int) => ⟨[(14, ⟨ints o14_1, []⟩)], [(1, .c (.lst (rows list))), (5, .ref 14), (16, .c (ci ((List.replicate n.toNat (0 : Int)).length : Int))), (17, .c (ci v17_1))], 75⟩) H1 m1 ⟨0, List.replicate n.toNat (0 : Int), ghe_to (n := 75) rfl rfl ⟨rfl, rfl, rfl, rfl, trivial⟩, q2⟩ ?_
  rintro v17_1 o14_1 q2
  replace h := h v17_1 o14_1 q2
  refine aw_seq ?_
  refine aw_region ?_
  refine run_s (ss_lss rfl rfl) rfl ?_
  refine run_nil ?_
  refine aw_seq ?_
  refine aw_cond rfl (fun q3 => ?_) (fun q3 => ?_)
  · replace h := h.1 (of_decide_eq_true q3)
    refine aw_skip ?_
    refine aw_seq ?_
    refine aw_block ?_
    refine aw_seq ?_
    refine aw_region ?_
    refine run_s (ss_move rfl) rfl ?_
    refine run_s (ss_assign rfl) rfl ?_
    refine run_nil ?_
    refine aw_region ?_
    refine run_s (ss_move rfl) rfl ?_
    refine run_s (ss_move rfl) rfl ?_
    obtain ⟨q4, h⟩ := h
    refine run_s (ss_idxR (f := ci) rfl rfl rfl q4) rfl ?_
    refine run_w (ws_storeE rfl rfl (map_lt q4) rfl rfl (map_se (f := ci)) rfl ⟨rfl, ?_⟩)
    refine run_nil ?_
    refine aw_gh (gh_to (n := 75) (σ' := [(14, ⟨ints (se o14_1 v17_1 (-1)), []⟩)]) (env' := [(1, .c (.lst (rows list))), (5, .ref 14), (16, .c (ci ((List.replicate n.toNat (0 : Int)).length : Int))), (17, .c (ci v17_1))]) rfl rfl ⟨rfl, rfl, rfl, rfl, trivial⟩) ?_
    refine aw_region ?_
    obtain ⟨q5, h⟩ := h
    refine run_s (ss_add rfl rfl q5) rfl ?_
    refine run_s (ss_move rfl) rfl ?_
    refine run_nil ?_
    exact ⟨v17_1 + 1, se o14_1 v17_1 (-1), ghe_to (n := 75) rfl rfl ⟨rfl, rfl, rfl, rfl, trivial⟩, h.1, h.2⟩
  · replace h := h.2 (of_decide_eq_false q3)
    refine aw_exit ?_
    refine aw_seq ?_
    refine aw_region ?_
    refine run_s (ss_assign rfl) rfl ?_
    refine run_nil ?_
    refine aw_seq ?_
    refine aw_seq ?_
    refine aw_region ?_
    refine run_s (ss_move rfl) rfl ?_
    refine run_s (ss_lenR (f := ci) rfl rfl) rfl ?_
    refine run_s (ss_move rfl) rfl ?_
    refine run_nil ?_
    refine aw_block ?_
    obtain ⟨H2, m2, q6, h⟩ := h
    refine aw_loop3 (fun (v7_2 : Int) (v26_2 : Int) (o14_2 : List Int) => ⟨[(14, ⟨ints o14_2, []⟩)], [(1, .c (.lst (rows list))), (5, .ref 14), (7, .c (ci v7_2)), (25, .c (ci (o14_1.length : Int))), (26, .c (ci v26_2))], 75⟩) H2 m2 ⟨0, 0, o14_1, ghe_to (n := 75) rfl rfl ⟨rfl, rfl, rfl, rfl, rfl, trivial⟩, q6⟩ ?_
    rintro v7_2 v26_2 o14_2 q6
    replace h := h v7_2 v26_2 o14_2 q6
    refine aw_seq ?_
    refine aw_region ?_
    refine run_s (ss_lss rfl rfl) rfl ?_
    refine run_nil ?_
    refine aw_seq ?_
    refine aw_cond rfl (fun q7 => ?_) (fun q7 => ?_)
    · replace h := h.1 (of_decide_eq_true q7)
      refine aw_skip ?_
      refine aw_seq ?_
      refine aw_block ?_
      refine aw_seq ?_
      refine aw_region ?_
      refine run_s (ss_move rfl) rfl ?_
      refine run_s (ss_assign rfl) rfl ?_
      refine run_nil ?_
      refine aw_seq ?_
      refine aw_seq ?_
      refine aw_region ?_
      refine run_s (ss_move rfl) rfl ?_
      refine run_s (ss_move rfl) rfl ?_
      obtain ⟨q8, h⟩ := h
      refine run_s (ss_idxR (f := ci) rfl rfl rfl q8) rfl ?_
      refine run_s (ss_loadR (f := ci) rfl rfl q8 rfl rfl) rfl ?_
      refine run_s (ss_geq rfl rfl) rfl ?_
      refine run_nil ?_
      refine aw_cond rfl (fun q9 => ?_) (fun q9 => ?_)
      · replace h := h.1 (of_decide_eq_true q9)
        refine aw_exit ?_
        refine aw_gh (gh_to (n := 75) (σ' := [(14, ⟨ints o14_2, []⟩)]) (env' := [(1, .c (.lst (rows list))), (5, .ref 14), (7, .c (ci v7_2)), (25, .c (ci (o14_1.length : Int))), (26, .c (ci v26_2))]) rfl rfl ⟨rfl, rfl, rfl, rfl, rfl, trivial⟩) ?_
        refine aw_region ?_
        obtain ⟨q10, h⟩ := h
        refine run_s (ss_add rfl rfl q10) rfl ?_
        refine run_s (ss_move rfl) rfl ?_
        refine run_nil ?_
        exact ⟨v7_2, v26_2 + 1, o14_2, ghe_to (n := 75) rfl rfl ⟨rfl, rfl, rfl, rfl, rfl, trivial⟩, h.1, h.2⟩
      · replace h := h.2 (of_decide_eq_false q9)
        refine aw_skip ?_
        refine aw_seq ?_
        refine aw_gh (gh_to (n := 75) (σ' := [(14, ⟨ints o14_2, []⟩)]) (env' := [(1, .c (.lst (rows list))), (5, .ref 14), (7, .c (ci v7_2)), (8, .c (ci v26_2)), (25, .c (ci (o14_1.length : Int))), (26, .c (ci v26_2))]) rfl rfl ⟨rfl, rfl, rfl, rfl, rfl, rfl, trivial⟩) ?_
        refine aw_region ?_
        refine run_s (ss_move rfl) rfl ?_
        refine run_s (ss_move rfl) rfl ?_
        refine run_s (ss_move rfl) rfl ?_
        obtain ⟨q11, h⟩ := h
        refine run_s (ss_idxR (f := ci) rfl rfl rfl q11) rfl ?_
        refine run_w (ws_storeE rfl rfl (map_lt q11) rfl rfl (map_se (f := ci)) rfl ⟨rfl, ?_⟩)
        refine run_nil ?_
        refine aw_seq ?_
        refine aw_seq ?_
        refine aw_region ?_
        refine run_s (ss_move rfl) rfl ?_
        refine run_w (ws_buildSlice (id := 39) (ps := [(0, .tmp 38)]) rfl rfl (Nat.le_of_ble_eq_true rfl) rfl ⟨rfl, ?_⟩)
        refine run_s (ss_assign rfl) rfl ?_
        refine run_nil ?_
        refine aw_block ?_
        obtain ⟨H3, m3, q12, h⟩ := h
        refine aw_loop2 (fun (o14_3 : List Int) (o39_3 : List Int) => ⟨[(39, ⟨ints o39_3, []⟩), (14, ⟨ints o14_3, []⟩)], [(1, .c (.lst (rows list))), (5, .ref 14), (7, .c (ci v7_2)), (9, .ref 39), (25, .c (ci (o14_1.length : Int))), (26, .c (ci v26_2))], 75⟩) H3 m3 ⟨se o14_2 v26_2 v7_2, [v26_2], ghe_to (n := 75) rfl rfl ⟨rfl, rfl, rfl, rfl, rfl, rfl, trivial⟩, q12⟩ ?_
        rintro o14_3 o39_3 q12
        replace h := h o14_3 o39_3 q12
        refine aw_seq ?_
        refine aw_seq ?_
        refine aw_region ?_
        refine run_s (ss_move rfl) rfl ?_
        refine run_s (ss_lenR (f := ci) rfl rfl) rfl ?_
        refine run_s (ss_gtr rfl rfl) rfl ?_
        refine run_nil ?_
        refine aw_cond rfl (fun q13 => ?_) (fun q13 => ?_)
        · replace h := h.1 (of_decide_eq_true q13)
          refine aw_skip ?_
          refine aw_seq ?_
          refine aw_block ?_
          refine aw_seq ?_
          refine aw_region ?_
          refine run_s (ss_move rfl) rfl ?_
          refine run_s (ss_lenL (f := (fun r => C.lst (ints r))) rfl) rfl ?_
          refine run_s (ss_move rfl) rfl ?_
          refine run_nil ?_
          refine aw_block ?_
          obtain ⟨H4, m4, q14, h⟩ := h
          refine aw_loop3 (fun (v47_4 : Int) (o14_4 : List Int) (o39_4 : List Int) => ⟨[(39, ⟨ints o39_4, []⟩), (14, ⟨ints o14_4, []⟩)], [(1, .c (.lst (rows list))), (5, .ref 14), (7, .c (ci v7_2)), (9, .ref 39), (25, .c (ci (o14_1.length : Int))), (26, .c (ci v26_2)), (45, .c (.lst (rows list))), (46, .c (ci (list.length : Int))), (47, .c (ci v47_4))], 75⟩) H4 m4 ⟨0, o14_3, o39_3, ghe_to (n := 75) rfl rfl ⟨rfl, rfl, rfl, rfl, rfl, rfl, rfl, rfl, rfl, trivial⟩, q14⟩ ?_
          rintro v47_4 o14_4 o39_4 q14
          replace h := h v47_4 o14_4 o39_4 q14
          refine aw_seq ?_
          refine aw_region ?_
          refine run_s (ss_lss rfl rfl) rfl ?_
          refine run_nil ?_
          refine aw_seq ?_
          refine aw_cond rfl (fun q15 => ?_) (fun q15 => ?_)
          · replace h := h.1 (of_decide_eq_true q15)
            refine aw_skip ?_
            refine aw_seq ?_
            refine aw_block ?_
            refine aw_seq ?_
            refine aw_region ?_
            obtain ⟨q16, h⟩ := h
            refine run_s (ss_idxL rfl rfl q16) rfl ?_
            refine run_s (ss_loadL (f := (fun r => C.lst (ints r))) rfl q16) rfl ?_
            refine run_s (ss_assign rfl) rfl ?_
            refine run_nil ?_
            refine aw_seq ?_
            refine aw_region ?_
            refine run_s (ss_move rfl) rfl ?_
            refine run_s (ss_move rfl) rfl ?_
            obtain ⟨q17, h⟩ := h
            refine run_s (ss_idxR (f := ci) rfl rfl rfl q17) rfl ?_
            refine run_s (ss_loadR (f := ci) rfl rfl q17 rfl rfl) rfl ?_
            obtain ⟨q18, h⟩ := h
            refine run_s (ss_idxL rfl rfl q18) rfl ?_
            refine run_s (ss_loadL (f := ci) rfl q18) rfl ?_
            refine run_s (ss_assign rfl) rfl ?_
            refine run_nil ?_
            refine aw_seq ?_
            refine aw_gh (gh_to (n := 75) (σ' := [(39, ⟨ints o39_4, []⟩), (14, ⟨ints o14_4, []⟩)]) (env' := [(1, .c (.lst (rows list))), (5, .ref 14), (7, .c (ci v7_2)), (9, .ref 39), (12, .c (ci (el (el list v47_4) (el o39_4 0)))), (25, .c (ci (o14_1.length : Int))), (26, .c (ci v26_2)), (45, .c (.lst (rows list))), (46, .c (ci (list.length : Int))), (47, .c (ci v47_4))]) rfl rfl ⟨rfl, rfl, rfl, rfl, rfl, rfl, rfl, rfl, rfl, rfl, trivial⟩) ?_
            refine aw_region ?_
            refine run_s (ss_move rfl) rfl ?_
            refine run_s (ss_move rfl) rfl ?_
            obtain ⟨q19, h⟩ := h
            refine run_s (ss_idxR (f := ci) rfl rfl rfl q19) rfl ?_
            refine run_s (ss_loadR (f := ci) rfl rfl q19 rfl rfl) rfl ?_
            refine run_s (ss_lss rfl rfl) rfl ?_
            refine run_nil ?_
            refine aw_cond rfl (fun q20 => ?_) (fun q20 => ?_)
            · replace h := h.1 (of_decide_eq_true q20)
              refine aw_seq ?_
              refine aw_region ?_
              refine run_s (ss_move rfl) rfl ?_
              refine run_s (ss_move rfl) rfl ?_
              refine run_s (ss_move rfl) rfl ?_
              obtain ⟨q21, h⟩ := h
              refine run_s (ss_idxR (f := ci) rfl rfl rfl q21) rfl ?_
              refine run_w (ws_storeE rfl rfl (map_lt q21) rfl rfl (map_se (f := ci)) rfl ⟨rfl, ?_⟩)
              refine run_nil ?_
              refine aw_gh (gh_to (n := 75) (σ' := [(39, ⟨ints o39_4, []⟩), (14, ⟨ints (se o14_4 (el (el list v47_4) (el o39_4 0)) v7_2), []⟩)]) (env' := [(1, .c (.lst (rows list))), (5, .ref 14), (7, .c (ci v7_2)), (9, .ref 39), (12, .c (ci (el (el list v47_4) (el o39_4 0)))), (25, .c (ci (o14_1.length : Int))), (26, .c (ci v26_2)), (45, .c (.lst (rows list))), (46, .c (ci (list.length : Int))), (47, .c (ci v47_4))]) rfl rfl ⟨rfl, rfl, rfl, rfl, rfl, rfl, rfl, rfl, rfl, rfl, trivial⟩) ?_
              refine aw_region ?_
              refine run_s (ss_move rfl) rfl ?_
              refine run_s (ss_move rfl) rfl ?_
              refine run_w (ws_buildSlice (id := 68) (ps := [(0, .tmp 67)]) rfl rfl (Nat.le_of_ble_eq_true rfl) rfl ⟨rfl, ?_⟩)
              obtain ⟨q22, h⟩ := h
              refine run_w (ws_app1 ci (l := o39_4) (m := [el (el list v47_4) (el o39_4 0)]) rfl rfl rfl rfl rfl (Nat.le_of_ble_eq_true rfl) q22 ⟨rfl, ?_⟩)
              refine run_s (ss_assign rfl) rfl ?_
              refine run_nil ?_
              refine aw_gh (gh_to (n := 75) (σ' := [(39, ⟨ints (o39_4 ++ ([el (el list v47_4) (el o39_4 0)])), []⟩), (14, ⟨ints (se o14_4 (el (el list v47_4) (el o39_4 0)) v7_2), []⟩)]) (env' := [(1, .c (.lst (rows list))), (5, .ref 14), (7, .c (ci v7_2)), (9, .ref 39), (25, .c (ci (o14_1.length : Int))), (26, .c (ci v26_2)), (45, .c (.lst (rows list))), (46, .c (ci (list.length : Int))), (47, .c (ci v47_4))]) rfl rfl ⟨rfl, rfl, rfl, rfl, rfl, rfl, rfl, rfl, rfl, trivial⟩) ?_
              refine aw_region ?_
              obtain ⟨q23, h⟩ := h
              refine run_s (ss_add rfl rfl q23) rfl ?_
              refine run_s (ss_move rfl) rfl ?_
              refine run_nil ?_
              exact ⟨v47_4 + 1, se o14_4 (el (el list v47_4) (el o39_4 0)) v7_2, o39_4 ++ ([el (el list v47_4) (el o39_4 0)]), ghe_to (n := 75) rfl rfl ⟨rfl, rfl, rfl, rfl, rfl, rfl, rfl, rfl, rfl, trivial⟩, h.1, h.2⟩
            · replace h := h.2 (of_decide_eq_false q20)
              refine aw_skip ?_
              refine aw_gh (gh_to (n := 75) (σ' := [(39, ⟨ints o39_4, []⟩), (14, ⟨ints o14_4, []⟩)]) (env' := [(1, .c (.lst (rows list))), (5, .ref 14), (7, .c (ci v7_2)), (9, .ref 39), (25, .c (ci (o14_1.length : Int))), (26, .c (ci v26_2)), (45, .c (.lst (rows list))), (46, .c (ci (list.length : Int))), (47, .c (ci v47_4))]) rfl rfl ⟨rfl, rfl, rfl, rfl, rfl, rfl, rfl, rfl, rfl, trivial⟩) ?_
              refine aw_region ?_
              obtain ⟨q24, h⟩ := h
              refine run_s (ss_add rfl rfl q24) rfl ?_
              refine run_s (ss_move rfl) rfl ?_
              refine run_nil ?_
              exact ⟨v47_4 + 1, o14_4, o39_4, ghe_to (n := 75) rfl rfl ⟨rfl, rfl, rfl, rfl, rfl, rfl, rfl, rfl, rfl, trivial⟩, h.1, h.2⟩
          · replace h := h.2 (of_decide_eq_false q15)
            refine aw_exit ?_
            refine aw_region ?_
            refine run_s (ss_move rfl) rfl ?_
            obtain ⟨q25, h⟩ := h
            refine run_w (ws_slR (f := ci) rfl rfl (bnd_some rfl) bnd_none q25 ⟨rfl, ?_⟩)
            refine run_s (ss_assign rfl) rfl ?_
            refine run_nil ?_
            exact ⟨o14_4, sl o39_4 1 (o39_4.length : Int), ghe_to (n := 75) rfl rfl ⟨rfl, rfl, rfl, rfl, rfl, rfl, trivial⟩, h.1, h.2⟩
        · replace h := h.2 (of_decide_eq_false q13)
          refine aw_exit ?_
          refine aw_region ?_
          refine run_s (ss_move rfl) rfl ?_
          obtain ⟨q26, h⟩ := h
          refine run_s (ss_add rfl rfl q26) rfl ?_
          refine run_s (ss_assign rfl) rfl ?_
          refine run_nil ?_
          refine aw_gh (gh_to (n := 75) (σ' := [(39, ⟨ints o39_3, []⟩), (14, ⟨ints o14_3, []⟩)]) (env' := [(1, .c (.lst (rows list))), (5, .ref 14), (7, .c (ci (v7_2 + 1))), (25, .c (ci (o14_1.length : Int))), (26, .c (ci v26_2))]) rfl rfl ⟨rfl, rfl, rfl, rfl, rfl, trivial⟩) ?_
          refine aw_region ?_
          obtain ⟨q27, h⟩ := h
          refine run_s (ss_add rfl rfl q27) rfl ?_
          refine run_s (ss_move rfl) rfl ?_
          refine run_nil ?_
          exact ⟨v7_2 + 1, v26_2 + 1, o14_3, ghe_step (gh_frzE (id := 39) ci rfl (fun _ => rfl)) (ghe_to (n := 75) rfl rfl ⟨rfl, rfl, rfl, rfl, rfl, trivial⟩), h.1, h.2⟩
    · replace h := h.2 (of_decide_eq_false q7)
      refine aw_exit ?_
      refine aw_seq ?_
      refine aw_gh (gh_to (n := 75) (σ' := [(14, ⟨ints o14_2, []⟩)]) (env' := [(5, .ref 14)]) rfl rfl ⟨rfl, trivial⟩) ?_
      refine aw_region ?_
      refine run_s (ss_move rfl) rfl ?_
      refine run_s (ss_assign rfl) rfl ?_
      refine run_nil ?_
      refine aw_ret ?_
      exact retAF_mk (retv1 rfl (rv_tmp rfl)) rfl rfl ⟨_, (cle_refl _), _, h, rfl⟩

theorem c_impl_orbitLabels (n : Int) (list : List (List Int)) (hp : 0 ≤ n ∧ n ≤ 12 ∧ small list ∧ permsN n list) : AF Try.prog 86 [ci n, .lst (rows list)] (fun R_ => R_ = .own (ints (orbI n list))) :=
  (w_impl_orbitLabels n list (fun y0 => y0 = orbI n list) (p_impl_orbitLabels n list hp)).mono (by rintro r ⟨_, rfl, rfl⟩; rfl)

set_option maxRecDepth 100000 in
set_option maxHeartbeats 1000000 in
theorem w_spec_l01Orbit (list : List (List Int)) (x : Int) (Q : List Int → Prop) (h : wp_spec_l01Orbit list x Q) : AF Try.prog 113 [.lst (rows list), ci x] (fun R_ => ∃ y0, Q y0 ∧ R_ = .own (ints y0)) := by
  refine AF.ofWQ (af_enter (n := 49) Try.func113 rfl (by rfl) rfl (Nat.le_of_ble_eq_true rfl) ?_)
  unfold wp_spec_l01Orbit at h
  refine aw_seq ?_
  refine aw_gh (gh_to (n := 49) (σ' := []) (env' := [(0, .c (.lst (rows list))), (1, .c (ci x))]) rfl rfl ⟨rfl, rfl, trivial⟩) ?_
  refine aw_region ?_
  refine run_s (ss_assign rfl) rfl ?_
  refine run_nil ?_
  refine aw_seq ?_
  refine aw_region ?_
  refine run_s (ss_move rfl) rfl ?_
  refine run_w (ws_buildSlice (id := 9) (ps := [(0, .tmp 8)]) rfl rfl (Nat.le_of_ble_eq_true rfl) rfl ⟨rfl, ?_⟩)
  refine run_s (ss_assign rfl) rfl ?_
  refine run_nil ?_
  refine aw_seq ?_
  refine aw_seq ?_
  refine aw_gh (gh_to (n := 49) (σ' := [(9, ⟨ints ([x]), []⟩)]) (env' := [(0, .c (.lst (rows list))), (5, .ref 9)]) rfl rfl ⟨rfl, rfl, trivial⟩) ?_
  refine aw_region ?_
  refine run_s (ss_assign rfl) rfl ?_
  refine run_nil ?_
  refine aw_block ?_
  obtain ⟨H1, m1, q1, h⟩ := h
  refine aw_loop2 (fun (v6_1 : Int) (o9_1 : List Int) => ⟨[(9, ⟨ints o9_1, []⟩)], [(0, .c (.lst (rows list))), (5, .ref 9), (6, .c (ci v6_1))], 49⟩) H1 m1 ⟨0, [x], ghe_to (n := 49) rfl rfl ⟨rfl, rfl, rfl, trivial⟩, q1⟩ ?_
  rintro v6_1 o9_1 q1
  replace h := h v6_1 o9_1 q1
  refine aw_seq ?_
  refine aw_seq ?_
  refine aw_region ?_
  refine run_s (ss_move rfl) rfl ?_
  refine run_s (ss_move rfl) rfl ?_
  refine run_s (ss_lenR (f := ci) rfl rfl) rfl ?_
  refine run_s (ss_lss rfl rfl) rfl ?_
  refine run_nil ?_
  refine aw_cond rfl (fun q2 => ?_) (fun q2 => ?_)
  · replace h := h.1 (of_decide_eq_true q2)
    refine aw_skip ?_
    refine aw_seq ?_
    refine aw_block ?_
    refine aw_seq ?_
    refine aw_gh (gh_to (n := 49) (σ' := [(9, ⟨ints o9_1, []⟩)]) (env' := [(0, .c (.lst (rows list))), (5, .ref 9), (6, .c (ci v6_1))]) rfl rfl ⟨rfl, rfl, rfl, trivial⟩) ?_
    refine aw_region ?_
    refine run_s (ss_assign rfl) rfl ?_
    refine run_nil ?_
    refine aw_block ?_
    obtain ⟨H2, m2, q3, h⟩ := h
    refine aw_loop2 (fun (v7_2 : Int) (o9_2 : List Int) => ⟨[(9, ⟨ints o9_2, []⟩)], [(0, .c (.lst (rows list))), (5, .ref 9), (6, .c (ci v6_1)), (7, .c (ci v7_2))], 49⟩) H2 m2 ⟨0, o9_1, ghe_to (n := 49) rfl rfl ⟨rfl, rfl, rfl, rfl, trivial⟩, q3⟩ ?_
    rintro v7_2 o9_2 q3
    replace h := h v7_2 o9_2 q3
    refine aw_seq ?_
    refine aw_seq ?_
    refine aw_region ?_
    refine run_s (ss_move rfl) rfl ?_
    refine run_s (ss_move rfl) rfl ?_
    refine run_s (ss_lenL (f := (fun r => C.lst (ints r))) rfl) rfl ?_
    refine run_s (ss_lss rfl rfl) rfl ?_
    refine run_nil ?_
    refine aw_cond rfl (fun q4 => ?_) (fun q4 => ?_)
    · replace h := h.1 (of_decide_eq_true q4)
      refine aw_skip ?_
      refine aw_seq ?_
      refine aw_block ?_
      refine aw_seq ?_
      refine aw_gh (gh_to (n := 49) (σ' := [(9, ⟨ints o9_2, []⟩)]) (env' := [(0, .c (.lst (rows list))), (5, .ref 9), (6, .c (ci v6_1)), (7, .c (ci v7_2))]) rfl rfl ⟨rfl, rfl, rfl, rfl, trivial⟩) ?_
      refine aw_regionD (kd := kdl [0, 0, 0, 0, 1, 0, 0, 0, 1, 0, 1, 2, 0]) (ord := [0, 1, 2, 3, 5, 6, 7, 4, 8, 9, 10, 11, 12]) [] mixed (by kernel_rfl) ?_
      refine rd_s rfl rfl trivial (ss_move rfl) rfl ?_
      refine rd_s rfl rfl trivial (ss_move rfl) rfl ?_
      refine rd_s rfl rfl trivial (ss_move rfl) rfl ?_
      obtain ⟨q5, h⟩ := h
      refine rd_s rfl rfl trivial (ss_idxL rfl rfl q5) rfl ?_
      refine rd_s rfl rfl trivial (ss_move rfl) rfl ?_
      refine rd_s rfl rfl trivial (ss_move rfl) rfl ?_
      obtain ⟨q6, h⟩ := h
      refine rd_s rfl rfl trivial (ss_idxR (f := ci) rfl rfl rfl q6) rfl ?_
      refine rd_l rfl rfl trivial (ss_loadL (f := (fun r => C.lst (ints r))) rfl q5) rfl ?_
      refine rd_l rfl rfl trivial (ss_loadR (f := ci) rfl rfl q6 rfl rfl) rfl ?_
      obtain ⟨q7, h⟩ := h
      refine rd_s rfl rfl trivial (ss_idxL rfl rfl q7) rfl ?_
      refine rd_l rfl rfl trivial (ss_loadL (f := ci) rfl q7) rfl ?_
      obtain ⟨q8, h⟩ := h
      refine rd_w rfl rfl trivial rfl rfl (ws_callR (xs := [.tmp 22, .tmp 32]) (cs := [.own (ints o9_2), ci (el (el list v7_2) (el o9_2 v6_1))]) (ids := []) rfl (.inr ⟨rfl, rfl⟩) rfl rfl (fz_cons (fz_own (fz_map (fun _ => rfl) _)) (fz_cons rfl fz_nil)) (c_spec_l01Has o9_2 (el (el list v7_2) (el o9_2 v6_1)) q8) rfl ?_ )
      rintro _ rfl
      refine ⟨rfl, rfl, ?_⟩
      refine rd_s rfl rfl trivial (ss_not rfl) rfl ?_
      refine rd_nil ?_
      refine aw_cond rfl (fun q10 => ?_) (fun q10 => ?_)
      · replace h := h.1 ((bnot_t q10))
        refine aw_gh (gh_to (n := 49) (σ' := [(9, ⟨ints o9_2, []⟩)]) (env' := [(0, .c (.lst (rows list))), (5, .ref 9), (6, .c (ci v6_1)), (7, .c (ci v7_2))]) rfl rfl ⟨rfl, rfl, rfl, rfl, trivial⟩) ?_
        refine aw_regionD (kd := kdl [0, 0, 0, 0, 1, 0, 0, 0, 1, 0, 1, 3, 3, 0]) (ord := [0, 1, 2, 3, 5, 6, 7, 4, 8, 9, 10, 11, 12, 13]) [] mixed (by kernel_rfl) ?_
        refine rd_s rfl rfl trivial (ss_move rfl) rfl ?_
        refine rd_s rfl rfl trivial (ss_move rfl) rfl ?_
        refine rd_s rfl rfl trivial (ss_move rfl) rfl ?_
        obtain ⟨q11, h⟩ := h
        refine rd_s rfl rfl trivial (ss_idxL rfl rfl q11) rfl ?_
        refine rd_s rfl rfl trivial (ss_move rfl) rfl ?_
        refine rd_s rfl rfl trivial (ss_move rfl) rfl ?_
        obtain ⟨q12, h⟩ := h
        refine rd_s rfl rfl trivial (ss_idxR (f := ci) rfl rfl rfl q12) rfl ?_
        refine rd_l rfl rfl trivial (ss_loadL (f := (fun r => C.lst (ints r))) rfl q11) rfl ?_
        refine rd_l rfl rfl trivial (ss_loadR (f := ci) rfl rfl q12 rfl rfl) rfl ?_
        obtain ⟨q13, h⟩ := h
        refine rd_s rfl rfl trivial (ss_idxL rfl rfl q13) rfl ?_
        refine rd_l rfl rfl trivial (ss_loadL (f := ci) rfl q13) rfl ?_
        refine rd_f rfl rfl trivial (ws_buildSlice (id := 46) (ps := [(0, .tmp 45)]) rfl rfl (Nat.le_of_ble_eq_true rfl) rfl ⟨rfl, ?_⟩)
        obtain ⟨q14, h⟩ := h
        refine rd_f rfl rfl trivial (ws_app1 ci (l := o9_2) (m := [el (el list v7_2) (el o9_2 v6_1)]) rfl rfl rfl rfl rfl (Nat.le_of_ble_eq_true rfl) q14 ⟨rfl, ?_⟩)
        refine rd_s rfl rfl trivial (ss_assign rfl) rfl ?_
        refine rd_nil ?_
        refine aw_gh (gh_to (n := 49) (σ' := [(9, ⟨ints (o9_2 ++ ([el (el list v7_2) (el o9_2 v6_1)])), []⟩)]) (env' := [(0, .c (.lst (rows list))), (5, .ref 9), (6, .c (ci v6_1)), (7, .c (ci v7_2))]) rfl rfl ⟨rfl, rfl, rfl, rfl, trivial⟩) ?_
        refine aw_region ?_
        refine run_s (ss_move rfl) rfl ?_
        obtain ⟨q15, h⟩ := h
        refine run_s (ss_add rfl rfl q15) rfl ?_
        refine run_s (ss_assign rfl) rfl ?_
        refine run_nil ?_
        exact ⟨v7_2 + 1, o9_2 ++ ([el (el list v7_2) (el o9_2 v6_1)]), ghe_to (n := 49) rfl rfl ⟨rfl, rfl, rfl, rfl, trivial⟩, h.1, h.2⟩
      · replace h := h.2 ((bnot_f q10))
        refine aw_skip ?_
        refine aw_gh (gh_to (n := 49) (σ' := [(9, ⟨ints o9_2, []⟩)]) (env' := [(0, .c (.lst (rows list))), (5, .ref 9), (6, .c (ci v6_1)), (7, .c (ci v7_2))]) rfl rfl ⟨rfl, rfl, rfl, rfl, trivial⟩) ?_
        refine aw_region ?_
        refine run_s (ss_move rfl) rfl ?_
        obtain ⟨q16, h⟩ := h
        refine run_s (ss_add rfl rfl q16) rfl ?_
        refine run_s (ss_assign rfl) rfl ?_
        refine run_nil ?_
        exact ⟨v7_2 + 1, o9_2, ghe_to (n := 49) rfl rfl ⟨rfl, rfl, rfl, rfl, trivial⟩, h.1, h.2⟩
    · replace h := h.2 (of_decide_eq_false q4)
      refine aw_exit ?_
      refine aw_gh (gh_to (n := 49) (σ' := [(9, ⟨ints o9_2, []⟩)]) (env' := [(0, .c (.lst (rows list))), (5, .ref 9), (6, .c (ci v6_1))]) rfl rfl ⟨rfl, rfl, rfl, trivial⟩) ?_
      refine aw_region ?_
      refine run_s (ss_move rfl) rfl ?_
      obtain ⟨q17, h⟩ := h
      refine run_s (ss_add rfl rfl q17) rfl ?_
      refine run_s (ss_assign rfl) rfl ?_
      refine run_nil ?_
      exact ⟨v6_1 + 1, o9_2, ghe_to (n := 49) rfl rfl ⟨rfl, rfl, rfl, trivial⟩, h.1, h.2⟩
  · replace h := h.2 (of_decide_eq_false q2)
    refine aw_exit ?_
    refine aw_seq ?_
    refine aw_gh (gh_to (n := 49) (σ' := [(9, ⟨ints o9_1, []⟩)]) (env' := [(5, .ref 9)]) rfl rfl ⟨rfl, trivial⟩) ?_
    refine aw_region ?_
    refine run_s (ss_move rfl) rfl ?_
    refine run_s (ss_assign rfl) rfl ?_
    refine run_nil ?_
    refine aw_ret ?_
    exact retAF_mk (retv1 rfl (rv_tmp rfl)) rfl rfl ⟨_, (cle_refl _), _, h, rfl⟩

theorem c_spec_l01Orbit (list : List (List Int)) (x : Int) (hp : ∃ n_ : Int, 0 ≤ x ∧ x < n_ ∧ n_ ≤ 12 ∧ small list ∧ permsN n_ list) : AF Try.prog 113 [.lst (rows list), ci x] (fun R_ => ∃ y0, (orbL list x y0) ∧ R_ = .own (ints y0)) :=
  w_spec_l01Orbit list x (fun y0 => orbL list x y0) (p_spec_l01Orbit list x hp)

set_option maxRecDepth 100000 in
set_option maxHeartbeats 1000000 in
theorem w_spec_l01Orbits (n : Int) (list : List (List Int)) (Q : List Int → Prop) (h : wp_spec_l01Orbits n list Q) : AF Try.prog 84 [ci n, .lst (rows list)] (fun R_ => ∃ y0, Q y0 ∧ R_ = .own (ints y0)) := by
  refine AF.ofWQ (af_enter (n := 49) Try.func84 rfl (by rfl) rfl (Nat.le_of_ble_eq_true rfl) ?_)
  unfold wp_spec_l01Orbits at h
  refine aw_seq ?_
  refine aw_gh (gh_to (n := 49) (σ' := []) (env' := [(0, .c (ci n)), (1, .c (.lst (rows list)))]) rfl rfl ⟨rfl, rfl, trivial⟩) ?_
  refine aw_region ?_
  refine run_s (ss_assign rfl) rfl ?_
  refine run_nil ?_
  refine aw_seq ?_
  refine aw_region ?_
  refine run_w (ws_buildSlice (id := 11) (ps := []) rfl rfl (Nat.le_of_ble_eq_true rfl) rfl ⟨rfl, ?_⟩)
  refine run_s (ss_assign rfl) rfl ?_
  refine run_nil ?_
  refine aw_seq ?_
  refine aw_seq ?_
  refine aw_region ?_
  refine run_s (ss_assign rfl) rfl ?_
  refine run_nil ?_
  refine aw_block ?_
  obtain ⟨H1, m1, q1, h⟩ := h
  refine aw_loop2 (fun (v6_1 : Int) (o11_1 : List Int) => ⟨[(11, ⟨ints o11_1, []⟩)], [(0, .c (ci n)), (1, .c (.lst (rows list))), (5, .ref 11), (6, .c (ci v6_1))], 49⟩) H1 m1 ⟨0, ([] : List Int), ghe_to (n := 49) rfl rfl ⟨rfl, rfl, rfl, rfl, trivial⟩, q1⟩ ?_
  rintro v6_1 o11_1 q1
  replace h := h v6_1 o11_1 q1
  refine aw_seq ?_
  refine aw_seq ?_
  refine aw_region ?_
  refine run_s (ss_move rfl) rfl ?_
  refine run_s (ss_move rfl) rfl ?_
  refine run_s (ss_lss rfl rfl) rfl ?_
  refine run_nil ?_
  refine aw_cond rfl (fun q2 => ?_) (fun q2 => ?_)
  · replace h := h.1 (of_decide_eq_true q2)
    refine aw_skip ?_
    refine aw_seq ?_
    refine aw_block ?_
    refine aw_region ?_
    refine run_s (ss_move rfl) rfl ?_
    refine run_w (ws_buildSlice (id := 18) (ps := [(0, .const (.int .i64 (-1)))]) rfl rfl (Nat.le_of_ble_eq_true rfl) rfl ⟨rfl, ?_⟩)
    obtain ⟨q3, h⟩ := h
    refine run_w (ws_app1 ci (l := o11_1) (m := [(-1)]) rfl rfl rfl rfl rfl (Nat.le_of_ble_eq_true rfl) q3 ⟨rfl, ?_⟩)
    refine run_s (ss_assign rfl) rfl ?_
    refine run_nil ?_
    refine aw_gh (gh_to (n := 49) (σ' := [(11, ⟨ints (o11_1 ++ ([(-1)])), []⟩)]) (env' := [(0, .c (ci n)), (1, .c (.lst (rows list))), (5, .ref 11), (6, .c (ci v6_1))]) rfl rfl ⟨rfl, rfl, rfl, rfl, trivial⟩) ?_
    refine aw_region ?_
    refine run_s (ss_move rfl) rfl ?_
    obtain ⟨q4, h⟩ := h
    refine run_s (ss_add rfl rfl q4) rfl ?_
    refine run_s (ss_assign rfl) rfl ?_
    refine run_nil ?_
    exact ⟨v6_1 + 1, o11_1 ++ ([(-1)]), ghe_to (n := 49) rfl rfl ⟨rfl, rfl, rfl, rfl, trivial⟩, h.1, h.2⟩
  · replace h := h.2 (of_decide_eq_false q2)
    refine aw_exit ?_
    refine aw_seq ?_
    refine aw_gh (gh_to (n := 49) (σ' := [(11, ⟨ints o11_1, []⟩)]) (env' := [(0, .c (ci n)), (1, .c (.lst (rows list))), (5, .ref 11)]) rfl rfl ⟨rfl, rfl, rfl, trivial⟩) ?_
    refine aw_region ?_
    refine run_s (ss_assign rfl) rfl ?_
    refine run_nil ?_
    refine aw_seq ?_
    refine aw_seq ?_
    refine aw_region ?_
    refine run_s (ss_assign rfl) rfl ?_
    refine run_nil ?_
    refine aw_block ?_
    obtain ⟨H2, m2, q5, h⟩ := h
    refine aw_loop3 (fun (v7_2 : Int) (v8_2 : Int) (o11_2 : List Int) => ⟨[(11, ⟨ints o11_2, []⟩)], [(0, .c (ci n)), (1, .c (.lst (rows list))), (5, .ref 11), (7, .c (ci v7_2)), (8, .c (ci v8_2))], 49⟩) H2 m2 ⟨0, 0, o11_1, ghe_to (n := 49) rfl rfl ⟨rfl, rfl, rfl, rfl, rfl, trivial⟩, q5⟩ ?_
    rintro v7_2 v8_2 o11_2 q5
    replace h := h v7_2 v8_2 o11_2 q5
    refine aw_seq ?_
    refine aw_seq ?_
    refine aw_region ?_
    refine run_s (ss_move rfl) rfl ?_
    refine run_s (ss_move rfl) rfl ?_
    refine run_s (ss_lss rfl rfl) rfl ?_
    refine run_nil ?_
    refine aw_cond rfl (fun q6 => ?_) (fun q6 => ?_)
    · replace h := h.1 (of_decide_eq_true q6)
      refine aw_skip ?_
      refine aw_seq ?_
      refine aw_block ?_
      refine aw_seq ?_
      refine aw_seq ?_
      refine aw_region ?_
      refine run_s (ss_move rfl) rfl ?_
      refine run_s (ss_move rfl) rfl ?_
      obtain ⟨q7, h⟩ := h
      refine run_s (ss_idxR (f := ci) rfl rfl rfl q7) rfl ?_
      refine run_s (ss_loadR (f := ci) rfl rfl q7 rfl rfl) rfl ?_
      refine run_s (ss_geq rfl rfl) rfl ?_
      refine run_nil ?_
      refine aw_cond rfl (fun q8 => ?_) (fun q8 => ?_)
      · replace h := h.1 (of_decide_eq_true q8)
        refine aw_exit ?_
        refine aw_gh (gh_to (n := 49) (σ' := [(11, ⟨ints o11_2, []⟩)]) (env' := [(0, .c (ci n)), (1, .c (.lst (rows list))), (5, .ref 11), (7, .c (ci v7_2)), (8, .c (ci v8_2))]) rfl rfl ⟨rfl, rfl, rfl, rfl, rfl, trivial⟩) ?_
        refine aw_region ?_
        refine run_s (ss_move rfl) rfl ?_
        obtain ⟨q9, h⟩ := h
        refine run_s (ss_add rfl rfl q9) rfl ?_
        refine run_s (ss_assign rfl) rfl ?_
        refine run_nil ?_
        exact ⟨v7_2, v8_2 + 1, o11_2, ghe_to (n := 49) rfl rfl ⟨rfl, rfl, rfl, rfl, rfl, trivial⟩, h.1, h.2⟩
      · replace h := h.2 (of_decide_eq_false q8)
        refine aw_skip ?_
        refine aw_seq ?_
        refine aw_gh (gh_to (n := 49) (σ' := [(11, ⟨ints o11_2, []⟩)]) (env' := [(0, .c (ci n)), (1, .c (.lst (rows list))), (5, .ref 11), (7, .c (ci v7_2)), (8, .c (ci v8_2))]) rfl rfl ⟨rfl, rfl, rfl, rfl, rfl, trivial⟩) ?_
        refine aw_region ?_
        refine run_s (ss_move rfl) rfl ?_
        refine run_s (ss_move rfl) rfl ?_
        obtain ⟨q10, h⟩ := h
        refine run_w (ws_call (xs := [.tmp 30, .tmp 31]) (ids := [32]) rfl rfl rfl rfl (c_spec_l01Orbit list v8_2 q10) rfl ?_ )
        rintro _ ⟨r1_0, q11, rfl⟩
        replace h := h r1_0 q11
        refine ⟨rfl, ?_⟩
        refine run_s (ss_assign rfl) rfl ?_
        refine run_nil ?_
        refine aw_seq ?_
        refine aw_seq ?_
        refine aw_region ?_
        refine run_s (ss_assign rfl) rfl ?_
        refine run_nil ?_
        refine aw_block ?_
        obtain ⟨H3, m3, q12, h⟩ := h
        refine aw_loop2 (fun (v10_3 : Int) (o11_3 : List Int) => ⟨[(32, ⟨ints r1_0, []⟩), (11, ⟨ints o11_3, []⟩)], [(0, .c (ci n)), (1, .c (.lst (rows list))), (5, .ref 11), (7, .c (ci v7_2)), (8, .c (ci v8_2)), (9, .ref 32), (10, .c (ci v10_3))], 49⟩) H3 m3 ⟨0, o11_2, ghe_to (n := 49) rfl rfl ⟨rfl, rfl, rfl, rfl, rfl, rfl, rfl, trivial⟩, q12⟩ ?_
        rintro v10_3 o11_3 q12
        replace h := h v10_3 o11_3 q12
        refine aw_seq ?_
        refine aw_seq ?_
        refine aw_region ?_
        refine run_s (ss_move rfl) rfl ?_
        refine run_s (ss_move rfl) rfl ?_
        refine run_s (ss_lenR (f := ci) rfl rfl) rfl ?_
        refine run_s (ss_lss rfl rfl) rfl ?_
        refine run_nil ?_
        refine aw_cond rfl (fun q13 => ?_) (fun q13 => ?_)
        · replace h := h.1 (of_decide_eq_true q13)
          refine aw_skip ?_
          refine aw_seq ?_
          refine aw_block ?_
          refine aw_region ?_
          refine run_s (ss_move rfl) rfl ?_
          refine run_s (ss_move rfl) rfl ?_
          refine run_s (ss_move rfl) rfl ?_
          obtain ⟨q14, h⟩ := h
          refine run_s (ss_idxR (f := ci) rfl rfl rfl q14) rfl ?_
          refine run_s (ss_loadR (f := ci) rfl rfl q14 rfl rfl) rfl ?_
          refine run_s (ss_move rfl) rfl ?_
          obtain ⟨q15, h⟩ := h
          refine run_s (ss_idxR (f := ci) rfl rfl rfl q15) rfl ?_
          refine run_w (ws_storeE rfl rfl (map_lt q15) rfl rfl (map_se (f := ci)) rfl ⟨rfl, ?_⟩)
          refine run_nil ?_
          refine aw_gh (gh_to (n := 49) (σ' := [(32, ⟨ints r1_0, []⟩), (11, ⟨ints (se o11_3 (el r1_0 v10_3) v7_2), []⟩)]) (env' := [(0, .c (ci n)), (1, .c (.lst (rows list))), (5, .ref 11), (7, .c (ci v7_2)), (8, .c (ci v8_2)), (9, .ref 32), (10, .c (ci v10_3))]) rfl rfl ⟨rfl, rfl, rfl, rfl, rfl, rfl, rfl, trivial⟩) ?_
          refine aw_region ?_
          refine run_s (ss_move rfl) rfl ?_
          obtain ⟨q16, h⟩ := h
          refine run_s (ss_add rfl rfl q16) rfl ?_
          refine run_s (ss_assign rfl) rfl ?_
          refine run_nil ?_
          exact ⟨v10_3 + 1, se o11_3 (el r1_0 v10_3) v7_2, ghe_to (n := 49) rfl rfl ⟨rfl, rfl, rfl, rfl, rfl, rfl, rfl, trivial⟩, h.1, h.2⟩
        · replace h := h.2 (of_decide_eq_false q13)
          refine aw_exit ?_
          refine aw_gh (gh_to (n := 49) (σ' := [(32, ⟨ints r1_0, []⟩), (11, ⟨ints o11_3, []⟩)]) (env' := [(0, .c (ci n)), (1, .c (.lst (rows list))), (5, .ref 11), (7, .c (ci v7_2)), (8, .c (ci v8_2))]) rfl rfl ⟨rfl, rfl, rfl, rfl, rfl, trivial⟩) ?_
          refine aw_region ?_
          refine run_s (ss_move rfl) rfl ?_
          obtain ⟨q17, h⟩ := h
          refine run_s (ss_add rfl rfl q17) rfl ?_
          refine run_s (ss_assign rfl) rfl ?_
          refine run_nil ?_
          refine aw_region ?_
          refine run_s (ss_move rfl) rfl ?_
          obtain ⟨q18, h⟩ := h
          refine run_s (ss_add rfl rfl q18) rfl ?_
          refine run_s (ss_assign rfl) rfl ?_
          refine run_nil ?_
          exact ⟨v7_2 + 1, v8_2 + 1, o11_3, ghe_step (gh_frzE (id := 32) ci rfl (fun _ => rfl)) (ghe_to (n := 49) rfl rfl ⟨rfl, rfl, rfl, rfl, rfl, trivial⟩), h.1, h.2⟩
    · replace h := h.2 (of_decide_eq_false q6)
      refine aw_exit ?_
      refine aw_seq ?_
      refine aw_gh (gh_to (n := 49) (σ' := [(11, ⟨ints o11_2, []⟩)]) (env' := [(5, .ref 11)]) rfl rfl ⟨rfl, trivial⟩) ?_
      refine aw_region ?_
      refine run_s (ss_move rfl) rfl ?_
      refine run_s (ss_assign rfl) rfl ?_
      refine run_nil ?_
      refine aw_ret ?_
      exact retAF_mk (retv1 rfl (rv_tmp rfl)) rfl rfl ⟨_, (cle_refl _), _, h, rfl⟩

theorem c_spec_l01Orbits (n : Int) (list : List (List Int)) (hp : 0 ≤ n ∧ n ≤ 12 ∧ small list ∧ permsN n list) : AF Try.prog 84 [ci n, .lst (rows list)] (fun R_ => R_ = .own (ints (orbI n list))) :=
  (w_spec_l01Orbits n list (fun y0 => y0 = orbI n list) (p_spec_l01Orbits n list hp)).mono (by rintro r ⟨_, rfl, rfl⟩; rfl)

set_option maxRecDepth 100000 in
set_option maxHeartbeats 1000000 in
theorem w_spec_IsConnectedRack (r : List (List Int)) (Q : Bool → Int → Prop) (h : wp_spec_IsConnectedRack r Q) : AF Try.prog 37 [.agg [.lst (rows r)]] (fun R_ => ∃ y0 y1, Q y0 y1 ∧ R_ = .tup [cb y0, ci y1]) := by
  refine AF.ofWQ (af_enter (n := 26) Try.func37 rfl (by rfl) rfl (Nat.le_of_ble_eq_true rfl) ?_)
  unfold wp_spec_IsConnectedRack at h
  refine aw_seq ?_
  refine aw_gh (gh_to (n := 26) (σ' := []) (env' := [(0, .c (.agg [.lst (rows r)]))]) rfl rfl ⟨rfl, trivial⟩) ?_
  refine aw_region ?_
  refine run_w (ws_boxR rfl (.inl rfl) rfl ⟨rfl, ?_⟩)
  refine run_s (ss_assign rfl) rfl ?_
  refine run_s (ss_assign rfl) rfl ?_
  refine run_nil ?_
  refine aw_seq ?_
  refine aw_seq ?_
  refine aw_region ?_
  refine run_s (ss_load_struct rfl (Nat.le_of_ble_eq_true rfl)) rfl ?_
  obtain ⟨q1, h⟩ := h
  refine run_w (ws_call (xs := [.tmp 6]) (ids := []) rfl rfl rfl rfl (c_spec_l03Is r q1) rfl ?_ )
  rintro _ rfl
  refine ⟨rfl, ?_⟩
  refine run_s (ss_not rfl) rfl ?_
  refine run_nil ?_
  refine aw_cond rfl (fun q3 => ?_) (fun q3 => ?_)
  · replace h := h.1 ((bnot_t q3))
    refine aw_seq ?_
    refine aw_gh (gh_to (n := 26) (σ' := []) (env' := [(2, .c (cb false)), (3, .c (ci 0))]) rfl rfl ⟨rfl, rfl, trivial⟩) ?_
    refine aw_region ?_
    refine run_s (ss_assign rfl) rfl ?_
    refine run_s (ss_assign rfl) rfl ?_
    refine run_nil ?_
    refine aw_ret ?_
    exact retAF_mk (retv2 rfl (rv_tmp rfl) (rv_tmp rfl)) rfl rfl ⟨_, (cle_refl _), _, _, h, rfl⟩
  · replace h := h.2 ((bnot_f q3))
    refine aw_skip ?_
    refine aw_seq ?_
    refine aw_region ?_
    refine run_s (ss_field_ptr rfl) rfl ?_
    refine run_s (ss_load_ptr rfl rfl) rfl ?_
    refine run_s (ss_lenL (f := (fun r => C.lst (ints r))) rfl) rfl ?_
    refine run_s (ss_field_ptr rfl) rfl ?_
    refine run_s (ss_load_ptr rfl rfl) rfl ?_
    obtain ⟨q4, h⟩ := h
    refine run_w (ws_call (xs := [.tmp 11, .tmp 13]) (ids := [14]) rfl rfl rfl rfl (c_spec_l01Orbits (r.length : Int) r q4) rfl ?_ )
    rintro _ rfl
    refine ⟨rfl, ?_⟩
    refine run_s (ss_assign rfl) rfl ?_
    refine run_nil ?_
    refine aw_seq ?_
    refine aw_seq ?_
    refine aw_gh (gh_to (n := 26) (σ' := [(14, ⟨ints (orbI (r.length : Int) r), []⟩)]) (env' := [(4, .ref 14)]) rfl rfl ⟨rfl, trivial⟩) ?_
    refine aw_region ?_
    refine run_s (ss_assign rfl) rfl ?_
    refine run_nil ?_
    refine aw_block ?_
    obtain ⟨H1, m1, q6, h⟩ := h
    refine aw_loop1 (fun (v5_1 : Int) => ⟨[(14, ⟨ints (orbI (r.length : Int) r), []⟩)], [(4, .ref 14), (5, .c (ci v5_1))], 26⟩) H1 m1 ⟨0, ghe_to (n := 26) rfl rfl ⟨rfl, rfl, trivial⟩, q6⟩ ?_
    rintro v5_1 q6
    replace h := h v5_1 q6
    refine aw_seq ?_
    refine aw_seq ?_
    refine aw_region ?_
    refine run_s (ss_move rfl) rfl ?_
    refine run_s (ss_move rfl) rfl ?_
    refine run_s (ss_lenR (f := ci) rfl rfl) rfl ?_
    refine run_s (ss_lss rfl rfl) rfl ?_
    refine run_nil ?_
    refine aw_cond rfl (fun q7 => ?_) (fun q7 => ?_)
    · replace h := h.1 (of_decide_eq_true q7)
      refine aw_skip ?_
      refine aw_seq ?_
      refine aw_block ?_
      refine aw_seq ?_
      refine aw_region ?_
      refine run_s (ss_move rfl) rfl ?_
      refine run_s (ss_move rfl) rfl ?_
      obtain ⟨q8, h⟩ := h
      refine run_s (ss_idxR (f := ci) rfl rfl rfl q8) rfl ?_
      refine run_s (ss_loadR (f := ci) rfl rfl q8 rfl rfl) rfl ?_
      refine run_s (ss_neq rfl rfl) rfl ?_
      refine run_nil ?_
      refine aw_cond rfl (fun q9 => ?_) (fun q9 => ?_)
      · replace h := h.1 (of_decide_eq_false (bnot_t q9))
        refine aw_seq ?_
        refine aw_gh (gh_to (n := 26) (σ' := [(14, ⟨ints (orbI (r.length : Int) r), []⟩)]) (env' := []) rfl rfl trivial) ?_
        refine aw_region ?_
        refine run_s (ss_assign rfl) rfl ?_
        refine run_s (ss_assign rfl) rfl ?_
        refine run_nil ?_
        refine aw_ret ?_
        exact retAF_mk (retv2 rfl (rv_tmp rfl) (rv_tmp rfl)) rfl rfl ⟨_, (cle_refl _), _, _, h, rfl⟩
      · replace h := h.2 (of_decide_eq_true (bnot_f q9))
        refine aw_skip ?_
        refine aw_gh (gh_to (n := 26) (σ' := [(14, ⟨ints (orbI (r.length : Int) r), []⟩)]) (env' := [(4, .ref 14), (5, .c (ci v5_1))]) rfl rfl ⟨rfl, rfl, trivial⟩) ?_
        refine aw_region ?_
        refine run_s (ss_move rfl) rfl ?_
        obtain ⟨q10, h⟩ := h
        refine run_s (ss_add rfl rfl q10) rfl ?_
        refine run_s (ss_assign rfl) rfl ?_
        refine run_nil ?_
        exact ⟨v5_1 + 1, ghe_to (n := 26) rfl rfl ⟨rfl, rfl, trivial⟩, h.1, h.2⟩
    · replace h := h.2 (of_decide_eq_false q7)
      refine aw_exit ?_
      refine aw_seq ?_
      refine aw_gh (gh_to (n := 26) (σ' := [(14, ⟨ints (orbI (r.length : Int) r), []⟩)]) (env' := []) rfl rfl trivial) ?_
      refine aw_region ?_
      refine run_s (ss_assign rfl) rfl ?_
      refine run_s (ss_assign rfl) rfl ?_
      refine run_nil ?_
      refine aw_ret ?_
      exact retAF_mk (retv2 rfl (rv_tmp rfl) (rv_tmp rfl)) rfl rfl ⟨_, (cle_refl _), _, _, h, rfl⟩

theorem c_spec_IsConnectedRack (r : List (List Int)) (hp : small2 r) : AF Try.prog 37 [.agg [.lst (rows r)]] (fun R_ => R_ = .tup [cb (RcoB r), ci (rkE r)]) :=
  (w_spec_IsConnectedRack r (fun y0 y1 => y0 = RcoB r ∧ y1 = rkE r) (p_spec_IsConnectedRack r hp)).mono (by rintro r ⟨_, _, ⟨rfl, rfl⟩, rfl⟩; rfl)

set_option maxRecDepth 100000 in
set_option maxHeartbeats 1000000 in
theorem w_impl_IsConnectedRack (r : List (List Int)) (Q : Bool → Int → Prop) (h : wp_impl_IsConnectedRack r Q) : AF Try.prog 38 [.agg [.lst (rows r)]] (fun R_ => ∃ y0 y1, Q y0 y1 ∧ R_ = .tup [cb y0, ci y1]) := by
  refine AF.ofWQ (af_enter (n := 15) Try.func38 rfl (by rfl) rfl (Nat.le_of_ble_eq_true rfl) ?_)
  unfold wp_impl_IsConnectedRack at h
  refine aw_seq ?_
  refine aw_gh (gh_to (n := 15) (σ' := []) (env' := [(0, .c (.agg [.lst (rows r)]))]) rfl rfl ⟨rfl, trivial⟩) ?_
  refine aw_region ?_
  refine run_w (ws_boxR rfl (.inl rfl) rfl ⟨rfl, ?_⟩)
  refine run_s (ss_assign rfl) rfl ?_
  refine run_s (ss_assign rfl) rfl ?_
  refine run_nil ?_
  refine aw_seq ?_
  refine aw_seq ?_
  refine aw_region ?_
  refine run_s (ss_load_struct rfl (Nat.le_of_ble_eq_true rfl)) rfl ?_
  obtain ⟨q1, h⟩ := h
  refine run_w (ws_call (xs := [.tmp 4]) (ids := []) rfl rfl rfl rfl (c_impl_IsRack r q1) rfl ?_ )
  rintro _ rfl
  refine ⟨rfl, ?_⟩
  refine run_s (ss_not rfl) rfl ?_
  refine run_nil ?_
  refine aw_cond rfl (fun q3 => ?_) (fun q3 => ?_)
  · replace h := h.1 ((bnot_t q3))
    refine aw_seq ?_
    refine aw_gh (gh_to (n := 15) (σ' := []) (env' := [(2, .c (cb false)), (3, .c (ci 0))]) rfl rfl ⟨rfl, rfl, trivial⟩) ?_
    refine aw_region ?_
    refine run_s (ss_assign rfl) rfl ?_
    refine run_s (ss_assign rfl) rfl ?_
    refine run_nil ?_
    refine aw_ret ?_
    exact retAF_mk (retv2 rfl (rv_tmp rfl) (rv_tmp rfl)) rfl rfl ⟨_, (cle_refl _), _, _, h, rfl⟩
  · replace h := h.2 ((bnot_f q3))
    refine aw_skip ?_
    refine aw_seq ?_
    refine aw_region ?_
    refine run_s (ss_field_ptr rfl) rfl ?_
    refine run_s (ss_load_ptr rfl rfl) rfl ?_
    refine run_s (ss_lenL (f := (fun r => C.lst (ints r))) rfl) rfl ?_
    refine run_s (ss_field_ptr rfl) rfl ?_
    refine run_s (ss_load_ptr rfl rfl) rfl ?_
    obtain ⟨q4, h⟩ := h
    refine run_w (ws_call (xs := [.tmp 9, .tmp 11]) (ids := [12]) rfl rfl rfl rfl (c_impl_orbitLabels (r.length : Int) r q4) rfl ?_ )
    rintro _ rfl
    refine ⟨rfl, ?_⟩
    obtain ⟨q6, h⟩ := h
    refine run_w (ws_callR (xs := [.tmp 12]) (cs := [.own (ints (orbI (r.length : Int) r))]) (ids := []) rfl (.inr ⟨rfl, rfl⟩) rfl rfl (fz_cons (fz_own (fz_map (fun _ => rfl) _)) fz_nil) (c_k_Max (orbI (r.length : Int) r) q6) rfl ?_ )
    rintro _ rfl
    refine ⟨rfl, rfl, ?_⟩
    refine run_s (ss_eql rfl rfl) rfl ?_
    refine run_s (ss_assign rfl) rfl ?_
    refine run_s (ss_assign rfl) rfl ?_
    refine run_nil ?_
    refine aw_ret ?_
    exact retAF_mk (retv2 rfl (rv_tmp rfl) (rv_tmp rfl)) rfl rfl ⟨_, (cle_refl _), _, _, h, rfl⟩

theorem c_impl_IsConnectedRack (r : List (List Int)) (hp : small2 r) : AF Try.prog 38 [.agg [.lst (rows r)]] (fun R_ => R_ = .tup [cb (RcoB r), ci (rkE r)]) :=
  (w_impl_IsConnectedRack r (fun y0 y1 => y0 = RcoB r ∧ y1 = rkE r) (p_impl_IsConnectedRack r hp)).mono (by rintro r ⟨_, _, ⟨rfl, rfl⟩, rfl⟩; rfl)

end Go.Proofs.Ytgekmhiemakaaaa
