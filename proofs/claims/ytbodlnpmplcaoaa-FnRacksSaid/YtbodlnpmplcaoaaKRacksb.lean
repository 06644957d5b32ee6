/- Contracts of functions that the law FnRacks reaches: conditions, plain proofs, walks; no condition. -/
import Derived.Test.YtbodlnpmplcaoaaKRacksa
import Derived.Test.YtbodlnpmplcaoaaPb
namespace Go.Proofs.Ytbodlnpmplcaoaa

def wp_spec_l01Index (list : List Int) (n : Int) (Q : Int → Prop) : Prop :=
 ∃ (H1 : Int → Prop) (m1 : Int → Nat),
 H1 0 ∧
 ∀ (v5_1 : Int), H1 v5_1 →
 ( ((v5_1 < (list.length : Int) →
   (0 ≤ v5_1 ∧ v5_1 < (list.length : Int)) ∧
   ((el list v5_1 = n →
    Q v5_1) ∧
   (¬ (el list v5_1 = n) →
    (InI (v5_1 + 1)) ∧
    (H1 (v5_1 + 1) ∧ m1 (v5_1 + 1) < m1 v5_1)))) ∧
  (¬ (v5_1 < (list.length : Int)) →
   Q (-1))))

def wp_spec_l01Has (list : List Int) (n : Int) (Q : Bool → Prop) : Prop :=
 (small list) ∧
 Q (decide (0 ≤ idxI list n))

def wp_spec_l01Perm (p : List Int) (Q : Bool → Prop) : Prop :=
 (((decide ((1 : Int) ≤ (p.length : Int)) && decide ((p.length : Int) ≤ (12 : Int))) = false →
  Q false) ∧
 ((decide ((1 : Int) ≤ (p.length : Int)) && decide ((p.length : Int) ≤ (12 : Int))) = true →
  ∃ (H1 : Int → Prop) (m1 : Int → Nat),
  H1 0 ∧
  ∀ (v4_1 : Int), H1 v4_1 →
  ( ((v4_1 < (p.length : Int) →
    (small p) ∧
    (((p.contains v4_1) = false →
     Q false) ∧
    ((p.contains v4_1) = true →
     (InI (v4_1 + 1)) ∧
     (H1 (v4_1 + 1) ∧ m1 (v4_1 + 1) < m1 v4_1)))) ∧
   (¬ (v4_1 < (p.length : Int)) →
    Q true)))))

def wp_spec_l01Own (list : List Int) (Q : List Int → Prop) : Prop :=
 ((([] : List Int).length : Int) + (list.length : Int) ≤ 1000000000) ∧
 Q (([] : List Int) ++ list)

def wp_spec_l01Table (t : List (List Int)) (Q : Bool → Prop) : Prop :=
 (((decide ((1 : Int) ≤ (t.length : Int)) && decide ((t.length : Int) ≤ (12 : Int))) = false →
  Q false) ∧
 ((decide ((1 : Int) ≤ (t.length : Int)) && decide ((t.length : Int) ≤ (12 : Int))) = true →
  ∃ (H1 : Int → Prop) (m1 : Int → Nat),
  H1 0 ∧
  ∀ (v4_1 : Int), H1 v4_1 →
  ( ((v4_1 < (t.length : Int) →
    (0 ≤ v4_1 ∧ v4_1 < (t.length : Int)) ∧
    ((¬ (((el t v4_1).length : Int) = (t.length : Int)) →
     Q false) ∧
    (((el t v4_1).length : Int) = (t.length : Int) →
     ∃ (H2 : Int → Prop) (m2 : Int → Nat),
     H2 0 ∧
     ∀ (v5_2 : Int), H2 v5_2 →
     ( ((v5_2 < (t.length : Int) →
       (0 ≤ v4_1 ∧ v4_1 < (t.length : Int)) ∧
       (0 ≤ v5_2 ∧ v5_2 < ((el t v4_1).length : Int)) ∧
       (InI ((t.length : Int) - 1)) ∧
       (((decide ((0 : Int) ≤ (el (el t v4_1) v5_2)) && decide ((el (el t v4_1) v5_2) ≤ ((t.length : Int) - 1))) = false →
        Q false) ∧
       ((decide ((0 : Int) ≤ (el (el t v4_1) v5_2)) && decide ((el (el t v4_1) v5_2) ≤ ((t.length : Int) - 1))) = true →
        (InI (v5_2 + 1)) ∧
        (H2 (v5_2 + 1) ∧ m2 (v5_2 + 1) < m2 v5_2)))) ∧
      (¬ (v5_2 < (t.length : Int)) →
       (InI (v4_1 + 1)) ∧
       (H1 (v4_1 + 1) ∧ m1 (v4_1 + 1) < m1 v4_1))))))) ∧
   (¬ (v4_1 < (t.length : Int)) →
    Q true)))))

def wp_spec_l03Coprime (a : Int) (n : Int) (Q : Bool → Prop) : Prop :=
 ∃ (H1 : Int → Prop) (m1 : Int → Nat),
 H1 2 ∧
 ∀ (v5_1 : Int), H1 v5_1 →
 ( ((v5_1 ≤ n →
   ((0 : Int) ≤ a ∧ (0 : Int) < v5_1) ∧
   ((a % v5_1 = 0 →
    ((0 : Int) ≤ n ∧ (0 : Int) < v5_1) ∧
    ((n % v5_1 = 0 →
     Q false) ∧
    (¬ (n % v5_1 = 0) →
     (InI (v5_1 + 1)) ∧
     (H1 (v5_1 + 1) ∧ m1 (v5_1 + 1) < m1 v5_1)))) ∧
   (¬ (a % v5_1 = 0) →
    (InI (v5_1 + 1)) ∧
    (H1 (v5_1 + 1) ∧ m1 (v5_1 + 1) < m1 v5_1)))) ∧
  (¬ (v5_1 ≤ n) →
   Q true)))

def wp_spec_l03Alexander (n : Int) (a : Int) (b : Int) (Q : List (List Int) → Prop) : Prop :=
 ∃ (H1 : Int → List (List Int) → Prop) (m1 : Int → List (List Int) → Nat),
 H1 0 ([] : List (List Int)) ∧
 ∀ (v8_1 : Int) (o11_1 : List (List Int)), H1 v8_1 o11_1 →
 ( ((v8_1 < n →
   ∃ (H2 : Int → List Int → Prop) (m2 : Int → List Int → Nat),
   H2 0 ([] : List Int) ∧
   ∀ (v10_2 : Int) (o17_2 : List Int), H2 v10_2 o17_2 →
   ( ((v10_2 < n →
     (InI (b * v8_1)) ∧
     (InI (a * v10_2)) ∧
     (InI ((b * v8_1) + (a * v10_2))) ∧
     ((0 : Int) ≤ (b * v8_1) + (a * v10_2) ∧ (0 : Int) < n) ∧
     ((o17_2.length : Int) + (([((b * v8_1) + (a * v10_2)) % n]).length : Int) ≤ 1000000000) ∧
     (InI (v10_2 + 1)) ∧
     (H2 (v10_2 + 1) (o17_2 ++ ([((b * v8_1) + (a * v10_2)) % n])) ∧ m2 (v10_2 + 1) (o17_2 ++ ([((b * v8_1) + (a * v10_2)) % n])) < m2 v10_2 o17_2)) ∧
    (¬ (v10_2 < n) →
     ((o11_1.length : Int) + (([o17_2]).length : Int) ≤ 1000000000) ∧
     (InI (v8_1 + 1)) ∧
     (H1 (v8_1 + 1) (o11_1 ++ ([o17_2])) ∧ m1 (v8_1 + 1) (o11_1 ++ ([o17_2])) < m1 v8_1 o11_1))))) ∧
  (¬ (v8_1 < n) →
   Q o11_1)))


theorem p_spec_l01Index (list : List Int) (n : Int) (hp : small list) : wp_spec_l01Index list n (fun y0 => y0 = idxI list n) := by
  unfold wp_spec_l01Index idxI
  refine ⟨fun i => 0 ≤ i ∧ i ≤ (list.length : Int) ∧ Upto i fun j => (el list j == n) = false, fun i => ((list.length : Int) - i).toNat, ⟨by omega, by omega, upto0⟩, ?_⟩
  rintro i ⟨h0, h1, hI⟩
  dsimp only
  refine ⟨fun hlt => ⟨⟨h0, hlt⟩, fun hf => (idxF_found ⟨h0, hlt⟩ hI (by simpa using hf)).symm, fun ht => ⟨⟨by omega, by omega⟩, ⟨by omega, by omega, upto1 hI (by simpa using ht)⟩, by omega⟩⟩, fun hge => ?_⟩
  exact (idxF_none (by rwa [show i = (list.length : Int) by omega] at hI)).symm
theorem p_spec_l01Has (list : List Int) (n : Int) (hp : small list) : wp_spec_l01Has list n (fun y0 => y0 = list.contains n) := ⟨hp, idxI_has⟩
theorem p_spec_l01Perm (p : List Int) (hp : small p) : wp_spec_l01Perm p (fun y0 => y0 = permB p) := by
  unfold wp_spec_l01Perm permB
  refine ⟨fun h => by rw [h]; rfl, fun h => ?_⟩
  rw [h]
  refine ⟨fun i => 0 ≤ i ∧ i ≤ (p.length : Int) ∧ Upto i fun j => j ∈ p, fun i => ((p.length : Int) - i).toNat, ⟨by omega, by omega, upto0⟩, ?_⟩
  rintro i ⟨h0, h1, hI⟩
  dsimp only
  refine ⟨fun hlt => ⟨hp, fun hf => ?_, fun ht => ⟨⟨by omega, by omega⟩, ⟨by omega, by omega, upto1 hI (List.contains_iff_mem.1 ht)⟩, by omega⟩⟩, fun hge => ?_⟩
  · cases hb : isPerm p with
    | false => rfl
    | true => rw [List.contains_iff_mem.2 (isPerm_all hb ⟨h0, hlt⟩)] at hf; cases hf
  · rw [isPerm_of_all fun x a b => hI x a (by omega)]; rfl
theorem p_spec_l01Own (list : List Int) (hp : small list) : wp_spec_l01Own list (fun y0 => y0 = list) := ⟨by simp; omega, rfl⟩
theorem p_spec_l01Table (t : List (List Int)) (hp : small2 t) : wp_spec_l01Table t (fun y0 => y0 = isTab t) := by
  unfold wp_spec_l01Table
  refine ⟨fun h => by unfold isTab; rw [h]; rfl, fun h => ?_⟩
  simp only [Bool.and_eq_true, decide_eq_true_eq] at h
  have nt : ∀ i, (0 ≤ i ∧ i < (t.length : Int)) → (((el t i).length : Int) ≠ (t.length : Int) ∨ ∃ j, (0 ≤ j ∧ j < (t.length : Int)) ∧ ¬ (0 ≤ el (el t i) j ∧ el (el t i) j < (t.length : Int))) → false = isTab t := by
    intro i hi hn
    cases hb : isTab t with
    | false => rfl
    | true =>
      have := isTab_row hb hi
      rcases hn with hn | ⟨j, hj, hn⟩
      · exact absurd this.1 hn
      · exact absurd (this.2 j hj.1 hj.2) hn
  refine ⟨fun i => 0 ≤ i ∧ i ≤ (t.length : Int) ∧ Upto i fun i => ((el t i).length : Int) = (t.length : Int) ∧ ∀ j, 0 ≤ j → j < (t.length : Int) → 0 ≤ el (el t i) j ∧ el (el t i) j < (t.length : Int), fun i => ((t.length : Int) - i).toNat, ⟨by omega, by omega, upto0⟩, ?_⟩
  rintro i ⟨h0, h1, hI⟩
  dsimp only
  refine ⟨fun hlt => ⟨⟨h0, hlt⟩, fun hf => nt i ⟨h0, hlt⟩ (.inl hf), fun hr => ?_⟩, fun hge => (isTab_mk h fun i a b => hI i a (by omega)).symm⟩
  refine ⟨fun j => 0 ≤ j ∧ j ≤ (t.length : Int) ∧ Upto j fun j => 0 ≤ el (el t i) j ∧ el (el t i) j < (t.length : Int), fun j => ((t.length : Int) - j).toNat, ⟨by omega, by omega, upto0⟩, ?_⟩
  rintro j ⟨j0, j1, jI⟩
  dsimp only
  refine ⟨fun jlt => ⟨⟨h0, hlt⟩, ⟨j0, by omega⟩, ⟨by omega, by omega⟩, fun hf => ?_, fun ht => ?_⟩, fun jge => ⟨⟨by omega, by omega⟩, ⟨by omega, by omega, upto1 hI ⟨hr, fun j a b => jI j a (by omega)⟩⟩, by omega⟩⟩
  · simp only [Bool.and_eq_false_iff, decide_eq_false_iff_not] at hf
    exact nt i ⟨h0, hlt⟩ (.inr ⟨j, ⟨j0, jlt⟩, by omega⟩)
  · simp only [Bool.and_eq_true, decide_eq_true_eq] at ht
    exact ⟨⟨by omega, by omega⟩, ⟨by omega, by omega, upto1 jI ⟨ht.1, by omega⟩⟩, by omega⟩

theorem gcdI_step {a b : Int} (ha : 0 ≤ a) (hb : 0 < b) : gcdI a b = gcdI b (a % b) := by
  obtain ⟨m, rfl⟩ := Int.eq_ofNat_of_zero_le ha
  obtain ⟨n, rfl⟩ := Int.eq_ofNat_of_zero_le (Int.le_of_lt hb)
  have e : ((m : Int) % (n : Int)) = ((m % n : Nat) : Int) := rfl
  unfold gcdI
  rw [e]
  simp only [Int.gcd, Int.natAbs_natCast]
  rw [Nat.gcd_comm m n, Nat.gcd_rec n m, Nat.gcd_comm]
theorem p_spec_l03Coprime (a n : Int) (hp : 0 ≤ a ∧ 1 ≤ n ∧ n ≤ 1000) : wp_spec_l03Coprime a n (fun y0 => y0 = !decide (1 < gcdI n a)) := by
  unfold wp_spec_l03Coprime
  obtain ⟨h1, h2, h3⟩ := hp
  refine ⟨fun v => 2 ≤ v ∧ v ≤ n + 2 ∧ ∀ d, 2 ≤ d → d < v → ¬ (a % d = 0 ∧ n % d = 0), fun v => (n + 2 - v).toNat, ⟨by omega, by omega, fun d a b => by omega⟩, ?_⟩
  rintro v ⟨v0, v1, vI⟩
  dsimp only
  have st : ¬ (a % v = 0 ∧ n % v = 0) → ∀ d, 2 ≤ d → d < v + 1 → ¬ (a % d = 0 ∧ n % d = 0) := fun hn d d1 d2 => by
    by_cases e : d = v
    · subst e; exact hn
    · exact vI d d1 (by omega)
  refine ⟨fun hlt => ⟨⟨h1, by omega⟩, fun ha => ⟨⟨by omega, by omega⟩, fun hn => ?_, fun hn => ⟨⟨by omega, by omega⟩, ⟨by omega, by omega, st fun h => hn h.2⟩, by omega⟩⟩, fun ha => ⟨⟨by omega, by omega⟩, ⟨by omega, by omega, st fun h => ha h.1⟩, by omega⟩⟩, fun hge => ?_⟩
  · have d1 : v ∣ a := Int.dvd_of_emod_eq_zero ha
    have d2 : v ∣ n := Int.dvd_of_emod_eq_zero hn
    have d3 : v ∣ gcdI n a := Int.dvd_coe_gcd d2 d1
    have d4 : 0 < gcdI n a := by
      have : 0 < Int.gcd n a := Int.gcd_pos_of_ne_zero_left _ (by omega)
      unfold gcdI; omega
    have := Int.le_of_dvd d4 d3
    simp; omega
  · have g1 : gcdI n a ∣ n := Int.gcd_dvd_left ..
    have g2 : gcdI n a ∣ a := Int.gcd_dvd_right ..
    have g3 := Int.le_of_dvd (by omega) g1
    have : ¬ 1 < gcdI n a := fun h => vI _ (by omega) (by omega) ⟨Int.emod_eq_zero_of_dvd g2, Int.emod_eq_zero_of_dvd g1⟩
    simp; omega

theorem p_spec_l03Alexander (n a b : Int) (hp : 1 ≤ n ∧ n ≤ 1000 ∧ 0 ≤ a ∧ a ≤ 1000 ∧ 0 ≤ b ∧ b ≤ 1000) : wp_spec_l03Alexander n a b (fun y0 => y0 = tab n (fun x_ y_ => (b * x_ + a * y_) % n)) := by
  unfold wp_spec_l03Alexander
  obtain ⟨h1, h2, h3, h4, h5, h6⟩ := hp
  refine ⟨fun i o => 0 ≤ i ∧ i ≤ n ∧ o.length = i.toNat ∧ Upto i fun x => el o x = ran n fun y => (b * x + a * y) % n, fun i _ => (n - i).toNat, ⟨by omega, by omega, by simp, upto0⟩, ?_⟩
  rintro i o ⟨i0, i1, il, iI⟩
  dsimp only
  refine ⟨fun ilt => ?_, fun ige => eq_ran (by omega) fun j a b => iI j a (by omega)⟩
  refine ⟨fun j q => 0 ≤ j ∧ j ≤ n ∧ q.length = j.toNat ∧ Upto j fun y => el q y = (b * i + a * y) % n, fun j _ => (n - j).toNat, ⟨by omega, by omega, by simp, upto0⟩, ?_⟩
  rintro j q ⟨j0, j1, jl, jI⟩
  dsimp only
  have m1 := mulA (a := b) (i := i) ⟨h5, h6⟩ ⟨i0, by omega⟩
  have m2 := mulA (a := a) (i := j) ⟨h3, h4⟩ ⟨j0, by omega⟩
  refine ⟨fun jlt => ⟨⟨by omega, by omega⟩, ⟨by omega, by omega⟩, ⟨by omega, by omega⟩, ⟨by omega, by omega⟩, by simp; omega, ⟨by omega, by omega⟩, ⟨by omega, by omega, by simp; omega, app1 (by omega) jI rfl⟩, by omega⟩, fun jge => ?_⟩
  have hq : q = ran n fun y => (b * i + a * y) % n := eq_ran (by omega) fun k a b => jI k a (by omega)
  exact ⟨by simp; omega, ⟨by omega, by omega⟩, ⟨by omega, by omega, by simp; omega, app1 (f := fun x => ran n fun y => (b * x + a * y) % n) (by omega) iI hq⟩, by omega⟩

theorem inR_t {n : Int} (h : (decide (1 ≤ n) && decide (n ≤ 12)) = true) : inR n := by simpa [inR] using h
theorem inR_f {n : Int} (h : (decide (1 ≤ n) && decide (n ≤ 12)) = false) : ¬ inR n := fun h2 => by simp [h2.1, h2.2] at h
theorem alex2 {n a : Int} (h : ¬ (inR n ∧ 0 ≤ a ∧ a < n)) : [] = AlexT n a ∧ 2 = AlexE n a := by
  have e : AlexE n a = 2 := by unfold AlexE; rw [if_pos h]
  exact ⟨by unfold AlexT; rw [e]; rfl, e.symm⟩
theorem alex5 {n a : Int} (h : inR n ∧ 0 ≤ a ∧ a < n) (hg : 1 < gcdI n a) : [] = AlexT n a ∧ 5 = AlexE n a := by
  have e : AlexE n a = 5 := by unfold AlexE; rw [if_neg fun h2 => h2 h, if_pos hg]
  exact ⟨by unfold AlexT; rw [e]; rfl, e.symm⟩
theorem alex0 {n a : Int} (h : inR n ∧ 0 ≤ a ∧ a < n) (hg : ¬ 1 < gcdI n a) : tab n (fun x y => ((n + 1 - a) * x + a * y) % n) = AlexT n a ∧ 0 = AlexE n a := by
  have e : AlexE n a = 0 := by unfold AlexE; rw [if_neg fun h2 => h2 h, if_neg hg]
  exact ⟨by unfold AlexT; rw [if_pos e], e.symm⟩
set_option maxRecDepth 100000 in
set_option maxHeartbeats 4000000 in
theorem w_spec_l01Index (list : List Int) (n : Int) (Q : Int → Prop) (h : wp_spec_l01Index list n Q) : AF Try.prog 168 [.lst (ints list), ci n] (fun R_ => ∃ y0, Q y0 ∧ R_ = ci y0) := by
  refine AF.ofWQ (af_enter (n := 19) Try.func168 rfl (by rfl) rfl (Nat.le_of_ble_eq_true rfl) ?_)
  unfold wp_spec_l01Index at h
  refine aw_seq ?_
  refine aw_gh (gh_to (n := 19) (σ' := []) (env' := [(0, .c (.lst (ints list))), (1, .c (ci n))]) rfl rfl ⟨rfl, rfl, trivial⟩) ?_
  refine aw_region ?_
  refine run_s (ss_assign rfl) rfl ?_
  refine run_nil ?_
  refine aw_seq ?_
  refine aw_seq ?_
  refine aw_region ?_
  refine run_s (ss_assign rfl) rfl ?_
  refine run_nil ?_
  refine aw_block ?_
  obtain ⟨H1, m1, q1, h⟩ := h
  refine aw_loop1 (fun (v5_1 : Int) => ⟨[], [(0, .c (.lst (ints list))), (1, .c (ci n)), (5, .c (ci v5_1))], 19⟩) H1 m1 ⟨0, ghe_to (n := 19) rfl rfl ⟨rfl, rfl, rfl, trivial⟩, q1⟩ ?_
  rintro v5_1 q1
  replace h := h v5_1 q1
  refine aw_seq ?_
  refine aw_seq ?_
  refine aw_region ?_
  refine run_s (ss_move rfl) rfl ?_
  refine run_s (ss_move rfl) rfl ?_
  refine run_s (ss_lenL (f := ci) rfl) rfl ?_
  refine run_s (ss_lss rfl rfl) rfl ?_
  refine run_nil ?_
  refine aw_cond rfl (fun q2 => ?_) (fun q2 => ?_)
  · replace h := h.1 (of_decide_eq_true q2)
    refine aw_skip ?_
    refine aw_seq ?_
    refine aw_block ?_
    refine aw_seq ?_
    refine aw_region ?_
    refine run_s (ss_move rfl) rfl ?_
    refine run_s (ss_move rfl) rfl ?_
    obtain ⟨q3, h⟩ := h
    refine run_s (ss_idxL rfl rfl q3) rfl ?_
    refine run_s (ss_loadL (f := ci) rfl q3) rfl ?_
    refine run_s (ss_move rfl) rfl ?_
    refine run_s (ss_eql rfl rfl) rfl ?_
    refine run_nil ?_
    refine aw_cond rfl (fun q4 => ?_) (fun q4 => ?_)
    · replace h := h.1 (of_decide_eq_true q4)
      refine aw_seq ?_
      refine aw_gh (gh_to (n := 19) (σ' := []) (env' := [(5, .c (ci v5_1))]) rfl rfl ⟨rfl, trivial⟩) ?_
      refine aw_region ?_
      refine run_s (ss_move rfl) rfl ?_
      refine run_s (ss_assign rfl) rfl ?_
      refine run_nil ?_
      refine aw_ret ?_
      exact retAF_mk (retv1 rfl (rv_tmp rfl)) rfl rfl ⟨_, (cle_refl _), _, h, rfl⟩
    · replace h := h.2 (of_decide_eq_false q4)
      refine aw_skip ?_
      refine aw_gh (gh_to (n := 19) (σ' := []) (env' := [(0, .c (.lst (ints list))), (1, .c (ci n)), (5, .c (ci v5_1))]) rfl rfl ⟨rfl, rfl, rfl, trivial⟩) ?_
      refine aw_region ?_
      refine run_s (ss_move rfl) rfl ?_
      obtain ⟨q5, h⟩ := h
      refine run_s (ss_add rfl rfl q5) rfl ?_
      refine run_s (ss_assign rfl) rfl ?_
      refine run_nil ?_
      exact ⟨v5_1 + 1, ghe_to (n := 19) rfl rfl ⟨rfl, rfl, rfl, trivial⟩, h.1, h.2⟩
  · replace h := h.2 (of_decide_eq_false q2)
    refine aw_exit ?_
    refine aw_seq ?_
    refine aw_gh (gh_to (n := 19) (σ' := []) (env' := []) rfl rfl trivial) ?_
    refine aw_region ?_
    refine run_s (ss_assign rfl) rfl ?_
    refine run_nil ?_
    refine aw_ret ?_
    exact retAF_mk (retv1 rfl (rv_tmp rfl)) rfl rfl ⟨_, (cle_refl _), _, h, rfl⟩

theorem c_spec_l01Index (list : List Int) (n : Int) (hp : small list) : AF Try.prog 168 [.lst (ints list), ci n] (fun R_ => R_ = ci (idxI list n)) :=
  (w_spec_l01Index list n (fun y0 => y0 = idxI list n) (p_spec_l01Index list n hp)).mono (by rintro r ⟨_, rfl, rfl⟩; rfl)

set_option maxRecDepth 100000 in
set_option maxHeartbeats 4000000 in
theorem w_spec_l01Has (list : List Int) (n : Int) (Q : Bool → Prop) (h : wp_spec_l01Has list n Q) : AF Try.prog 154 [.lst (ints list), ci n] (fun R_ => ∃ y0, Q y0 ∧ R_ = cb y0) := by
  refine AF.ofWQ (af_enter (n := 9) Try.func154 rfl (by rfl) rfl (Nat.le_of_ble_eq_true rfl) ?_)
  unfold wp_spec_l01Has at h
  refine aw_seq ?_
  refine aw_gh (gh_to (n := 9) (σ' := []) (env' := [(0, .c (.lst (ints list))), (1, .c (ci n))]) rfl rfl ⟨rfl, rfl, trivial⟩) ?_
  refine aw_region ?_
  refine run_s (ss_assign rfl) rfl ?_
  refine run_nil ?_
  refine aw_seq ?_
  refine aw_region ?_
  refine run_s (ss_move rfl) rfl ?_
  refine run_s (ss_move rfl) rfl ?_
  obtain ⟨q1, h⟩ := h
  refine run_w (ws_call (xs := [.tmp 5, .tmp 6]) (ids := []) rfl rfl rfl rfl (c_spec_l01Index list n q1) rfl ?_ )
  rintro _ rfl
  refine ⟨rfl, ?_⟩
  refine run_s (ss_geq rfl rfl) rfl ?_
  refine run_s (ss_assign rfl) rfl ?_
  refine run_nil ?_
  refine aw_ret ?_
  exact retAF_mk (retv1 rfl (rv_tmp rfl)) rfl rfl ⟨_, (cle_refl _), _, h, rfl⟩

theorem c_spec_l01Has (list : List Int) (n : Int) (hp : small list) : AF Try.prog 154 [.lst (ints list), ci n] (fun R_ => R_ = cb (list.contains n)) :=
  (w_spec_l01Has list n (fun y0 => y0 = list.contains n) (p_spec_l01Has list n hp)).mono (by rintro r ⟨_, rfl, rfl⟩; rfl)

set_option maxRecDepth 100000 in
set_option maxHeartbeats 4000000 in
theorem w_spec_l01Perm (p : List Int) (Q : Bool → Prop) (h : wp_spec_l01Perm p Q) : AF Try.prog 96 [.lst (ints p)] (fun R_ => ∃ y0, Q y0 ∧ R_ = cb y0) := by
  refine AF.ofWQ (af_enter (n := 19) Try.func96 rfl (by rfl) rfl (Nat.le_of_ble_eq_true rfl) ?_)
  unfold wp_spec_l01Perm at h
  refine aw_seq ?_
  refine aw_gh (gh_to (n := 19) (σ' := []) (env' := [(0, .c (.lst (ints p)))]) rfl rfl ⟨rfl, trivial⟩) ?_
  refine aw_region ?_
  refine run_s (ss_assign rfl) rfl ?_
  refine run_nil ?_
  refine aw_seq ?_
  refine aw_region ?_
  refine run_s (ss_move rfl) rfl ?_
  refine run_s (ss_lenL (f := ci) rfl) rfl ?_
  refine run_s (ss_assign rfl) rfl ?_
  refine run_nil ?_
  refine aw_seq ?_
  refine aw_seq ?_
  refine aw_region ?_
  refine run_s (ss_move rfl) rfl ?_
  refine run_w (ws_call (xs := [.tmp 7, .const (.int .i64 (1)), .const (.int .i64 (12))]) (ids := []) rfl rfl rfl rfl (c_spec_l01In (p.length : Int) 1 12) rfl ?_ )
  rintro _ rfl
  refine ⟨rfl, ?_⟩
  refine run_s (ss_not rfl) rfl ?_
  refine run_nil ?_
  refine aw_cond rfl (fun q2 => ?_) (fun q2 => ?_)
  · replace h := h.1 ((bnot_t q2))
    refine aw_seq ?_
    refine aw_gh (gh_to (n := 19) (σ' := []) (env' := [(2, .c (cb false))]) rfl rfl ⟨rfl, trivial⟩) ?_
    refine aw_region ?_
    refine run_s (ss_assign rfl) rfl ?_
    refine run_nil ?_
    refine aw_ret ?_
    exact retAF_mk (retv1 rfl (rv_tmp rfl)) rfl rfl ⟨_, (cle_refl _), _, h, rfl⟩
  · replace h := h.2 ((bnot_f q2))
    refine aw_skip ?_
    refine aw_seq ?_
    refine aw_seq ?_
    refine aw_gh (gh_to (n := 19) (σ' := []) (env' := [(0, .c (.lst (ints p))), (3, .c (ci (p.length : Int)))]) rfl rfl ⟨rfl, rfl, trivial⟩) ?_
    refine aw_region ?_
    refine run_s (ss_assign rfl) rfl ?_
    refine run_nil ?_
    refine aw_block ?_
    obtain ⟨H1, m1, q3, h⟩ := h
    refine aw_loop1 (fun (v4_1 : Int) => ⟨[], [(0, .c (.lst (ints p))), (3, .c (ci (p.length : Int))), (4, .c (ci v4_1))], 19⟩) H1 m1 ⟨0, ghe_to (n := 19) rfl rfl ⟨rfl, rfl, rfl, trivial⟩, q3⟩ ?_
    rintro v4_1 q3
    replace h := h v4_1 q3
    refine aw_seq ?_
    refine aw_seq ?_
    refine aw_region ?_
    refine run_s (ss_move rfl) rfl ?_
    refine run_s (ss_move rfl) rfl ?_
    refine run_s (ss_lss rfl rfl) rfl ?_
    refine run_nil ?_
    refine aw_cond rfl (fun q4 => ?_) (fun q4 => ?_)
    · replace h := h.1 (of_decide_eq_true q4)
      refine aw_skip ?_
      refine aw_seq ?_
      refine aw_block ?_
      refine aw_seq ?_
      refine aw_region ?_
      refine run_s (ss_move rfl) rfl ?_
      refine run_s (ss_move rfl) rfl ?_
      obtain ⟨q5, h⟩ := h
      refine run_w (ws_call (xs := [.tmp 15, .tmp 16]) (ids := []) rfl rfl rfl rfl (c_spec_l01Has p v4_1 q5) rfl ?_ )
      rintro _ rfl
      refine ⟨rfl, ?_⟩
      refine run_s (ss_not rfl) rfl ?_
      refine run_nil ?_
      refine aw_cond rfl (fun q7 => ?_) (fun q7 => ?_)
      · replace h := h.1 ((bnot_t q7))
        refine aw_seq ?_
        refine aw_gh (gh_to (n := 19) (σ' := []) (env' := []) rfl rfl trivial) ?_
        refine aw_region ?_
        refine run_s (ss_assign rfl) rfl ?_
        refine run_nil ?_
        refine aw_ret ?_
        exact retAF_mk (retv1 rfl (rv_tmp rfl)) rfl rfl ⟨_, (cle_refl _), _, h, rfl⟩
      · replace h := h.2 ((bnot_f q7))
        refine aw_skip ?_
        refine aw_gh (gh_to (n := 19) (σ' := []) (env' := [(0, .c (.lst (ints p))), (3, .c (ci (p.length : Int))), (4, .c (ci v4_1))]) rfl rfl ⟨rfl, rfl, rfl, trivial⟩) ?_
        refine aw_region ?_
        refine run_s (ss_move rfl) rfl ?_
        obtain ⟨q8, h⟩ := h
        refine run_s (ss_add rfl rfl q8) rfl ?_
        refine run_s (ss_assign rfl) rfl ?_
        refine run_nil ?_
        exact ⟨v4_1 + 1, ghe_to (n := 19) rfl rfl ⟨rfl, rfl, rfl, trivial⟩, h.1, h.2⟩
    · replace h := h.2 (of_decide_eq_false q4)
      refine aw_exit ?_
      refine aw_seq ?_
      refine aw_gh (gh_to (n := 19) (σ' := []) (env' := []) rfl rfl trivial) ?_
      refine aw_region ?_
      refine run_s (ss_assign rfl) rfl ?_
      refine run_nil ?_
      refine aw_ret ?_
      exact retAF_mk (retv1 rfl (rv_tmp rfl)) rfl rfl ⟨_, (cle_refl _), _, h, rfl⟩

theorem c_spec_l01Perm (p : List Int) (hp : small p) : AF Try.prog 96 [.lst (ints p)] (fun R_ => R_ = cb (permB p)) :=
  (w_spec_l01Perm p (fun y0 => y0 = permB p) (p_spec_l01Perm p hp)).mono (by rintro r ⟨_, rfl, rfl⟩; rfl)

set_option maxRecDepth 100000 in
set_option maxHeartbeats 4000000 in
theorem w_spec_l01Own (list : List Int) (Q : List Int → Prop) (h : wp_spec_l01Own list Q) : AF Try.prog 203 [.lst (ints list)] (fun R_ => ∃ y0, Q y0 ∧ R_ = .own (ints y0)) := by
  refine AF.ofWQ (af_enter (n := 6) Try.func203 rfl (by rfl) rfl (Nat.le_of_ble_eq_true rfl) ?_)
  unfold wp_spec_l01Own at h
  refine aw_seq ?_
  refine aw_gh (gh_to (n := 6) (σ' := []) (env' := [(0, .c (.lst (ints list)))]) rfl rfl ⟨rfl, trivial⟩) ?_
  refine aw_region ?_
  refine run_s (ss_assign rfl) rfl ?_
  refine run_nil ?_
  refine aw_seq ?_
  refine aw_region ?_
  refine run_w (ws_buildSlice (id := 3) (ps := []) rfl rfl (Nat.le_of_ble_eq_true rfl) rfl ⟨rfl, ?_⟩)
  refine run_s (ss_move rfl) rfl ?_
  obtain ⟨q1, h⟩ := h
  refine run_w (ws_appL ci (l := ([] : List Int)) (m := list) rfl rfl rfl (Nat.le_of_ble_eq_true rfl) q1 ⟨rfl, ?_⟩)
  refine run_s (ss_assign rfl) rfl ?_
  refine run_nil ?_
  refine aw_ret ?_
  exact retAF_mk (retv1 rfl (rv_tmp rfl)) rfl rfl ⟨_, (cle_refl _), _, h, rfl⟩

theorem c_spec_l01Own (list : List Int) (hp : small list) : AF Try.prog 203 [.lst (ints list)] (fun R_ => R_ = .own (ints list)) :=
  (w_spec_l01Own list (fun y0 => y0 = list) (p_spec_l01Own list hp)).mono (by rintro r ⟨_, rfl, rfl⟩; rfl)

set_option maxRecDepth 100000 in
set_option maxHeartbeats 4000000 in
theorem w_spec_l01Table (t : List (List Int)) (Q : Bool → Prop) (h : wp_spec_l01Table t Q) : AF Try.prog 95 [.lst (rows t)] (fun R_ => ∃ y0, Q y0 ∧ R_ = cb y0) := by
  refine AF.ofWQ (af_enter (n := 41) Try.func95 rfl (by rfl) rfl (Nat.le_of_ble_eq_true rfl) ?_)
  unfold wp_spec_l01Table at h
  refine aw_seq ?_
  refine aw_gh (gh_to (n := 41) (σ' := []) (env' := [(0, .c (.lst (rows t)))]) rfl rfl ⟨rfl, trivial⟩) ?_
  refine aw_region ?_
  refine run_s (ss_assign rfl) rfl ?_
  refine run_nil ?_
  refine aw_seq ?_
  refine aw_region ?_
  refine run_s (ss_move rfl) rfl ?_
  refine run_s (ss_lenL (f := (fun r => C.lst (ints r))) rfl) rfl ?_
  refine run_s (ss_assign rfl) rfl ?_
  refine run_nil ?_
  refine aw_seq ?_
  refine aw_seq ?_
  refine aw_region ?_
  refine run_s (ss_move rfl) rfl ?_
  refine run_w (ws_call (xs := [.tmp 8, .const (.int .i64 (1)), .const (.int .i64 (12))]) (ids := []) rfl rfl rfl rfl (c_spec_l01In (t.length : Int) 1 12) rfl ?_ )
  rintro _ rfl
  refine ⟨rfl, ?_⟩
  refine run_s (ss_not rfl) rfl ?_
  refine run_nil ?_
  refine aw_cond rfl (fun q2 => ?_) (fun q2 => ?_)
  · replace h := h.1 ((bnot_t q2))
    refine aw_seq ?_
    refine aw_gh (gh_to (n := 41) (σ' := []) (env' := [(2, .c (cb false))]) rfl rfl ⟨rfl, trivial⟩) ?_
    refine aw_region ?_
    refine run_s (ss_assign rfl) rfl ?_
    refine run_nil ?_
    refine aw_ret ?_
    exact retAF_mk (retv1 rfl (rv_tmp rfl)) rfl rfl ⟨_, (cle_refl _), _, h, rfl⟩
  · replace h := h.2 ((bnot_f q2))
    refine aw_skip ?_
    refine aw_seq ?_
    refine aw_seq ?_
    refine aw_gh (gh_to (n := 41) (σ' := []) (env' := [(0, .c (.lst (rows t))), (3, .c (ci (t.length : Int)))]) rfl rfl ⟨rfl, rfl, trivial⟩) ?_
    refine aw_region ?_
    refine run_s (ss_assign rfl) rfl ?_
    refine run_nil ?_
    refine aw_block ?_
    obtain ⟨H1, m1, q3, h⟩ := h
    refine aw_loop1 (fun (v4_1 : Int) => ⟨[], [(0, .c (.lst (rows t))), (3, .c (ci (t.length : Int))), (4, .c (ci v4_1))], 41⟩) H1 m1 ⟨0, ghe_to (n := 41) rfl rfl ⟨rfl, rfl, rfl, trivial⟩, q3⟩ ?_
    rintro v4_1 q3
    replace h := h v4_1 q3
    refine aw_seq ?_
    refine aw_seq ?_
    refine aw_region ?_
    refine run_s (ss_move rfl) rfl ?_
    refine run_s (ss_move rfl) rfl ?_
    refine run_s (ss_lenL (f := (fun r => C.lst (ints r))) rfl) rfl ?_
    refine run_s (ss_lss rfl rfl) rfl ?_
    refine run_nil ?_
    refine aw_cond rfl (fun q4 => ?_) (fun q4 => ?_)
    · replace h := h.1 (of_decide_eq_true q4)
      refine aw_skip ?_
      refine aw_seq ?_
      refine aw_block ?_
      refine aw_seq ?_
      refine aw_seq ?_
      refine aw_region ?_
      refine run_s (ss_move rfl) rfl ?_
      refine run_s (ss_move rfl) rfl ?_
      obtain ⟨q5, h⟩ := h
      refine run_s (ss_idxL rfl rfl q5) rfl ?_
      refine run_s (ss_loadL (f := (fun r => C.lst (ints r))) rfl q5) rfl ?_
      refine run_s (ss_lenL (f := ci) rfl) rfl ?_
      refine run_s (ss_move rfl) rfl ?_
      refine run_s (ss_neq rfl rfl) rfl ?_
      refine run_nil ?_
      refine aw_cond rfl (fun q6 => ?_) (fun q6 => ?_)
      · replace h := h.1 (of_decide_eq_false (bnot_t q6))
        refine aw_seq ?_
        refine aw_gh (gh_to (n := 41) (σ' := []) (env' := []) rfl rfl trivial) ?_
        refine aw_region ?_
        refine run_s (ss_assign rfl) rfl ?_
        refine run_nil ?_
        refine aw_ret ?_
        exact retAF_mk (retv1 rfl (rv_tmp rfl)) rfl rfl ⟨_, (cle_refl _), _, h, rfl⟩
      · replace h := h.2 (of_decide_eq_true (bnot_f q6))
        refine aw_skip ?_
        refine aw_seq ?_
        refine aw_gh (gh_to (n := 41) (σ' := []) (env' := [(0, .c (.lst (rows t))), (3, .c (ci (t.length : Int))), (4, .c (ci v4_1))]) rfl rfl ⟨rfl, rfl, rfl, trivial⟩) ?_
        refine aw_region ?_
        refine run_s (ss_assign rfl) rfl ?_
        refine run_nil ?_
        refine aw_block ?_
        obtain ⟨H2, m2, q7, h⟩ := h
        refine aw_loop1 (fun (v5_2 : Int) => ⟨[], [(0, .c (.lst (rows t))), (3, .c (ci (t.length : Int))), (4, .c (ci v4_1)), (5, .c (ci v5_2))], 41⟩) H2 m2 ⟨0, ghe_to (n := 41) rfl rfl ⟨rfl, rfl, rfl, rfl, trivial⟩, q7⟩ ?_
        rintro v5_2 q7
        replace h := h v5_2 q7
        refine aw_seq ?_
        refine aw_seq ?_
        refine aw_region ?_
        refine run_s (ss_move rfl) rfl ?_
        refine run_s (ss_move rfl) rfl ?_
        refine run_s (ss_lenL (f := (fun r => C.lst (ints r))) rfl) rfl ?_
        refine run_s (ss_lss rfl rfl) rfl ?_
        refine run_nil ?_
        refine aw_cond rfl (fun q8 => ?_) (fun q8 => ?_)
        · replace h := h.1 (of_decide_eq_true q8)
          refine aw_skip ?_
          refine aw_seq ?_
          refine aw_block ?_
          refine aw_seq ?_
          refine aw_region ?_
          refine run_s (ss_move rfl) rfl ?_
          refine run_s (ss_move rfl) rfl ?_
          obtain ⟨q9, h⟩ := h
          refine run_s (ss_idxL rfl rfl q9) rfl ?_
          refine run_s (ss_loadL (f := (fun r => C.lst (ints r))) rfl q9) rfl ?_
          refine run_s (ss_move rfl) rfl ?_
          obtain ⟨q10, h⟩ := h
          refine run_s (ss_idxL rfl rfl q10) rfl ?_
          refine run_s (ss_loadL (f := ci) rfl q10) rfl ?_
          refine run_s (ss_move rfl) rfl ?_
          obtain ⟨q11, h⟩ := h
          refine run_s (ss_sub rfl rfl q11) rfl ?_
          refine run_w (ws_call (xs := [.tmp 36, .const (.int .i64 (0)), .tmp 38]) (ids := []) rfl rfl rfl rfl (c_spec_l01In (el (el t v4_1) v5_2) 0 ((t.length : Int) - 1)) rfl ?_ )
          rintro _ rfl
          refine ⟨rfl, ?_⟩
          refine run_s (ss_not rfl) rfl ?_
          refine run_nil ?_
          refine aw_cond rfl (fun q13 => ?_) (fun q13 => ?_)
          · replace h := h.1 ((bnot_t q13))
            refine aw_seq ?_
            refine aw_gh (gh_to (n := 41) (σ' := []) (env' := []) rfl rfl trivial) ?_
            refine aw_region ?_
            refine run_s (ss_assign rfl) rfl ?_
            refine run_nil ?_
            refine aw_ret ?_
            exact retAF_mk (retv1 rfl (rv_tmp rfl)) rfl rfl ⟨_, (cle_refl _), _, h, rfl⟩
          · replace h := h.2 ((bnot_f q13))
            refine aw_skip ?_
            refine aw_gh (gh_to (n := 41) (σ' := []) (env' := [(0, .c (.lst (rows t))), (3, .c (ci (t.length : Int))), (4, .c (ci v4_1)), (5, .c (ci v5_2))]) rfl rfl ⟨rfl, rfl, rfl, rfl, trivial⟩) ?_
            refine aw_region ?_
            refine run_s (ss_move rfl) rfl ?_
            obtain ⟨q14, h⟩ := h
            refine run_s (ss_add rfl rfl q14) rfl ?_
            refine run_s (ss_assign rfl) rfl ?_
            refine run_nil ?_
            exact ⟨v5_2 + 1, ghe_to (n := 41) rfl rfl ⟨rfl, rfl, rfl, rfl, trivial⟩, h.1, h.2⟩
        · replace h := h.2 (of_decide_eq_false q8)
          refine aw_exit ?_
          refine aw_gh (gh_to (n := 41) (σ' := []) (env' := [(0, .c (.lst (rows t))), (3, .c (ci (t.length : Int))), (4, .c (ci v4_1))]) rfl rfl ⟨rfl, rfl, rfl, trivial⟩) ?_
          refine aw_region ?_
          refine run_s (ss_move rfl) rfl ?_
          obtain ⟨q15, h⟩ := h
          refine run_s (ss_add rfl rfl q15) rfl ?_
          refine run_s (ss_assign rfl) rfl ?_
          refine run_nil ?_
          exact ⟨v4_1 + 1, ghe_to (n := 41) rfl rfl ⟨rfl, rfl, rfl, trivial⟩, h.1, h.2⟩
    · replace h := h.2 (of_decide_eq_false q4)
      refine aw_exit ?_
      refine aw_seq ?_
      refine aw_gh (gh_to (n := 41) (σ' := []) (env' := []) rfl rfl trivial) ?_
      refine aw_region ?_
      refine run_s (ss_assign rfl) rfl ?_
      refine run_nil ?_
      refine aw_ret ?_
      exact retAF_mk (retv1 rfl (rv_tmp rfl)) rfl rfl ⟨_, (cle_refl _), _, h, rfl⟩

theorem c_spec_l01Table (t : List (List Int)) (hp : small2 t) : AF Try.prog 95 [.lst (rows t)] (fun R_ => R_ = cb (isTab t)) :=
  (w_spec_l01Table t (fun y0 => y0 = isTab t) (p_spec_l01Table t hp)).mono (by rintro r ⟨_, rfl, rfl⟩; rfl)

set_option maxRecDepth 100000 in
set_option maxHeartbeats 4000000 in
theorem w_spec_l03Coprime (a : Int) (n : Int) (Q : Bool → Prop) (h : wp_spec_l03Coprime a n Q) : AF Try.prog 205 [ci a, ci n] (fun R_ => ∃ y0, Q y0 ∧ R_ = cb y0) := by
  refine AF.ofWQ (af_enter (n := 21) Try.func205 rfl (by rfl) rfl (Nat.le_of_ble_eq_true rfl) ?_)
  unfold wp_spec_l03Coprime at h
  refine aw_seq ?_
  refine aw_gh (gh_to (n := 21) (σ' := []) (env' := [(0, .c (ci a)), (1, .c (ci n))]) rfl rfl ⟨rfl, rfl, trivial⟩) ?_
  refine aw_region ?_
  refine run_s (ss_assign rfl) rfl ?_
  refine run_nil ?_
  refine aw_seq ?_
  refine aw_seq ?_
  refine aw_region ?_
  refine run_s (ss_assign rfl) rfl ?_
  refine run_nil ?_
  refine aw_block ?_
  obtain ⟨H1, m1, q1, h⟩ := h
  refine aw_loop1 (fun (v5_1 : Int) => ⟨[], [(0, .c (ci a)), (1, .c (ci n)), (5, .c (ci v5_1))], 21⟩) H1 m1 ⟨2, ghe_to (n := 21) rfl rfl ⟨rfl, rfl, rfl, trivial⟩, q1⟩ ?_
  rintro v5_1 q1
  replace h := h v5_1 q1
  refine aw_seq ?_
  refine aw_seq ?_
  refine aw_region ?_
  refine run_s (ss_move rfl) rfl ?_
  refine run_s (ss_move rfl) rfl ?_
  refine run_s (ss_leq rfl rfl) rfl ?_
  refine run_nil ?_
  refine aw_cond rfl (fun q2 => ?_) (fun q2 => ?_)
  · replace h := h.1 (of_decide_eq_true q2)
    refine aw_skip ?_
    refine aw_seq ?_
    refine aw_block ?_
    refine aw_seq ?_
    refine aw_region ?_
    refine run_s (ss_move rfl) rfl ?_
    refine run_s (ss_move rfl) rfl ?_
    obtain ⟨q3, h⟩ := h
    refine run_s (ss_rem rfl rfl q3) rfl ?_
    refine run_s (ss_eql rfl rfl) rfl ?_
    refine run_s (ss_move rfl) rfl ?_
    refine run_split (s := 15) rfl (fun q4 => ?_) (fun q4 => ?_)
    · replace h := h.1 (of_decide_eq_true q4)
      refine run_gt rfl rfl q4 ?_
      refine run_s (ss_move rfl) rfl ?_
      refine run_gt rfl rfl q4 ?_
      refine run_s (ss_move rfl) rfl ?_
      refine run_gt rfl rfl q4 ?_
      obtain ⟨q5, h⟩ := h
      refine run_s (ss_rem rfl rfl q5) rfl ?_
      refine run_gt rfl rfl q4 ?_
      refine run_s (ss_eql rfl rfl) rfl ?_
      refine run_s (ss_pickT rfl q4 rfl) rfl ?_
      refine run_nil ?_
      refine aw_cond rfl (fun q6 => ?_) (fun q6 => ?_)
      · replace h := h.1 (of_decide_eq_true q6)
        refine aw_seq ?_
        refine aw_gh (gh_to (n := 21) (σ' := []) (env' := []) rfl rfl trivial) ?_
        refine aw_region ?_
        refine run_s (ss_assign rfl) rfl ?_
        refine run_nil ?_
        refine aw_ret ?_
        exact retAF_mk (retv1 rfl (rv_tmp rfl)) rfl rfl ⟨_, (cle_refl _), _, h, rfl⟩
      · replace h := h.2 (of_decide_eq_false q6)
        refine aw_skip ?_
        refine aw_gh (gh_to (n := 21) (σ' := []) (env' := [(0, .c (ci a)), (1, .c (ci n)), (5, .c (ci v5_1)), (16, .c (ci n)), (17, .c (ci v5_1)), (18, .c (ci (n % v5_1))), (19, .c (cb (decide (n % v5_1 = 0))))]) rfl rfl ⟨rfl, rfl, rfl, rfl, rfl, rfl, rfl, trivial⟩) ?_
        refine aw_region ?_
        refine run_s (ss_move rfl) rfl ?_
        obtain ⟨q7, h⟩ := h
        refine run_s (ss_add rfl rfl q7) rfl ?_
        refine run_s (ss_assign rfl) rfl ?_
        refine run_nil ?_
        exact ⟨v5_1 + 1, ghe_to (n := 21) rfl rfl ⟨rfl, rfl, rfl, trivial⟩, h.1, h.2⟩
    · replace h := h.2 (of_decide_eq_false q4)
      refine run_gf rfl rfl q4 rfl ?_
      refine run_gf rfl rfl q4 rfl ?_
      refine run_gf rfl rfl q4 rfl ?_
      refine run_gf rfl rfl q4 rfl ?_
      refine run_s (ss_pickF rfl q4 rfl) rfl ?_
      refine run_nil ?_
      refine aw_cond rfl (fun q8 => ?_) (fun q8 => ?_)
      · cases q8
      · skip
        refine aw_skip ?_
        refine aw_gh (gh_to (n := 21) (σ' := []) (env' := [(0, .c (ci a)), (1, .c (ci n)), (5, .c (ci v5_1))]) rfl rfl ⟨rfl, rfl, rfl, trivial⟩) ?_
        refine aw_region ?_
        refine run_s (ss_move rfl) rfl ?_
        obtain ⟨q9, h⟩ := h
        refine run_s (ss_add rfl rfl q9) rfl ?_
        refine run_s (ss_assign rfl) rfl ?_
        refine run_nil ?_
        exact ⟨v5_1 + 1, ghe_to (n := 21) rfl rfl ⟨rfl, rfl, rfl, trivial⟩, h.1, h.2⟩
  · replace h := h.2 (of_decide_eq_false q2)
    refine aw_exit ?_
    refine aw_seq ?_
    refine aw_gh (gh_to (n := 21) (σ' := []) (env' := []) rfl rfl trivial) ?_
    refine aw_region ?_
    refine run_s (ss_assign rfl) rfl ?_
    refine run_nil ?_
    refine aw_ret ?_
    exact retAF_mk (retv1 rfl (rv_tmp rfl)) rfl rfl ⟨_, (cle_refl _), _, h, rfl⟩

theorem c_spec_l03Coprime (a : Int) (n : Int) (hp : 0 ≤ a ∧ 1 ≤ n ∧ n ≤ 1000) : AF Try.prog 205 [ci a, ci n] (fun R_ => R_ = cb (!decide (1 < gcdI n a))) :=
  (w_spec_l03Coprime a n (fun y0 => y0 = !decide (1 < gcdI n a)) (p_spec_l03Coprime a n hp)).mono (by rintro r ⟨_, rfl, rfl⟩; rfl)

set_option maxRecDepth 100000 in
set_option maxHeartbeats 4000000 in
theorem w_spec_l03Alexander (n : Int) (a : Int) (b : Int) (Q : List (List Int) → Prop) (h : wp_spec_l03Alexander n a b Q) : AF Try.prog 204 [ci n, ci a, ci b] (fun R_ => ∃ y0, Q y0 ∧ R_ = .own (orows y0)) := by
  refine AF.ofWQ (af_enter (n := 40) Try.func204 rfl (by rfl) rfl (Nat.le_of_ble_eq_true rfl) ?_)
  unfold wp_spec_l03Alexander at h
  refine aw_seq ?_
  refine aw_gh (gh_to (n := 40) (σ' := []) (env' := [(0, .c (ci n)), (1, .c (ci a)), (2, .c (ci b))]) rfl rfl ⟨rfl, rfl, rfl, trivial⟩) ?_
  refine aw_region ?_
  refine run_s (ss_assign rfl) rfl ?_
  refine run_nil ?_
  refine aw_seq ?_
  refine aw_region ?_
  refine run_w (ws_buildSlice (id := 11) (ps := []) rfl rfl (Nat.le_of_ble_eq_true rfl) rfl ⟨rfl, ?_⟩)
  refine run_s (ss_assign rfl) rfl ?_
  refine run_nil ?_
  refine aw_seq ?_
  refine aw_seq ?_
  refine aw_region ?_
  refine run_s (ss_assign rfl) rfl ?_
  refine run_nil ?_
  refine aw_block ?_
  obtain ⟨H1, m1, q1, h⟩ := h
  refine aw_loop2 (fun (v8_1 : Int) (o11_1 : List (List Int)) => ⟨[(11, ⟨orows o11_1, []⟩)], [(0, .c (ci n)), (1, .c (ci a)), (2, .c (ci b)), (7, .ref 11), (8, .c (ci v8_1))], 40⟩) H1 m1 ⟨0, ([] : List (List Int)), ghe_to (n := 40) rfl rfl ⟨rfl, rfl, rfl, rfl, rfl, trivial⟩, q1⟩ ?_
  rintro v8_1 o11_1 q1
  replace h := h v8_1 o11_1 q1
  refine aw_seq ?_
  refine aw_seq ?_
  refine aw_region ?_
  refine run_s (ss_move rfl) rfl ?_
  refine run_s (ss_move rfl) rfl ?_
  refine run_s (ss_lss rfl rfl) rfl ?_
  refine run_nil ?_
  refine aw_cond rfl (fun q2 => ?_) (fun q2 => ?_)
  · replace h := h.1 (of_decide_eq_true q2)
    refine aw_skip ?_
    refine aw_seq ?_
    refine aw_block ?_
    refine aw_seq ?_
    refine aw_region ?_
    refine run_w (ws_buildSlice (id := 17) (ps := []) rfl rfl (Nat.le_of_ble_eq_true rfl) rfl ⟨rfl, ?_⟩)
    refine run_s (ss_assign rfl) rfl ?_
    refine run_nil ?_
    refine aw_seq ?_
    refine aw_seq ?_
    refine aw_gh (gh_to (n := 40) (σ' := [(17, ⟨ints ([] : List Int), []⟩), (11, ⟨orows o11_1, []⟩)]) (env' := [(0, .c (ci n)), (1, .c (ci a)), (2, .c (ci b)), (7, .ref 11), (8, .c (ci v8_1)), (9, .ref 17)]) rfl rfl ⟨rfl, rfl, rfl, rfl, rfl, rfl, trivial⟩) ?_
    refine aw_region ?_
    refine run_s (ss_assign rfl) rfl ?_
    refine run_nil ?_
    refine aw_block ?_
    obtain ⟨H2, m2, q3, h⟩ := h
    refine aw_loop2 (fun (v10_2 : Int) (o17_2 : List Int) => ⟨[(17, ⟨ints o17_2, []⟩), (11, ⟨orows o11_1, []⟩)], [(0, .c (ci n)), (1, .c (ci a)), (2, .c (ci b)), (7, .ref 11), (8, .c (ci v8_1)), (9, .ref 17), (10, .c (ci v10_2))], 40⟩) H2 m2 ⟨0, ([] : List Int), ghe_to (n := 40) rfl rfl ⟨rfl, rfl, rfl, rfl, rfl, rfl, rfl, trivial⟩, q3⟩ ?_
    rintro v10_2 o17_2 q3
    replace h := h v10_2 o17_2 q3
    refine aw_seq ?_
    refine aw_seq ?_
    refine aw_region ?_
    refine run_s (ss_move rfl) rfl ?_
    refine run_s (ss_move rfl) rfl ?_
    refine run_s (ss_lss rfl rfl) rfl ?_
    refine run_nil ?_
    refine aw_cond rfl (fun q4 => ?_) (fun q4 => ?_)
    · replace h := h.1 (of_decide_eq_true q4)
      refine aw_skip ?_
      refine aw_seq ?_
      refine aw_block ?_
      refine aw_region ?_
      refine run_s (ss_move rfl) rfl ?_
      refine run_s (ss_move rfl) rfl ?_
      refine run_s (ss_move rfl) rfl ?_
      obtain ⟨q5, h⟩ := h
      refine run_s (ss_mul rfl rfl q5) rfl ?_
      refine run_s (ss_move rfl) rfl ?_
      refine run_s (ss_move rfl) rfl ?_
      obtain ⟨q6, h⟩ := h
      refine run_s (ss_mul rfl rfl q6) rfl ?_
      obtain ⟨q7, h⟩ := h
      refine run_s (ss_add rfl rfl q7) rfl ?_
      refine run_s (ss_move rfl) rfl ?_
      obtain ⟨q8, h⟩ := h
      refine run_s (ss_rem rfl rfl q8) rfl ?_
      refine run_w (ws_buildSlice (id := 33) (ps := [(0, .tmp 32)]) rfl rfl (Nat.le_of_ble_eq_true rfl) rfl ⟨rfl, ?_⟩)
      obtain ⟨q9, h⟩ := h
      refine run_w (ws_app1 ci (l := o17_2) (m := [((b * v8_1) + (a * v10_2)) % n]) rfl rfl rfl rfl rfl (Nat.le_of_ble_eq_true rfl) q9 ⟨rfl, ?_⟩)
      refine run_s (ss_assign rfl) rfl ?_
      refine run_nil ?_
      refine aw_gh (gh_to (n := 40) (σ' := [(17, ⟨ints (o17_2 ++ ([((b * v8_1) + (a * v10_2)) % n])), []⟩), (11, ⟨orows o11_1, []⟩)]) (env' := [(0, .c (ci n)), (1, .c (ci a)), (2, .c (ci b)), (7, .ref 11), (8, .c (ci v8_1)), (9, .ref 17), (10, .c (ci v10_2))]) rfl rfl ⟨rfl, rfl, rfl, rfl, rfl, rfl, rfl, trivial⟩) ?_
      refine aw_region ?_
      refine run_s (ss_move rfl) rfl ?_
      obtain ⟨q10, h⟩ := h
      refine run_s (ss_add rfl rfl q10) rfl ?_
      refine run_s (ss_assign rfl) rfl ?_
      refine run_nil ?_
      exact ⟨v10_2 + 1, o17_2 ++ ([((b * v8_1) + (a * v10_2)) % n]), ghe_to (n := 40) rfl rfl ⟨rfl, rfl, rfl, rfl, rfl, rfl, rfl, trivial⟩, h.1, h.2⟩
    · replace h := h.2 (of_decide_eq_false q4)
      refine aw_exit ?_
      refine aw_region ?_
      refine run_s (ss_move rfl) rfl ?_
      refine run_s (ss_move rfl) rfl ?_
      refine run_w (ws_buildSlice (id := 37) (ps := [(0, .tmp 36)]) rfl rfl (Nat.le_of_ble_eq_true rfl) rfl ⟨rfl, ?_⟩)
      refine run_gh (gh_fill (id := 37) (id2 := 17) (j := 0) rfl rfl (Nat.le_of_ble_eq_true rfl) rfl rfl rfl) ?_
      obtain ⟨q11, h⟩ := h
      refine run_w (ws_app1 (fun r => C.own (ints r)) (l := o11_1) (m := [o17_2]) rfl rfl rfl rfl rfl (Nat.le_of_ble_eq_true rfl) q11 ⟨rfl, ?_⟩)
      refine run_s (ss_assign rfl) rfl ?_
      refine run_nil ?_
      refine aw_gh (gh_to (n := 40) (σ' := [(11, ⟨orows (o11_1 ++ ([o17_2])), []⟩)]) (env' := [(0, .c (ci n)), (1, .c (ci a)), (2, .c (ci b)), (7, .ref 11), (8, .c (ci v8_1))]) rfl rfl ⟨rfl, rfl, rfl, rfl, rfl, trivial⟩) ?_
      refine aw_region ?_
      refine run_s (ss_move rfl) rfl ?_
      obtain ⟨q12, h⟩ := h
      refine run_s (ss_add rfl rfl q12) rfl ?_
      refine run_s (ss_assign rfl) rfl ?_
      refine run_nil ?_
      exact ⟨v8_1 + 1, o11_1 ++ ([o17_2]), ghe_to (n := 40) rfl rfl ⟨rfl, rfl, rfl, rfl, rfl, trivial⟩, h.1, h.2⟩
  · replace h := h.2 (of_decide_eq_false q2)
    refine aw_exit ?_
    refine aw_seq ?_
    refine aw_gh (gh_to (n := 40) (σ' := [(11, ⟨orows o11_1, []⟩)]) (env' := [(7, .ref 11)]) rfl rfl ⟨rfl, trivial⟩) ?_
    refine aw_region ?_
    refine run_s (ss_move rfl) rfl ?_
    refine run_s (ss_assign rfl) rfl ?_
    refine run_nil ?_
    refine aw_ret ?_
    exact retAF_mk (retv1 rfl (rv_tmp rfl)) rfl rfl ⟨_, (cle_refl _), _, h, rfl⟩

theorem c_spec_l03Alexander (n : Int) (a : Int) (b : Int) (hp : 1 ≤ n ∧ n ≤ 1000 ∧ 0 ≤ a ∧ a ≤ 1000 ∧ 0 ≤ b ∧ b ≤ 1000) : AF Try.prog 204 [ci n, ci a, ci b] (fun R_ => R_ = .own (orows (tab n (fun x_ y_ => (b * x_ + a * y_) % n)))) :=
  (w_spec_l03Alexander n a b (fun y0 => y0 = tab n (fun x_ y_ => (b * x_ + a * y_) % n)) (p_spec_l03Alexander n a b hp)).mono (by rintro r ⟨_, rfl, rfl⟩; rfl)

end Go.Proofs.Ytbodlnpmplcaoaa
