/- The conditions of some functions hold, the second part: plain proofs; no condition. -/
import Derived.Test.YtkekjlgidlbbcaaDb
namespace Go.Proofs.Ytkekjlgidlbbcaa

theorem p_spec_l01Index (list : List Int) (n : Int) (hp : small list) : wp_spec_l01Index list n (fun y0 => y0 = idxI list n) := by
  unfold wp_spec_l01Index idxI
  refine ⟨fun i => 0 ≤ i ∧ i ≤ (list.length : Int) ∧ Upto i fun j => (el list j == n) = false, fun i => ((list.length : Int) - i).toNat, ⟨by omega, by omega, upto0⟩, ?_⟩
  rintro i ⟨h0, h1, hI⟩
  dsimp only
  refine ⟨fun hlt => ⟨⟨h0, hlt⟩, fun hf => (idxF_found ⟨h0, hlt⟩ hI (by simpa using hf)).symm, fun ht => ⟨⟨by omega, by omega⟩, ⟨by omega, by omega, upto1 hI (by simpa using ht)⟩, by omega⟩⟩, fun hge => ?_⟩
  exact (idxF_none (by rwa [show i = (list.length : Int) by omega] at hI)).symm
theorem p_spec_l01Has (list : List Int) (n : Int) (hp : small list) : wp_spec_l01Has list n (fun y0 => y0 = list.contains n) := ⟨hp, idxI_has⟩
theorem p_spec_l01Perm (p : List Int) (hp : small p) : wp_spec_l01Perm p (fun y0 => y0 = permB p) := by
  unfold wp_spec_l01Perm permB
  refine ⟨fun h => by rw [h]; rfl, fun h => ?_⟩
  rw [h]
  refine ⟨fun i => 0 ≤ i ∧ i ≤ (p.length : Int) ∧ Upto i fun j => j ∈ p, fun i => ((p.length : Int) - i).toNat, ⟨by omega, by omega, upto0⟩, ?_⟩
  rintro i ⟨h0, h1, hI⟩
  dsimp only
  refine ⟨fun hlt => ⟨hp, fun hf => ?_, fun ht => ⟨⟨by omega, by omega⟩, ⟨by omega, by omega, upto1 hI (List.contains_iff_mem.1 ht)⟩, by omega⟩⟩, fun hge => ?_⟩
  · cases hb : isPerm p with
    | false => rfl
    | true => rw [List.contains_iff_mem.2 (isPerm_all hb ⟨h0, hlt⟩)] at hf; cases hf
  · rw [isPerm_of_all fun x a b => hI x a (by omega)]; rfl
theorem p_spec_l01Own (list : List Int) (hp : small list) : wp_spec_l01Own list (fun y0 => y0 = list) := ⟨by simp; omega, rfl⟩
theorem p_impl_IsPermutation (p : List Int) (hp : small p) : wp_impl_IsPermutation p (fun y0 => y0 = permB p) := by
  unfold wp_impl_IsPermutation permB
  exact ⟨fun h => ⟨hp, by rw [h]; rfl⟩, fun h => by rw [h]; rfl⟩
theorem p_spec_l01Table (t : List (List Int)) (hp : small2 t) : wp_spec_l01Table t (fun y0 => y0 = isTab t) := by
  unfold wp_spec_l01Table
  refine ⟨fun h => by unfold isTab; rw [h]; rfl, fun h => ?_⟩
  simp only [Bool.and_eq_true, decide_eq_true_eq] at h
  have nt : ∀ i, (0 ≤ i ∧ i < (t.length : Int)) → (((el t i).length : Int) ≠ (t.length : Int) ∨ ∃ j, (0 ≤ j ∧ j < (t.length : Int)) ∧ ¬ (0 ≤ el (el t i) j ∧ el (el t i) j < (t.length : Int))) → false = isTab t := by
    intro i hi hn
    cases hb : isTab t with
    | false => rfl
    | true =>
      have := isTab_row hb hi
      rcases hn with hn | ⟨j, hj, hn⟩
      · exact absurd this.1 hn
      · exact absurd (this.2 j hj.1 hj.2) hn
  refine ⟨fun i => 0 ≤ i ∧ i ≤ (t.length : Int) ∧ Upto i fun i => ((el t i).length : Int) = (t.length : Int) ∧ ∀ j, 0 ≤ j → j < (t.length : Int) → 0 ≤ el (el t i) j ∧ el (el t i) j < (t.length : Int), fun i => ((t.length : Int) - i).toNat, ⟨by omega, by omega, upto0⟩, ?_⟩
  rintro i ⟨h0, h1, hI⟩
  dsimp only
  refine ⟨fun hlt => ⟨⟨h0, hlt⟩, fun hf => nt i ⟨h0, hlt⟩ (.inl hf), fun hr => ?_⟩, fun hge => (isTab_mk h fun i a b => hI i a (by omega)).symm⟩
  refine ⟨fun j => 0 ≤ j ∧ j ≤ (t.length : Int) ∧ Upto j fun j => 0 ≤ el (el t i) j ∧ el (el t i) j < (t.length : Int), fun j => ((t.length : Int) - j).toNat, ⟨by omega, by omega, upto0⟩, ?_⟩
  rintro j ⟨j0, j1, jI⟩
  dsimp only
  refine ⟨fun jlt => ⟨⟨h0, hlt⟩, ⟨j0, by omega⟩, ⟨by omega, by omega⟩, fun hf => ?_, fun ht => ?_⟩, fun jge => ⟨⟨by omega, by omega⟩, ⟨by omega, by omega, upto1 hI ⟨hr, fun j a b => jI j a (by omega)⟩⟩, by omega⟩⟩
  · simp only [Bool.and_eq_false_iff, decide_eq_false_iff_not] at hf
    exact nt i ⟨h0, hlt⟩ (.inr ⟨j, ⟨j0, jlt⟩, by omega⟩)
  · simp only [Bool.and_eq_true, decide_eq_true_eq] at ht
    exact ⟨⟨by omega, by omega⟩, ⟨by omega, by omega, upto1 jI ⟨ht.1, by omega⟩⟩, by omega⟩

theorem gcdI_step {a b : Int} (ha : 0 ≤ a) (hb : 0 < b) : gcdI a b = gcdI b (a % b) := by
  obtain ⟨m, rfl⟩ := Int.eq_ofNat_of_zero_le ha
  obtain ⟨n, rfl⟩ := Int.eq_ofNat_of_zero_le (Int.le_of_lt hb)
  have e : ((m : Int) % (n : Int)) = ((m % n : Nat) : Int) := rfl
  unfold gcdI
  rw [e]
  simp only [Int.gcd, Int.natAbs_natCast]
  rw [Nat.gcd_comm m n, Nat.gcd_rec n m, Nat.gcd_comm]
theorem p_impl_divisorOf (a b : Int) (hp : 0 ≤ a ∧ 0 ≤ b) : wp_impl_divisorOf a b (fun y0 => y0 = gcdI a b) := by
  unfold wp_impl_divisorOf
  refine ⟨fun u v => 0 ≤ u ∧ 0 ≤ v ∧ gcdI u v = gcdI a b, fun _ v => v.toNat, ⟨hp.1, hp.2, rfl⟩, ?_⟩
  rintro u v ⟨h0, h1, hI⟩
  dsimp only
  refine ⟨fun hlt => ?_, fun hge => ?_⟩
  · have m1 := Int.emod_nonneg u (show v ≠ 0 by omega)
    have m2 := Int.emod_lt_of_pos u hlt
    exact ⟨⟨h0, hlt⟩, ⟨h1, m1, by rw [← gcdI_step h0 hlt]; exact hI⟩, by omega⟩
  · have : v = 0 := by omega
    subst this
    rw [← hI]; simp [gcdI, Int.gcd]; omega
theorem p_spec_l03Coprime (a n : Int) (hp : 0 ≤ a ∧ 1 ≤ n ∧ n ≤ 1000) : wp_spec_l03Coprime a n (fun y0 => y0 = !decide (1 < gcdI n a)) := by
  unfold wp_spec_l03Coprime
  obtain ⟨h1, h2, h3⟩ := hp
  refine ⟨fun v => 2 ≤ v ∧ v ≤ n + 2 ∧ ∀ d, 2 ≤ d → d < v → ¬ (a % d = 0 ∧ n % d = 0), fun v => (n + 2 - v).toNat, ⟨by omega, by omega, fun d a b => by omega⟩, ?_⟩
  rintro v ⟨v0, v1, vI⟩
  dsimp only
  have st : ¬ (a % v = 0 ∧ n % v = 0) → ∀ d, 2 ≤ d → d < v + 1 → ¬ (a % d = 0 ∧ n % d = 0) := fun hn d d1 d2 => by
    by_cases e : d = v
    · subst e; exact hn
    · exact vI d d1 (by omega)
  refine ⟨fun hlt => ⟨⟨h1, by omega⟩, fun ha => ⟨⟨by omega, by omega⟩, fun hn => ?_, fun hn => ⟨⟨by omega, by omega⟩, ⟨by omega, by omega, st fun h => hn h.2⟩, by omega⟩⟩, fun ha => ⟨⟨by omega, by omega⟩, ⟨by omega, by omega, st fun h => ha h.1⟩, by omega⟩⟩, fun hge => ?_⟩
  · have d1 : v ∣ a := Int.dvd_of_emod_eq_zero ha
    have d2 : v ∣ n := Int.dvd_of_emod_eq_zero hn
    have d3 : v ∣ gcdI n a := Int.dvd_coe_gcd d2 d1
    have d4 : 0 < gcdI n a := by
      have : 0 < Int.gcd n a := Int.gcd_pos_of_ne_zero_left _ (by omega)
      unfold gcdI; omega
    have := Int.le_of_dvd d4 d3
    simp; omega
  · have g1 : gcdI n a ∣ n := Int.gcd_dvd_left ..
    have g2 : gcdI n a ∣ a := Int.gcd_dvd_right ..
    have g3 := Int.le_of_dvd (by omega) g1
    have : ¬ 1 < gcdI n a := fun h => vI _ (by omega) (by omega) ⟨Int.emod_eq_zero_of_dvd g2, Int.emod_eq_zero_of_dvd g1⟩
    simp; omega

theorem mulA {a i : Int} (ha : 0 ≤ a ∧ a ≤ 1000) (hi : 0 ≤ i ∧ i ≤ 1000) : 0 ≤ a * i ∧ a * i ≤ 1000000 := by
  have := mulB (a := a) (i := i) (A := 1000) (B := 1000) ⟨ha.1, ha.2, hi.1, hi.2⟩
  omega
theorem p_spec_l03Alexander (n a b : Int) (hp : 1 ≤ n ∧ n ≤ 1000 ∧ 0 ≤ a ∧ a ≤ 1000 ∧ 0 ≤ b ∧ b ≤ 1000) : wp_spec_l03Alexander n a b (fun y0 => y0 = tab n (fun x_ y_ => (b * x_ + a * y_) % n)) := by
  unfold wp_spec_l03Alexander
  obtain ⟨h1, h2, h3, h4, h5, h6⟩ := hp
  refine ⟨fun i o => 0 ≤ i ∧ i ≤ n ∧ o.length = i.toNat ∧ Upto i fun x => el o x = ran n fun y => (b * x + a * y) % n, fun i _ => (n - i).toNat, ⟨by omega, by omega, by simp, upto0⟩, ?_⟩
  rintro i o ⟨i0, i1, il, iI⟩
  dsimp only
  refine ⟨fun ilt => ?_, fun ige => eq_ran (by omega) fun j a b => iI j a (by omega)⟩
  refine ⟨fun j q => 0 ≤ j ∧ j ≤ n ∧ q.length = j.toNat ∧ Upto j fun y => el q y = (b * i + a * y) % n, fun j _ => (n - j).toNat, ⟨by omega, by omega, by simp, upto0⟩, ?_⟩
  rintro j q ⟨j0, j1, jl, jI⟩
  dsimp only
  have m1 := mulA (a := b) (i := i) ⟨h5, h6⟩ ⟨i0, by omega⟩
  have m2 := mulA (a := a) (i := j) ⟨h3, h4⟩ ⟨j0, by omega⟩
  refine ⟨fun jlt => ⟨⟨by omega, by omega⟩, ⟨by omega, by omega⟩, ⟨by omega, by omega⟩, ⟨by omega, by omega⟩, by simp; omega, ⟨by omega, by omega⟩, ⟨by omega, by omega, by simp; omega, app1 (by omega) jI rfl⟩, by omega⟩, fun jge => ?_⟩
  have hq : q = ran n fun y => (b * i + a * y) % n := eq_ran (by omega) fun k a b => jI k a (by omega)
  exact ⟨by simp; omega, ⟨by omega, by omega⟩, ⟨by omega, by omega, by simp; omega, app1 (f := fun x => ran n fun y => (b * x + a * y) % n) (by omega) iI hq⟩, by omega⟩

theorem p_impl_rackBy_1 (x y : Int) (value : Int → Int → Int) (value_D : Int → Int → Prop) (hp : value_D x y ∧ InI (value x y)) : wp_impl_rackBy_1 x y value value_D (fun y0 => y0 = value x y) := ⟨hp.1, rfl⟩
theorem p_impl_rackBy (n : Int) (value : Int → Int → Int) (value_D : Int → Int → Prop) (hp : 0 ≤ n ∧ n ≤ 1000000 ∧ ∀ x_ y_, 0 ≤ x_ → x_ < n → 0 ≤ y_ → y_ < n → value_D x_ y_ ∧ InI (value x_ y_)) : wp_impl_rackBy n value value_D (fun y0 => y0 = tab n value) := ⟨hp, rfl⟩
theorem p_impl_TrivialRack_1 (x y : Int) : wp_impl_TrivialRack_1 x y (fun y0 => y0 = y) := rfl
theorem p_impl_DihedralQuandle_1 (x y n : Int) (hp : 1 ≤ n ∧ n ≤ 1000 ∧ 0 ≤ x ∧ x < n ∧ 0 ≤ y ∧ y < n) : wp_impl_DihedralQuandle_1 x y n (fun y0 => y0 = (2 * x - y + n) % n) := by
  unfold wp_impl_DihedralQuandle_1
  exact ⟨⟨by omega, by omega⟩, ⟨by omega, by omega⟩, ⟨by omega, by omega⟩, ⟨by omega, by omega⟩, rfl⟩
theorem p_impl_AlexanderQuandle_1 (x y m b : Int) (hp : 1 ≤ m ∧ m ≤ 1000 ∧ 0 ≤ b ∧ b < m ∧ 0 ≤ x ∧ x < m ∧ 0 ≤ y ∧ y < m) : wp_impl_AlexanderQuandle_1 x y m b (fun y0 => y0 = ((m + 1 - b) * x + b * y) % m) := by
  unfold wp_impl_AlexanderQuandle_1
  have m1 := mulB (a := m + 1 - b) (i := x) (A := 1001) (B := 1000) ⟨by omega, by omega, by omega, by omega⟩
  have m2 := mulA (a := b) (i := y) ⟨by omega, by omega⟩ ⟨by omega, by omega⟩
  exact ⟨⟨by omega, by omega⟩, ⟨by omega, by omega⟩, ⟨by omega, by omega⟩, ⟨by omega, by omega⟩, ⟨by omega, by omega⟩, ⟨by omega, by omega⟩, rfl⟩
theorem p_impl_PermutationRack_1 (x y : Int) (p : List Int) (hp : 0 ≤ y ∧ y < (p.length : Int) ∧ InI (el p y)) : wp_impl_PermutationRack_1 x y p (fun y0 => y0 = el p y) := ⟨⟨hp.1, hp.2.1⟩, rfl⟩

theorem inR_t {n : Int} (h : (decide (1 ≤ n) && decide (n ≤ 12)) = true) : inR n := by simpa [inR] using h
theorem inR_f {n : Int} (h : (decide (1 ≤ n) && decide (n ≤ 12)) = false) : ¬ inR n := fun h2 => by simp [h2.1, h2.2] at h
theorem rem_mul' (a n j : Int) : (a % n * j) % n = (a * j) % n := by rw [Int.mul_emod, Int.emod_emod, ← Int.mul_emod]
theorem p_spec_TrivialRack (n : Int) : wp_spec_TrivialRack n (fun y0 y1 => y0 = TrivT n ∧ y1 = TrivE n) := by
  unfold wp_spec_TrivialRack TrivT TrivE
  refine ⟨fun h => ?_, fun h => ?_⟩
  · rw [if_neg (inR_f h), if_neg (inR_f h)]; exact ⟨rfl, rfl⟩
  · have hn := inR_t h
    rw [if_pos hn, if_pos hn]
    have m1 := Int.emod_nonneg 1 (show n ≠ 0 by omega)
    have m2 := Int.emod_lt_of_pos 1 (show 0 < n by omega)
    refine ⟨⟨by omega, by omega⟩, ⟨by omega, by omega, m1, by omega, by omega, by omega⟩, tab_congr fun i j _ _ h2 h3 => ?_, rfl⟩
    rw [Int.zero_mul, Int.zero_add, rem_mul', Int.one_mul, Int.emod_eq_of_lt h2 h3]
theorem p_impl_TrivialRack (n : Int) : wp_impl_TrivialRack n (fun y0 y1 => y0 = TrivT n ∧ y1 = TrivE n) := by
  unfold wp_impl_TrivialRack TrivT TrivE
  refine ⟨fun h => ?_, fun h => ?_⟩
  · rw [if_neg (inR_f h), if_neg (inR_f h)]; exact ⟨rfl, rfl⟩
  · have hn := inR_t h
    rw [if_pos hn, if_pos hn]
    exact ⟨⟨by omega, by omega, fun x y a b c d => ⟨trivial, by dsimp only; omega, by dsimp only; omega⟩⟩, rfl, rfl⟩
theorem p_spec_DihedralQuandle (n : Int) : wp_spec_DihedralQuandle n (fun y0 y1 => y0 = DiheT n ∧ y1 = TrivE n) := by
  unfold wp_spec_DihedralQuandle DiheT TrivE
  refine ⟨fun h => ?_, fun h => ?_⟩
  · rw [if_neg (inR_f h), if_neg (inR_f h)]; exact ⟨rfl, rfl⟩
  · have hn := inR_t h
    rw [if_pos hn, if_pos hn]
    have m1 := Int.emod_nonneg 2 (show n ≠ 0 by omega)
    have m2 := Int.emod_lt_of_pos 2 (show 0 < n by omega)
    refine ⟨⟨by omega, by omega⟩, ⟨by omega, by omega⟩, ⟨by omega, by omega, by omega, by omega, m1, by omega⟩, tab_congr fun i j _ _ _ _ => ?_, rfl⟩
    rw [Int.add_emod, rem_mul', ← Int.add_emod]
    have e : 2 * i + (n - 1) * j = 2 * i - j + n + n * (j - 1) := by rw [Int.sub_mul, Int.mul_sub]; omega
    rw [e, Int.add_mul_emod_self_left]
theorem p_impl_DihedralQuandle (n : Int) : wp_impl_DihedralQuandle n (fun y0 y1 => y0 = DiheT n ∧ y1 = TrivE n) := by
  unfold wp_impl_DihedralQuandle DiheT TrivE
  refine ⟨fun h => ?_, fun h => ?_⟩
  · rw [if_neg (inR_f h), if_neg (inR_f h)]; exact ⟨rfl, rfl⟩
  · have hn := inR_t h
    rw [if_pos hn, if_pos hn]
    refine ⟨⟨by omega, by omega, fun x y a b c d => ⟨⟨by omega, by omega, a, b, c, d⟩, ?_⟩⟩, rfl, rfl⟩
    have m1 := Int.emod_nonneg (2 * x - y + n) (show n ≠ 0 by omega)
    have m2 := Int.emod_lt_of_pos (2 * x - y + n) (show 0 < n by omega)
    constructor <;> dsimp only <;> omega
theorem alex2 {n a : Int} (h : ¬ (inR n ∧ 0 ≤ a ∧ a < n)) : [] = AlexT n a ∧ 2 = AlexE n a := by
  have e : AlexE n a = 2 := by unfold AlexE; rw [if_pos h]
  exact ⟨by unfold AlexT; rw [e]; rfl, e.symm⟩
theorem alex5 {n a : Int} (h : inR n ∧ 0 ≤ a ∧ a < n) (hg : 1 < gcdI n a) : [] = AlexT n a ∧ 5 = AlexE n a := by
  have e : AlexE n a = 5 := by unfold AlexE; rw [if_neg fun h2 => h2 h, if_pos hg]
  exact ⟨by unfold AlexT; rw [e]; rfl, e.symm⟩
theorem alex0 {n a : Int} (h : inR n ∧ 0 ≤ a ∧ a < n) (hg : ¬ 1 < gcdI n a) : tab n (fun x y => ((n + 1 - a) * x + a * y) % n) = AlexT n a ∧ 0 = AlexE n a := by
  have e : AlexE n a = 0 := by unfold AlexE; rw [if_neg fun h2 => h2 h, if_neg hg]
  exact ⟨by unfold AlexT; rw [if_pos e], e.symm⟩
theorem p_spec_AlexanderQuandle (n a : Int) (hp : InI n) : wp_spec_AlexanderQuandle n a (fun y0 y1 => y0 = AlexT n a ∧ y1 = AlexE n a) := by
  unfold wp_spec_AlexanderQuandle
  refine ⟨fun h => alex2 fun h2 => inR_f h h2.1, fun h => ?_⟩
  have hn := inR_t h
  refine ⟨⟨by omega, by omega⟩, fun ha => alex2 fun h2 => by simp at ha; omega, fun ha => ?_⟩
  simp only [Bool.and_eq_true, decide_eq_true_eq] at ha
  refine ⟨⟨ha.1, by omega, by omega⟩, fun hg => ?_, fun hg => ?_⟩
  · simp only [Bool.not_eq_false', decide_eq_true_eq] at hg
    exact alex5 ⟨hn, ha.1, by omega⟩ hg
  · simp only [Bool.not_eq_true', decide_eq_false_iff_not] at hg
    have m1 := Int.emod_nonneg ((1 - a) + n) (show n ≠ 0 by omega)
    have m2 := Int.emod_lt_of_pos ((1 - a) + n) (show 0 < n by omega)
    refine ⟨⟨by omega, by omega⟩, ⟨by omega, by omega⟩, ⟨by omega, by omega⟩, ⟨by omega, by omega, by omega, by omega, m1, by omega⟩, ?_⟩
    have := alex0 ⟨hn, ha.1, by omega⟩ hg
    rw [← this.1]
    refine ⟨tab_congr fun i j _ _ _ _ => ?_, this.2⟩
    rw [Int.add_emod, rem_mul', ← Int.add_emod]
    congr 2
    rw [show 1 - a + n = n + 1 - a by omega]
theorem p_impl_AlexanderQuandle (n a : Int) (hp : InI n) : wp_impl_AlexanderQuandle n a (fun y0 y1 => y0 = AlexT n a ∧ y1 = AlexE n a) := by
  unfold wp_impl_AlexanderQuandle
  refine ⟨fun h => alex2 fun h2 => inR_f h h2.1, fun h => ?_⟩
  have hn := inR_t h
  refine ⟨⟨by omega, by omega⟩, fun ha => alex2 fun h2 => by simp at ha; omega, fun ha => ?_⟩
  simp only [Bool.and_eq_true, decide_eq_true_eq] at ha
  refine ⟨⟨by omega, ha.1⟩, fun hg => alex5 ⟨hn, ha.1, by omega⟩ hg, fun hg => ⟨⟨by omega, by omega, fun x y b c d e => ⟨⟨by omega, by omega, by omega, by omega, b, c, d, e⟩, ?_⟩⟩, alex0 ⟨hn, ha.1, by omega⟩ hg⟩⟩
  have m1 := Int.emod_nonneg ((n + 1 - a) * x + a * y) (show n ≠ 0 by omega)
  have m2 := Int.emod_lt_of_pos ((n + 1 - a) * x + a * y) (show 0 < n by omega)
  constructor <;> dsimp only <;> omega
theorem permB_len {p : List Int} (h : permB p = true) : 1 ≤ (p.length : Int) ∧ (p.length : Int) ≤ 12 := by
  simp only [permB, Bool.and_eq_true, decide_eq_true_eq] at h; exact h.1
theorem permB_isPerm {p : List Int} (h : permB p = true) : isPerm p = true := by
  simp only [permB, Bool.and_eq_true] at h; exact h.2
theorem permB_el {p : List Int} (h : permB p = true) {i : Int} (hi : 0 ≤ i ∧ i < (p.length : Int)) : 0 ≤ el p i ∧ el p i < (p.length : Int) := (isPerm_iff.1 (permB_isPerm h)).2 _ (el_mem hi)
theorem p_spec_PermutationRack (p : List Int) (hp : small p) : wp_spec_PermutationRack p (fun y0 y1 => y0 = PermT p ∧ y1 = PermE p) := by
  unfold wp_spec_PermutationRack PermT PermE
  refine ⟨hp, fun h => by rw [h]; exact ⟨rfl, rfl⟩, fun h => ?_⟩
  have hl := permB_len h
  rw [h]
  refine ⟨fun i o => 0 ≤ i ∧ i ≤ (p.length : Int) ∧ o.length = i.toNat ∧ Upto i fun x => el o x = ran (p.length : Int) (el p), fun i _ => ((p.length : Int) - i).toNat, ⟨by omega, by omega, by simp, upto0⟩, ?_⟩
  rintro i o ⟨i0, i1, il, iI⟩
  dsimp only
  refine ⟨fun ilt => ⟨hp, by simp; omega, ⟨by omega, by omega⟩, ⟨by omega, by omega, by simp; omega, app1 (f := fun _ => ran (p.length : Int) (el p)) (by omega) iI (ran_el p).symm⟩, by omega⟩, fun ige => ⟨eq_ran (by omega) fun j a b => iI j a (by omega), rfl⟩⟩
theorem p_impl_PermutationRack (p : List Int) (hp : small p) : wp_impl_PermutationRack p (fun y0 y1 => y0 = PermT p ∧ y1 = PermE p) := by
  unfold wp_impl_PermutationRack PermT PermE
  refine ⟨hp, fun h => by rw [h]; exact ⟨rfl, rfl⟩, fun h => ?_⟩
  have hl := permB_len h
  rw [h]
  refine ⟨⟨by omega, by omega, fun x y a b c d => ?_⟩, rfl, rfl⟩
  have := permB_el h ⟨c, d⟩
  exact ⟨⟨c, d, by omega, by omega⟩, by dsimp only; omega, by dsimp only; omega⟩
theorem p_spec_l05Squares (t : List (List Int)) (hp : isTab t = true) : wp_spec_l05Squares t (fun y0 => y0 = diag t) := by
  unfold wp_spec_l05Squares
  have hn := isTab_len hp
  refine ⟨fun i o => 0 ≤ i ∧ i ≤ (t.length : Int) ∧ o.length = i.toNat ∧ Upto i fun x => el o x = el (el t x) x, fun i _ => ((t.length : Int) - i).toNat, ⟨by omega, by omega, by simp, upto0⟩, ?_⟩
  rintro i o ⟨i0, i1, il, iI⟩
  dsimp only
  refine ⟨fun ilt => ?_, fun ige => eq_ran (by omega) fun j a b => iI j a (by omega)⟩
  have hr := isTab_row hp ⟨i0, ilt⟩
  exact ⟨⟨i0, ilt⟩, ⟨i0, by omega⟩, by simp; omega, ⟨by omega, by omega⟩, ⟨by omega, by omega, by simp; omega, app1 (f := fun x => el (el t x) x) (by omega) iI rfl⟩, by omega⟩
theorem p_spec_l05Fault (t : List (List Int)) (hp : isTab t = true) : wp_spec_l05Fault t (fun y0 => y0 = cycF t) := by
  unfold wp_spec_l05Fault cycF
  have hn := isTab_len hp
  have tr := fun (i : Int) (hi : 0 ≤ i ∧ i < (t.length : Int)) => isTab_row hp hi
  refine ⟨fun x => 0 ≤ x ∧ x ≤ (t.length : Int) ∧ Upto x fun a => ∀ b, 0 ≤ b → b < (t.length : Int) → ∀ c, 0 ≤ c → c < (t.length : Int) → cycB t a b c = false, fun x => ((t.length : Int) - x).toNat, ⟨by omega, by omega, upto0⟩, ?_⟩
  rintro x ⟨x0, x1, xI⟩
  dsimp only
  refine ⟨fun xlt => ?_, fun xge => (first3_none fun a h1 h2 => xI a h1 (by omega)).symm⟩
  refine ⟨fun y => 0 ≤ y ∧ y ≤ (t.length : Int) ∧ Upto y fun b => ∀ c, 0 ≤ c → c < (t.length : Int) → cycB t x b c = false, fun y => ((t.length : Int) - y).toNat, ⟨by omega, by omega, upto0⟩, ?_⟩
  rintro y ⟨y0, y1, yI⟩
  dsimp only
  refine ⟨fun ylt => ?_, fun yge => ⟨⟨by omega, by omega⟩, ⟨by omega, by omega, upto1 xI fun b h1 h2 => yI b h1 (by omega)⟩, by omega⟩⟩
  refine ⟨fun z => 0 ≤ z ∧ z ≤ (t.length : Int) ∧ Upto z fun c => cycB t x y c = false, fun z => ((t.length : Int) - z).toNat, ⟨by omega, by omega, upto0⟩, ?_⟩
  rintro z ⟨z0, z1, zI⟩
  dsimp only
  refine ⟨fun zlt => ?_, fun zge => ⟨⟨by omega, by omega⟩, ⟨by omega, by omega, upto1 yI fun c h1 h2 => zI c h1 (by omega)⟩, by omega⟩⟩
  have hx := tr x ⟨x0, xlt⟩
  have hy := tr y ⟨y0, ylt⟩
  have xy := hx.2 y y0 ylt
  have xz := hx.2 z z0 zlt
  have yx := hy.2 x x0 xlt
  have yz := hy.2 z z0 zlt
  have r1 := tr _ xy
  have r2 := tr _ yx
  refine ⟨⟨x0, xlt⟩, ⟨x0, xlt⟩, ⟨y0, ylt⟩, ⟨y0, ylt⟩, ⟨y0, by omega⟩, xy, ⟨z0, by omega⟩, ⟨xz.1, by omega⟩, ⟨x0, by omega⟩, yx, ⟨z0, by omega⟩, ⟨yz.1, by omega⟩, fun h => ?_, fun h => ⟨⟨by omega, by omega⟩, ⟨by omega, by omega, upto1 zI (by simp [cycB, h])⟩, by omega⟩⟩
  exact (first3_found ⟨x0, xlt⟩ ⟨y0, ylt⟩ ⟨z0, zlt⟩ (by simp [cycB, h]) xI yI zI).symm
theorem p_impl_cycleFault (t : List (List Int)) (hp : isTab t = true) : wp_impl_cycleFault t (fun y0 => y0 = cycF t) := p_spec_l05Fault t hp
theorem p_spec_SquaresOf (c : List (List Int)) (hp : small2 c) : wp_spec_SquaresOf c (fun y0 y1 => y0 = SquaT c ∧ y1 = SquaE c) := by
  unfold wp_spec_SquaresOf SquaT SquaE
  exact ⟨hp, fun h => by rw [h]; exact ⟨rfl, rfl⟩, fun h => by rw [h]; exact ⟨rfl, rfl, rfl⟩⟩
theorem p_impl_SquaresOf (c : List (List Int)) (hp : small2 c) : wp_impl_SquaresOf c (fun y0 y1 => y0 = SquaT c ∧ y1 = SquaE c) := p_spec_SquaresOf c hp
theorem p_spec_CycleFault (c : List (List Int)) (hp : small2 c) : wp_spec_CycleFault c (fun y0 y1 => y0 = CycfT c ∧ y1 = CycfE c) := by
  unfold wp_spec_CycleFault CycfT CycfE
  refine ⟨hp, fun h => by rw [h]; exact ⟨rfl, rfl⟩, fun h => ?_⟩
  rw [h]
  refine ⟨rfl, fun h2 => ?_, fun h2 => ?_⟩
  · have : cycF c = [] := List.eq_nil_of_length_eq_zero (by omega)
    rw [this]; exact ⟨rfl, rfl⟩
  · have : ¬ cycF c = [] := fun e => h2 (by rw [e]; rfl)
    rw [if_neg this]; exact ⟨rfl, rfl⟩
theorem p_impl_CycleFault (c : List (List Int)) (hp : small2 c) : wp_impl_CycleFault c (fun y0 y1 => y0 = CycfT c ∧ y1 = CycfE c) := by
  unfold wp_impl_CycleFault CycfT CycfE
  refine ⟨hp, fun h => by rw [h]; exact ⟨rfl, rfl⟩, fun h => ?_⟩
  rw [h]
  exact ⟨fun h2 => ⟨rfl, by rw [h2]; exact ⟨rfl, rfl⟩⟩, fun h2 => ⟨rfl, rfl, by rw [if_neg h2]; rfl⟩⟩
end Go.Proofs.Ytkekjlgidlbbcaa
