/- Plain definitions, the sixteenth part: quotients by least congruences, racks on least subracks, masks; no condition. -/
import Derived.Test.YtbodlnpmplcaoaaPo
namespace Go.Proofs.Ytbodlnpmplcaoaa
/-! Least congruences. -/
noncomputable def repI (t : List (List Int)) (x y a : Int) : Int := idxF (unitI (t.length : Int)) fun b => dec (Cg t x y a b)
theorem repI_spec {t : List (List Int)} {x y a : Int} (ha : 0 ≤ a ∧ a < (t.length : Int)) : Cg t x y a (repI t x y a) := by
  unfold repI idxF
  have hm : (unitI (t.length : Int)).any (fun b => dec (Cg t x y a b)) = true := List.any_eq_true.2 ⟨a, mem_ran.2 ha, dec_t (.refl a)⟩
  rw [if_pos hm]
  have hlt := List.findIdx_lt_length_of_exists (p := fun b => dec (Cg t x y a b)) (List.any_eq_true.1 hm)
  have h1 := List.findIdx_getElem (w := hlt)
  have h2 : (unitI (t.length : Int))[(unitI (t.length : Int)).findIdx fun b => dec (Cg t x y a b)] = ((unitI (t.length : Int)).findIdx fun b => dec (Cg t x y a b) : Int) := by simp [unitI, ran]
  rw [h2] at h1
  exact dec_iff.1 h1
theorem cgP_ex (t : List (List Int)) (x y : Int) : CgP t x y (cgI t x y) := by
  have hl : ((ran (t.length : Int) (repI t x y)).length : Int) = (t.length : Int) := by simp
  obtain ⟨n1, n2, n3⟩ := num_ex (ran (t.length : Int) (repI t x y))
  refine the_spec (a := numI (ran (t.length : Int) (repI t x y))) ⟨by omega, n2, fun a b ha hb => ?_⟩
  rw [n3 a b ⟨ha.1, by omega⟩ ⟨hb.1, by omega⟩, el_ran ha, el_ran hb]
  constructor
  · intro e
    have h1 := repI_spec (x := x) (y := y) ha
    have h2 := repI_spec (x := x) (y := y) hb
    rw [e] at h1
    exact .trans h1 (.symm h2)
  · intro h
    have : (fun c => dec (Cg t x y a c)) = fun c => dec (Cg t x y b c) := funext fun c => dec_congr ⟨fun g => .trans (.symm h) g, fun g => .trans h g⟩
    unfold repI; rw [this]
theorem can_canB {l : List Int} (h : CanP l) : ∀ (k : Nat) (i : Int), 0 ≤ i → i ≤ (l.length : Int) → ((l.length : Int) - i).toNat = k → canB (mostI (l.take i.toNat)) (dr l i) = true ∧ canN (mostI (l.take i.toNat)) (dr l i) = mostI l := by
  intro k
  induction k with
  | zero =>
    intro i i0 i1 hk
    rw [dr_nil (by omega), List.take_of_length_le (by omega)]
    exact ⟨rfl, rfl⟩
  | succ k ih =>
    intro i i0 i1 hk
    have hlt : i < (l.length : Int) := by omega
    obtain ⟨g1, g2⟩ := ih (i + 1) (by omega) (by omega) (by omega)
    have hc := h i i0 hlt
    have hle : el l i ≤ mostI (l.take i.toNat) := by
      rcases Int.lt_or_le (mostI (l.take i.toNat)) (el l i) with g | g
      · obtain ⟨j, hj, e⟩ := hc.2 _ (most_nonneg _) g
        have hm : el l j ∈ l.take i.toNat := by
          have e1 : el (l.take i.toNat) j = el l j := by
            have := el_sl (l := l) (a := 0) (b := i) (i := j) (by omega) hj.1 (by omega)
            simpa [sl] using this
          rw [← e1]; exact el_mem ⟨hj.1, by simp; omega⟩
        have := most_lt hm
        omega
      · exact g
    have st := most_step ⟨i0, hlt⟩
    have e : (if el l i = mostI (l.take i.toNat) then mostI (l.take i.toNat) + 1 else mostI (l.take i.toNat)) = mostI (l.take (i + 1).toNat) := by
      rw [st]; split <;> split <;> omega
    rw [dr_cons ⟨i0, hlt⟩]
    simp only [canB, canN, e, Bool.and_eq_true, decide_eq_true_eq]
    exact ⟨⟨⟨hc.1, hle⟩, g1⟩, g2⟩
theorem can_part {l : List Int} (h : CanP l) : partB (l.length : Int) l = true ∧ canN 0 l = mostI l := by
  obtain ⟨g1, g2⟩ := can_canB h _ 0 (by omega) (by omega) rfl
  have e : mostI (l.take (0 : Int).toNat) = 0 := rfl
  rw [e, dr0] at g1 g2
  exact ⟨by simp [partB, g1], g2⟩
theorem quo_at {r : List (List Int)} (_h : isRk r = true) {c : List Int} (hc : partB (r.length : Int) c = true) (hC : CongP r c) {a b : Int} (ha : 0 ≤ a ∧ a < (r.length : Int)) (hb : 0 ≤ b ∧ b < (r.length : Int)) : el (el (quoT r c) (el c a)) (el c b) = el c (el (el r a) b) := by
  have hl := partB_len hc
  have hk := partB_can hc
  have ca := can_el hk (i := a) ⟨ha.1, by omega⟩
  have cb := can_el hk (i := b) ⟨hb.1, by omega⟩
  have fa := can_fir hk ca
  have fb := can_fir hk cb
  unfold quoT
  rw [el_tab ca cb]
  unfold quoV firI
  rw [el_ran ca, el_ran cb]
  exact hC _ _ _ _ ⟨fa.1.1, by omega⟩ ⟨fb.1.1, by omega⟩ ha hb fa.2 fb.2
theorem quo_len {r : List (List Int)} (_h : isRk r = true) {c : List Int} (hc : partB (r.length : Int) c = true) (_hC : CongP r c) : ((quoT r c).length : Int) = canN 0 c := len_tab (canN_le (partB_can hc)).1
theorem quo_rep {r : List (List Int)} (_h : isRk r = true) {c : List Int} (hc : partB (r.length : Int) c = true) (_hC : CongP r c) {u : Int} (hu : 0 ≤ u ∧ u < canN 0 c) : ∃ a, (0 ≤ a ∧ a < (r.length : Int)) ∧ el c a = u := by
  have := can_fir (partB_can hc) hu
  exact ⟨_, ⟨this.1.1, by have := partB_len hc; omega⟩, this.2⟩
theorem quo_one {r : List (List Int)} (h : isRk r = true) {c : List Int} (hc : partB (r.length : Int) c = true) (_hC : CongP r c) : 1 ≤ canN 0 c ∧ canN 0 c ≤ 12 := by
  have hn := isTab_len (isRk_tab h)
  have hl := partB_len hc
  have a := can_el (partB_can hc) (i := 0) ⟨by omega, by omega⟩
  have b := canN_le (partB_can hc)
  omega
theorem isTab_quo {r : List (List Int)} (h : isRk r = true) {c : List Int} (hc : partB (r.length : Int) c = true) (hC : CongP r c) : isTab (quoT r c) = true := by
  have h1 := quo_one h hc hC
  refine isTab_mk (by rw [quo_len h hc hC]; exact h1) fun u u0 u1 => ?_
  rw [quo_len h hc hC] at u1 ⊢
  refine ⟨tab_rowlen ⟨u0, u1⟩, fun v v0 v1 => ?_⟩
  obtain ⟨a, ha, rfl⟩ := quo_rep h hc hC ⟨u0, u1⟩
  obtain ⟨b, hb, rfl⟩ := quo_rep h hc hC ⟨v0, v1⟩
  rw [quo_at h hc hC ha hb]
  have := rk_el (isRk_tab h) ha hb
  exact can_el (partB_can hc) ⟨this.1, by have := partB_len hc; omega⟩
theorem isRk_quo {r : List (List Int)} (h : isRk r = true) {c : List Int} (hc : partB (r.length : Int) c = true) (hC : CongP r c) : isRk (quoT r c) = true := by
  have ht := isTab_quo h hc hC
  have rt := isRk_tab h
  have hl := quo_len h hc hC
  refine isRk_mk ht (all_el.2 fun u u0 u1 => ?_) fun x y z hx hy hz => ?_
  · rw [hl] at u1
    obtain ⟨a, ha, rfl⟩ := quo_rep h hc hC ⟨u0, u1⟩
    have lr : ((el (quoT r c) (el c a)).length : Int) = canN 0 c := tab_rowlen ⟨u0, u1⟩
    refine isPerm_of_all fun v v0 v1 => ?_
    obtain ⟨w, hw, rfl⟩ := quo_rep h hc hC (u := v) ⟨v0, by omega⟩
    obtain ⟨b, hb, rfl⟩ := rk_surj rt (isRk_perm h) ha hw
    have cb := can_el (partB_can hc) (i := b) ⟨hb.1, by have := partB_len hc; omega⟩
    rw [← quo_at h hc hC ha hb]
    exact el_mem ⟨cb.1, by omega⟩
  · rw [hl] at hx hy hz
    obtain ⟨a, ha, rfl⟩ := quo_rep h hc hC hx
    obtain ⟨b, hb, rfl⟩ := quo_rep h hc hC hy
    obtain ⟨d, hd, rfl⟩ := quo_rep h hc hC hz
    rw [quo_at h hc hC hb hd, quo_at h hc hC ha hb, quo_at h hc hC ha hd, quo_at h hc hC ha (rk_el rt hb hd), quo_at h hc hC (rk_el rt ha hb) (rk_el rt ha hd), isRk_law h ha hb hd]
section
variable {r : List (List Int)} (h : isRk r = true) {x y : Int} (hx : 0 ≤ x ∧ x < (r.length : Int)) (hy : 0 ≤ y ∧ y < (r.length : Int))
include h hx hy
theorem cg_facts : ((cgI r x y).length : Int) = (r.length : Int) ∧ partB (r.length : Int) (cgI r x y) = true ∧ CongP r (cgI r x y) ∧ el (cgI r x y) x = el (cgI r x y) y ∧ canN 0 (cgI r x y) = mostI (cgI r x y) := by
  have ht := isRk_tab h
  obtain ⟨hl, hcan, hk⟩ := cgP_ex r x y
  have hp := can_part hcan
  rw [hl] at hp
  refine ⟨hl, hp.1, fun a b u v ha hb hu hv e1 e2 => ?_, (hk x y hx hy).2 .base, hp.2⟩
  refine (hk _ _ (rk_el ht ha hb) (rk_el ht hu hv)).2 ?_
  have g1 := (hk a u ha hu).1 e1
  have g2 := (hk b v hb hv).1 e2
  exact .trans (.right b hb ha hu g1) (.left u hu hb hv g2)
theorem sim_one (hs : SimB r = true) (hne : x ≠ y) : mostI (cgI r x y) = 1 := by
  simp only [SimB, Bool.and_eq_true, decide_eq_true_eq, dec_iff] at hs
  have hl := (cg_facts h hx hy).1
  have hz : ∀ z, 0 ≤ z → z < (r.length : Int) → el (cgI r x y) z = 0 := by
    rcases Int.lt_trichotomy x y with g | g | g
    · rw [cgI_swap]; exact hs.2 y x hx.1 g hy.2
    · exact absurd g hne
    · exact hs.2 x y hy.1 g hx.2
  have a := most_lt (el_mem (l := cgI r x y) (i := x) ⟨hx.1, by omega⟩)
  rw [hz x hx.1 hx.2] at a
  have b := most_le (l := cgI r x y) (n := 1) (by omega) fun w hw => by
    obtain ⟨i, hi, rfl⟩ := mem_el hw
    have := hz i hi.1 (by omega); omega
  omega
end
/-! Least subracks. -/
section
variable {r : List (List Int)} (h : isRk r = true) {l : List Int} (hl : ∀ x ∈ l, 0 ≤ x ∧ x < (r.length : Int))
include h hl
end
end Go.Proofs.Ytbodlnpmplcaoaa
