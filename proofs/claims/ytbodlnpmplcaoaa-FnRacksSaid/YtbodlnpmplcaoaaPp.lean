/- Plain definitions, the sixteenth part: quotients by least congruences, racks on least subracks, masks; no condition. -/
import Derived.Test.YtbodlnpmplcaoaaPo
namespace Go.Proofs.Ytbodlnpmplcaoaa
/-! Least congruences. -/
noncomputable def repI (t : List (List Int)) (x y a : Int) : Int := idxF (unitI (t.length : Int)) fun b => dec (Cg t x y a b)
theorem repI_spec {t : List (List Int)} {x y a : Int} (ha : 0 ≤ a ∧ a < (t.length : Int)) : Cg t x y a (repI t x y a) := by
  unfold repI idxF
  have hm : (unitI (t.length : Int)).any (fun b => dec (Cg t x y a b)) = true := List.any_eq_true.2 ⟨a, mem_ran.2 ha, dec_t (.refl a)⟩
  rw [if_pos hm]
  have hlt := List.findIdx_lt_length_of_exists (p := fun b => dec (Cg t x y a b)) (List.any_eq_true.1 hm)
  have h1 := List.findIdx_getElem (w := hlt)
  have h2 : (unitI (t.length : Int))[(unitI (t.length : Int)).findIdx fun b => dec (Cg t x y a b)] = ((unitI (t.length : Int)).findIdx fun b => dec (Cg t x y a b) : Int) := by simp [unitI, ran]
  rw [h2] at h1
  exact dec_iff.1 h1
theorem cgP_ex (t : List (List Int)) (x y : Int) : CgP t x y (cgI t x y) := by
  have hl : ((ran (t.length : Int) (repI t x y)).length : Int) = (t.length : Int) := by simp
  obtain ⟨n1, n2, n3⟩ := num_ex (ran (t.length : Int) (repI t x y))
  refine the_spec (a := numI (ran (t.length : Int) (repI t x y))) ⟨by omega, n2, fun a b ha hb => ?_⟩
  rw [n3 a b ⟨ha.1, by omega⟩ ⟨hb.1, by omega⟩, el_ran ha, el_ran hb]
  constructor
  · intro e
    have h1 := repI_spec (x := x) (y := y) ha
    have h2 := repI_spec (x := x) (y := y) hb
    rw [e] at h1
    exact .trans h1 (.symm h2)
  · intro h
    have : (fun c => dec (Cg t x y a c)) = fun c => dec (Cg t x y b c) := funext fun c => dec_congr ⟨fun g => .trans (.symm h) g, fun g => .trans h g⟩
    unfold repI; rw [this]
theorem can_canB {l : List Int} (h : CanP l) : ∀ (k : Nat) (i : Int), 0 ≤ i → i ≤ (l.length : Int) → ((l.length : Int) - i).toNat = k → canB (mostI (l.take i.toNat)) (dr l i) = true ∧ canN (mostI (l.take i.toNat)) (dr l i) = mostI l := by
  intro k
  induction k with
  | zero =>
    intro i i0 i1 hk
    rw [dr_nil (by omega), List.take_of_length_le (by omega)]
    exact ⟨rfl, rfl⟩
  | succ k ih =>
    intro i i0 i1 hk
    have hlt : i < (l.length : Int) := by omega
    obtain ⟨g1, g2⟩ := ih (i + 1) (by omega) (by omega) (by omega)
    have hc := h i i0 hlt
    have hle : el l i ≤ mostI (l.take i.toNat) := by
      rcases Int.lt_or_le (mostI (l.take i.toNat)) (el l i) with g | g
      · obtain ⟨j, hj, e⟩ := hc.2 _ (most_nonneg _) g
        have hm : el l j ∈ l.take i.toNat := by
          have e1 : el (l.take i.toNat) j = el l j := by
            have := el_sl (l := l) (a := 0) (b := i) (i := j) (by omega) hj.1 (by omega)
            simpa [sl] using this
          rw [← e1]; exact el_mem ⟨hj.1, by simp; omega⟩
        have := most_lt hm
        omega
      · exact g
    have st := most_step ⟨i0, hlt⟩
    have e : (if el l i = mostI (l.take i.toNat) then mostI (l.take i.toNat) + 1 else mostI (l.take i.toNat)) = mostI (l.take (i + 1).toNat) := by
      rw [st]; split <;> split <;> omega
    rw [dr_cons ⟨i0, hlt⟩]
    simp only [canB, canN, e, Bool.and_eq_true, decide_eq_true_eq]
    exact ⟨⟨⟨hc.1, hle⟩, g1⟩, g2⟩
theorem can_part {l : List Int} (h : CanP l) : partB (l.length : Int) l = true ∧ canN 0 l = mostI l := by
  obtain ⟨g1, g2⟩ := can_canB h _ 0 (by omega) (by omega) rfl
  have e : mostI (l.take (0 : Int).toNat) = 0 := rfl
  rw [e, dr0] at g1 g2
  exact ⟨by simp [partB, g1], g2⟩
theorem quo_at {r : List (List Int)} (_h : isRk r = true) {c : List Int} (hc : partB (r.length : Int) c = true) (hC : CongP r c) {a b : Int} (ha : 0 ≤ a ∧ a < (r.length : Int)) (hb : 0 ≤ b ∧ b < (r.length : Int)) : el (el (quoT r c) (el c a)) (el c b) = el c (el (el r a) b) := by
  have hl := partB_len hc
  have hk := partB_can hc
  have ca := can_el hk (i := a) ⟨ha.1, by omega⟩
  have cb := can_el hk (i := b) ⟨hb.1, by omega⟩
  have fa := can_fir hk ca
  have fb := can_fir hk cb
  unfold quoT
  rw [el_tab ca cb]
  unfold quoV firI
  rw [el_ran ca, el_ran cb]
  exact hC _ _ _ _ ⟨fa.1.1, by omega⟩ ⟨fb.1.1, by omega⟩ ha hb fa.2 fb.2
theorem quo_len {r : List (List Int)} (_h : isRk r = true) {c : List Int} (hc : partB (r.length : Int) c = true) (_hC : CongP r c) : ((quoT r c).length : Int) = canN 0 c := len_tab (canN_le (partB_can hc)).1
theorem quo_rep {r : List (List Int)} (_h : isRk r = true) {c : List Int} (hc : partB (r.length : Int) c = true) (_hC : CongP r c) {u : Int} (hu : 0 ≤ u ∧ u < canN 0 c) : ∃ a, (0 ≤ a ∧ a < (r.length : Int)) ∧ el c a = u := by
  have := can_fir (partB_can hc) hu
  exact ⟨_, ⟨this.1.1, by have := partB_len hc; omega⟩, this.2⟩
theorem quo_one {r : List (List Int)} (h : isRk r = true) {c : List Int} (hc : partB (r.length : Int) c = true) (_hC : CongP r c) : 1 ≤ canN 0 c ∧ canN 0 c ≤ 12 := by
  have hn := isTab_len (isRk_tab h)
  have hl := partB_len hc
  have a := can_el (partB_can hc) (i := 0) ⟨by omega, by omega⟩
  have b := canN_le (partB_can hc)
  omega
theorem isTab_quo {r : List (List Int)} (h : isRk r = true) {c : List Int} (hc : partB (r.length : Int) c = true) (hC : CongP r c) : isTab (quoT r c) = true := by
  have h1 := quo_one h hc hC
  refine isTab_mk (by rw [quo_len h hc hC]; exact h1) fun u u0 u1 => ?_
  rw [quo_len h hc hC] at u1 ⊢
  refine ⟨tab_rowlen ⟨u0, u1⟩, fun v v0 v1 => ?_⟩
  obtain ⟨a, ha, rfl⟩ := quo_rep h hc hC ⟨u0, u1⟩
  obtain ⟨b, hb, rfl⟩ := quo_rep h hc hC ⟨v0, v1⟩
  rw [quo_at h hc hC ha hb]
  have := rk_el (isRk_tab h) ha hb
  exact can_el (partB_can hc) ⟨this.1, by have := partB_len hc; omega⟩
theorem isRk_quo {r : List (List Int)} (h : isRk r = true) {c : List Int} (hc : partB (r.length : Int) c = true) (hC : CongP r c) : isRk (quoT r c) = true := by
  have ht := isTab_quo h hc hC
  have rt := isRk_tab h
  have hl := quo_len h hc hC
  refine isRk_mk ht (all_el.2 fun u u0 u1 => ?_) fun x y z hx hy hz => ?_
  · rw [hl] at u1
    obtain ⟨a, ha, rfl⟩ := quo_rep h hc hC ⟨u0, u1⟩
    have lr : ((el (quoT r c) (el c a)).length : Int) = canN 0 c := tab_rowlen ⟨u0, u1⟩
    refine isPerm_of_all fun v v0 v1 => ?_
    obtain ⟨w, hw, rfl⟩ := quo_rep h hc hC (u := v) ⟨v0, by omega⟩
    obtain ⟨b, hb, rfl⟩ := rk_surj rt (isRk_perm h) ha hw
    have cb := can_el (partB_can hc) (i := b) ⟨hb.1, by have := partB_len hc; omega⟩
    rw [← quo_at h hc hC ha hb]
    exact el_mem ⟨cb.1, by omega⟩
  · rw [hl] at hx hy hz
    obtain ⟨a, ha, rfl⟩ := quo_rep h hc hC hx
    obtain ⟨b, hb, rfl⟩ := quo_rep h hc hC hy
    obtain ⟨d, hd, rfl⟩ := quo_rep h hc hC hz
    rw [quo_at h hc hC hb hd, quo_at h hc hC ha hb, quo_at h hc hC ha hd, quo_at h hc hC ha (rk_el rt hb hd), quo_at h hc hC (rk_el rt ha hb) (rk_el rt ha hd), isRk_law h ha hb hd]
section
variable {r : List (List Int)} (h : isRk r = true) {x y : Int} (hx : 0 ≤ x ∧ x < (r.length : Int)) (hy : 0 ≤ y ∧ y < (r.length : Int))
include h hx hy
/-- What the least congruence is. -/
theorem cg_facts : ((cgI r x y).length : Int) = (r.length : Int) ∧ partB (r.length : Int) (cgI r x y) = true ∧ CongP r (cgI r x y) ∧ el (cgI r x y) x = el (cgI r x y) y ∧ canN 0 (cgI r x y) = mostI (cgI r x y) := by
  have ht := isRk_tab h
  obtain ⟨hl, hcan, hk⟩ := cgP_ex r x y
  have hp := can_part hcan
  rw [hl] at hp
  refine ⟨hl, hp.1, fun a b u v ha hb hu hv e1 e2 => ?_, (hk x y hx hy).2 .base, hp.2⟩
  refine (hk _ _ (rk_el ht ha hb) (rk_el ht hu hv)).2 ?_
  have g1 := (hk a u ha hu).1 e1
  have g2 := (hk b v hb hv).1 e2
  exact .trans (.right b hb ha hu g1) (.left u hu hb hv g2)
theorem sim_one (hs : SimB r = true) (hne : x ≠ y) : mostI (cgI r x y) = 1 := by
  simp only [SimB, Bool.and_eq_true, decide_eq_true_eq, dec_iff] at hs
  have hl := (cg_facts h hx hy).1
  have hz : ∀ z, 0 ≤ z → z < (r.length : Int) → el (cgI r x y) z = 0 := by
    rcases Int.lt_trichotomy x y with g | g | g
    · rw [cgI_swap]; exact hs.2 y x hx.1 g hy.2
    · exact absurd g hne
    · exact hs.2 x y hy.1 g hx.2
  have a := most_lt (el_mem (l := cgI r x y) (i := x) ⟨hx.1, by omega⟩)
  rw [hz x hx.1 hx.2] at a
  have b := most_le (l := cgI r x y) (n := 1) (by omega) fun w hw => by
    obtain ⟨i, hi, rfl⟩ := mem_el hw
    have := hz i hi.1 (by omega); omega
  omega
end
/-! Least subracks. -/
section
variable {r : List (List Int)} (h : isRk r = true) {l : List Int} (hl : ∀ x ∈ l, 0 ≤ x ∧ x < (r.length : Int))
include h hl
theorem scIn {x : Int} (hx : Sc r l x) : 0 ≤ x ∧ x < (r.length : Int) := by
  induction hx with
  | base hm => exact hl _ hm
  | step _ _ ih1 ih2 => exact rk_el (isRk_tab h) ih1 ih2
theorem sb_mem {x : Int} : x ∈ sbI r l ↔ Sc r l x := by
  unfold sbI
  rw [List.mem_filter, mem_ran, dec_iff]
  exact ⟨fun g => g.2, fun g => ⟨scIn h hl g, g⟩⟩
theorem sb_sub : SubP r (sbI r l) := fun x hx y hy => (sb_mem h hl).2 (.step ((sb_mem h hl).1 hx) ((sb_mem h hl).1 hy))
end
theorem sb_lt (r : List (List Int)) (l : List Int) : (sbI r l).Pairwise (· < ·) := List.Pairwise.filter _ (ran_lt _)
theorem sb_rng {r : List (List Int)} {l : List Int} {x : Int} (h : x ∈ sbI r l) : 0 ≤ x ∧ x < (r.length : Int) := mem_ran.1 (List.mem_filter.1 h).1
theorem inc_of_lt {l : List Int} (h : l.Pairwise (· < ·)) : incB l = true := incB_iff.2 fun i i0 i1 => by
  have e1 := el_get (l := l) (i := i) ⟨i0, by omega⟩
  have e2 := el_get (l := l) (i := i + 1) ⟨by omega, i1⟩
  have := List.pairwise_iff_getElem.1 h i.toNat (i + 1).toNat (by omega) (by omega) (by omega)
  rw [List.getElem?_eq_getElem (by omega), Option.some.injEq] at e1 e2
  rwa [e1, e2] at this
/-- The part of a rack on a subrack. -/
theorem isRk_res {r : List (List Int)} (h : isRk r = true) {l : List Int} (hn : l.Nodup) (h1 : 1 ≤ (l.length : Int) ∧ (l.length : Int) ≤ 12) (hl : ∀ x ∈ l, 0 ≤ x ∧ x < (r.length : Int)) (hs : SubP r l) : isRk (tab (l.length : Int) (resV r l)) = true := by
  have rt := isRk_tab h
  have val : ∀ {x y : Int}, (0 ≤ x ∧ x < (l.length : Int)) → (0 ≤ y ∧ y < (l.length : Int)) → (0 ≤ resV r l x y ∧ resV r l x y < (l.length : Int)) ∧ el l (resV r l x y) = el (el r (el l x)) (el l y) := fun hx hy =>
    idxI_spec (hs _ (el_mem hx) _ (el_mem hy))
  have inj : ∀ {x y : Int}, (0 ≤ x ∧ x < (l.length : Int)) → (0 ≤ y ∧ y < (l.length : Int)) → el l x = el l y → x = y := fun {x y} hx hy e => by
    have q := nodup_el.1 hn
    rcases Int.lt_trichotomy x y with g | g | g
    · exact absurd e (q x y hx.1 g hy.2)
    · exact g
    · exact absurd e.symm (q y x hy.1 g hx.2)
  have ht : isTab (tab (l.length : Int) (resV r l)) = true := isTab_tab h1 fun _ _ x0 x1 y0 y1 => (val ⟨x0, x1⟩ ⟨y0, y1⟩).1
  have tl : ((tab (l.length : Int) (resV r l)).length : Int) = (l.length : Int) := len_tab (by omega)
  refine isRk_mk ht (all_perm_mk ht fun x y z hx hy hz e => ?_) fun x y z hx hy hz => ?_
  · rw [tl] at hx hy hz
    rw [el_tab hx hy, el_tab hx hz] at e
    have a := (val hx hy).2
    have b := (val hx hz).2
    rw [e] at a
    exact inj hy hz (rk_inj rt (isRk_perm h) (hl _ (el_mem hx)) (hl _ (el_mem hy)) (hl _ (el_mem hz)) (a.symm.trans b))
  · rw [tl] at hx hy hz
    have yz := val hy hz
    have xy := val hx hy
    have xz := val hx hz
    rw [el_tab hy hz, el_tab hx hy, el_tab hx hz, el_tab hx yz.1, el_tab xy.1 xz.1]
    have L := val hx yz.1
    have R := val xy.1 xz.1
    refine inj L.1 R.1 ?_
    rw [L.2, R.2, yz.2, xy.2, xz.2]
    exact isRk_law h (hl _ (el_mem hx)) (hl _ (el_mem hy)) (hl _ (el_mem hz))
/-! Masks of subracks. -/
theorem mem_subsI {t : List (List Int)} {s m : Int} : m ∈ subsI t s ↔ (0 ≤ m ∧ m < s) ∧ 1 ≤ m ∧ CloM t m := by
  unfold subsI
  rw [List.mem_filter, mem_ran, Bool.and_eq_true, decide_eq_true_eq, dec_iff]
theorem bit_all {n : Nat} {v : Int} (hv : 0 ≤ v ∧ v < (n : Int)) : bitP ((2 : Int) ^ n - 1) v := by
  have hp : (2 : Int) ^ n = ((2 ^ n : Nat) : Int) := by simp
  have h1 : 1 ≤ 2 ^ n := Nat.one_le_two_pow
  rw [bit_nat (by omega)]
  have e : ((2 : Int) ^ n - 1).toNat = 2 ^ n - 1 := by omega
  rw [e, Nat.testBit_two_pow_sub_one, decide_eq_true_eq]
  omega
theorem bit_one {y v : Int} (hy : 0 ≤ y) (hv : 0 ≤ v) : bitP (1 * (2 : Int) ^ y.toNat) v ↔ v = y := by
  have hp : (1 * (2 : Int) ^ y.toNat) = ((2 ^ y.toNat : Nat) : Int) := by simp
  have h0 : 0 ≤ 1 * (2 : Int) ^ y.toNat := by rw [hp]; exact Int.natCast_nonneg _
  rw [bit_nat h0, pow_cast, Nat.testBit_two_pow, decide_eq_true_eq]
  omega
theorem bit_zero {v : Int} : ¬ bitP 0 v := by
  rw [bit_nat (by omega)]; simp
theorem subs_last {t : List (List Int)} (ht : isTab t = true) : subsI t ((2 : Int) ^ t.length) = subsI t ((2 : Int) ^ t.length - 1) ++ [(2 : Int) ^ t.length - 1] := by
  have hn := isTab_len ht
  have hp : (2 : Int) ^ t.length = ((2 ^ t.length : Nat) : Int) := by simp
  have h2 : 2 ^ 1 ≤ 2 ^ t.length := Nat.pow_le_pow_right (by omega) (by omega)
  have hc : CloM t ((2 : Int) ^ t.length - 1) := fun x y x0 x1 y0 y1 _ _ => bit_all (rk_el ht ⟨x0, x1⟩ ⟨y0, y1⟩)
  have := subsI_succ (t := t) (s := (2 : Int) ^ t.length - 1) (by omega)
  rw [dec_t hc] at this
  rw [show (2 : Int) ^ t.length - 1 + 1 = (2 : Int) ^ t.length by omega] at this
  rw [this]; rfl
theorem clo_one {t : List (List Int)} (ht : isTab t = true) {y : Int} (hy : 0 ≤ y ∧ y < (t.length : Int)) : CloM t (1 * (2 : Int) ^ y.toNat) ↔ el (el t y) y = y := by
  constructor
  · intro h
    have := h y y hy.1 hy.2 hy.1 hy.2 ((bit_one hy.1 hy.1).2 rfl) ((bit_one hy.1 hy.1).2 rfl)
    exact (bit_one hy.1 (rk_el ht hy hy).1).1 this
  · intro e u v u0 _ v0 _ hu hv
    rw [(bit_one hy.1 u0).1 hu, (bit_one hy.1 v0).1 hv, e]
    exact (bit_one hy.1 hy.1).2 rfl
end Go.Proofs.Ytbodlnpmplcaoaa
