/- Plain definitions, the sixteenth part: quotients by least congruences, racks on least subracks, masks; no condition. -/
import Derived.Test.YtbodlnpmplcaoaaPo
namespace Go.Proofs.Ytbodlnpmplcaoaa
/-! Least congruences. -/
section
variable {r : List (List Int)} (h : isRk r = true) {x y : Int} (hx : 0 ≤ x ∧ x < (r.length : Int)) (hy : 0 ≤ y ∧ y < (r.length : Int))
include h hx hy
end
/-! Least subracks. -/
section
variable {r : List (List Int)} (h : isRk r = true) {l : List Int} (hl : ∀ x ∈ l, 0 ≤ x ∧ x < (r.length : Int))
include h hl
theorem scIn {x : Int} (hx : Sc r l x) : 0 ≤ x ∧ x < (r.length : Int) := by
  induction hx with
  | base hm => exact hl _ hm
  | step _ _ ih1 ih2 => exact rk_el (isRk_tab h) ih1 ih2
theorem sb_mem {x : Int} : x ∈ sbI r l ↔ Sc r l x := by
  unfold sbI
  rw [List.mem_filter, mem_ran, dec_iff]
  exact ⟨fun g => g.2, fun g => ⟨scIn h hl g, g⟩⟩
theorem sb_sub : SubP r (sbI r l) := fun x hx y hy => (sb_mem h hl).2 (.step ((sb_mem h hl).1 hx) ((sb_mem h hl).1 hy))
end
theorem sb_lt (r : List (List Int)) (l : List Int) : (sbI r l).Pairwise (· < ·) := List.Pairwise.filter _ (ran_lt _)
theorem sb_rng {r : List (List Int)} {l : List Int} {x : Int} (h : x ∈ sbI r l) : 0 ≤ x ∧ x < (r.length : Int) := mem_ran.1 (List.mem_filter.1 h).1
theorem inc_of_lt {l : List Int} (h : l.Pairwise (· < ·)) : incB l = true := incB_iff.2 fun i i0 i1 => by
  have e1 := el_get (l := l) (i := i) ⟨i0, by omega⟩
  have e2 := el_get (l := l) (i := i + 1) ⟨by omega, i1⟩
  have := List.pairwise_iff_getElem.1 h i.toNat (i + 1).toNat (by omega) (by omega) (by omega)
  rw [List.getElem?_eq_getElem (by omega), Option.some.injEq] at e1 e2
  rwa [e1, e2] at this
theorem isRk_res {r : List (List Int)} (h : isRk r = true) {l : List Int} (hn : l.Nodup) (h1 : 1 ≤ (l.length : Int) ∧ (l.length : Int) ≤ 12) (hl : ∀ x ∈ l, 0 ≤ x ∧ x < (r.length : Int)) (hs : SubP r l) : isRk (tab (l.length : Int) (resV r l)) = true := by
  have rt := isRk_tab h
  have val : ∀ {x y : Int}, (0 ≤ x ∧ x < (l.length : Int)) → (0 ≤ y ∧ y < (l.length : Int)) → (0 ≤ resV r l x y ∧ resV r l x y < (l.length : Int)) ∧ el l (resV r l x y) = el (el r (el l x)) (el l y) := fun hx hy =>
    idxI_spec (hs _ (el_mem hx) _ (el_mem hy))
  have inj : ∀ {x y : Int}, (0 ≤ x ∧ x < (l.length : Int)) → (0 ≤ y ∧ y < (l.length : Int)) → el l x = el l y → x = y := fun {x y} hx hy e => by
    have q := nodup_el.1 hn
    rcases Int.lt_trichotomy x y with g | g | g
    · exact absurd e (q x y hx.1 g hy.2)
    · exact g
    · exact absurd e.symm (q y x hy.1 g hx.2)
  have ht : isTab (tab (l.length : Int) (resV r l)) = true := isTab_tab h1 fun _ _ x0 x1 y0 y1 => (val ⟨x0, x1⟩ ⟨y0, y1⟩).1
  have tl : ((tab (l.length : Int) (resV r l)).length : Int) = (l.length : Int) := len_tab (by omega)
  refine isRk_mk ht (all_perm_mk ht fun x y z hx hy hz e => ?_) fun x y z hx hy hz => ?_
  · rw [tl] at hx hy hz
    rw [el_tab hx hy, el_tab hx hz] at e
    have a := (val hx hy).2
    have b := (val hx hz).2
    rw [e] at a
    exact inj hy hz (rk_inj rt (isRk_perm h) (hl _ (el_mem hx)) (hl _ (el_mem hy)) (hl _ (el_mem hz)) (a.symm.trans b))
  · rw [tl] at hx hy hz
    have yz := val hy hz
    have xy := val hx hy
    have xz := val hx hz
    rw [el_tab hy hz, el_tab hx hy, el_tab hx hz, el_tab hx yz.1, el_tab xy.1 xz.1]
    have L := val hx yz.1
    have R := val xy.1 xz.1
    refine inj L.1 R.1 ?_
    rw [L.2, R.2, yz.2, xy.2, xz.2]
    exact isRk_law h (hl _ (el_mem hx)) (hl _ (el_mem hy)) (hl _ (el_mem hz))
/-! Masks of subracks. -/
theorem mem_subsI {t : List (List Int)} {s m : Int} : m ∈ subsI t s ↔ (0 ≤ m ∧ m < s) ∧ 1 ≤ m ∧ CloM t m := by
  unfold subsI
  rw [List.mem_filter, mem_ran, Bool.and_eq_true, decide_eq_true_eq, dec_iff]
theorem bit_all {n : Nat} {v : Int} (hv : 0 ≤ v ∧ v < (n : Int)) : bitP ((2 : Int) ^ n - 1) v := by
  have hp : (2 : Int) ^ n = ((2 ^ n : Nat) : Int) := by simp
  have h1 : 1 ≤ 2 ^ n := Nat.one_le_two_pow
  rw [bit_nat (by omega)]
  have e : ((2 : Int) ^ n - 1).toNat = 2 ^ n - 1 := by omega
  rw [e, Nat.testBit_two_pow_sub_one, decide_eq_true_eq]
  omega
theorem bit_one {y v : Int} (hy : 0 ≤ y) (hv : 0 ≤ v) : bitP (1 * (2 : Int) ^ y.toNat) v ↔ v = y := by
  have hp : (1 * (2 : Int) ^ y.toNat) = ((2 ^ y.toNat : Nat) : Int) := by simp
  have h0 : 0 ≤ 1 * (2 : Int) ^ y.toNat := by rw [hp]; exact Int.natCast_nonneg _
  rw [bit_nat h0, pow_cast, Nat.testBit_two_pow, decide_eq_true_eq]
  omega
theorem bit_zero {v : Int} : ¬ bitP 0 v := by
  rw [bit_nat (by omega)]; simp
theorem subs_last {t : List (List Int)} (ht : isTab t = true) : subsI t ((2 : Int) ^ t.length) = subsI t ((2 : Int) ^ t.length - 1) ++ [(2 : Int) ^ t.length - 1] := by
  have hn := isTab_len ht
  have hp : (2 : Int) ^ t.length = ((2 ^ t.length : Nat) : Int) := by simp
  have h2 : 2 ^ 1 ≤ 2 ^ t.length := Nat.pow_le_pow_right (by omega) (by omega)
  have hc : CloM t ((2 : Int) ^ t.length - 1) := fun x y x0 x1 y0 y1 _ _ => bit_all (rk_el ht ⟨x0, x1⟩ ⟨y0, y1⟩)
  have := subsI_succ (t := t) (s := (2 : Int) ^ t.length - 1) (by omega)
  rw [dec_t hc] at this
  rw [show (2 : Int) ^ t.length - 1 + 1 = (2 : Int) ^ t.length by omega] at this
  rw [this]; rfl
theorem clo_one {t : List (List Int)} (ht : isTab t = true) {y : Int} (hy : 0 ≤ y ∧ y < (t.length : Int)) : CloM t (1 * (2 : Int) ^ y.toNat) ↔ el (el t y) y = y := by
  constructor
  · intro h
    have := h y y hy.1 hy.2 hy.1 hy.2 ((bit_one hy.1 hy.1).2 rfl) ((bit_one hy.1 hy.1).2 rfl)
    exact (bit_one hy.1 (rk_el ht hy hy).1).1 this
  · intro e u v u0 _ v0 _ hu hv
    rw [(bit_one hy.1 u0).1 hu, (bit_one hy.1 v0).1 hv, e]
    exact (bit_one hy.1 hy.1).2 rfl

end Go.Proofs.Ytbodlnpmplcaoaa
