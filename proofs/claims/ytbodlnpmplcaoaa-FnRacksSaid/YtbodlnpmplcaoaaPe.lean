/- Plain definitions, the fifth part: orbits, labels in the order in which they come first; no condition. -/
import Derived.Test.YtbodlnpmplcaoaaPd
namespace Go.Proofs.Ytbodlnpmplcaoaa
def permsN (n : Int) (list : List (List Int)) : Prop := ∀ p ∈ list, (p.length : Int) = n ∧ isPerm p = true
/-- What lists lead an element to. -/
inductive Rch (list : List (List Int)) (x : Int) : Int → Prop
  | base : Rch list x x
  | step {y : Int} {p : List Int} (h : Rch list x y) (hp : p ∈ list) : Rch list x (el p y)
/-- Each label comes first behind all smaller ones. -/
def CanP (l : List Int) : Prop := ∀ i, 0 ≤ i → i < (l.length : Int) → 0 ≤ el l i ∧ ∀ c, 0 ≤ c → c < el l i → ∃ j, (0 ≤ j ∧ j < i) ∧ el l j = c
theorem canP_uniq {l m : List Int} (hl : l.length = m.length) (h1 : CanP l) (h2 : CanP m) (hk : ∀ x y, (0 ≤ x ∧ x < (l.length : Int)) → (0 ≤ y ∧ y < (l.length : Int)) → (el l x = el l y ↔ el m x = el m y)) : l = m := by
  have key : ∀ (k : Nat) (i : Int), 0 ≤ i → i < (l.length : Int) → i < k → el l i = el m i := by
    intro k
    induction k with
    | zero => intro i h0 _ h; omega
    | succ k ih =>
      intro i h0 h3 h4
      rcases Int.lt_trichotomy (el l i) (el m i) with h | h | h
      · obtain ⟨j, hj, e⟩ := (h2 i h0 (by omega)).2 (el l i) (h1 i h0 h3).1 h
        have e1 := ih j hj.1 (by omega) (by omega)
        have e2 := (hk j i ⟨hj.1, by omega⟩ ⟨h0, h3⟩).1 (by omega)
        omega
      · exact h
      · obtain ⟨j, hj, e⟩ := (h1 i h0 h3).2 (el m i) (h2 i h0 (by omega)).1 h
        have e1 := ih j hj.1 (by omega) (by omega)
        have e2 := (hk j i ⟨hj.1, by omega⟩ ⟨h0, h3⟩).2 (by omega)
        omega
  exact ext_el hl fun i a b => key (i.toNat + 1) i a b (by omega)
theorem nodup_len {α : Type} [DecidableEq α] : ∀ (l p : List α), l.Nodup → (∀ x ∈ l, x ∈ p) → l.length ≤ p.length
  | [], p, _, _ => Nat.zero_le _
  | a :: l, p, hn, hs => by
    have ha := hs a List.mem_cons_self
    have hn' := List.nodup_cons.1 hn
    have ih := nodup_len l (p.erase a) hn'.2 (fun x hx => by
      have hne : x ≠ a := fun e => hn'.1 (e ▸ hx)
      exact (List.mem_erase_of_ne hne).2 (hs x (List.mem_cons_of_mem _ hx)))
    rw [List.length_erase_of_mem ha] at ih
    have := List.length_pos_of_mem ha
    simp; omega
theorem nodup_len_ran {l : List Int} {n : Int} (hn : 0 ≤ n) (h : l.Nodup) (hr : ∀ x ∈ l, 0 ≤ x ∧ x < n) : (l.length : Int) ≤ n := by
  have := nodup_len l (ran n id) h fun x hx => mem_ran.2 (hr x hx)
  simp at this; omega
/-- What a permutation leads into a closed set was in it. -/
theorem closed_back {p : List Int} {n : Int} (hl : (p.length : Int) = n) (hp : isPerm p = true) {S : Int → Prop} (hS : ∀ y, (0 ≤ y ∧ y < n) → S y → S (el p y)) {y : Int} (hy : 0 ≤ y ∧ y < n) (h : S (el p y)) : S y := by
  have hT : ∀ w, w ∈ (ran n id).filter (fun w => dec (S w)) ↔ (0 ≤ w ∧ w < n) ∧ S w := fun w => by simp only [List.mem_filter, mem_ran, dec_iff]
  have nT : ((ran n id).filter (fun w => dec (S w))).Nodup := List.Pairwise.filter _ (nodup_ran n)
  generalize (ran n id).filter (fun w => dec (S w)) = T at hT nT
  have nM : (T.map (el p)).Nodup := by
    unfold List.Nodup
    rw [List.pairwise_map]
    refine List.Pairwise.imp_of_mem (fun {a b} ha hb hab e => hab ?_) nT
    have ra := ((hT a).1 ha).1
    have rb := ((hT b).1 hb).1
    exact isPerm_inj hp ⟨ra.1, by omega⟩ ⟨rb.1, by omega⟩ e
  have hs : ∀ x ∈ T.map (el p), x ∈ T := fun x hx => by
    obtain ⟨w, hw, rfl⟩ := List.mem_map.1 hx
    obtain ⟨rw1, sw⟩ := (hT w).1 hw
    have := isPerm_el hp (i := w) ⟨rw1.1, by omega⟩
    exact (hT _).2 ⟨⟨this.1, by omega⟩, hS w rw1 sw⟩
  have P := nodup_perm (T.map (el p)) T nM hs (by simp)
  have hb := isPerm_el hp (i := y) ⟨hy.1, by omega⟩
  have hm : el p y ∈ T := (hT _).2 ⟨⟨hb.1, by omega⟩, h⟩
  obtain ⟨w, hw, e⟩ := List.mem_map.1 (P.mem_iff.1 hm)
  obtain ⟨rw1, sw⟩ := (hT w).1 hw
  have := isPerm_inj hp ⟨rw1.1, by omega⟩ ⟨hy.1, by omega⟩ e
  rw [← this]; exact sw
theorem rch_in {n : Int} {list : List (List Int)} (hp : permsN n list) {x y : Int} (hx : 0 ≤ x ∧ x < n) (h : Rch list x y) : 0 ≤ y ∧ y < n := by
  induction h with
  | base => exact hx
  | step h hq ih =>
    obtain ⟨a, b⟩ := hp _ hq
    have := isPerm_el b (i := _) ⟨ih.1, by omega⟩
    exact ⟨this.1, by omega⟩
theorem rch_trans {list : List (List Int)} {x y z : Int} (h1 : Rch list x y) (h2 : Rch list y z) : Rch list x z := by
  induction h2 with
  | base => exact h1
  | step h hq ih => exact .step ih hq
theorem rch_symm {n : Int} {list : List (List Int)} (hp : permsN n list) {x y : Int} (hx : 0 ≤ x ∧ x < n) (h : Rch list x y) : Rch list y x := by
  induction h with
  | base => exact .base
  | step h hq ih =>
    rename_i y p
    obtain ⟨a, b⟩ := hp _ hq
    have hy := rch_in hp hx h
    have : Rch list (el p y) y := closed_back a b (S := Rch list (el p y)) (fun w _ hw => .step hw hq) hy .base
    exact rch_trans this ih
def IsOrb (n : Int) (list : List (List Int)) (l : List Int) : Prop := (l.length : Int) = n ∧ CanP l ∧ ∀ x y, (0 ≤ x ∧ x < n) → (0 ≤ y ∧ y < n) → (el l x = el l y ↔ Rch list x y)
theorem isOrb_uniq {n : Int} {list : List (List Int)} (l m : List Int) (h1 : IsOrb n list l) (h2 : IsOrb n list m) : l = m := by
  obtain ⟨a1, b1, c1⟩ := h1
  obtain ⟨a2, b2, c2⟩ := h2
  exact canP_uniq (by omega) b1 b2 fun x y hx hy => (c1 x y ⟨hx.1, by omega⟩ ⟨hy.1, by omega⟩).trans (c2 x y ⟨hx.1, by omega⟩ ⟨hy.1, by omega⟩).symm
noncomputable def orbI (n : Int) (list : List (List Int)) : List Int := the (IsOrb n list)
/-- Labels of the orbits of the elements below x. -/
structure OrbI (n : Int) (list : List (List Int)) (x k : Int) (L : List Int) : Prop where
  len : (L.length : Int) = n
  xn : 0 ≤ x ∧ x ≤ n
  kx : 0 ≤ k ∧ k ≤ x
  low : ∀ y, 0 ≤ y → y < x → 0 ≤ el L y
  rng : ∀ y, 0 ≤ y → y < n → el L y < k
  used : ∀ c, 0 ≤ c → c < k → ∃ j, (0 ≤ j ∧ j < x) ∧ el L j = c
  can : ∀ y, 0 ≤ y → y < n → 0 ≤ el L y → ∀ c, 0 ≤ c → c < el L y → ∃ j, (0 ≤ j ∧ j < y) ∧ el L j = c
  ker : ∀ y z, (0 ≤ y ∧ y < n) → (0 ≤ z ∧ z < n) → 0 ≤ el L y → (el L z = el L y ↔ Rch list y z)
theorem orb_init {n : Int} {list : List (List Int)} {L : List Int} (hn : 0 ≤ n) (hl : (L.length : Int) = n) (h : ∀ y, 0 ≤ y → y < n → el L y = -1) : OrbI n list 0 0 L :=
  ⟨hl, ⟨by omega, hn⟩, ⟨by omega, by omega⟩, fun y a b => by omega, fun y a b => by rw [h y a b]; omega, fun c a b => by omega, fun y a b c => by rw [h y a b] at c; omega, fun y z a b c => by rw [h y a.1 a.2] at c; omega⟩
theorem orb_skip {n : Int} {list : List (List Int)} {x k : Int} {L : List Int} (h : OrbI n list x k L) (hx : x < n) (h0 : 0 ≤ el L x) : OrbI n list (x + 1) k L :=
  ⟨h.len, ⟨by have := h.xn; omega, by omega⟩, ⟨h.kx.1, by have := h.kx; omega⟩, fun y a b => by
    by_cases e : y = x
    · subst e; exact h0
    · exact h.low y a (by omega), h.rng, fun c a b => by obtain ⟨j, hj, e⟩ := h.used c a b; exact ⟨j, ⟨hj.1, by omega⟩, e⟩, h.can, h.ker⟩
theorem orb_not {n : Int} {list : List (List Int)} (hp : permsN n list) {x k : Int} {L : List Int} (h : OrbI n list x k L) (hx : x < n) (h0 : el L x < 0) {y : Int} (hy : 0 ≤ y ∧ y < n) (h1 : 0 ≤ el L y) : ¬ Rch list x y := fun hr => by
  have hxx : 0 ≤ x ∧ x < n := ⟨h.xn.1, hx⟩
  have := (h.ker y x hy hxx h1).2 (rch_symm hp hxx hr)
  omega
theorem orb_step {n : Int} {list : List (List Int)} (hp : permsN n list) {x k : Int} {L L' : List Int} (h : OrbI n list x k L) (hx : x < n) (h0 : el L x < 0) (hl : (L'.length : Int) = n)
    (hL : ∀ y, 0 ≤ y → y < n → (Rch list x y → el L' y = k) ∧ (¬ Rch list x y → el L' y = el L y)) : OrbI n list (x + 1) (k + 1) L' := by
  have hxx : 0 ≤ x ∧ x < n := ⟨h.xn.1, hx⟩
  have hk := h.kx
  have nr : ∀ {y : Int}, (0 ≤ y ∧ y < n) → 0 ≤ el L y → ¬ Rch list x y := fun hy h1 => orb_not hp h hx h0 hy h1
  refine ⟨hl, ⟨by omega, by omega⟩, ⟨by omega, by omega⟩, fun y a b => ?_, fun y a b => ?_, fun c a b => ?_, fun y a b c0 c a2 b2 => ?_, fun y z hy hz c0 => ?_⟩
  · by_cases hr : Rch list x y
    · rw [(hL y a (by omega)).1 hr]; exact hk.1
    · rw [(hL y a (by omega)).2 hr]
      by_cases e : y = x
      · subst e; exact absurd .base hr
      · exact h.low y a (by omega)
  · by_cases hr : Rch list x y
    · rw [(hL y a b).1 hr]; omega
    · rw [(hL y a b).2 hr]; have := h.rng y a b; omega
  · by_cases e : c = k
    · exact ⟨x, ⟨hxx.1, by omega⟩, by rw [(hL x hxx.1 hx).1 .base, e]⟩
    · obtain ⟨j, hj, e2⟩ := h.used c a (by omega)
      have hj2 : 0 ≤ j ∧ j < n := ⟨hj.1, by omega⟩
      exact ⟨j, ⟨hj.1, by omega⟩, by rw [(hL j hj2.1 hj2.2).2 (nr hj2 (by omega)), e2]⟩
  · have hy : 0 ≤ y ∧ y < n := ⟨a, b⟩
    by_cases hr : Rch list x y
    · rw [(hL y a b).1 hr] at b2
      obtain ⟨j, hj, e2⟩ := h.used c a2 b2
      have hj2 : 0 ≤ j ∧ j < n := ⟨hj.1, by omega⟩
      refine ⟨j, ⟨hj.1, ?_⟩, by rw [(hL j hj2.1 hj2.2).2 (nr hj2 (by omega)), e2]⟩
      by_cases hxy : y < x
      · exact absurd hr (nr hy (h.low y a hxy))
      · omega
    · rw [(hL y a b).2 hr] at b2 c0
      obtain ⟨j, hj, e2⟩ := h.can y a b c0 c a2 b2
      have hj2 : 0 ≤ j ∧ j < n := ⟨hj.1, by omega⟩
      exact ⟨j, hj, by rw [(hL j hj2.1 hj2.2).2 (nr hj2 (by omega)), e2]⟩
  · by_cases hr : Rch list x y
    · rw [(hL y hy.1 hy.2).1 hr]
      by_cases hz2 : Rch list x z
      · rw [(hL z hz.1 hz.2).1 hz2]
        exact ⟨fun _ => rch_trans (rch_symm hp hxx hr) hz2, fun _ => rfl⟩
      · rw [(hL z hz.1 hz.2).2 hz2]
        refine ⟨fun e => ?_, fun hyz => absurd (rch_trans hr hyz) hz2⟩
        have := h.rng z hz.1 hz.2; omega
    · rw [(hL y hy.1 hy.2).2 hr] at c0 ⊢
      by_cases hz2 : Rch list x z
      · rw [(hL z hz.1 hz.2).1 hz2]
        refine ⟨fun e => ?_, fun hyz => absurd (rch_trans hz2 (rch_symm hp hy hyz)) hr⟩
        have := h.rng y hy.1 hy.2; omega
      · rw [(hL z hz.1 hz.2).2 hz2]; exact h.ker y z hy hz c0
theorem orb_fin {n : Int} {list : List (List Int)} {k : Int} {L : List Int} (h : OrbI n list n k L) : IsOrb n list L :=
  ⟨h.len, fun i a b => ⟨h.low i a (by have := h.len; omega), h.can i a (by have := h.len; omega) (h.low i a (by have := h.len; omega))⟩, fun x y hx hy => by
    rw [← h.ker x y hx hy (h.low x hx.1 hx.2)]; exact ⟨fun e => e.symm, fun e => e.symm⟩⟩
theorem orb_end {n : Int} {list : List (List Int)} {k : Int} {L : List Int} (h : OrbI n list n k L) : L = orbI n list := the_eq (orb_fin h) isOrb_uniq
theorem orb_ex {n : Int} {list : List (List Int)} (hn : 0 ≤ n) (hp : permsN n list) : ∃ L, IsOrb n list L := by
  have key : ∀ x : Nat, (x : Int) ≤ n → ∃ k L, OrbI n list x k L := by
    intro x
    induction x with
    | zero => exact fun _ => ⟨0, ran n fun _ => -1, orb_init hn (by simp; omega) fun y a b => el_ran ⟨a, b⟩⟩
    | succ x ih =>
      intro hx
      obtain ⟨k, L, h⟩ := ih (by omega)
      by_cases h0 : 0 ≤ el L x
      · exact ⟨k, L, orb_skip h (by omega) h0⟩
      · refine ⟨k + 1, ran n fun y => if dec (Rch list x y) then k else el L y, orb_step hp h (by omega) (by omega) (by simp; omega) fun y a b => ?_⟩
        rw [el_ran ⟨a, b⟩]
        exact ⟨fun hr => by rw [if_pos (dec_t hr)], fun hr => by rw [dec_f hr]; rfl⟩
  obtain ⟨k, L, h⟩ := key n.toNat (by omega)
  rw [show ((n.toNat : Nat) : Int) = n by omega] at h
  exact ⟨L, orb_fin h⟩
theorem orbI_is {n : Int} {list : List (List Int)} (hn : 0 ≤ n) (hp : permsN n list) : IsOrb n list (orbI n list) := by
  obtain ⟨L, h⟩ := orb_ex hn hp
  exact the_spec h
def orbL (list : List (List Int)) (x : Int) (r : List Int) : Prop := r.Nodup ∧ ∀ y, y ∈ r ↔ Rch list x y
theorem isRk_permsN {r : List (List Int)} (h : isRk r = true) : permsN (r.length : Int) r := fun p hp => by
  obtain ⟨i, hi, rfl⟩ := mem_el hp
  exact ⟨rk_len (isRk_tab h) hi, all_perm_el (isRk_perm h) hi⟩
noncomputable def RorT (r : List (List Int)) : List Int := if isRk r then orbI (r.length : Int) r else []
/-- There is one orbit. -/
def OneOrb (r : List (List Int)) : Prop := ∀ i, 0 ≤ i → i < (r.length : Int) → el (orbI (r.length : Int) r) i = 0
noncomputable def RcoB (r : List (List Int)) : Bool := isRk r && dec (OneOrb r)
/-- How many labels are lacking. -/
def negs (l : List Int) : Nat := (l.filter fun x => decide (x < 0)).length
theorem negs_set : ∀ (l : List Int) (i : Nat) (k v : Int), l[i]? = some v → v < 0 → 0 ≤ k → negs (l.set i k) + 1 = negs l
  | [], i, k, v, h, _, _ => by simp at h
  | x :: l, 0, k, v, h, hv, hk => by
    simp only [List.getElem?_cons_zero, Option.some.injEq] at h
    subst h
    unfold negs
    rw [List.set_cons_zero, List.filter_cons_of_neg (by simp; omega), List.filter_cons_of_pos (by simpa using hv), List.length_cons]
  | x :: l, i + 1, k, v, h, hv, hk => by
    have ih := negs_set l i k v (by simpa using h) hv hk
    unfold negs at ih ⊢
    rw [List.set_cons_succ]
    by_cases hx : x < 0
    · rw [List.filter_cons_of_pos (by simpa using hx), List.filter_cons_of_pos (by simpa using hx), List.length_cons, List.length_cons, ih]
    · rw [List.filter_cons_of_neg (by simpa using hx), List.filter_cons_of_neg (by simpa using hx), ih]
theorem negs_se {l : List Int} {i k : Int} (hi : 0 ≤ i ∧ i < (l.length : Int)) (hv : el l i < 0) (hk : 0 ≤ k) : negs (se l i k) + 1 = negs l := negs_set l i.toNat k (el l i) (el_get hi) hv hk
theorem negs_le (l : List Int) : negs l ≤ l.length := List.length_filter_le _ _
theorem foldl_max : ∀ (l : List Int) (a : Int), a ≤ l.foldl (fun a b => if a < b then b else a) a ∧ (∀ x ∈ l, x ≤ l.foldl (fun a b => if a < b then b else a) a) ∧ (l.foldl (fun a b => if a < b then b else a) a = a ∨ l.foldl (fun a b => if a < b then b else a) a ∈ l)
  | [], a => ⟨Int.le_refl _, ⟨fun x hx => (List.not_mem_nil hx).elim, .inl rfl⟩⟩
  | y :: l, a => by
    obtain ⟨h1, h2, h3⟩ := foldl_max l (if a < y then y else a)
    have ka : a ≤ (if a < y then y else a) := by split <;> omega
    have ky : y ≤ (if a < y then y else a) := by split <;> omega
    have km : (if a < y then y else a) = a ∨ (if a < y then y else a) = y := by split <;> simp
    simp only [List.foldl_cons]
    generalize (if a < y then y else a) = b at *
    refine ⟨by omega, fun x hx => ?_, ?_⟩
    · rcases List.mem_cons.1 hx with hx | hx
      · rw [hx]; omega
      · exact h2 x hx
    · rcases h3 with h3 | h3
      · rw [h3]
        rcases km with km | km
        · exact .inl km
        · exact .inr (by rw [km]; exact List.mem_cons_self)
      · exact .inr (List.mem_cons_of_mem _ h3)
theorem maxI_ge {l : List Int} {i : Int} (hi : 0 ≤ i ∧ i < (l.length : Int)) : el l i ≤ maxI l := (foldl_max l (el l 0)).2.1 _ (el_mem hi)
theorem maxI_mem {l : List Int} (h : 1 ≤ (l.length : Int)) : maxI l ∈ l := by
  rcases (foldl_max l (el l 0)).2.2 with h1 | h1
  · unfold maxI; rw [h1]; exact el_mem ⟨by omega, by omega⟩
  · exact h1
end Go.Proofs.Ytbodlnpmplcaoaa
