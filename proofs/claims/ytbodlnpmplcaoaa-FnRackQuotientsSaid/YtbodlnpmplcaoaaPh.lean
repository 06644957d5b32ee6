/- Plain definitions, the eighth part: numbering anew, least congruences; no condition. -/
import Derived.Test.YtbodlnpmplcaoaaPg
namespace Go.Proofs.Ytbodlnpmplcaoaa
def NumP (L out : List Int) : Prop := out.length = L.length ∧ CanP out ∧ ∀ a b, (0 ≤ a ∧ a < (L.length : Int)) → (0 ≤ b ∧ b < (L.length : Int)) → (el out a = el out b ↔ el L a = el L b)
noncomputable def numI (L : List Int) : List Int := the (NumP L)
theorem numP_uniq {L : List Int} (x y : List Int) (h1 : NumP L x) (h2 : NumP L y) : x = y := by
  obtain ⟨a1, b1, c1⟩ := h1
  obtain ⟨a2, b2, c2⟩ := h2
  exact canP_uniq (by omega) b1 b2 fun u v hu hv => (c1 u v ⟨hu.1, by omega⟩ ⟨hv.1, by omega⟩).trans (c2 u v ⟨hu.1, by omega⟩ ⟨hv.1, by omega⟩).symm
structure NumS (L : List Int) (i : Int) (s : List Int) : Prop where
  nd : s.Nodup
  len : (s.length : Int) ≤ i
  mem : ∀ j, 0 ≤ j → j < i → el L j ∈ s
  can : ∀ j, 0 ≤ j → j < i → ∀ c, 0 ≤ c → c < idxI s (el L j) → ∃ k, (0 ≤ k ∧ k < j) ∧ idxI s (el L k) = c
  used : ∀ c, 0 ≤ c → c < (s.length : Int) → ∃ k, (0 ≤ k ∧ k < i) ∧ idxI s (el L k) = c
theorem numS0 (L : List Int) : NumS L 0 [] := ⟨by simp, by simp, fun j a b => by omega, fun j a b => by omega, fun c a b => by simp at b; omega⟩
theorem numS_old {L s : List Int} {i : Int} (h : NumS L i s) (hm : el L i ∈ s) : NumS L (i + 1) s :=
  ⟨h.nd, by have := h.len; omega, fun j a b => by
    by_cases e : j = i
    · subst e; exact hm
    · exact h.mem j a (by omega), fun j a b c c0 c1 => by
    by_cases e : j = i
    · subst e
      have := (idxI_spec hm).1
      obtain ⟨k, hk, e2⟩ := h.used c c0 (by omega)
      exact ⟨k, hk, e2⟩
    · exact h.can j a (by omega) c c0 c1, fun c c0 c1 => by
    obtain ⟨k, hk, e⟩ := h.used c c0 c1
    exact ⟨k, ⟨hk.1, by omega⟩, e⟩⟩
theorem idxI_app {s : List Int} {v w : Int} (h : v ∈ s) : idxI (s ++ [w]) v = idxI s v := by
  obtain ⟨h1, h2⟩ := idxI_spec h
  refine idxF_found ⟨h1.1, by simp; omega⟩ (fun j j0 j1 => ?_) (by rw [el_append_l h1, h2]; simp)
  show (el (s ++ [w]) j == v) = false
  rw [el_append_l ⟨j0, by omega⟩]
  rw [beq_eq_false_iff_ne]
  intro e
  have h3 : idxI s v ≤ j := by
    have hex : ∃ m : Nat, m ≤ j.toNat ∧ el s (m : Int) = v ∧ ∀ k : Nat, k < m → el s (k : Int) ≠ v := by
      have key : ∀ n : Nat, (∃ m : Nat, m ≤ n ∧ el s (m : Int) = v) → ∃ m : Nat, m ≤ n ∧ el s (m : Int) = v ∧ ∀ k : Nat, k < m → el s (k : Int) ≠ v := by
        intro n
        induction n with
        | zero => intro ⟨m, hm, e⟩; exact ⟨m, hm, e, fun k hk => by omega⟩
        | succ n ih =>
          intro ⟨m, hm, e⟩
          by_cases hc : ∃ m : Nat, m ≤ n ∧ el s (m : Int) = v
          · obtain ⟨m', a, b, c⟩ := ih hc
            exact ⟨m', by omega, b, c⟩
          · exact ⟨m, hm, e, fun k hk e2 => hc ⟨k, by omega, e2⟩⟩
      exact key j.toNat ⟨j.toNat, Nat.le_refl _, by rw [show ((j.toNat : Nat) : Int) = j by omega]; exact e⟩
    obtain ⟨m, a, b, c⟩ := hex
    have : idxI s v = (m : Int) := idxF_found ⟨by omega, by omega⟩ (fun k k0 k1 => by
      have := c k.toNat (by omega)
      rw [show ((k.toNat : Nat) : Int) = k by omega] at this
      show (el s k == v) = false
      rw [beq_eq_false_iff_ne]; exact this) (by simp [b])
    omega
  omega
theorem idxI_new {s : List Int} {v : Int} (h : ¬ v ∈ s) : idxI (s ++ [v]) v = (s.length : Int) := by
  refine idxF_found ⟨by omega, by simp; omega⟩ (fun j j0 j1 => ?_) (by rw [el_append_last rfl]; simp)
  show (el (s ++ [v]) j == v) = false
  rw [el_append_l ⟨j0, j1⟩]
  rw [beq_eq_false_iff_ne]
  intro e
  exact h (e ▸ el_mem ⟨j0, j1⟩)
theorem numS_new {L s : List Int} {i : Int} (hi : 0 ≤ i) (h : NumS L i s) (hm : ¬ el L i ∈ s) : NumS L (i + 1) (s ++ [el L i]) := by
  have old : ∀ j, 0 ≤ j → j < i → idxI (s ++ [el L i]) (el L j) = idxI s (el L j) := fun j a b => idxI_app (h.mem j a b)
  have new := idxI_new hm
  refine ⟨?_, by have := h.len; simp; omega, fun j a b => ?_, fun j a b c c0 c1 => ?_, fun c c0 c1 => ?_⟩
  · refine List.nodup_append.2 ⟨h.nd, by simp, fun x hx y hy e => ?_⟩
    simp only [List.mem_singleton] at hy
    subst e; subst hy; exact hm hx
  · by_cases e : j = i
    · subst e; exact List.mem_append_right _ List.mem_cons_self
    · exact List.mem_append_left _ (h.mem j a (by omega))
  · by_cases e : j = i
    · subst e
      rw [new] at c1
      obtain ⟨k, hk, e2⟩ := h.used c c0 c1
      exact ⟨k, hk, by rw [old k hk.1 hk.2]; exact e2⟩
    · rw [old j a (by omega)] at c1
      obtain ⟨k, hk, e2⟩ := h.can j a (by omega) c c0 c1
      exact ⟨k, hk, by rw [old k hk.1 (by omega)]; exact e2⟩
  · simp only [List.length_append, List.length_singleton, Int.natCast_add, Int.natCast_one] at c1
    by_cases e : c = (s.length : Int)
    · exact ⟨i, ⟨hi, by omega⟩, by rw [new, e]⟩
    · obtain ⟨k, hk, e2⟩ := h.used c c0 (by omega)
      exact ⟨k, ⟨hk.1, by omega⟩, by rw [old k hk.1 hk.2]; exact e2⟩
theorem numS_fin {L s out : List Int} (h : NumS L (L.length : Int) s) (hl : out.length = L.length) (ho : ∀ j, 0 ≤ j → j < (L.length : Int) → el out j = idxI s (el L j)) : NumP L out := by
  refine ⟨hl, fun i a b => ?_, fun a b ha hb => ?_⟩
  · rw [ho i a (by omega)]
    refine ⟨(idxI_spec (h.mem i a (by omega))).1.1, fun c c0 c1 => ?_⟩
    obtain ⟨k, hk, e⟩ := h.can i a (by omega) c c0 c1
    exact ⟨k, hk, by rw [ho k hk.1 (by omega)]; exact e⟩
  · rw [ho a ha.1 ha.2, ho b hb.1 hb.2]
    refine ⟨fun e => ?_, fun e => by rw [e]⟩
    have h1 := (idxI_spec (h.mem a ha.1 ha.2)).2
    have h2 := (idxI_spec (h.mem b hb.1 hb.2)).2
    rw [← h1, ← h2, e]
theorem num_ex (L : List Int) : NumP L (numI L) := by
  have key : ∀ n : Nat, (n : Int) ≤ (L.length : Int) → ∃ s, NumS L n s := by
    intro n
    induction n with
    | zero => exact fun _ => ⟨[], numS0 L⟩
    | succ n ih =>
      intro hn
      obtain ⟨s, h⟩ := ih (by omega)
      by_cases hm : el L (n : Int) ∈ s
      · exact ⟨s, numS_old h hm⟩
      · exact ⟨_, numS_new (by omega) h hm⟩
  obtain ⟨s, h⟩ := key L.length (by omega)
  exact the_spec (numS_fin h (out := L.map (idxI s)) (by simp) fun j a b => el_map ⟨a, b⟩)
inductive Cg (t : List (List Int)) (x y : Int) : Int → Int → Prop
  | base : Cg t x y x y
  | refl (a : Int) : Cg t x y a a
  | symm {a b : Int} (h : Cg t x y a b) : Cg t x y b a
  | trans {a b c : Int} (h : Cg t x y a b) (k : Cg t x y b c) : Cg t x y a c
  | left {a b : Int} (z : Int) (hz : 0 ≤ z ∧ z < (t.length : Int)) (ha : 0 ≤ a ∧ a < (t.length : Int)) (hb : 0 ≤ b ∧ b < (t.length : Int)) (h : Cg t x y a b) : Cg t x y (el (el t z) a) (el (el t z) b)
  | right {a b : Int} (z : Int) (hz : 0 ≤ z ∧ z < (t.length : Int)) (ha : 0 ≤ a ∧ a < (t.length : Int)) (hb : 0 ≤ b ∧ b < (t.length : Int)) (h : Cg t x y a b) : Cg t x y (el (el t a) z) (el (el t b) z)
def CgP (t : List (List Int)) (x y : Int) (l : List Int) : Prop := (l.length : Int) = (t.length : Int) ∧ CanP l ∧ ∀ a b, (0 ≤ a ∧ a < (t.length : Int)) → (0 ≤ b ∧ b < (t.length : Int)) → (el l a = el l b ↔ Cg t x y a b)
noncomputable def cgI (t : List (List Int)) (x y : Int) : List Int := the (CgP t x y)
theorem cgP_uniq {t : List (List Int)} {x y : Int} (l m : List Int) (h1 : CgP t x y l) (h2 : CgP t x y m) : l = m := by
  obtain ⟨a1, b1, c1⟩ := h1
  obtain ⟨a2, b2, c2⟩ := h2
  exact canP_uniq (by omega) b1 b2 fun u v hu hv => (c1 u v ⟨hu.1, by omega⟩ ⟨hv.1, by omega⟩).trans (c2 u v ⟨hu.1, by omega⟩ ⟨hv.1, by omega⟩).symm
theorem cg_swap {t : List (List Int)} {x y a b : Int} (h : Cg t x y a b) : Cg t y x a b := by
  induction h with
  | base => exact .symm .base
  | refl a => exact .refl a
  | symm _ ih => exact .symm ih
  | trans _ _ ih1 ih2 => exact .trans ih1 ih2
  | left z hz ha hb _ ih => exact .left z hz ha hb ih
  | right z hz ha hb _ ih => exact .right z hz ha hb ih
theorem cgI_swap (t : List (List Int)) (x y : Int) : cgI t x y = cgI t y x := by
  have : CgP t x y = CgP t y x := by
    funext l
    unfold CgP
    have : ∀ a b, Cg t x y a b ↔ Cg t y x a b := fun a b => ⟨cg_swap, cg_swap⟩
    simp only [this]
  unfold cgI; rw [this]
def Lb (t : List (List Int)) (x y : Int) (L : List Int) : Prop := (L.length : Int) = (t.length : Int) ∧ ∀ a, 0 ≤ a → a < (t.length : Int) → (0 ≤ el L a ∧ el L a < (t.length : Int)) ∧ el L (el L a) = el L a ∧ Cg t x y a (el L a)
def fixs (n : Int) (L : List Int) : Nat := ((ran n id).filter fun a => decide (el L a = a)).length
def mgI (L : List Int) (f g : Int) : List Int := L.map fun v => if v = f then g else v
def jnI (L : List Int) (a b : Int) : List Int := mgI L (if el L a < el L b then el L b else el L a) (if el L b < el L a then el L b else el L a)
theorem filt_lt {α : Type} {p q : α → Bool} : ∀ (l : List α), (∀ a ∈ l, q a = true → p a = true) → (∃ c ∈ l, p c = true ∧ q c = false) → (l.filter q).length < (l.filter p).length
  | [], _, ⟨c, hc, _⟩ => (List.not_mem_nil hc).elim
  | x :: l, h, hc => by
    have hle : ∀ (l : List α), (∀ a ∈ l, q a = true → p a = true) → (l.filter q).length ≤ (l.filter p).length := by
      intro l
      induction l with
      | nil => intro _; exact Nat.le_refl _
      | cons y l ih =>
        intro h
        have ih' := ih fun a ha => h a (List.mem_cons_of_mem _ ha)
        cases hq : q y with
        | true => rw [List.filter_cons_of_pos hq, List.filter_cons_of_pos (h y List.mem_cons_self hq)]; simp; exact ih'
        | false =>
          rw [List.filter_cons_of_neg (by simp [hq])]
          cases hp : p y with
          | true => rw [List.filter_cons_of_pos hp]; simp; omega
          | false => rw [List.filter_cons_of_neg (by simp [hp])]; exact ih'
    have h' : ∀ a ∈ l, q a = true → p a = true := fun a ha => h a (List.mem_cons_of_mem _ ha)
    obtain ⟨c, hcm, hp, hq⟩ := hc
    rcases List.mem_cons.1 hcm with e | hcm
    · subst e
      rw [List.filter_cons_of_neg (by simp [hq]), List.filter_cons_of_pos hp]
      have := hle l h'
      simp; omega
    · have ih := filt_lt l h' ⟨c, hcm, hp, hq⟩
      cases hq2 : q x with
      | true => rw [List.filter_cons_of_pos hq2, List.filter_cons_of_pos (h x List.mem_cons_self hq2)]; simp; exact ih
      | false =>
        rw [List.filter_cons_of_neg (by simp [hq2])]
        cases hp2 : p x with
        | true => rw [List.filter_cons_of_pos hp2]; simp; omega
        | false => rw [List.filter_cons_of_neg (by simp [hp2])]; exact ih
theorem fixs_le (n : Int) (L : List Int) : fixs n L ≤ n.toNat := by
  have := List.length_filter_le (fun a => decide (el L a = a)) (ran n id)
  simpa [fixs] using this
theorem el_mg {L : List Int} {f g a : Int} (ha : 0 ≤ a ∧ a < (L.length : Int)) : el (mgI L f g) a = if el L a = f then g else el L a := el_map ha
theorem lb_unit {t : List (List Int)} {x y : Int} : Lb t x y (unitI (t.length : Int)) := ⟨by simp, fun a h0 h1 => by
  rw [el_unitI ⟨h0, h1⟩, el_unitI ⟨h0, h1⟩]; exact ⟨⟨h0, h1⟩, rfl, .refl a⟩⟩
theorem mg_spec {t : List (List Int)} {x y u v : Int} {L : List Int} (h : Lb t x y L) (hu : 0 ≤ u ∧ u < (t.length : Int)) (hv : 0 ≤ v ∧ v < (t.length : Int)) (hC : Cg t x y u v) (hne : el L u ≠ el L v) :
    Lb t x y (mgI L (el L u) (el L v)) ∧ (∀ c d, (0 ≤ c ∧ c < (t.length : Int)) → (0 ≤ d ∧ d < (t.length : Int)) → el L c = el L d → el (mgI L (el L u) (el L v)) c = el (mgI L (el L u) (el L v)) d) ∧ el (mgI L (el L u) (el L v)) u = el (mgI L (el L u) (el L v)) v ∧ fixs (t.length : Int) (mgI L (el L u) (el L v)) < fixs (t.length : Int) L := by
  obtain ⟨hl, hL⟩ := h
  obtain ⟨u1, u2, u3⟩ := hL u hu.1 hu.2
  obtain ⟨v1, v2, v3⟩ := hL v hv.1 hv.2
  have e : ∀ a, (0 ≤ a ∧ a < (t.length : Int)) → el (mgI L (el L u) (el L v)) a = if el L a = el L u then el L v else el L a := fun a ha => el_mg ⟨ha.1, by omega⟩
  have hgv : el (mgI L (el L u) (el L v)) (el L v) = el L v := by rw [e _ v1, v2, if_neg (Ne.symm hne)]
  refine ⟨⟨by simp [mgI]; omega, fun a a0 a1 => ?_⟩, fun c d hc hd ecd => by rw [e c hc, e d hd, ecd], by rw [e u hu, e v hv, if_pos rfl, if_neg (Ne.symm hne)], ?_⟩
  · obtain ⟨b1, b2, b3⟩ := hL a a0 a1
    rw [e a ⟨a0, a1⟩]
    by_cases ea : el L a = el L u
    · rw [if_pos ea]
      exact ⟨v1, hgv, .trans b3 (by rw [ea]; exact .trans (.symm u3) (.trans hC v3))⟩
    · rw [if_neg ea]
      refine ⟨b1, ?_, b3⟩
      rw [e _ b1, b2, if_neg ea]
  · refine filt_lt _ (fun a ha hq => ?_) ⟨el L u, mem_ran.2 u1, decide_eq_true u2, decide_eq_false ?_⟩
    · have ra := mem_ran.1 ha
      have hq' := of_decide_eq_true hq
      rw [e a ra] at hq'
      refine decide_eq_true ?_
      by_cases ea : el L a = el L u
      · rw [if_pos ea] at hq'
        rw [← hq', v2] at ea
        exact absurd ea.symm hne
      · rwa [if_neg ea] at hq'
    · rw [e _ u1, if_pos u2]; exact Ne.symm hne
theorem mg_same {L : List Int} {f : Int} : mgI L f f = L := by
  unfold mgI
  have : (fun v : Int => if v = f then f else v) = id := by
    funext v
    by_cases e : v = f
    · rw [if_pos e, e]; rfl
    · rw [if_neg e]; rfl
  rw [this, List.map_id]
theorem jn_same {L : List Int} {a b : Int} (h : el L a = el L b) : jnI L a b = L := by
  unfold jnI
  rw [h, if_neg (by omega)]
  exact mg_same
theorem jn_spec {t : List (List Int)} {x y u v : Int} {L : List Int} (h : Lb t x y L) (hu : 0 ≤ u ∧ u < (t.length : Int)) (hv : 0 ≤ v ∧ v < (t.length : Int)) (hC : Cg t x y u v) :
    Lb t x y (jnI L u v) ∧ (∀ c d, (0 ≤ c ∧ c < (t.length : Int)) → (0 ≤ d ∧ d < (t.length : Int)) → el L c = el L d → el (jnI L u v) c = el (jnI L u v) d) ∧ el (jnI L u v) u = el (jnI L u v) v ∧ (el L u ≠ el L v → fixs (t.length : Int) (jnI L u v) < fixs (t.length : Int) L) := by
  by_cases e : el L u = el L v
  · rw [jn_same e]
    exact ⟨h, fun _ _ _ _ h => h, e, fun hn => absurd e hn⟩
  · rcases Int.lt_or_gt_of_ne e with hlt | hgt
    · have ej : jnI L u v = mgI L (el L v) (el L u) := by unfold jnI; rw [if_pos hlt, if_neg (by omega)]
      obtain ⟨a, b, c, d⟩ := mg_spec h hv hu (.symm hC) (Ne.symm e)
      rw [ej]; exact ⟨a, b, c.symm, fun _ => d⟩
    · have ej : jnI L u v = mgI L (el L u) (el L v) := by unfold jnI; rw [if_neg (by omega), if_pos hgt]
      obtain ⟨a, b, c, d⟩ := mg_spec h hu hv hC e
      rw [ej]; exact ⟨a, b, c, fun _ => d⟩
theorem lb_ker {t : List (List Int)} {x y : Int} {L : List Int} (h : Lb t x y L) {a b : Int} (ha : 0 ≤ a ∧ a < (t.length : Int)) (hb : 0 ≤ b ∧ b < (t.length : Int)) (e : el L a = el L b) : Cg t x y a b := by
  have h1 := (h.2 a ha.1 ha.2).2.2
  have h2 := (h.2 b hb.1 hb.2).2.2
  rw [← e] at h2
  exact .trans h1 (.symm h2)
theorem lb_fin {t : List (List Int)} (ht : isTab t = true) {x y : Int} (hx : 0 ≤ x ∧ x < (t.length : Int)) (hy : 0 ≤ y ∧ y < (t.length : Int)) {L : List Int} (h : Lb t x y L) (hxy : el L x = el L y) (hC : CongP t L) : CgP t x y (numI L) := by
  obtain ⟨n1, n2, n3⟩ := num_ex L
  have hl := h.1
  have key : ∀ a b, Cg t x y a b → ((0 ≤ a ∧ a < (t.length : Int)) ↔ (0 ≤ b ∧ b < (t.length : Int))) ∧ ((0 ≤ a ∧ a < (t.length : Int)) → el L a = el L b) := by
    intro a b hab
    induction hab with
    | base => exact ⟨⟨fun _ => hy, fun _ => hx⟩, fun _ => hxy⟩
    | refl a => exact ⟨Iff.rfl, fun _ => rfl⟩
    | symm _ ih => exact ⟨ih.1.symm, fun hb => (ih.2 (ih.1.2 hb)).symm⟩
    | trans _ _ ih1 ih2 => exact ⟨ih1.1.trans ih2.1, fun ha => (ih1.2 ha).trans (ih2.2 (ih1.1.1 ha))⟩
    | left z hz ha hb _ ih => exact ⟨⟨fun _ => rk_el ht hz hb, fun _ => rk_el ht hz ha⟩, fun _ => hC z _ z _ hz ha hz hb rfl (ih.2 ha)⟩
    | right z hz ha hb _ ih => exact ⟨⟨fun _ => rk_el ht hb hz, fun _ => rk_el ht ha hz⟩, fun _ => hC _ z _ z ha hz hb hz (ih.2 ha) rfl⟩
  refine ⟨by omega, n2, fun a b ha hb => ?_⟩
  rw [n3 a b ⟨ha.1, by omega⟩ ⟨hb.1, by omega⟩]
  exact ⟨fun e => lb_ker h ha hb e, fun hab => (key a b hab).2 ha⟩
def CgfE (r : List (List Int)) (x y : Int) : Int := if isRk r then (if inN (r.length : Int) x && inN (r.length : Int) y then 0 else 2) else 1
noncomputable def CgfT (r : List (List Int)) (x y : Int) : List Int := if CgfE r x y = 0 then cgI r x y else []
def SimP (r : List (List Int)) : Prop := ∀ x y, 0 ≤ y → y < x → x < (r.length : Int) → ∀ z, 0 ≤ z → z < (r.length : Int) → el (cgI r x y) z = 0
noncomputable def SimB (r : List (List Int)) : Bool := isRk r && decide (1 < (r.length : Int)) && dec (SimP r)
inductive Eqv (R : Int → Int → Prop) : Int → Int → Prop
  | refl (a : Int) : Eqv R a a
  | step {a b : Int} (h : R a b) : Eqv R a b
  | symm {a b : Int} (h : Eqv R a b) : Eqv R b a
  | trans {a b c : Int} (h : Eqv R a b) (k : Eqv R b c) : Eqv R a c
theorem Eqv.mono {R S : Int → Int → Prop} (h : ∀ a b, R a b → S a b) {a b : Int} (k : Eqv R a b) : Eqv S a b := by
  induction k with
  | refl a => exact .refl a
  | step k => exact .step (h _ _ k)
  | symm _ ih => exact .symm ih
  | trans _ _ ih1 ih2 => exact .trans ih1 ih2
def Lst (one two : List Int) (a b : Int) : Prop := ∃ j, (0 ≤ j ∧ j < (one.length : Int)) ∧ el one j = a ∧ el two j = b
structure FromI (t : List (List Int)) (x y i : Int) (L one two : List Int) : Prop where
  i0 : 0 ≤ i ∧ i ≤ (one.length : Int)
  lb : Lb t x y L
  len : one.length = two.length
  prs : ∀ j, 0 ≤ j → j < (one.length : Int) → (0 ≤ el one j ∧ el one j < (t.length : Int)) ∧ (0 ≤ el two j ∧ el two j < (t.length : Int)) ∧ Cg t x y (el one j) (el two j)
  done : Upto i fun j => el L (el one j) = el L (el two j)
  first : 1 ≤ (one.length : Int) ∧ el one 0 = x ∧ el two 0 = y
  bound : one.length + 24 * fixs (t.length : Int) L ≤ 289
  rel : ∃ R : Int → Int → Prop, (∀ a b, (0 ≤ a ∧ a < (t.length : Int)) → (0 ≤ b ∧ b < (t.length : Int)) → el L a = el L b → Eqv R a b) ∧ ∀ a b, R a b → ∀ z, 0 ≤ z → z < (t.length : Int) → Lst one two (el (el t z) a) (el (el t z) b) ∧ Lst one two (el (el t a) z) (el (el t b) z)
theorem from_end {t : List (List Int)} (ht : isTab t = true) {x y i : Int} (hx : 0 ≤ x ∧ x < (t.length : Int)) (hy : 0 ≤ y ∧ y < (t.length : Int)) {L one two : List Int} (h : FromI t x y i L one two) (hi : (one.length : Int) ≤ i) : numI L = cgI t x y := by
  obtain ⟨R, r1, r2⟩ := h.rel
  have lst : ∀ a b, Lst one two a b → el L a = el L b := fun a b ⟨j, hj, e1, e2⟩ => by
    rw [← e1, ← e2]; exact h.done j hj.1 (by omega)
  have key : ∀ a b, Eqv R a b → ∀ z, 0 ≤ z → z < (t.length : Int) → el L (el (el t z) a) = el L (el (el t z) b) ∧ el L (el (el t a) z) = el L (el (el t b) z) := by
    intro a b hab
    induction hab with
    | refl a => exact fun _ _ _ => ⟨rfl, rfl⟩
    | step k => exact fun z z0 z1 => ⟨lst _ _ (r2 _ _ k z z0 z1).1, lst _ _ (r2 _ _ k z z0 z1).2⟩
    | symm _ ih => exact fun z z0 z1 => ⟨(ih z z0 z1).1.symm, (ih z z0 z1).2.symm⟩
    | trans _ _ ih1 ih2 => exact fun z z0 z1 => ⟨(ih1 z z0 z1).1.trans (ih2 z z0 z1).1, (ih1 z z0 z1).2.trans (ih2 z z0 z1).2⟩
  have hxy : el L x = el L y := by
    have hd : el L (el one 0) = el L (el two 0) := h.done 0 (by omega) (by have := h.first.1; omega)
    rwa [h.first.2.1, h.first.2.2] at hd
  refine the_eq (lb_fin ht hx hy h.lb hxy fun a b c d ha hb hc hd eac ebd => ?_) cgP_uniq
  rw [(key a c (r1 a c ha hc eac) b hb.1 hb.2).2, (key b d (r1 b d hb hd ebd) c hc.1 hc.2).1]
theorem from_skip {t : List (List Int)} {x y i : Int} {L one two : List Int} (h : FromI t x y i L one two) (hi : i < (one.length : Int)) (he : el L (el one i) = el L (el two i)) : FromI t x y (i + 1) L one two :=
  ⟨⟨by have := h.i0; omega, by omega⟩, h.lb, h.len, h.prs, upto1 h.done he, h.first, h.bound, h.rel⟩
theorem Lst.app {one two s1 s2 : List Int} {a b : Int} (hl : one.length = two.length) (h : Lst one two a b) : Lst (one ++ s1) (two ++ s2) a b := by
  obtain ⟨j, hj, e1, e2⟩ := h
  exact ⟨j, ⟨hj.1, by simp; omega⟩, by rw [el_append_l hj]; exact e1, by rw [el_append_l ⟨hj.1, by omega⟩]; exact e2⟩
theorem from_merge {t : List (List Int)} {x y i : Int} {L one two s1 s2 : List Int} (h : FromI t x y i L one two) (hi : i < (one.length : Int)) (hne : ¬ el L (el one i) = el L (el two i)) (hl : (one ++ s1).length = (two ++ s2).length) (hs : s1.length ≤ 24)
    (hp : ∀ j, 0 ≤ j → j < ((one ++ s1).length : Int) → (0 ≤ el (one ++ s1) j ∧ el (one ++ s1) j < (t.length : Int)) ∧ (0 ≤ el (two ++ s2) j ∧ el (two ++ s2) j < (t.length : Int)) ∧ Cg t x y (el (one ++ s1) j) (el (two ++ s2) j))
    (hn : ∀ z, 0 ≤ z → z < (t.length : Int) → Lst (one ++ s1) (two ++ s2) (el (el t z) (el one i)) (el (el t z) (el two i)) ∧ Lst (one ++ s1) (two ++ s2) (el (el t (el one i)) z) (el (el t (el two i)) z)) :
    FromI t x y (i + 1) (mgI L (el L (el two i)) (el L (el one i))) (one ++ s1) (two ++ s2) ∧ ((one ++ s1).length - (i + 1).toNat) + 25 * fixs (t.length : Int) (mgI L (el L (el two i)) (el L (el one i))) < (one.length - i.toNat) + 25 * fixs (t.length : Int) L := by
  have hi0 := h.i0
  have hlen := h.len
  obtain ⟨pu, pv, pc⟩ := h.prs i hi0.1 hi
  obtain ⟨m1, m2, m3, m4⟩ := mg_spec h.lb pv pu (.symm pc) (fun e => hne e.symm)
  have hb := h.bound
  have e1 : ∀ j, 0 ≤ j → j < (one.length : Int) → el (one ++ s1) j = el one j := fun j a b => el_append_l ⟨a, b⟩
  have e2 : ∀ j, 0 ≤ j → j < (one.length : Int) → el (two ++ s2) j = el two j := fun j a b => el_append_l ⟨a, by omega⟩
  have hl1 : (one ++ s1).length = one.length + s1.length := by simp
  refine ⟨⟨⟨by omega, by omega⟩, m1, hl, hp, upto1 (fun j a b => ?_) ?_, ⟨by have := h.first.1; omega, by rw [e1 0 (by omega) (by have := h.first.1; omega)]; exact h.first.2.1, by rw [e2 0 (by omega) (by have := h.first.1; omega)]; exact h.first.2.2⟩, by omega, ?_⟩, by omega⟩
  · show el _ (el (one ++ s1) j) = el _ (el (two ++ s2) j)
    rw [e1 j a (by omega), e2 j a (by omega)]
    obtain ⟨qa, qb, _⟩ := h.prs j a (by omega)
    exact m2 _ _ qa qb (h.done j a b)
  · show el _ (el (one ++ s1) i) = el _ (el (two ++ s2) i)
    rw [e1 i hi0.1 hi, e2 i hi0.1 hi]; exact m3.symm
  · obtain ⟨R, r1, r2⟩ := h.rel
    refine ⟨fun a b => R a b ∨ (a = el one i ∧ b = el two i), fun a b ha hb hab => ?_, fun a b hR z z0 z1 => ?_⟩
    · have up : ∀ c d, (0 ≤ c ∧ c < (t.length : Int)) → (0 ≤ d ∧ d < (t.length : Int)) → el L c = el L d → Eqv (fun a b => R a b ∨ (a = el one i ∧ b = el two i)) c d := fun c d hc hd e => Eqv.mono (fun _ _ h => .inl h) (r1 c d hc hd e)
      have lk : Eqv (fun a b => R a b ∨ (a = el one i ∧ b = el two i)) (el one i) (el two i) := .step (.inr ⟨rfl, rfl⟩)
      have hLl := h.lb.1
      rw [el_mg ⟨ha.1, by omega⟩, el_mg ⟨hb.1, by omega⟩] at hab
      by_cases ea : el L a = el L (el two i) <;> by_cases eb : el L b = el L (el two i)
      · exact up a b ha hb (ea.trans eb.symm)
      · rw [if_pos ea, if_neg eb] at hab
        exact .trans (up a _ ha pv ea) (.trans (.symm lk) (up _ b pu hb hab))
      · rw [if_neg ea, if_pos eb] at hab
        exact .trans (up a _ ha pu hab) (.trans lk (up _ b pv hb eb.symm))
      · rw [if_neg ea, if_neg eb] at hab
        exact up a b ha hb hab
    · rcases hR with hR | ⟨rfl, rfl⟩
      · exact ⟨Lst.app hlen (r2 a b hR z z0 z1).1, Lst.app hlen (r2 a b hR z z0 z1).2⟩
      · exact hn z z0 z1

end Go.Proofs.Ytbodlnpmplcaoaa
