/- Plain definitions, the nineteenth part: the permutations in order, and which comes next; no condition. -/
import Derived.Test.YtfpkpefokcphpaaPr
namespace Go.Proofs.Ytfpkpefokcphpaa
def lexL (a b : List Int) : Prop := ∃ j, (0 ≤ j ∧ j < (a.length : Int)) ∧ Upto j (fun m => el a m = el b m) ∧ el a j < el b j
theorem lexL_trans {a b c : List Int} (hl : a.length = b.length) (h1 : lexL a b) (h2 : lexL b c) : lexL a c := by
  obtain ⟨j, hj, hu, hlt⟩ := h1
  obtain ⟨k, hk, hv, hlt2⟩ := h2
  rcases Int.lt_trichotomy j k with h | h | h
  · exact ⟨j, hj, fun m m0 m1 => (hu m m0 m1).trans (hv m m0 (by omega)), by rw [← hv j hj.1 h]; exact hlt⟩
  · subst h; exact ⟨j, hj, fun m m0 m1 => (hu m m0 m1).trans (hv m m0 m1), by omega⟩
  · exact ⟨k, ⟨hk.1, by omega⟩, fun m m0 m1 => (hu m m0 (by omega)).trans (hv m m0 m1), by rw [hu k hk.1 h]; exact hlt2⟩
theorem lexL_irrefl {a : List Int} : ¬ lexL a a := fun ⟨_, _, _, h⟩ => by omega
structure NxI (p : List Int) (i k : Int) : Prop where
  hi : 0 ≤ i ∧ i + 1 < (p.length : Int)
  up : el p i < el p (i + 1)
  dn : ∀ j, i < j → j + 1 < (p.length : Int) → el p (j + 1) < el p j
  hk : i < k ∧ k < (p.length : Int)
  kup : el p i < el p k
  kdn : ∀ j, k < j → j < (p.length : Int) → el p j < el p i
def nxtL (p : List Int) (i k : Int) : List Int := (se (se p i (el p k)) k (el p i)).take (i + 1).toNat ++ ((se (se p i (el p k)) k (el p i)).drop (i + 1).toNat).reverse
section
variable {p : List Int} {i k : Int}
theorem dn_all {p : List Int} {i : Int} (dn : ∀ j, i < j → j + 1 < (p.length : Int) → el p (j + 1) < el p j) {a b : Int} (ha : i < a) (hab : a < b) (hb : b < (p.length : Int)) : el p b < el p a := by
  obtain ⟨n, rfl⟩ : ∃ n : Nat, b = a + 1 + n := ⟨(b - a - 1).toNat, by omega⟩
  induction n with
  | zero => simpa using dn a ha (by omega)
  | succ n ih =>
    have h1 := ih (by omega) (by omega)
    have h2 := dn (a + 1 + n) (by omega) (by omega)
    rw [show a + 1 + ((n + 1 : Nat) : Int) = a + 1 + (n : Int) + 1 by omega]
    omega
theorem nxtL_len : (nxtL p i k).length = p.length := by simp [nxtL]; omega
theorem sw_el (h : NxI p i k) {j : Int} (hj : 0 ≤ j ∧ j < (p.length : Int)) : el (se (se p i (el p k)) k (el p i)) j = if j = k then el p i else if j = i then el p k else el p j := by
  have h1 := h.hi; have h2 := h.hk
  by_cases e : j = k
  · subst e; rw [if_pos rfl, el_se_same ⟨by omega, by simp; omega⟩]
  · rw [if_neg e, el_se_ne (by omega) hj.1 (Ne.symm e)]
    by_cases e2 : j = i
    · subst e2; rw [if_pos rfl, el_se_same ⟨by omega, by omega⟩]
    · rw [if_neg e2, el_se_ne (by omega) hj.1 (Ne.symm e2)]
theorem el_take' {l : List Int} {j m : Int} (hj : 0 ≤ j ∧ j < m) : el (l.take m.toNat) j = el l j := by
  unfold el
  simp only [List.getD_eq_getElem?_getD, List.getElem?_take]
  rw [if_pos (by omega)]
theorem nxt_el (h : NxI p i k) {j : Int} (hj : 0 ≤ j ∧ j < (p.length : Int)) : el (nxtL p i k) j = if j ≤ i then el (se (se p i (el p k)) k (el p i)) j else el (se (se p i (el p k)) k (el p i)) ((p.length : Int) - (j - i)) := by
  have h1 := h.hi
  have hl : (se (se p i (el p k)) k (el p i)).length = p.length := by simp
  generalize hS : se (se p i (el p k)) k (el p i) = S at *
  unfold nxtL
  rw [hS]
  have ht : ((S.take (i + 1).toNat).length : Int) = i + 1 := by simp; omega
  split
  · rw [el_append_l ⟨hj.1, by omega⟩, el_take' ⟨hj.1, by omega⟩]
  · rw [el_append_r (by omega), ht]
    have hd : (S.drop (i + 1).toNat).length = p.length - (i + 1).toNat := by simp [hl]
    unfold el
    simp only [List.getD_eq_getElem?_getD]
    rw [List.getElem?_reverse (by rw [hd]; omega), hd, List.getElem?_drop]
    congr 2
    omega
theorem nxt_lo (h : NxI p i k) {j : Int} (hj : 0 ≤ j ∧ j < i) : el (nxtL p i k) j = el p j := by
  have h1 := h.hi; have h2 := h.hk
  rw [nxt_el h ⟨hj.1, by omega⟩, if_pos (by omega), sw_el h ⟨hj.1, by omega⟩, if_neg (by omega), if_neg (by omega)]
theorem nxt_at (h : NxI p i k) : el (nxtL p i k) i = el p k := by
  have h1 := h.hi; have h2 := h.hk
  rw [nxt_el h ⟨h1.1, by omega⟩, if_pos (by omega), sw_el h ⟨h1.1, by omega⟩, if_neg (by omega), if_pos rfl]
theorem nxt_up (h : NxI p i k) {a b : Int} (ha : i < a) (hab : a < b) (hb : b < (p.length : Int)) : el (nxtL p i k) a < el (nxtL p i k) b := by
  have h1 := h.hi; have h2 := h.hk
  rw [nxt_el h ⟨by omega, by omega⟩, nxt_el h ⟨by omega, hb⟩, if_neg (by omega), if_neg (by omega), sw_el h ⟨by omega, by omega⟩, sw_el h ⟨by omega, by omega⟩]
  generalize hu : (p.length : Int) - (a - i) = u
  generalize hv : (p.length : Int) - (b - i) = v
  have huv : v < u := by omega
  rw [if_neg (show ¬ u = i by omega), if_neg (show ¬ v = i by omega)]
  split
  · rename_i e
    rw [if_neg (by omega)]
    have := dn_all h.dn (a := v) (b := k) (by omega) (by omega) (by omega)
    have := h.kup; omega
  · split
    · exact h.kdn u (by omega) (by omega)
    · exact dn_all h.dn (by omega) huv (by omega)
theorem nxt_perm (hp : isPerm p = true) (h : NxI p i k) : isPerm (nxtL p i k) = true := by
  have h1 := h.hi; have h2 := h.hk
  have hs := swap_perm hp (i := i) (j := k) ⟨h1.1, by omega⟩ ⟨by omega, h2.2⟩
  have hP : List.Perm (nxtL p i k) (se (se p i (el p k)) k (el p i)) := by
    unfold nxtL
    have := (List.reverse_perm ((se (se p i (el p k)) k (el p i)).drop (i + 1).toNat)).append_left ((se (se p i (el p k)) k (el p i)).take (i + 1).toNat)
    rwa [List.take_append_drop] at this
  obtain ⟨n1, n2⟩ := isPerm_iff.1 hs
  exact isPerm_iff.2 ⟨hP.nodup_iff.2 n1, fun x hx => by rw [hP.length_eq]; exact n2 x (hP.mem_iff.1 hx)⟩
theorem nxt_lt (h : NxI p i k) : lexL p (nxtL p i k) := ⟨i, ⟨h.hi.1, by have := h.hi; omega⟩, fun m m0 m1 => (nxt_lo h ⟨m0, m1⟩).symm, by rw [nxt_at h]; exact h.kup⟩
theorem perm_behind {a b : List Int} (ha : isPerm a = true) (hb : isPerm b = true) (hl : a.length = b.length) {j : Int} (hj : 0 ≤ j ∧ j < (a.length : Int)) (hu : Upto j fun m => el a m = el b m) : ∃ m, (j ≤ m ∧ m < (a.length : Int)) ∧ el b j = el a m := by
  have hx := isPerm_el hb (i := j) ⟨hj.1, by omega⟩
  obtain ⟨m, hm, e⟩ := isPerm_surj ha (x := el b j) ⟨hx.1, by omega⟩
  refine ⟨m, ⟨?_, hm.2⟩, e.symm⟩
  rcases Int.lt_or_le m j with g | g
  · have := hu m hm.1 g
    have e2 : el b m = el b j := by rw [← this]; exact e
    have := isPerm_inj hb ⟨hm.1, by omega⟩ ⟨hj.1, by omega⟩ e2
    omega
  · exact g
theorem nxt_least (hp : isPerm p = true) (h : NxI p i k) {q : List Int} (hq : isPerm q = true) (hl : q.length = p.length) (h1 : lexL p q) : ¬ lexL q (nxtL p i k) := by
  have hi := h.hi; have hk := h.hk
  obtain ⟨j, hj, hu, hlt⟩ := h1
  rintro ⟨j', hj', hu', hlt'⟩
  have hj'2 : j' < (p.length : Int) := by omega
  obtain ⟨m, hm, em⟩ := perm_behind hp hq hl.symm hj hu
  have hmj : j ≠ m := fun e => by rw [← e] at em; omega
  rcases Int.lt_trichotomy j i with g | g | g
  · rcases Int.lt_trichotomy j' j with g' | g' | g'
    · have := hu j' hj'.1 g'; rw [nxt_lo h ⟨hj'.1, by omega⟩] at hlt'; omega
    · subst g'; rw [nxt_lo h ⟨hj'.1, g⟩] at hlt'; omega
    · have e3 : el q j = el (nxtL p i k) j := hu' j hj.1 g'
      rw [nxt_lo h ⟨hj.1, g⟩] at e3; omega
  · subst g
    have hmk : m ≤ k := by
      rcases Int.lt_or_le k m with c | c
      · have := h.kdn m c hm.2; omega
      · exact c
    have hge : el p k ≤ el q j := by
      rw [em]
      rcases Int.lt_or_le m k with c | c
      · have := dn_all h.dn (a := m) (b := k) (by omega) c hk.2; omega
      · rw [show m = k by omega]; omega
    rcases Int.lt_trichotomy j' j with g' | g' | g'
    · have := hu j' hj'.1 g'; rw [nxt_lo h ⟨hj'.1, g'⟩] at hlt'; omega
    · subst g'; rw [nxt_at h] at hlt'; omega
    · obtain ⟨m', hm', em'⟩ := perm_behind (nxt_perm hp h) hq (by rw [nxtL_len, hl]) (j := j') ⟨hj'.1, by rw [nxtL_len]; omega⟩ fun z z0 z1 => (hu' z z0 z1).symm
      rw [nxtL_len] at hm'
      have hne : j' ≠ m' := fun e => by rw [← e] at em'; omega
      have := nxt_up h (a := j') (b := m') g' (by omega) hm'.2
      omega
  · have := dn_all h.dn (a := j) (b := m) g (by omega) hm.2
    omega
theorem last_perm (hp : isPerm p = true) (dn : ∀ j, -1 < j → j + 1 < (p.length : Int) → el p (j + 1) < el p j) {q : List Int} (hq : isPerm q = true) (hl : q.length = p.length) : ¬ lexL p q := by
  rintro ⟨j, hj, hu, hlt⟩
  obtain ⟨m, hm, em⟩ := perm_behind hp hq hl.symm hj hu
  have hmj : j ≠ m := fun e => by rw [← e] at em; omega
  have := dn_all dn (a := j) (b := m) (by omega) (by omega) hm.2
  omega
end
theorem growF_pre {n : Int} : ∀ (k : Nat) (s e : List Int), e ∈ growF k n s → ∃ u, e = s ++ u
  | 0, s, e, h => by simp only [growF, List.mem_singleton] at h; exact ⟨[], by simp [h]⟩
  | k + 1, s, e, h => by
    simp only [growF, List.mem_flatMap] at h
    obtain ⟨x, _, h⟩ := h
    split at h
    · cases h
    · obtain ⟨u, rfl⟩ := growF_pre k _ e h; exact ⟨[x] ++ u, by simp⟩
theorem growF_sort {n : Int} : ∀ (k : Nat) (s : List Int), (growF k n s).Pairwise lexL
  | 0, s => by simp [growF]
  | k + 1, s => by
    simp only [growF]
    rw [List.pairwise_flatMap]
    refine ⟨fun x _ => ?_, ?_⟩
    · split
      · exact List.Pairwise.nil
      · exact growF_sort k _
    · refine (ran_lt n).imp ?_
      intro x y hxy a ha b hb
      split at ha
      · cases ha
      · split at hb
        · cases hb
        · obtain ⟨u, rfl⟩ := growF_pre k _ a ha
          obtain ⟨v, rfl⟩ := growF_pre k _ b hb
          have e1 : el (s ++ [x] ++ u) (s.length : Int) = x := by simp [el]
          have e2 : el (s ++ [y] ++ v) (s.length : Int) = y := by simp [el]
          refine ⟨(s.length : Int), ⟨by omega, by simp; omega⟩, fun m m0 m1 => ?_, by rw [e1, e2]; exact hxy⟩
          show el (s ++ [x] ++ u) m = el (s ++ [y] ++ v) m
          rw [List.append_assoc, List.append_assoc, el_append_l ⟨m0, m1⟩, el_append_l ⟨m0, m1⟩]
theorem growF_all {n : Int} : ∀ (k : Nat) (s u : List Int), (s ++ u).Nodup → (∀ x ∈ u, 0 ≤ x ∧ x < n) → u.length = k → s ++ u ∈ growF k n s
  | 0, s, u, _, _, h => by have := List.eq_nil_of_length_eq_zero h; subst this; simp [growF]
  | k + 1, s, [], _, _, h => by simp at h
  | k + 1, s, x :: u, hn, hr, h => by
    simp only [growF, List.mem_flatMap]
    refine ⟨x, mem_ran.2 (hr x (by simp)), ?_⟩
    have hx : ¬ x ∈ s := fun g => (List.nodup_append.1 hn).2.2 x g x (by simp) rfl
    rw [if_neg (by rw [List.contains_iff_mem]; exact hx)]
    have := growF_all k (s ++ [x]) u (by simpa using hn) (fun y hy => hr y (by simp [hy])) (by simpa using h)
    simpa using this
section
variable {n : Int}
theorem growL_all (hn : 0 ≤ n) {q : List Int} (hq : isPerm q = true) (hl : (q.length : Int) = n) : q ∈ growL n [] := by
  obtain ⟨h1, h2⟩ := isPerm_iff.1 hq
  exact growF_all _ [] q h1 (fun x hx => by have := h2 x hx; omega) (by simp; omega)
theorem growL_sort : (growL n []).Pairwise lexL := growF_sort _ _
theorem sort_at {L : List (List Int)} (hs : L.Pairwise lexL) {a b : Nat} {x y : List Int} (hx : L[a]? = some x) (hy : L[b]? = some y) (h : a < b) : lexL x y := by
  obtain ⟨ha, ea⟩ := List.getElem?_eq_some_iff.1 hx
  obtain ⟨hb, eb⟩ := List.getElem?_eq_some_iff.1 hy
  have := List.pairwise_iff_getElem.1 hs a b ha hb h
  rwa [ea, eb] at this
theorem growL_next (hn : 0 ≤ n) {m : Nat} {p : List Int} (hp : (growL n [])[m]? = some p) {i k : Int} (h : NxI p i k) : (growL n [])[m + 1]? = some (nxtL p i k) := by
  obtain ⟨pl, pP⟩ := growL_perm hn (List.mem_of_getElem? hp)
  have rP := nxt_perm pP h
  have rl : ((nxtL p i k).length : Int) = n := by rw [nxtL_len]; exact pl
  obtain ⟨j, hj⟩ := List.mem_iff_getElem?.1 (growL_all hn rP rl)
  have hlt := nxt_lt h
  rcases Nat.lt_trichotomy j m with g | g | g
  · exact absurd (lexL_trans (by rw [nxtL_len]) hlt (sort_at growL_sort hj hp g)) lexL_irrefl
  · subst g; rw [hp] at hj; have e := Option.some.inj hj; rw [← e] at hlt; exact absurd hlt lexL_irrefl
  · rcases Nat.lt_or_ge (m + 1) j with g2 | g2
    · obtain ⟨q, hq⟩ : ∃ q, (growL n [])[m + 1]? = some q := ⟨_, List.getElem?_eq_getElem (by have := (List.getElem?_eq_some_iff.1 hj).1; omega)⟩
      obtain ⟨ql, qP⟩ := growL_perm hn (List.mem_of_getElem? hq)
      exact absurd (sort_at growL_sort hq hj g2) (nxt_least pP h qP (by omega) (sort_at growL_sort hp hq (by omega)))
    · rw [show m + 1 = j by omega]; exact hj
theorem growL_last (hn : 0 ≤ n) {m : Nat} {p : List Int} (hp : (growL n [])[m]? = some p) (dn : ∀ j, -1 < j → j + 1 < (p.length : Int) → el p (j + 1) < el p j) : m + 1 = (growL n []).length := by
  obtain ⟨pl, pP⟩ := growL_perm hn (List.mem_of_getElem? hp)
  have hm := (List.getElem?_eq_some_iff.1 hp).1
  rcases Nat.lt_or_ge (m + 1) (growL n []).length with g | g
  · obtain ⟨q, hq⟩ : ∃ q, (growL n [])[m + 1]? = some q := ⟨_, List.getElem?_eq_getElem g⟩
    obtain ⟨ql, qP⟩ := growL_perm hn (List.mem_of_getElem? hq)
    exact absurd (sort_at growL_sort hp hq (by omega)) (last_perm pP dn qP (by omega))
  · omega
theorem growL_first (hn : 0 ≤ n) : (growL n [])[0]? = some (unitI n) := by
  have ul : ((unitI n).length : Int) = n := by simp; omega
  obtain ⟨j, hj⟩ := List.mem_iff_getElem?.1 (growL_all hn (isPerm_unitI n) ul)
  rcases Nat.eq_zero_or_pos j with g | g
  · rw [← g]; exact hj
  · obtain ⟨q, hq⟩ : ∃ q, (growL n [])[0]? = some q := ⟨_, List.getElem?_eq_getElem (by have := (List.getElem?_eq_some_iff.1 hj).1; omega)⟩
    obtain ⟨ql, qP⟩ := growL_perm hn (List.mem_of_getElem? hq)
    obtain ⟨m, hm, hu, hlt⟩ := sort_at growL_sort hq hj g
    rw [el_unitI ⟨hm.1, by omega⟩] at hlt
    have h0 := isPerm_el qP hm
    have h1 : el q (el q m) = el q m := by
      have e : el q (el q m) = el (unitI n) (el q m) := hu (el q m) h0.1 hlt
      rw [el_unitI ⟨h0.1, by omega⟩] at e; exact e
    have := isPerm_inj qP h0 hm h1
    omega
end

end Go.Proofs.Ytfpkpefokcphpaa
