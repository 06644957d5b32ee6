/- Plain definitions, the nineteenth part: the permutations in order, and which comes next; no condition. -/
import Derived.Test.YtfpkpefokcphpaaPr
namespace Go.Proofs.Ytfpkpefokcphpaa
def lexL (a b : List Int) : Prop := ∃ j, (0 ≤ j ∧ j < (a.length : Int)) ∧ Upto j (fun m => el a m = el b m) ∧ el a j < el b j
theorem lexL_trans {a b c : List Int} (hl : a.length = b.length) (h1 : lexL a b) (h2 : lexL b c) : lexL a c := by
  obtain ⟨j, hj, hu, hlt⟩ := h1
  obtain ⟨k, hk, hv, hlt2⟩ := h2
  rcases Int.lt_trichotomy j k with h | h | h
  · exact ⟨j, hj, fun m m0 m1 => (hu m m0 m1).trans (hv m m0 (by omega)), by rw [← hv j hj.1 h]; exact hlt⟩
  · subst h; exact ⟨j, hj, fun m m0 m1 => (hu m m0 m1).trans (hv m m0 m1), by omega⟩
  · exact ⟨k, ⟨hk.1, by omega⟩, fun m m0 m1 => (hu m m0 (by omega)).trans (hv m m0 m1), by rw [hu k hk.1 h]; exact hlt2⟩
theorem lexL_irrefl {a : List Int} : ¬ lexL a a := fun ⟨_, _, _, h⟩ => by omega
section
variable {p : List Int} {i k : Int}
end
theorem growF_pre {n : Int} : ∀ (k : Nat) (s e : List Int), e ∈ growF k n s → ∃ u, e = s ++ u
  | 0, s, e, h => by simp only [growF, List.mem_singleton] at h; exact ⟨[], by simp [h]⟩
  | k + 1, s, e, h => by
    simp only [growF, List.mem_flatMap] at h
    obtain ⟨x, _, h⟩ := h
    split at h
    · cases h
    · obtain ⟨u, rfl⟩ := growF_pre k _ e h; exact ⟨[x] ++ u, by simp⟩
theorem growF_sort {n : Int} : ∀ (k : Nat) (s : List Int), (growF k n s).Pairwise lexL
  | 0, s => by simp [growF]
  | k + 1, s => by
    simp only [growF]
    rw [List.pairwise_flatMap]
    refine ⟨fun x _ => ?_, ?_⟩
    · split
      · exact List.Pairwise.nil
      · exact growF_sort k _
    · refine (ran_lt n).imp ?_
      intro x y hxy a ha b hb
      split at ha
      · cases ha
      · split at hb
        · cases hb
        · obtain ⟨u, rfl⟩ := growF_pre k _ a ha
          obtain ⟨v, rfl⟩ := growF_pre k _ b hb
          have e1 : el (s ++ [x] ++ u) (s.length : Int) = x := by simp [el]
          have e2 : el (s ++ [y] ++ v) (s.length : Int) = y := by simp [el]
          refine ⟨(s.length : Int), ⟨by omega, by simp; omega⟩, fun m m0 m1 => ?_, by rw [e1, e2]; exact hxy⟩
          show el (s ++ [x] ++ u) m = el (s ++ [y] ++ v) m
          rw [List.append_assoc, List.append_assoc, el_append_l ⟨m0, m1⟩, el_append_l ⟨m0, m1⟩]
theorem growF_all {n : Int} : ∀ (k : Nat) (s u : List Int), (s ++ u).Nodup → (∀ x ∈ u, 0 ≤ x ∧ x < n) → u.length = k → s ++ u ∈ growF k n s
  | 0, s, u, _, _, h => by have := List.eq_nil_of_length_eq_zero h; subst this; simp [growF]
  | k + 1, s, [], _, _, h => by simp at h
  | k + 1, s, x :: u, hn, hr, h => by
    simp only [growF, List.mem_flatMap]
    refine ⟨x, mem_ran.2 (hr x (by simp)), ?_⟩
    have hx : ¬ x ∈ s := fun g => (List.nodup_append.1 hn).2.2 x g x (by simp) rfl
    rw [if_neg (by rw [List.contains_iff_mem]; exact hx)]
    have := growF_all k (s ++ [x]) u (by simpa using hn) (fun y hy => hr y (by simp [hy])) (by simpa using h)
    simpa using this
section
variable {n : Int}
theorem growL_all (hn : 0 ≤ n) {q : List Int} (hq : isPerm q = true) (hl : (q.length : Int) = n) : q ∈ growL n [] := by
  obtain ⟨h1, h2⟩ := isPerm_iff.1 hq
  exact growF_all _ [] q h1 (fun x hx => by have := h2 x hx; omega) (by simp; omega)
theorem growL_sort : (growL n []).Pairwise lexL := growF_sort _ _
theorem sort_at {L : List (List Int)} (hs : L.Pairwise lexL) {a b : Nat} {x y : List Int} (hx : L[a]? = some x) (hy : L[b]? = some y) (h : a < b) : lexL x y := by
  obtain ⟨ha, ea⟩ := List.getElem?_eq_some_iff.1 hx
  obtain ⟨hb, eb⟩ := List.getElem?_eq_some_iff.1 hy
  have := List.pairwise_iff_getElem.1 hs a b ha hb h
  rwa [ea, eb] at this
end

end Go.Proofs.Ytfpkpefokcphpaa
