/- slices.Sort and slices.Compact at lists of numbers, in the value layer's words; condition: at most 10^9 elements. -/
import Derived.Test.YtbodlnpmplcaoaaSh
import Derived.Test.YtbodlnpmplcaoaaTy
import Derived.Test.YtbodlnpmplcaoaaPk
namespace Go.Proofs.Ytbodlnpmplcaoaa
open Go.Sort
/-- What a row's new cells make of the world. -/
theorem own_put {w : World} {b off cap : Nat} {l l' m : List Int} (h : OwnAt w b off cap (l.map (Value.int .i64))) (hl : l'.length = l.length) (hm : m = l'.take m.length) (n : Nat) (os : Array Obj) :
    OwnAt (grow (putRow (Value.int .i64) (Sort.ahead w n) b off l'.toArray) os) b off cap (m.map (Value.int .i64)) ∧ w.heap.size ≤ (grow (putRow (Value.int .i64) (Sort.ahead w n) b off l'.toArray) os).heap.size ∧
      ∀ k, k < w.heap.size → k ≠ b → (grow (putRow (Value.int .i64) (Sort.ahead w n) b off l'.toArray) os).heap[k]? = w.heap[k]? := by
  have hb := h.lt
  obtain ⟨cur, e, g1, g2, g3, g4, g5⟩ := h
  rw [List.length_map] at g2
  have hml : m.length ≤ l'.length := by rw [hm, List.length_take]; omega
  have hh : (grow (putRow (Value.int .i64) (Sort.ahead w n) b off l'.toArray) os).heap = w.heap.modify b (onCells (putCells (Value.int .i64) off l'.toArray)) ++ os := rfl
  refine ⟨⟨putCells (Value.int .i64) off l'.toArray cur, e, ?_, by rw [List.length_map]; omega, by simp [putCells]; omega, g4, fun i v hv => ?_⟩, by rw [hh]; simp, fun k hk hne => ?_⟩
  · rw [hh, Array.getElem?_append_left (by simpa using hb), Array.getElem?_modify, if_pos rfl, g1]; rfl
  · rw [List.getElem?_map] at hv
    obtain ⟨z, hz, rfl⟩ := Option.map_eq_some_iff.1 hv
    have hi : i < m.length := (List.getElem?_eq_some_iff.1 hz).1
    have hz' : l'[i]? = some z := by
      rw [hm, List.getElem?_take, if_pos hi] at hz
      exact hz
    refine ⟨?_, rfl⟩
    unfold putCells
    have ho : off + i < cur.size := by omega
    rw [Array.getElem?_mapIdx, Array.getElem?_eq_getElem ho, Option.map_some]
    have h2 : off ≤ off + i ∧ off + i < off + l'.toArray.size := ⟨by omega, by simp; omega⟩
    rw [if_pos h2]
    have h3 : l'.toArray[off + i - off]! = z := by
      rw [show off + i - off = i by omega, getElem!_pos l'.toArray i (by simp; omega)]
      have := (List.getElem?_eq_some_iff.1 hz').2
      simpa using this
    rw [h3]
  · rw [hh, Array.getElem?_append_left (by simpa using hk), Array.getElem?_modify, if_neg (Ne.symm hne)]
theorem holds_own {w : World} {b off cap : Nat} {l : List Int} (h : OwnAt w b off cap (l.map (Value.int .i64))) : Holds (Value.int .i64) w b off l.toArray := fun j hj => by
  have hj' : j < l.length := by simpa using hj
  refine ⟨?_, h.frozen _⟩
  rw [getElem!_pos l.toArray j hj]
  exact h.cell (i := j) (by rw [List.getElem?_map, List.getElem?_eq_getElem hj']; simp)
theorem c_k_Sort (x : List Int) (hp : small x) : AM Try.prog 79 [.own (ints x)] (fun R_ O_ => R_ = .tup [] ∧ O_ = [.own (ints (srtI x))]) := by
  have hs : (x.length : Int) ≤ 1000000000 := hp
  have hI : ∀ l : List Int, ints l = l.map ci := fun _ => rfl
  refine ⟨by kernel_rfl, fun w I vals fp hI0 hd hnd hv => ?_⟩
  simp only [RpL, Rp, hI] at hv
  obtain ⟨v, r1, f1, f2, rfl, rfl, hx, rfl, rfl⟩ := hv
  rcases hx with ⟨h0, rfl, rfl⟩ | ⟨b, off, cap, vs, f, rfl, rfl, hL, hO⟩
  · have : x = [] := by simpa using h0
    subst this
    refine (Try.slices_Sort_int_none none 0 w).mono ?_
    rintro e w' ⟨rfl, rfl⟩
    refine ⟨.tup [], [.own (ints (srtI []))], .tuple #[], [], rfl, ⟨rfl, rfl⟩, ?_, by simp, by simp, Nat.le_refl _, fun _ _ _ => rfl, rfl, rfl, rfl⟩
    have : srtI [] = [] := by simp [srtI]
    rw [this]
    simp only [RpL, Rp, hI]
    exact ⟨_, _, [], [], rfl, rfl, ⟨[], rfl, rfl, rfl⟩, _, _, [], [], rfl, rfl, .inl ⟨rfl, rfl, rfl⟩, rfl, rfl⟩
  · obtain ⟨rfl, rfl⟩ := rpL_ints hL
    rw [List.length_map]
    refine (Try.slices_Sort_int b off cap x w (holds_own hO) hO.lt (by omega)).mono ?_
    rintro e w' ⟨rfl, n, os, rfl⟩
    obtain ⟨q1, q2, q3⟩ := own_put (l' := srtI x) (m := srtI x) hO (srt_len x) (by simp) n os
    refine ⟨.tup [], [.own (ints (srtI x))], .tuple #[], [b], rfl, ⟨rfl, rfl⟩, ?_, by simp, by simp, q2, fun k hk hn => q3 k hk (by simpa using hn), rfl, rfl, rfl⟩
    simp only [RpL, Rp, hI]
    refine ⟨_, _, [], [b], rfl, rfl, ⟨[], rfl, rfl, rfl⟩, _, _, [b], [], rfl, by simp, .inr ⟨b, off, cap, _, [], by rw [List.length_map, srt_len], rfl, rpL_ints' (srtI x), q1⟩, rfl, rfl⟩
theorem cp_len (l : List Int) : (Lib.compact l).length ≤ l.length := by
  unfold Lib.compact Lib.compactUpTo
  rw [List.length_map]
  have := List.length_filter_le (Lib.keeps l.toArray) (List.range l.length)
  simpa using this
theorem c_k_Compact (x : List Int) (hp : small x) : AK Try.prog 80 x (cpI x) := by
  have hs : (x.length : Int) ≤ 1000000000 := hp
  refine ⟨by kernel_rfl, fun w l fp hx => ?_⟩
  rcases hx with ⟨h1, rfl, rfl⟩ | ⟨h1, h2, rfl, hO⟩
  · have hl : l.slice = .slice none 0 0 := by rw [Loc.slice, h1]; rfl
    rw [hl]
    refine (Try.slices_Compact_int_empty none 0 w).mono ?_
    rintro e w' ⟨rfl, rfl⟩
    refine ⟨l, [], by rw [hl], by simp, by simp, .inl ⟨h1, ?_, rfl⟩, Nat.le_refl _, fun _ _ _ => rfl, rfl, rfl, rfl⟩
    simp [cpI, Lib.compact, Lib.compactUpTo]
  · have hl : l.slice = .slice (some ⟨l.b, l.off, none⟩) x.length l.cap := by rw [Loc.slice, h1, h2]; rfl
    rw [hl]
    have hcap : x.length ≤ l.cap := by obtain ⟨_, _, _, k, _⟩ := hO; simpa using k
    refine (Try.slices_Compact_int l.b l.off l.cap x w (holds_own hO) (by omega) hcap).mono ?_
    rintro e w' ⟨rfl, q, rfl⟩
    have hc := cp_len x
    obtain ⟨q1, q2, q3⟩ := own_put (l' := Lib.compact x ++ List.replicate (x.length - (Lib.compact x).length) 0) (m := cpI x) hO (by simp; omega) (by simp [cpI]) q #[]
    rw [grow_empty] at q1 q2
    refine ⟨⟨l.b, l.off, (cpI x).length, l.cap, false⟩, [l.b], rfl, by simp, by simp, .inr ⟨rfl, rfl, rfl, q1⟩, q2, fun k hk hn => ?_, rfl, rfl, rfl⟩
    have := q3 k hk (by simpa using hn)
    rwa [grow_empty] at this
end Go.Proofs.Ytbodlnpmplcaoaa
