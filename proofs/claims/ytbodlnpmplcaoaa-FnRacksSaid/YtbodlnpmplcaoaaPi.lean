/- Plain definitions, the ninth part: texts of lists and tables; no condition. -/
import Derived.Test.YtbodlnpmplcaoaaPh
import Derived.Lib.Join
namespace Go.Proofs.Ytbodlnpmplcaoaa
def digs (l : List Int) : Prop := ∀ i, 0 ≤ i → i < (l.length : Int) → 0 ≤ el l i ∧ el l i < 12
/-- The digit of an element. -/
def dgt (x : Int) : UInt8 := UInt8.ofNat (if x < 10 then 48 + x else 97 + x - 10).toNat
def digI (l : List Int) : List UInt8 := l.map dgt
def joinI (xs : List (List UInt8)) (s : List UInt8) : List UInt8 := Lib.join xs s
def txtI (t : List (List Int)) : List UInt8 := joinI (t.map digI) [47]
def JoinPre (xs : List (List UInt8)) (s : List UInt8) : Prop := (joinI xs s).length ≤ 140737488355328 ∧ xs.length ≤ 1000000000
@[simp] theorem digI_len (l : List Int) : (digI l).length = l.length := by simp [digI]
theorem digs_row {t : List (List Int)} (ht : isTab t = true) {z : Int} (hz : 0 ≤ z ∧ z < (t.length : Int)) : small (el t z) ∧ digs (el t z) := by
  have hl := rk_len ht hz
  have hn := isTab_len ht
  refine ⟨by show ((el t z).length : Int) ≤ 1000000000; omega, fun i i0 i1 => ?_⟩
  have : 0 ≤ el (el t z) i ∧ el (el t z) i < (t.length : Int) := rk_el ht hz ⟨i0, by omega⟩
  omega
theorem joinI_snoc {xs : List (List UInt8)} {s y : List UInt8} (h : xs ≠ []) : joinI (xs ++ [y]) s = joinI xs s ++ s ++ y := by
  cases xs with
  | nil => exact absurd rfl h
  | cons x r =>
    unfold joinI
    rw [List.cons_append, Lib.join_cons, Lib.join_cons]
    simp [Lib.joinTail, List.append_assoc]
theorem joinI_one (y s : List UInt8) : joinI [y] s = y := Lib.join_one y s
theorem take_el {α : Type} [Inhabited α] {l : List α} {i : Int} (h : 0 ≤ i ∧ i < (l.length : Int)) : l.take (i + 1).toNat = l.take i.toNat ++ [el l i] := by
  have e : (i + 1).toNat = i.toNat + 1 := by omega
  rw [e, List.take_add_one, el_get h]; rfl
theorem txt_len : ∀ (t : List (List Int)), (∀ r ∈ t, r.length ≤ 12) → (txtI t).length ≤ 13 * t.length
  | [], _ => by simp [txtI, joinI, Lib.join_nil]
  | x :: r, h => by
    unfold txtI joinI
    rw [List.map_cons, Lib.join_cons, List.length_append, Lib.joinTail_length]
    have h1 := h x (by simp)
    have h2 : Lib.lens (r.map digI) ≤ 12 * r.length := by
      have : ∀ (r : List (List Int)), (∀ q ∈ r, q.length ≤ 12) → Lib.lens (r.map digI) ≤ 12 * r.length := by
        intro r
        induction r with
        | nil => intro _; simp [Lib.lens]
        | cons q r ih =>
          intro hq
          have a := hq q (by simp)
          have b := ih fun q' hq' => hq q' (by simp [hq'])
          simp only [Lib.lens, List.map_cons, List.sum_cons, List.length_cons, digI_len] at b ⊢
          omega
      exact this r fun q hq => h q (by simp [hq])
    simp only [digI_len, List.length_map, List.length_cons, List.length_nil]
    omega
theorem row_le {t : List (List Int)} (ht : isTab t = true) : ∀ r ∈ t, r.length ≤ 12 := fun r hr => by
  obtain ⟨i, hi, rfl⟩ := mem_el hr
  have := rk_len ht hi
  have := isTab_len ht
  omega
theorem digI_snoc {l : List Int} {i : Int} (h : 0 ≤ i ∧ i < (l.length : Int)) : digI (l.take (i + 1).toNat) = digI (l.take i.toNat) ++ digI [el l i] := by rw [take_el h]; simp [digI]
theorem txtI_snoc {t : List (List Int)} {i : Int} (h : 0 < i ∧ i < (t.length : Int)) : txtI (t.take (i + 1).toNat) = (txtI (t.take i.toNat) ++ [47]) ++ digI (el t i) := by
  unfold txtI
  rw [take_el ⟨by omega, h.2⟩, List.map_append, List.map_cons, List.map_nil, joinI_snoc]
  intro hn
  have := congrArg List.length hn
  rw [List.length_map, List.length_take, List.length_nil] at this
  omega
theorem txtI_one {t : List (List Int)} (h : 0 < (t.length : Int)) : txtI (t.take (0 + 1 : Int).toNat) = digI (el t 0) := by
  unfold txtI
  rw [take_el ⟨by omega, h⟩]
  simp [joinI_one]
end Go.Proofs.Ytbodlnpmplcaoaa
