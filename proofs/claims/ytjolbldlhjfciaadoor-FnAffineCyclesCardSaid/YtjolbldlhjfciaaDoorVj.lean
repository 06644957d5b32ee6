/- The value layer: lists of numbers, tables; small helpers; no condition. -/
import Derived.Test.YtjolbldlhjfciaaDoorVi
namespace Go.Proofs.YtjolbldlhjfciaaDoor

@[reducible] def ci (n : Int) : C := .val (.int .i64 n)
@[reducible] def cb (b : Bool) : C := .val (.bool b)
@[reducible] def cnil : C := .val (.slice none 0 0)
def ints (l : List Int) : List C := l.map ci
/-- A table that is only read, one that is owned. -/
def rows (t : List (List Int)) : List C := t.map fun r => .lst (ints r)
def orows (t : List (List Int)) : List C := t.map fun r => .own (ints r)
def bools (l : List Bool) : List C := l.map cb
@[simp] theorem length_ints (l : List Int) : (ints l).length = l.length := by simp [ints]
@[simp] theorem length_rows (t : List (List Int)) : (rows t).length = t.length := by simp [rows]
@[simp] theorem length_orows (t : List (List Int)) : (orows t).length = t.length := by simp [orows]
@[simp] theorem length_bools (l : List Bool) : (bools l).length = l.length := by simp [bools]

/-- The element at an index, 0 beyond the list. -/
def at_ (l : List Int) (i : Int) : Int := l.getD i.toNat 0
def row_ (t : List (List Int)) (i : Int) : List Int := t.getD i.toNat []
def bat_ (l : List Bool) (i : Int) : Bool := l.getD i.toNat false

theorem get_ints {l : List Int} {k : Int} (h : 0 ≤ k ∧ k < l.length) : (ints l)[k.toNat]? = some (ci (at_ l k)) := by
  have : k.toNat < l.length := by omega
  simp [ints, at_, List.getElem?_eq_getElem this, List.getD_eq_getElem?_getD]
theorem get_rows {t : List (List Int)} {k : Int} (h : 0 ≤ k ∧ k < t.length) : (rows t)[k.toNat]? = some (.lst (ints (row_ t k))) := by
  have : k.toNat < t.length := by omega
  simp [rows, row_, List.getElem?_eq_getElem this, List.getD_eq_getElem?_getD]
theorem get_orows {t : List (List Int)} {k : Int} (h : 0 ≤ k ∧ k < t.length) : (orows t)[k.toNat]? = some (.own (ints (row_ t k))) := by
  have : k.toNat < t.length := by omega
  simp [orows, row_, List.getElem?_eq_getElem this, List.getD_eq_getElem?_getD]
theorem get_bools {l : List Bool} {k : Int} (h : 0 ≤ k ∧ k < l.length) : (bools l)[k.toNat]? = some (cb (bat_ l k)) := by
  have : k.toNat < l.length := by omega
  simp [bools, bat_, List.getElem?_eq_getElem this, List.getD_eq_getElem?_getD]
theorem hd_ints {l : List Int} {k : Int} (h : 0 ≤ k ∧ k < l.length) : ((ints l).drop k.toNat).head? = some (ci (at_ l k)) := by rw [List.head?_drop]; exact get_ints h
theorem hd_rows {t : List (List Int)} {k : Int} (h : 0 ≤ k ∧ k < t.length) : ((rows t).drop k.toNat).head? = some (.lst (ints (row_ t k))) := by rw [List.head?_drop]; exact get_rows h

theorem frz_ints (l : List Int) : frzL (ints l) = ints l := by rw [frzL_eq_map, ints, List.map_map]; rfl
theorem frz_bools (l : List Bool) : frzL (bools l) = bools l := by rw [frzL_eq_map, bools, List.map_map]; rfl
theorem frz_rows (t : List (List Int)) : frzL (rows t) = rows t := by rw [frzL_eq_map, rows, List.map_map]; rfl
theorem frz_orows (t : List (List Int)) : frzL (orows t) = rows t := by
  rw [frzL_eq_map, orows, rows, List.map_map]
  exact List.map_congr_left fun r _ => by simp [C.frz, frz_ints]
theorem ints_set (l : List Int) (i : Nat) (v : Int) : (ints l).set i (ci v) = ints (l.set i v) := by simp [ints]
theorem bools_set (l : List Bool) (i : Nat) (v : Bool) : (bools l).set i (cb v) = bools (l.set i v) := by simp [bools]
theorem rows_set (t : List (List Int)) (i : Nat) (v : List Int) : (rows t).set i (.lst (ints v)) = rows (t.set i v) := by simp [rows]
theorem orows_set (t : List (List Int)) (i : Nat) (v : List Int) : (orows t).set i (.own (ints v)) = orows (t.set i v) := by simp [orows]
theorem ints_append (l m : List Int) : ints l ++ ints m = ints (l ++ m) := by simp [ints]
theorem rows_append (l m : List (List Int)) : rows l ++ rows m = rows (l ++ m) := by simp [rows]
theorem orows_append (l m : List (List Int)) : orows l ++ orows m = orows (l ++ m) := by simp [orows]
theorem ints_one (v : Int) : [ci v] = ints [v] := rfl
theorem rows_one (v : List Int) : [C.lst (ints v)] = rows [v] := rfl
theorem orows_one (v : List Int) : [C.own (ints v)] = orows [v] := rfl
theorem ints_nil : ([] : List C) = ints [] := rfl
theorem rows_nil : ([] : List C) = rows [] := rfl
theorem orows_nil : ([] : List C) = orows [] := rfl
theorem ints_replicate (n : Nat) (v : Int) : List.replicate n (ci v) = ints (List.replicate n v) := by simp [ints]
theorem bools_replicate (n : Nat) (v : Bool) : List.replicate n (cb v) = bools (List.replicate n v) := by simp [bools]
theorem ints_drop (l : List Int) (n : Nat) : (ints l).drop n = ints (l.drop n) := by simp [ints]
theorem ints_take (l : List Int) (n : Nat) : (ints l).take n = ints (l.take n) := by simp [ints]
theorem rows_drop (l : List (List Int)) (n : Nat) : (rows l).drop n = rows (l.drop n) := by simp [rows]
theorem rows_take (l : List (List Int)) (n : Nat) : (rows l).take n = rows (l.take n) := by simp [rows]

theorem sgn : ([] : List (Nat × Ob)) = [] := rfl
theorem sgr {p : Nat × Ob} {σ σ' : List (Nat × Ob)} (h : σ = σ') : p :: σ = p :: σ' := by rw [h]
theorem sgc {id : Nat} {xs ys : List C} {hs : List (Nat × V)} {σ σ' : List (Nat × Ob)} (e : xs = ys) (h : σ = σ') : (id, Ob.mk xs hs) :: σ = (id, Ob.mk ys hs) :: σ' := by rw [e, h]

theorem take_step (l : List Int) (i : Int) (h : 0 ≤ i ∧ i < l.length) : (l.take i.toNat ++ List.replicate (l.length - i.toNat) 0).set i.toNat (at_ l i) = l.take (i + 1).toNat ++ List.replicate (l.length - (i + 1).toNat) 0 := by
  have hi : i.toNat < l.length := by omega
  have e : (i + 1).toNat = i.toNat + 1 := by omega
  have e2 : l.length - i.toNat = (l.length - (i.toNat + 1)) + 1 := by omega
  have e3 : at_ l i = l[i.toNat] := by simp [at_, List.getD_eq_getElem?_getD, List.getElem?_eq_getElem hi]
  have e4 : i.toNat - (l.take i.toNat).length = 0 := by simp; omega
  rw [e, List.set_append_right _ _ (by simp; omega), e4, e2, List.replicate_succ, List.set_cons_zero, e3, List.take_succ_eq_append_getElem hi, List.append_assoc]; rfl

/-- A step to a state that is the same but for how it is written, with fewer slots. -/
theorem gh_to {st : St} {σ' : List (Nat × Ob)} {env' : List (Nat × V)} {n : Nat} (hn : st.n = n) (hσ : st.σ = σ') (hE : SubE st.env env') : Gh [] st ⟨σ', env', n⟩ := by
  subst hn; subst hσ; exact gh_sub hE

theorem AF.frz1 {P : Program} {f : Nat} {args : List C} {X Y : C} (h : AF P f args (fun r => r = X)) (e : X.frz = Y) : AF P f args (fun r => r = Y) :=
  ⟨h.ent, fun w I vals hI hv => (h.out w I vals hI hv).mono fun _ _ ⟨r, x, fr, e1, e2, e3, e4, e5, e6, e7⟩ =>
    ⟨r.frz, x, [], e1, by rw [e2, e], Rp.frz (fun b hb => by
      rcases hb with hb | ⟨h1, h2, _⟩
      · exact .inl hb
      · exact .inr ⟨h1, h2, by simp⟩) r x fr (fun b hb => .inr ⟨e5 b hb, Rp.lt _ _ _ e3 b hb, by simp⟩) e3, by simp, by simp, e6, e7⟩⟩
theorem frzc_ints (l : List Int) : (C.own (ints l)).frz = .lst (ints l) := by simp [C.frz, frz_ints]
theorem frzc_orows (t : List (List Int)) : (C.own (orows t)).frz = .lst (rows t) := by simp [C.frz, frz_orows]
theorem frzc_rack (t : List (List Int)) : (C.agg [.own (orows t)]).frz = .agg [.lst (rows t)] := by simp [C.frz, frzL, frz_orows]
theorem frzc_rackE (t : List (List Int)) (e : Int) : (C.tup [.agg [.own (orows t)], ci e]).frz = .tup [.agg [.lst (rows t)], ci e] := by simp [C.frz, frzL, frz_orows]
theorem frzc_intsE (l : List Int) (e : Int) : (C.tup [.own (ints l), ci e]).frz = .tup [.lst (ints l), ci e] := by simp [C.frz, frzL, frz_ints]
end Go.Proofs.YtjolbldlhjfciaaDoor
