/- The value layer: values of array types with elements of one cell; no condition. -/
import Derived.Test.YtbcdcnddnldijaaWd
namespace Go.Proofs.Ytbcdcnddnldijaa

class ArT (P : Program) (T : Nat) (n : outParam Nat) (e : outParam Nat) (zs : outParam (List Value)) : Prop where
  u : P.underlying T = some (.array n e)
  z : (P.info? T).map (·.zero) = some (some (.agg zs.toArray))
  n : zs.length = n
  s : (P.info? e).map (·.size) = some 1
  p : aggB P e = false

section
variable {P : Program} {X : Option (List Nat)} {st : St} {ty : TypeId}
theorem arr_zero {T n e : Nat} {zs : List Value} [hT : ArT P T n e zs] (w : World) : (zeroValue T).run P w = .ok (.agg zs.toArray) w := by
  obtain ⟨i, hi, hz⟩ := Option.map_eq_some_iff.1 hT.z
  simp [zeroValue, typeInfo, hi, hz]
theorem fill_arr : ∀ (vs : List Value) (k : Nat) (pre post : List Value), pre.length = k → post.length = vs.length → (∀ v ∈ vs, v.cells = #[v]) →
    Instr.fill (fun i => some (i * 1, 1)) (pre ++ post).toArray (vs.zipIdx k |>.map fun p => (p.2, p.1)) = some (pre ++ vs).toArray
  | [], k, pre, post, h1, h2, _ => by simp at h2; subst h2; simp [Instr.fill]
  | v :: vs, k, pre, post, h1, h2, h3 => by
    cases post with
    | nil => simp at h2
    | cons p post =>
      have hv := h3 v List.mem_cons_self
      have := fill_arr vs (k + 1) (pre ++ [v]) post (by simp [h1]) (by simpa using h2) (fun u hu => h3 u (List.mem_cons_of_mem _ hu))
      simp only [List.zipIdx_cons, List.map_cons, Instr.fill, hv, Nat.mul_one]
      rw [if_neg (by simp; omega)]
      have e : ((#[v] : Array Value).zipIdx.foldl (fun cs (c, j) => cs.setIfInBounds (k + j) c) (pre ++ p :: post).toArray) = (pre ++ [v] ++ post).toArray := by
        subst h1
        simp
      simp only [e]
      simp only [Nat.mul_one] at this
      rw [this]; simp
theorem ss_buildA {T n e : Nat} {zs : List Value} [hT : ArT P T n e zs] {ps : List (Nat × Operand)} {vs : List V} (hp : partsOk st 0 ps = some vs) (hn : ps.length = zs.length) : SS P X (.build T ps.toArray) ty st (.agg vs) := fun D G a w hr => by
  obtain ⟨e1, e2, e3⟩ := partsOk_sound hr ps 0 vs hp
  refine ⟨.agg (ps.map fun p => a.eval p.2).toArray, by simp only [VRp]; exact ⟨_, rfl, e1⟩, fun w' _ dst pos after guard => ?_⟩
  have hmap : (ps.toArray.map fun x => (x.1, a.eval x.2)).toList = ((ps.map fun p => a.eval p.2).zipIdx 0).map fun p => (p.2, p.1) := by
    rw [Array.toList_map, parts_zipIdx ps 0 fun j p hj => by have := (e2 j p hj).1; omega]
  have hfill := fill_arr (ps.map fun p => a.eval p.2) 0 [] zs rfl (by simp [hn]) (fun v hv => by
    obtain ⟨p, hp1, rfl⟩ := List.mem_map.1 hv
    obtain ⟨j, hj, hj2⟩ := List.getElem_of_mem hp1
    exact (e2 j p (by rw [List.getElem?_eq_getElem hj, hj2])).2.1)
  simp only [execOp, Instr.build, Sem.run_bind, arr_zero (P := P) (T := T), Result.andThen_ok, run_underlying hT.u, sizeOf_run hT.s, hmap, Value.cells]
  simp only [List.nil_append] at hfill
  rw [hfill]
  rfl
theorem vrp_ints {w : World} {I : Nat → Prop} {M : Nat → Option Loc} : ∀ {l : List Int} {xs : List Value}, VRpL w I M (l.map fun z => V.c (ci z)) xs → xs = l.map (Value.int .i64)
  | [], xs, h => by simpa only [VRpL, List.map_nil] using h
  | z :: l, xs, h => by
    simp only [VRpL, List.map_cons, VRp, ci, Rp] at h
    obtain ⟨x, xs', rfl, ⟨rfl, _⟩, h3⟩ := h
    rw [vrp_ints h3]; rfl
theorem ss_indexA {T n e : Nat} {zs : List Value} [hT : ArT P T n e zs] {x i : Operand} {l : List Int} {k : IntKind} {z : Int} (hx : st.ev x = some (.agg (l.map fun z => V.c (ci z)))) (hi : st.ev i = some (.c (.val (.int k z)))) (hn : l.length = n) (h : 0 ≤ z ∧ z < (l.length : Int)) :
    SS P X (.index T x i) ty st (.c (ci (el l z))) := fun D G a w hr => by
  have h1 := hr.ev hx
  simp only [VRp] at h1
  obtain ⟨xs, h2, h3⟩ := h1
  have := vrp_ints h3
  subst this
  refine ⟨_, vrp_val _ _ _ _, fun w' _ dst pos after guard => ?_⟩
  have hz : z.toNat < l.length := by omega
  have hin : 0 ≤ z ∧ z < (n : Int) := by rw [← hn]; exact h
  have hg : l[z.toNat]? = some (el l z) := el_get h
  simp [execOp, h2, hr.evVal hi, Instr.index, asIntOf, run_underlying hT.u, hin, sizeOf_run hT.s, part, isAgg_plain hT.p, hg]
theorem ss_indexB {T n e : Nat} {zs : List Value} [hT : ArT P T n e zs] {x i : Operand} {l : List Int} {k : IntKind} {z : Int} (hx : st.ev x = some (.c (.agg (l.map ci)))) (hi : st.ev i = some (.c (.val (.int k z)))) (hn : l.length = n) (h : 0 ≤ z ∧ z < (l.length : Int)) :
    SS P X (.index T x i) ty st (.c (ci (el l z))) := fun D G a w hr => by
  have h1 := hr.ev hx
  simp only [VRp, Rp] at h1
  obtain ⟨xs, h2, h3⟩ := h1
  have hxs : ∀ {l : List Int} {xs : List Value} {f : List Nat}, RpL w (Imm G st.σ D.fp w) (l.map ci) xs f → xs = l.map (Value.int .i64) := by
    intro l
    induction l with
    | nil => intro xs f h; simp only [List.map_nil, RpL] at h; simp [h.1]
    | cons z l ih =>
      intro xs f h
      simp only [RpL, List.map_cons, ci, Rp] at h
      obtain ⟨v, vs', f1, f2, rfl, _, ⟨rfl, _⟩, h5⟩ := h
      rw [ih h5]; rfl
  have := hxs h3
  subst this
  refine ⟨_, vrp_val _ _ _ _, fun w' _ dst pos after guard => ?_⟩
  have hz : z.toNat < l.length := by omega
  have hin : 0 ≤ z ∧ z < (n : Int) := by rw [← hn]; exact h
  have hg : l[z.toNat]? = some (el l z) := el_get h
  simp [execOp, h2, hr.evVal hi, Instr.index, asIntOf, run_underlying hT.u, hin, sizeOf_run hT.s, part, isAgg_plain hT.p, hg]
end
/-! A call that takes a list of numbers over and hands it back turned, in its own array. -/
theorem rpL_ints {w : World} {I : Nat → Prop} : ∀ {l : List Int} {vs : List Value} {fp : List Nat}, RpL w I (l.map ci) vs fp → vs = l.map (Value.int .i64) ∧ fp = []
  | [], vs, fp, h => by simpa only [RpL, List.map_nil] using h
  | x :: l, vs, fp, h => by
    simp only [RpL, List.map_cons, ci, Rp] at h
    obtain ⟨v, vs', f, f', h1, h2, ⟨h3, h4⟩, h5⟩ := h
    obtain ⟨a, b⟩ := rpL_ints h5
    subst h1 h2 h3 h4 a b
    exact ⟨rfl, rfl⟩
theorem rpL_ints' {w : World} {I : Nat → Prop} : ∀ (l : List Int), RpL w I (l.map ci) (l.map (Value.int .i64)) []
  | [] => by simp [RpL]
  | x :: l => by
    simp only [RpL, List.map_cons, ci, Rp]
    exact ⟨_, _, [], [], rfl, rfl, ⟨rfl, rfl⟩, rpL_ints' l⟩
/-- A list of numbers in an array of its own. -/
def IntsAt (w : World) (l : Loc) (x : List Int) (fp : List Nat) : Prop :=
  (l.nil = true ∧ x = [] ∧ fp = []) ∨ (l.nil = false ∧ l.len = x.length ∧ fp = [l.b] ∧ OwnAt w l.b l.off l.cap (x.map (Value.int .i64)))
theorem intsAt_ob {w : World} {I : Nat → Prop} {M : Nat → Option Loc} {l : Loc} {x : List Int} {fp : List Nat} : ObRp w I M l ⟨x.map ci, []⟩ fp ↔ IntsAt w l x fp := by
  constructor
  · rintro (⟨h1, h2, _, h4⟩ | ⟨h1, h2, vs, f, h3, h4, h5, _⟩)
    · exact .inl ⟨h1, by simpa using h2, h4⟩
    · obtain ⟨rfl, rfl⟩ := rpL_ints h4
      exact .inr ⟨h1, by simpa using h2, h3, h5⟩
  · rintro (⟨h1, h2, h4⟩ | ⟨h1, h2, h3, h5⟩)
    · exact .inl ⟨h1, by simp [h2], rfl, h4⟩
    · exact .inr ⟨h1, by simpa using h2, _, [], h3, rpL_ints' x, h5, by intro q hq; cases hq⟩
structure AK (P : Program) (f : Nat) (x y : List Int) : Prop where
  ent : EntB P f = true
  out : ∀ (w : World) (l : Loc) (fp : List Nat), IntsAt w l x fp → Calls P f #[l.slice] w fun e w' => ∃ (l' : Loc) (F : List Nat), e = .returned l'.slice ∧ F.Nodup ∧ (∀ b ∈ F, b ∈ fp) ∧ IntsAt w' l' y F ∧
    w.heap.size ≤ w'.heap.size ∧ (∀ b, b < w.heap.size → b ∉ fp → w'.heap[b]? = w.heap[b]?) ∧ w'.os = w.os ∧ w'.tape = w.tape ∧ w'.output = w.output
theorem ws_callK {P : Program} {st : St} {ty : TypeId} {fo x : Operand} {ats : Array TypeId} {f id : Nat} {l y : List Int} (hf : st.ev fo = some (.c (.clo f []))) (hx : st.ev x = some (.ref id)) (ho : lko id st.σ = some ⟨l.map ci, []⟩) (hc : AK P f l y)
    {K : V → St → Prop} (h : K (.ref id) ⟨mo id ⟨y.map ci, []⟩ [id] [] st.σ, killE [id] st.env, st.n⟩) : WS P [id] [] (.call ⟨.value fo, #[x], ats⟩) ty st K := by
  intro D G a w hr dst pos after guard
  obtain ⟨lc, hl, hv, hob⟩ := hr.ref hx ho
  have h3 : a.eval fo = .func (.func f) #[] #[] := by
    have h3 := hr.ev hf
    simp only [VRp, Rp] at h3; obtain ⟨cv, e1, e2⟩ := h3; simp only [RpL] at e2; obtain ⟨rfl, _⟩ := e2; exact e1
  have hrun : (execOp a.eval ⟨dst, .call ⟨.value fo, #[x], ats⟩, ty, pos, after, guard⟩).run P w = .ok (.enter f #[lc.slice]) w := by
    simp only [execOp, resolve, h3, Deferred.ofValue, Sem.run_bind, Sem.run_pure, Result.andThen_ok, invoke]
    rw [callFunc_run hc.ent]
    simp [hv]
  rw [hrun]
  refine (hc.out w lc (D.fp id) (intsAt_ob.1 hob)).mono fun e w' ⟨l', F, e1, hF1, hF2, hI, hsz, hk, hos, hta, hou⟩ => ?_
  obtain ⟨D', r1, r2, r3, _⟩ := hr.mod (id := id) (ob := ⟨l.map ci, []⟩) (ob' := ⟨y.map ci, []⟩) (l := lc) (l' := l') (w' := w') (F := F) (ids := [id]) (drop := []) ho hl (by simp) (by simp) (.inr (by simp)) hsz hos hta hou (fun b hb hn => hk b hb hn) hF1 (fun b hb => .inl (hF2 b hb)) (fun I' _ M' _ => intsAt_ob.2 hI)
  exact ⟨_, e1, D', _, _, h, r1, by simp only [VRp]; exact ⟨l', r2, rfl⟩, r3⟩
end Go.Proofs.Ytbcdcnddnldijaa
