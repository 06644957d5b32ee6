/- The value layer: small steps for walks printed by program; no condition. -/
import Derived.Test.YtbodlnpmplcaoaaWb
namespace Go.Proofs.Ytbodlnpmplcaoaa
@[reducible] def InI (n : Int) : Prop := -9223372036854775808 ≤ n ∧ n ≤ 9223372036854775807
theorem slf_cons {a : C} {xs : List C} (h : a.slf = true) (hs : slfL xs = true) : slfL (a :: xs) = true := by simp [slfL, h, hs]
theorem slf_nil : slfL [] = true := rfl
theorem slf_own {xs : List C} (h : slfL xs = true) : (C.own xs).slf = true := by simpa only [C.slf] using h
theorem slf_agg {xs : List C} (h : slfL xs = true) : (C.agg xs).slf = true := by simpa only [C.slf] using h
theorem set_bd {α : Type} {f : α → C} {l : List α} {z : Int} {j : Nat} {c : C} (h : 0 ≤ z ∧ z < (l.length : Int)) : 0 ≤ z ∧ z < (((l.map f).set j c).length : Int) := by simpa using h
theorem kr_self {id i : Nat} {v : V} : killH [id] (rmH i [(i, v)]) = [] := by rw [rm_self]; rfl

def cs (s : List UInt8) : C := .val (.string ⟨s.toArray⟩)
section
variable {P : Program} {X : Option (List Nat)} {st : St} {ty : TypeId}
end

section
variable {st : St}
theorem gh_fillA {β : Type} {id id2 : Nat} {f : β → C} {l : List β} {i : Int} {v : β} {ys : List C} {hs : List (Nat × V)} (ho : lko id st.σ = some ⟨(l.map f).set i.toNat .hole, hs⟩) (hj : lk i.toNat hs = some (.ref id2)) (ho2 : lko id2 st.σ = some ⟨ys, []⟩)
    (hb : 0 ≤ i ∧ i < (l.length : Int)) (hf : f v = .own ys) (hne : Nat.beq id2 id = false) (hk : killH [id2] (rmH i.toNat hs) = []) : Gh [id2] st ⟨mo id ⟨(se l i v).map f, []⟩ [id2] [id2] st.σ, killE [id2] st.env, st.n⟩ := by
  have h := gh_fill (id := id) (id2 := id2) (j := i.toNat) ho hj (by simp; omega) ho2 rfl hne
  simp only [List.set_set, hk] at h
  rw [← hf, map_se] at h
  exact h
theorem gh_weakR {α : Type} {id n : Nat} {z : Value} {f : List α → C} (ho : lko id st.σ = some ⟨List.replicate n (.val z), []⟩) (hc : cle (.val z) (f [])) : Gh [] st ⟨so id ⟨(List.replicate n []).map f, []⟩ st.σ, st.env, st.n⟩ :=
  gh_weak ho (by rw [List.map_replicate]; exact cleL_rep hc n) (by intro q hq; cases hq)

end
theorem ws_gh {P : Program} {X Y Y1 : List Nat} {op : Op} {ty : TypeId} {st st' : St} {K : V → St → Prop} (hg : Gh Y1 st st') (hw : WS P X Y op ty st' K) : WS P (X ++ Y1) (Y ++ Y1) op ty st K := by
  intro D G a w hr dst pos after guard
  obtain ⟨D', hr', hown⟩ := hg D G a w hr
  have up : ∀ id b, b ∈ D'.fp id → b ∈ D.fp id ∨ ∃ y ∈ Y1, b ∈ D.fp y := fun id b hb => by
    obtain ⟨q, hq, rfl⟩ := hr'.fpkey hb
    exact hown q hq b hb
  refine valsR_mono (hw D' G a w hr' dst pos after guard) ?_
  rintro v w' ⟨D2, u, st2, h1, h2, h3, h4⟩
  refine ⟨D2, u, st2, h1, h2, h3, h4.size, fun b hb hX => h4.keep b hb fun id hid hbid => ?_, fun p hp b hb hlt => ?_⟩
  · rcases up id b hbid with h | ⟨y, hy, h⟩
    · exact hX id (List.mem_append_left _ hid) h
    · exact hX y (List.mem_append_right _ hy) h
  · rcases h4.own p hp b hb hlt with h | ⟨y, hy, h⟩
    · rcases up _ b h with h | ⟨z, hz, h⟩
      · exact .inl h
      · exact .inr ⟨z, List.mem_append_right _ hz, h⟩
    · rcases up _ b h with h | ⟨z, hz, h⟩
      · exact .inr ⟨y, List.mem_append_left _ hy, h⟩
      · exact .inr ⟨z, List.mem_append_right _ hz, h⟩
def onil : List Int → C
  | [] => cnil
  | x :: l => .own (ints (x :: l))
theorem AF.onil_n {P : Program} {f : Nat} {args : List C} {l : List Int} (h : AF P f args (fun r => r = onil l)) (hl : l = []) : AF P f args (fun r => r = cnil) := by subst hl; exact h
theorem AF.onil_o {P : Program} {f : Nat} {args : List C} {l : List Int} (h : AF P f args (fun r => r = onil l)) (hl : ¬ l = []) : AF P f args (fun r => r = .own (ints l)) := by
  cases l with
  | nil => exact absurd rfl hl
  | cons x l => exact h
theorem map_ne {α : Type} {f : α → C} {l : List α} (h : ¬ l = []) : (l.map f).isEmpty = false := by
  cases l with
  | nil => exact absurd rfl h
  | cons x l => rfl
theorem gh_fillc {st : St} {id j : Nat} {ob : Ob} {c : C} (ho : lko id st.σ = some ob) (hj : lk j ob.holes = some (.c c)) (hlt : j < ob.xs.length) :
    Gh [] st ⟨so id ⟨ob.xs.set j c, rmH j ob.holes⟩ st.σ, st.env, st.n⟩ := by
  intro D G a w hr
  obtain ⟨l, hl, hob⟩ := hr.obs _ (mem_of_lko ho)
  rcases hob with ⟨_, h2, _⟩ | ⟨h1, h2, vs, f, h3, h4, h5, h6⟩
  · simp only at h2; rw [h2] at hlt; simp at hlt
  · simp only at h2 h3 h4 h6
    obtain ⟨x, hx, hxv⟩ := h6 _ (mem_of_lk hj)
    simp only at hx hxv
    simp only [VRp] at hxv
    obtain ⟨g, f1, f2, hf, hR⟩ := RpL.exch h4 hlt hxv
    have hset : vs.set j x = vs := by
      apply List.ext_getElem?
      intro i
      rw [List.getElem?_set]
      split
      · rename_i e; subst e; rw [hx]; simp [(List.getElem?_eq_some_iff.1 hx).1]
      · rfl
    rw [hset, List.append_nil] at hR
    have hnd : (l.b :: f).Nodup := by have := hr.disj1 _ (mem_of_lko ho); simp only at this; rwa [h3] at this
    have hsub : (f1 ++ f2).Sublist f := by rw [hf, List.append_assoc]; exact List.Sublist.append_left (List.sublist_append_right g f2) f1
    have hb0 := List.nodup_cons.1 hnd
    obtain ⟨D', r1, r2, r3, _⟩ := hr.mod (id := id) (ob := ob) (ob' := ⟨ob.xs.set j c, rmH j ob.holes⟩) (l := l) (l' := l) (w' := w) (F := l.b :: (f1 ++ f2)) (ids := []) (drop := [])
      ho hl (by simp) (by simp) (.inl rfl) (Nat.le_refl _) rfl rfl rfl (fun _ _ _ => rfl)
      (List.nodup_cons.2 ⟨fun hm => hb0.1 (hsub.subset hm), hsub.nodup hb0.2⟩)
      (by
        intro b hb
        rcases List.mem_cons.1 hb with rfl | hb
        · exact .inl (by simp only [h3]; exact List.mem_cons_self)
        · exact .inl (by simp only [h3]; exact List.mem_cons_of_mem _ (hsub.subset hb)))
      (by
        intro I' hI' M' hM'
        refine .inr ⟨h1, by simp [h2], vs, _, rfl, RpL.frame hI' (fun _ _ => rfl) _ _ _ (fun _ _ => rfl) hR, h5, ?_⟩
        intro q hq
        obtain ⟨u, g3, g4⟩ := h6 q (mem_rmH hq).1
        exact ⟨u, g3, VRp.frameM hI' (fun _ _ => rfl) _ _ (fun i _ m hm => hM' i m (by simp) hm) g4⟩)
    rw [mo_nil, killE_nil] at r1 r3
    refine ⟨D', r1, fun p hp b hb => ?_⟩
    rcases r3.own p hp b hb (r1.lt hp hb) with h | ⟨i, hi, _⟩
    · exact .inl h
    · cases hi
section
variable {P : Program} {ops : Array Oper} {K : St → Prop} {st : St} {rest : List Oper}
end
section
variable {P : Program} {ops : Array Oper} {kd : Nat → Nat} {X : List Nat} {K : St → Prop} {st : St} {r : List Nat}
end
section
variable {P : Program} {X : Option (List Nat)} {st : St} {ty : TypeId}
end
inductive Tr where
  | nil
  | one (i : Nat) (t : Tr)
  | br (a b : Tr)
section
variable {P : Program} {md : Region.Mode} {ops : Array Oper} {kd : Nat → Nat} {Q : Exit → Act → World → Prop}
end
section
variable {P : Program} {ops : Array Oper} {kd : Nat → Nat} {X : List Nat} {K : St → Prop} {st : St} {r : Tr}
end
theorem lko_so {id : Nat} {ob ob' : Ob} : ∀ {σ : List (Nat × Ob)}, lko id σ = some ob → lko id (so id ob' σ) = some ob'
  | [], h => by cases h
  | (pi, p) :: r, h => by
    simp only [lko, so] at h ⊢
    cases hb : Nat.beq pi id with
    | true => simp [hb]
    | false =>
      rw [hb] at h
      simp only [cond_false, hb] at h ⊢
      exact lko_so h
theorem Upd.comp {id : Nat} {D D1 D2 : Data} {G : Glob} {a : Act} {w w1 w2 : World} {st1 st2 : St} (hr1 : Rep D1 G st1 a w1) (hk : ∃ p ∈ st1.σ, p.1 = id) (h1 : Upd [id] [] D w D1 st1 w1) (h2 : Upd [id] [] D1 w1 D2 st2 w2) (_hr2 : Rep D2 G st2 a w2) : Upd [id] [] D w D2 st2 w2 := by
  have own1 : ∀ k, (∃ p ∈ st1.σ, p.1 = k) → ∀ b ∈ D1.fp k, b < w.heap.size → b ∈ D.fp k := fun k hk b hb hlt => by
    obtain ⟨p, hp, rfl⟩ := hk
    rcases h1.own p hp b hb hlt with h | ⟨i, hi, _⟩
    · exact h
    · cases hi
  refine ⟨Nat.le_trans h1.size h2.size, fun b hb hX => ?_, fun p hp b hb hlt => ?_⟩
  · rw [h2.keep b (Nat.lt_of_lt_of_le hb h1.size) fun i hi hbi => by
      simp only [List.mem_singleton] at hi
      subst hi
      exact hX i (by simp) (own1 i hk b hbi hb)]
    exact h1.keep b hb hX
  · rcases h2.own p hp b hb (Nat.lt_of_lt_of_le hlt h1.size) with h | ⟨i, hi, _⟩
    · exact .inl (own1 p.1 (hr1.fpkey h) b h hlt)
    · cases hi
theorem ws_storeN {P : Program} {st : St} {ty : TypeId} {T : TypeId} {p x : Operand} {id off : Nat} {ob : Ob} {v u1 u2 : V} [hS : SzT P T 2] (hp : st.ev p = some (.cell id off)) (ho : lko id st.σ = some ob) (hlt : off + 1 < ob.xs.length) (hx : st.ev x = some v) (hf : v.fields = some [u1, u2]) (h1 : u1.one = true) (h2 : u2.one = true)
    {K : V → St → Prop} (h : K (.c .hole) ⟨so id ⟨(ob.xs.set off u1.closed).set (off + 1) u2.closed, u2.holeAt (off + 1) ++ rmH (off + 1) (u1.holeAt off ++ rmH off ob.holes)⟩ (so id ⟨ob.xs.set off u1.closed, u1.holeAt off ++ rmH off ob.holes⟩ st.σ), st.env, st.n⟩) : WS P [id] [] (.store T p x) ty st K := by
  intro D G a w hr dst pos after guard
  obtain ⟨l, vs, f, hl, hn, hpv, _⟩ := hr.cell hp ho
  obtain ⟨xs, hxe, hxs⟩ := fields_spec hf (hr.ev hx)
  simp only [VRpL] at hxs
  obtain ⟨y1, _, rfl, hv1, y2, _, rfl, hv2, rfl⟩ := hxs
  obtain ⟨_, e2⟩ := one_spec hv1 h1
  obtain ⟨_, g2⟩ := one_spec hv2 h2
  obtain ⟨c1, c2, D1, r1, r2, r3, r4, r5, r6⟩ := hr.store1 (off := off) ho hl hn (by omega) hv1 e2
  obtain ⟨k1, k2, D2, s1, s2, s3, _⟩ := r1.store1 (off := off + 1) (lko_so ho) r2 hn (by simpa using hlt) (VRp.frame r5 r6 r4 _ _ hv2) g2
  obtain ⟨z1, hz1⟩ := Option.ne_none_iff_exists'.1 c1
  obtain ⟨z2, hz2⟩ := Option.ne_none_iff_exists'.1 k1
  have hrun : (execOp a.eval ⟨dst, .store T p x, ty, pos, after, guard⟩).run P w = .ok .skip ((w.setCell ⟨l.b, l.off + off, none⟩ y1).setCell ⟨l.b, l.off + (off + 1), none⟩ y2) := by
    simp [execOp, Instr.storeAt, hpv, hxe, Instr.sureAddr, storeVar, Value.cells, sizeOf_run hS.s, storeCells, run_store _ _ _ _ _ e2, run_store _ _ _ _ _ g2, hz1, c2, hz2, k2, Addr.add, Nat.add_assoc]
  rw [hrun]
  exact ⟨D2, .c .hole, _, h, s1, by simp [VRp, Rp], Upd.comp r1 ⟨_, mem_of_lko (lko_so ho), rfl⟩ r3 s3 s1⟩
theorem fill_part (n : Nat) : ∀ (vs : List Value) (k : Nat) (pre post tail : List Value), pre.length = k → post.length = vs.length → k + vs.length ≤ n → (∀ v ∈ vs, v.cells = #[v]) →
    Instr.fill (fun i => (((List.range n).map fun i => (i, 1)).toArray)[i]?) (pre ++ post ++ tail).toArray (vs.zipIdx k |>.map fun p => (p.2, p.1)) = some (pre ++ vs ++ tail).toArray
  | [], k, pre, post, tail, h1, h2, _, _ => by simp at h2; subst h2; simp [Instr.fill]
  | v :: vs, k, pre, post, tail, h1, h2, hn, h3 => by
    cases post with
    | nil => simp at h2
    | cons p post =>
      have hv := h3 v List.mem_cons_self
      have hk : k < n := by simp at hn; omega
      have := fill_part n vs (k + 1) (pre ++ [v]) post tail (by simp [h1]) (by simpa using h2) (by simp at hn; omega) (fun u hu => h3 u (List.mem_cons_of_mem _ hu))
      have hp : (((List.range n).map fun i => (i, 1)).toArray)[k]? = some (k, 1) := by simp [hk]
      simp only [List.zipIdx_cons, List.map_cons, Instr.fill, hp, hv]
      rw [if_neg (by simp; omega)]
      have e : ((#[v] : Array Value).zipIdx.foldl (fun cs (c, j) => cs.setIfInBounds (k + j) c) (pre ++ p :: post ++ tail).toArray) = (pre ++ [v] ++ post ++ tail).toArray := by
        subst h1
        simp
      simp only [e]
      rw [this]; simp
theorem VRpL.app {w : World} {I : Nat → Prop} {M : Nat → Option Loc} : ∀ {vs : List V} {xs : List Value} {us : List V} {ys : List Value}, VRpL w I M vs xs → VRpL w I M us ys → VRpL w I M (vs ++ us) (xs ++ ys)
  | [], xs, us, ys, h, k => by simp only [VRpL] at h; subst h; exact k
  | v :: vs, xs, us, ys, h, k => by
    simp only [VRpL, List.cons_append] at h ⊢
    obtain ⟨x, xs', rfl, h1, h2⟩ := h
    exact ⟨x, xs' ++ ys, rfl, h1, VRpL.app h2 k⟩
theorem VRpL.vals {w : World} {I : Nat → Prop} {M : Nat → Option Loc} : ∀ (zs : List Value), VRpL w I M (zs.map fun z => .c (.val z)) zs
  | [] => by simp [VRpL]
  | z :: zs => by simp only [List.map_cons, VRpL]; exact ⟨z, zs, rfl, by simp [VRp, Rp], VRpL.vals zs⟩
theorem ss_buildP {P : Program} {X : Option (List Nat)} {st : St} {ty : TypeId} {T : TypeId} {zs : List Value} [hT : BuT P T zs] {ps : List (Nat × Operand)} {vs : List V} (hp : partsOk st 0 ps = some vs) (hn : Nat.ble ps.length zs.length = true) : SS P X (.build T ps.toArray) ty st (.agg (vs ++ (zs.drop ps.length).map fun z => .c (.val z))) := fun D G a w hr => by
  have hn := Nat.le_of_ble_eq_true hn
  obtain ⟨e1, e2, e3⟩ := partsOk_sound hr ps 0 vs hp
  refine ⟨.agg (ps.map (fun p => a.eval p.2) ++ zs.drop ps.length).toArray, by simp only [VRp]; exact ⟨_, rfl, VRpL.app e1 (VRpL.vals _)⟩, fun w' _ dst pos after guard => ?_⟩
  obtain ⟨fs, h1, h2⟩ := build_places (P := P) (T := T) w'
  have hmap : (ps.toArray.map fun x => (x.1, a.eval x.2)).toList = ((ps.map fun p => a.eval p.2).zipIdx 0).map fun p => (p.2, p.1) := by
    rw [Array.toList_map, parts_zipIdx ps 0 fun j p hj => by have := (e2 j p hj).1; omega]
  have hfill := fill_part zs.length (ps.map fun p => a.eval p.2) 0 [] (zs.take ps.length) (zs.drop ps.length) rfl (by simp; omega) (by simp; omega) (fun v hv => by
    obtain ⟨p, hp1, rfl⟩ := List.mem_map.1 hv
    obtain ⟨j, hj, hj2⟩ := List.getElem_of_mem hp1
    exact (e2 j p (by rw [List.getElem?_eq_getElem hj, hj2])).2.1)
  simp only [List.nil_append, List.take_append_drop] at hfill
  simp only [execOp, Instr.build, Sem.run_bind, build_zero (P := P) (T := T), Result.andThen_ok, run_underlying h1]
  rw [h2]
  simp only [Result.andThen_ok, hmap, Value.cells]
  rw [hfill]
  rfl

end Go.Proofs.Ytbodlnpmplcaoaa
