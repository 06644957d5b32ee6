/- The value layer: small steps for walks printed by program; no condition. -/
import Derived.Test.YtggeeemecgmhiaaWb
namespace Go.Proofs.Ytggeeemecgmhiaa
@[reducible] def InI (n : Int) : Prop := -9223372036854775808 ≤ n ∧ n ≤ 9223372036854775807
theorem slf_own {xs : List C} (h : slfL xs = true) : (C.own xs).slf = true := by simpa only [C.slf] using h
theorem set_bd {α : Type} {f : α → C} {l : List α} {z : Int} {j : Nat} {c : C} (h : 0 ≤ z ∧ z < (l.length : Int)) : 0 ≤ z ∧ z < (((l.map f).set j c).length : Int) := by simpa using h
theorem kr_self {id i : Nat} {v : V} : killH [id] (rmH i [(i, v)]) = [] := by rw [rm_self]; rfl

def cs (s : List UInt8) : C := .val (.string ⟨s.toArray⟩)
section
variable {P : Program} {X : Option (List Nat)} {st : St} {ty : TypeId}
end

section
variable {st : St}
theorem gh_fillA {β : Type} {id id2 : Nat} {f : β → C} {l : List β} {i : Int} {v : β} {ys : List C} {hs : List (Nat × V)} (ho : lko id st.σ = some ⟨(l.map f).set i.toNat .hole, hs⟩) (hj : lk i.toNat hs = some (.ref id2)) (ho2 : lko id2 st.σ = some ⟨ys, []⟩)
    (hb : 0 ≤ i ∧ i < (l.length : Int)) (hf : f v = .own ys) (hne : Nat.beq id2 id = false) (hk : killH [id2] (rmH i.toNat hs) = []) : Gh [id2] st ⟨mo id ⟨(se l i v).map f, []⟩ [id2] [id2] st.σ, killE [id2] st.env, st.n⟩ := by
  have h := gh_fill (id := id) (id2 := id2) (j := i.toNat) ho hj (by simp; omega) ho2 rfl hne
  simp only [List.set_set, hk] at h
  rw [← hf, map_se] at h
  exact h
theorem gh_weakR {α : Type} {id n : Nat} {z : Value} {f : List α → C} (ho : lko id st.σ = some ⟨List.replicate n (.val z), []⟩) (hc : cle (.val z) (f [])) : Gh [] st ⟨so id ⟨(List.replicate n []).map f, []⟩ st.σ, st.env, st.n⟩ :=
  gh_weak ho (by rw [List.map_replicate]; exact cleL_rep hc n) (by intro q hq; cases hq)

end
def onil : List Int → C
  | [] => cnil
  | x :: l => .own (ints (x :: l))
theorem AF.onil_n {P : Program} {f : Nat} {args : List C} {l : List Int} (h : AF P f args (fun r => r = onil l)) (hl : l = []) : AF P f args (fun r => r = cnil) := by subst hl; exact h
theorem AF.onil_o {P : Program} {f : Nat} {args : List C} {l : List Int} (h : AF P f args (fun r => r = onil l)) (hl : ¬ l = []) : AF P f args (fun r => r = .own (ints l)) := by
  cases l with
  | nil => exact absurd rfl hl
  | cons x l => exact h
theorem map_ne {α : Type} {f : α → C} {l : List α} (h : ¬ l = []) : (l.map f).isEmpty = false := by
  cases l with
  | nil => exact absurd rfl h
  | cons x l => rfl
theorem gh_fillc {st : St} {id j : Nat} {ob : Ob} {c : C} (ho : lko id st.σ = some ob) (hj : lk j ob.holes = some (.c c)) (hlt : j < ob.xs.length) :
    Gh [] st ⟨so id ⟨ob.xs.set j c, rmH j ob.holes⟩ st.σ, st.env, st.n⟩ := by
  intro D G a w hr
  obtain ⟨l, hl, hob⟩ := hr.obs _ (mem_of_lko ho)
  rcases hob with ⟨_, h2, _⟩ | ⟨h1, h2, vs, f, h3, h4, h5, h6⟩
  · simp only at h2; rw [h2] at hlt; simp at hlt
  · simp only at h2 h3 h4 h6
    obtain ⟨x, hx, hxv⟩ := h6 _ (mem_of_lk hj)
    simp only at hx hxv
    simp only [VRp] at hxv
    obtain ⟨g, f1, f2, hf, hR⟩ := RpL.exch h4 hlt hxv
    have hset : vs.set j x = vs := by
      apply List.ext_getElem?
      intro i
      rw [List.getElem?_set]
      split
      · rename_i e; subst e; rw [hx]; simp [(List.getElem?_eq_some_iff.1 hx).1]
      · rfl
    rw [hset, List.append_nil] at hR
    have hnd : (l.b :: f).Nodup := by have := hr.disj1 _ (mem_of_lko ho); simp only at this; rwa [h3] at this
    have hsub : (f1 ++ f2).Sublist f := by rw [hf, List.append_assoc]; exact List.Sublist.append_left (List.sublist_append_right g f2) f1
    have hb0 := List.nodup_cons.1 hnd
    obtain ⟨D', r1, r2, r3, _⟩ := hr.mod (id := id) (ob := ob) (ob' := ⟨ob.xs.set j c, rmH j ob.holes⟩) (l := l) (l' := l) (w' := w) (F := l.b :: (f1 ++ f2)) (ids := []) (drop := [])
      ho hl (by simp) (by simp) (.inl rfl) (Nat.le_refl _) rfl rfl rfl (fun _ _ _ => rfl)
      (List.nodup_cons.2 ⟨fun hm => hb0.1 (hsub.subset hm), hsub.nodup hb0.2⟩)
      (by
        intro b hb
        rcases List.mem_cons.1 hb with rfl | hb
        · exact .inl (by simp only [h3]; exact List.mem_cons_self)
        · exact .inl (by simp only [h3]; exact List.mem_cons_of_mem _ (hsub.subset hb)))
      (by
        intro I' hI' M' hM'
        refine .inr ⟨h1, by simp [h2], vs, _, rfl, RpL.frame hI' (fun _ _ => rfl) _ _ _ (fun _ _ => rfl) hR, h5, ?_⟩
        intro q hq
        obtain ⟨u, g3, g4⟩ := h6 q (mem_rmH hq).1
        exact ⟨u, g3, VRp.frameM hI' (fun _ _ => rfl) _ _ (fun i _ m hm => hM' i m (by simp) hm) g4⟩)
    rw [mo_nil, killE_nil] at r1 r3
    refine ⟨D', r1, fun p hp b hb => ?_⟩
    rcases r3.own p hp b hb (r1.lt hp hb) with h | ⟨i, hi, _⟩
    · exact .inl h
    · cases hi
theorem bnd_some {st : St} {o : Operand} {k : IntKind} {d z : Int} (h : st.ev o = some (.c (.val (.int k z)))) : bndV st (some o) d z := ⟨k, h⟩
theorem bnd_none {st : St} {d : Int} : bndV st none d d := rfl
theorem ws_slR {P : Program} {st : St} {ty : TypeId} {α : Type} {T : TypeId} [hT : SlT P T] {x : Operand} {lo hi : Option Operand} {id : Nat} {f : α → C} {l : List α} {a b : Int}
    (hx : st.ev x = some (.ref id)) (ho : lko id st.σ = some ⟨l.map f, []⟩) (hlo : bndV st lo 0 a) (hhi : bndV st hi l.length b) (hb : 0 ≤ a ∧ a ≤ b ∧ b ≤ (l.length : Int))
    {K : V → St → Prop} (h : K (.ref id) ⟨mo id ⟨(sl l a b).map f, []⟩ [id] [] st.σ, killE [id] st.env, st.n⟩) : WS P [id] [] (.slice T x lo hi none) ty st K := by
  intro D G ac w hr dst pos after guard
  obtain ⟨lc, hl, hv, hob⟩ := hr.ref hx ho
  have elo : ∀ o, lo = some o → ∃ k, ac.eval o = .int k (a.toNat : Int) := fun o e => by
    subst e; obtain ⟨k, hk⟩ := hlo; exact ⟨k, by rw [hr.evVal hk]; congr 1; omega⟩
  have elo0 : lo = none → a.toNat = 0 := fun e => by subst e; simp only [bndV] at hlo; omega
  have ehi : ∀ o, hi = some o → ∃ k, ac.eval o = .int k (b.toNat : Int) := fun o e => by
    subst e; obtain ⟨k, hk⟩ := hhi; exact ⟨k, by rw [hr.evVal hk]; congr 1; omega⟩
  have ehi0 : hi = none → b.toNat = l.length := fun e => by subst e; simp only [bndV] at hhi; omega
  have fin : ∀ (v' : Value) (l' : Loc) (F : List Nat), (execOp ac.eval ⟨dst, .slice T x lo hi none, ty, pos, after, guard⟩).run P w = .ok (.value v') w → v' = l'.slice → F.Nodup → (∀ b ∈ F, b ∈ D.fp id) →
      (∀ I' : Nat → Prop, (∀ b, Imm G st.σ D.fp w b → I' b) → ∀ M', ObRp w I' M' l' ⟨(sl l a b).map f, []⟩ F) →
      valsR P (fun x w' => ∃ D' v st', K v st' ∧ Rep D' G st' ac w' ∧ VRp w' (Imm G st'.σ D'.fp w') D'.M v x ∧ Upd [id] [] D w D' st' w') ((execOp ac.eval ⟨dst, .slice T x lo hi none, ty, pos, after, guard⟩).run P w) := by
    intro v' l' F hrun hv' hF1 hF2 hOb
    obtain ⟨D', r1, r2, r3, _⟩ := hr.mod (id := id) (ob := ⟨l.map f, []⟩) (ob' := ⟨(sl l a b).map f, []⟩) (l := lc) (l' := l') (w' := w) (F := F) (ids := [id]) (drop := []) ho hl (by simp) (by simp) (.inr (by simp)) (Nat.le_refl _) rfl rfl rfl (fun _ _ _ => rfl) hF1 (fun b hb => .inl (hF2 b hb)) (fun I' hI' M' _ => hOb I' hI' M')
    rw [hrun]
    exact ⟨D', _, _, h, r1, by simp only [VRp]; exact ⟨l', r2, hv'⟩, r3⟩
  rcases hob with ⟨h1, h2, _, h4⟩ | ⟨h1, h2, vs, g, h3, h4, h5, h6⟩
  · have hl0 : l = [] := by simpa using h2
    subst hl0
    simp only [List.length_nil] at hb ehi0
    have hx2 : ac.eval x = .slice none 0 0 := by rw [hv, Loc.slice, h1]; rfl
    refine fin _ lc [] (exec_slice (l := a.toNat) (h := b.toNat) hx2 elo elo0 ehi ehi0 (by omega) (by omega) w dst pos after guard) ?_ (by simp) (by simp) (fun I' _ M' => .inl ⟨h1, by simp [sl], rfl, rfl⟩)
    rw [Loc.slice, h1, show a.toNat = 0 by omega, show b.toNat = 0 by omega]; rfl
  · have hx2 : ac.eval x = .slice (some ⟨lc.b, lc.off, none⟩) l.length lc.cap := by rw [hv, Loc.slice, h1, h2]; simp
    have hsl : (sl l a b).length = b.toNat - a.toNat := by simp [sl]; omega
    have e : l.map f = (l.take a.toNat).map f ++ ((sl l a b).map f ++ (l.drop b.toNat).map f) := by
      rw [← List.map_append, ← List.map_append]
      congr 1
      unfold sl
      have e2 : (l.take b.toNat).drop a.toNat ++ l.drop b.toNat = (l.take b.toNat ++ l.drop b.toNat).drop a.toNat := (List.drop_append_of_le_length (by rw [List.length_take]; omega)).symm
      rw [e2, List.take_append_drop, List.take_append_drop]
    have hvl := h4.length
    simp only [List.length_map] at hvl
    have hnd : (lc.b :: g).Nodup := by have := hr.disj1 _ (mem_of_lko ho); rwa [h3] at this
    simp only at h4
    rw [e] at h4
    obtain ⟨v1, v23, f1, f23, rfl, hf, r1, r23⟩ := h4.split
    obtain ⟨v2, v3, f2, f3, rfl, hf', r2, r3⟩ := r23.split
    have n1 := r1.length
    have n2 := r2.length
    simp only [List.length_map, List.length_take] at n1
    simp only [List.length_map, hsl] at n2
    have hcap : l.length ≤ lc.cap := by obtain ⟨_, _, _, k, _⟩ := h5; rw [hvl] at k; exact k
    have hsub : f2.Sublist g := by rw [hf, hf']; exact (List.sublist_append_left f2 f3).trans (List.sublist_append_right f1 _)
    have hb0 := List.nodup_cons.1 hnd
    refine fin _ ⟨lc.b, if lc.cap = a.toNat then lc.off else lc.off + a.toNat, b.toNat - a.toNat, lc.cap - a.toNat, false⟩ (lc.b :: f2) (exec_slice (l := a.toNat) (h := b.toNat) hx2 elo elo0 ehi (fun e => ehi0 e) (by omega) (by omega) w dst pos after guard) ?_ (List.nodup_cons.2 ⟨fun hm => hb0.1 (hsub.subset hm), hsub.nodup hb0.2⟩) ?_ (fun I' hI' M' => .inr ⟨rfl, by simp [hsl], v2, f2, rfl, RpL.frame hI' (fun _ _ => rfl) _ _ _ (fun _ _ => rfl) r2, ?_, by intro q hq; cases hq⟩)
    · simp only [Loc.slice]
      by_cases hc : lc.cap = a.toNat
      · rw [if_pos hc, if_pos hc]; rfl
      · rw [if_neg hc, if_neg hc]; simp only [Option.map_some, Addr.add_lit]; rfl
    · intro c hc
      rw [h3]
      rcases List.mem_cons.1 hc with rfl | hc
      · exact List.mem_cons_self
      · exact List.mem_cons_of_mem _ (hsub.subset hc)
    · obtain ⟨cur, e', k1, k2, k3, k4, k5⟩ := h5
      refine ⟨cur, e', k1, by simp only [n2]; omega, ?_, by simp only; omega, fun i v hv => ?_⟩
      · simp only; split <;> omega
      · have hi : i < v2.length := (List.getElem?_eq_some_iff.1 hv).1
        have := k5 (a.toNat + i) v (by rw [List.getElem?_append_right (by omega), show a.toNat + i - v1.length = i by omega, List.getElem?_append_left hi]; exact hv)
        rw [if_neg (by omega), Nat.add_assoc]; exact this
section
variable {P : Program} {ops : Array Oper} {K : St → Prop} {st : St} {rest : List Oper}
theorem yielded_und {D : Data} {G : Glob} {a : Act} {w : World} (hr : Rep D G st a w) {g s : Nat} (hg : (ops[g]?).bind (·.dst) = some s) (hv : st.ev (.tmp s) = some (.c (.val undef))) : yielded ops a.tmps g = none := by
  simp only [St.ev] at hv
  cases hb : Nat.blt s st.n with
  | false => rw [hb] at hv; cases hv
  | true =>
  rw [hb] at hv
  obtain ⟨x, h1, h2⟩ := hr.env s _ hv
  rw [slot, hb] at h1
  simp only [cond_true] at h1
  simp only [VRp, Rp] at h2
  rw [h2.1] at h1
  unfold yielded
  simp [hg, h1, undef]
theorem run_gfu {op : Op} {ty : TypeId} {dst : Option Nat} {pos : String} {after : Array Edge} {g s : Nat} {b c : Bool} (hg : (ops[g]?).bind (·.dst) = some s) (hv : st.ev (.tmp s) = some (.c (.val (.bool c)))) (hb : c = !b)
    (hd : dOk dst st.n = true) (h : Run P ops K rest (st.put dst (.c (.val undef)))) : Run P ops K (⟨dst, op, ty, pos, after, some (g, b)⟩ :: rest) st := ⟨fun G D a w hr Q hQ r => by
  subst hb
  have hy := yielded_spec hr hg hv
  unfold wpListIn
  rw [if_neg (by simp [Region.wanted, hy])]
  exact ⟨fun _ _ => trivial, h.out G D _ w (hr.put (dOk_spec hd) (by simp [VRp, Rp])) Q hQ r⟩⟩
theorem run_gu {op : Op} {ty : TypeId} {dst : Option Nat} {pos : String} {after : Array Edge} {g s : Nat} {b : Bool} (hg : (ops[g]?).bind (·.dst) = some s) (hv : st.ev (.tmp s) = some (.c (.val undef)))
    (hd : dOk dst st.n = true) (h : Run P ops K rest (st.put dst (.c (.val undef)))) : Run P ops K (⟨dst, op, ty, pos, after, some (g, b)⟩ :: rest) st := ⟨fun G D a w hr Q hQ r => by
  have hy := yielded_und hr hg hv
  unfold wpListIn
  rw [if_neg (by simp [Region.wanted, hy])]
  exact ⟨fun _ _ => trivial, h.out G D _ w (hr.put (dOk_spec hd) (by simp [VRp, Rp])) Q hQ r⟩⟩
end
section
variable {P : Program} {ops : Array Oper} {kd : Nat → Nat} {X : List Nat} {K : St → Prop} {st : St} {r : List Nat}
end
section
variable {P : Program} {X : Option (List Nat)} {st : St} {ty : TypeId}
end
inductive Tr where
  | nil
  | one (i : Nat) (t : Tr)
  | br (a b : Tr)
section
variable {P : Program} {md : Region.Mode} {ops : Array Oper} {kd : Nat → Nat} {Q : Exit → Act → World → Prop}
end
section
variable {P : Program} {ops : Array Oper} {kd : Nat → Nat} {X : List Nat} {K : St → Prop} {st : St} {r : Tr}
end
def insσ (p : Nat × Ob) : List (Nat × Ob) → List (Nat × Ob)
  | [] => [p]
  | q :: r => bif Nat.ble p.1 q.1 then p :: q :: r else q :: insσ p r
def sortσ : List (Nat × Ob) → List (Nat × Ob)
  | [] => []
  | p :: r => insσ p (sortσ r)
theorem insσ_perm (p : Nat × Ob) : ∀ r : List (Nat × Ob), (insσ p r).Perm (p :: r)
  | [] => List.Perm.refl _
  | q :: r => by
    unfold insσ
    cases Nat.ble p.1 q.1 with
    | true => exact List.Perm.refl _
    | false => exact ((insσ_perm p r).cons q).trans (List.Perm.swap p q r)
theorem sortσ_perm : ∀ l : List (Nat × Ob), (sortσ l).Perm l
  | [] => List.Perm.refl _
  | p :: r => (insσ_perm p (sortσ r)).trans ((sortσ_perm r).cons p)
theorem gh_sort (st : St) : Gh [] st ⟨sortσ st.σ, st.env, st.n⟩ := fun D G a w hr => by
  have hp := sortσ_perm st.σ
  have hm : ∀ p, p ∈ sortσ st.σ ↔ p ∈ st.σ := fun p => hp.mem_iff
  have hI : Imm G (sortσ st.σ) D.fp w = Imm G st.σ D.fp w := by
    funext b
    unfold Imm
    simp only [hm]
  refine ⟨D, ⟨fun p h => ?_, fun id h => hr.dom id fun p hq => h p ((hm p).2 hq), (hp.map _).nodup_iff.2 hr.nodup, fun p h => hr.disj1 p ((hm p).1 h), fun p h q h2 => hr.disj2 p ((hm p).1 h) q ((hm q).1 h2), fun i v hv => ?_, fun p h => hr.own p ((hm p).1 h), hr.frame, hr.size, hr.os, hr.tape, hr.output, hr.ntmps, hr.defers⟩, fun _ _ _ hb => .inl hb⟩
  · simp only
    rw [hI]; exact hr.obs p ((hm p).1 h)
  · simp only
    rw [hI]; exact hr.env i v hv
theorem Upd.comp {id : Nat} {D D1 D2 : Data} {G : Glob} {a : Act} {w w1 w2 : World} {st1 st2 : St} (hr1 : Rep D1 G st1 a w1) (hk : ∃ p ∈ st1.σ, p.1 = id) (h1 : Upd [id] [] D w D1 st1 w1) (h2 : Upd [id] [] D1 w1 D2 st2 w2) (_hr2 : Rep D2 G st2 a w2) : Upd [id] [] D w D2 st2 w2 := by
  have own1 : ∀ k, (∃ p ∈ st1.σ, p.1 = k) → ∀ b ∈ D1.fp k, b < w.heap.size → b ∈ D.fp k := fun k hk b hb hlt => by
    obtain ⟨p, hp, rfl⟩ := hk
    rcases h1.own p hp b hb hlt with h | ⟨i, hi, _⟩
    · exact h
    · cases hi
  refine ⟨Nat.le_trans h1.size h2.size, fun b hb hX => ?_, fun p hp b hb hlt => ?_⟩
  · rw [h2.keep b (Nat.lt_of_lt_of_le hb h1.size) fun i hi hbi => by
      simp only [List.mem_singleton] at hi
      subst hi
      exact hX i (by simp) (own1 i hk b hbi hb)]
    exact h1.keep b hb hX
  · rcases h2.own p hp b hb (Nat.lt_of_lt_of_le hlt h1.size) with h | ⟨i, hi, _⟩
    · exact .inl (own1 p.1 (hr1.fpkey h) b h hlt)
    · cases hi
theorem VRpL.vals {w : World} {I : Nat → Prop} {M : Nat → Option Loc} : ∀ (zs : List Value), VRpL w I M (zs.map fun z => .c (.val z)) zs
  | [] => by simp [VRpL]
  | z :: zs => by simp only [List.map_cons, VRpL]; exact ⟨z, zs, rfl, by simp [VRp, Rp], VRpL.vals zs⟩
end Go.Proofs.Ytggeeemecgmhiaa
