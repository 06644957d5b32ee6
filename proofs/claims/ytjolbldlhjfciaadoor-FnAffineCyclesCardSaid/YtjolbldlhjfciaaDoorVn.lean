/- The value layer: calls that borrow what they read; small rules; tables; no condition. -/
import Derived.Test.YtjolbldlhjfciaaDoorVm
namespace Go.Proofs.YtjolbldlhjfciaaDoor

/-! Values that lead nowhere. -/
mutual
def C.flt : C → Bool
  | .val _ | .hole => true
  | .agg xs | .tup xs | .clo _ xs => fltL xs
  | .lst _ | .ptr _ | .own _ | .obox _ => false
def fltL : List C → Bool
  | [] => true
  | x :: xs => x.flt && fltL xs
end
mutual
theorem Rp.flt {w w' : World} {I I' : Nat → Prop} : ∀ (c : C) (v : Value) (f : List Nat), c.flt = true → Rp w I c v f → f = [] ∧ Rp w' I' c v []
  | .val x, v, f, _, h => by simp only [Rp] at h ⊢; exact ⟨h.2, h.1, trivial⟩
  | .hole, v, f, _, h => by simp only [Rp] at h ⊢; exact ⟨h, trivial⟩
  | .lst xs, v, f, hp, _ => by simp [C.flt] at hp
  | .ptr xs, v, f, hp, _ => by simp [C.flt] at hp
  | .own xs, v, f, hp, _ => by simp [C.flt] at hp
  | .obox xs, v, f, hp, _ => by simp [C.flt] at hp
  | .agg xs, v, f, hp, h => by simp only [Rp] at h ⊢; obtain ⟨vs, h1, h2⟩ := h; have := RpL.flt (w' := w') (I' := I') xs vs f (by simpa only [C.flt] using hp) h2; exact ⟨this.1, vs, h1, this.2⟩
  | .tup xs, v, f, hp, h => by simp only [Rp] at h ⊢; obtain ⟨vs, h1, h2⟩ := h; have := RpL.flt (w' := w') (I' := I') xs vs f (by simpa only [C.flt] using hp) h2; exact ⟨this.1, vs, h1, this.2⟩
  | .clo _ xs, v, f, hp, h => by simp only [Rp] at h ⊢; obtain ⟨vs, h1, h2⟩ := h; have := RpL.flt (w' := w') (I' := I') xs vs f (by simpa only [C.flt] using hp) h2; exact ⟨this.1, vs, h1, this.2⟩
theorem RpL.flt {w w' : World} {I I' : Nat → Prop} : ∀ (xs : List C) (vs : List Value) (f : List Nat), fltL xs = true → RpL w I xs vs f → f = [] ∧ RpL w' I' xs vs []
  | [], vs, f, _, h => by simp only [RpL] at h ⊢; exact ⟨h.2, h.1, trivial⟩
  | x :: xs, vs, f, hp, h => by
    simp only [fltL, Bool.and_eq_true] at hp
    simp only [RpL] at h ⊢
    obtain ⟨v, vs', f1, f2, rfl, rfl, h3, h4⟩ := h
    obtain ⟨rfl, e1⟩ := Rp.flt (w' := w') (I' := I') x v f1 hp.1 h3
    obtain ⟨rfl, e2⟩ := RpL.flt (w' := w') (I' := I') xs vs' f2 hp.2 h4
    exact ⟨rfl, v, vs', [], [], rfl, rfl, e1, e2⟩
end

section
variable {P : Program} {st : St} {ty : TypeId}

/-- A call that only reads what objects of the caller's hold. -/
theorem ws_callB {fo : Operand} {xs : List Operand} {ats : Array TypeId} {fv : V} {f : Nat} {caps : List V} {vs : List V} {cs : List C} {Q : C → Prop} {ids0 : List Nat} (hf : st.ev fo = some fv) (hfv : fv = .clo f caps ∨ (caps = [] ∧ fv = .c (.clo f []))) (hx : evs st xs = some vs) (ha : hvL st.σ (vs ++ caps) = some (cs, ids0))
    (hc : AF P f (frzL cs) Q) {K : V → St → Prop} (h : ∀ r, Q r → r.flt = true ∧ K (opn r []).1 st) : WS P [] [] (.call ⟨.value fo, xs.toArray, ats⟩) ty st K := by
  intro D G a w hr dst pos after guard
  have h1 := evs_sound hr xs vs hx
  have h2 : ∃ cv, a.eval fo = .func (.func f) #[] cv.toArray ∧ VRpL w (Imm G st.σ D.fp w) D.M caps cv := by
    have h3 := hr.ev hf
    rcases hfv with rfl | ⟨rfl, rfl⟩
    · simp only [VRp] at h3; exact h3
    · simp only [VRp, Rp] at h3; obtain ⟨cv, e1, e2⟩ := h3; simp only [RpL] at e2; obtain ⟨rfl, _⟩ := e2; exact ⟨[], e1, by simp [VRpL]⟩
  obtain ⟨cv, h3, h4⟩ := h2
  have hrun : (execOp a.eval ⟨dst, .call ⟨.value fo, xs.toArray, ats⟩, ty, pos, after, guard⟩).run P w = .ok (.enter f (xs.map a.eval ++ cv).toArray) w := by
    simp only [execOp, resolve, h3, Deferred.ofValue, Sem.run_bind, Sem.run_pure, Result.andThen_ok, invoke]
    rw [callFunc_run hc.ent]
    simp
  rw [hrun]
  have h5 : VRpL w (Imm G st.σ D.fp w) D.M (vs ++ caps) (xs.map a.eval ++ cv) := by
    have : ∀ (vs : List V) (xs : List Value), VRpL w (Imm G st.σ D.fp w) D.M vs xs → VRpL w (Imm G st.σ D.fp w) D.M (vs ++ caps) (xs ++ cv) := by
      intro vs
      induction vs with
      | nil => intro xs h; simp only [VRpL] at h; subst h; exact h4
      | cons v vs ih =>
        intro xs h
        simp only [VRpL, List.cons_append] at h ⊢
        obtain ⟨x, xs', rfl, e2, e3⟩ := h
        exact ⟨x, xs' ++ cv, rfl, e2, ih xs' e3⟩
    exact this _ _ h1
  obtain ⟨h6, h7⟩ := hvL_spec hr _ _ cs ids0 ha h5
  have h8 : RpL w (fun b => Imm G st.σ D.fp w b ∨ b ∈ ids0.flatMap D.fp) (frzL cs) (xs.map a.eval ++ cv) [] := RpL.frz (fun b hb => .inl hb) _ _ _ (fun b hb => .inr hb) h6
  refine (hc.out w _ _ (fun b hb => ?_) h8).mono fun e w' ⟨r, x, fr, e1, e2, e3, e4, e5, e6, e7, e8, e9, e10⟩ => ?_
  · rcases hb with hb | hb
    · exact hb.2.1
    · obtain ⟨i, hi, hbi⟩ := List.mem_flatMap.1 hb
      obtain ⟨p, hp, rfl⟩ := h7 i hi
      exact hr.lt hp hbi
  · obtain ⟨k1, k2⟩ := h r e2
    obtain ⟨rfl, k3⟩ := Rp.flt (w' := w') (I' := fun b => Imm G st.σ D.fp w b ∨ (w.heap.size ≤ b ∧ b < w'.heap.size ∧ b ∉ ([] : List Nat))) r x fr k1 e3
    obtain ⟨D', g1, g2, g3⟩ := hr.grow (ids := []) e6 e7 e8 e9 e10 rfl k3 e4 (by simp)
    have hno : (opn r []).2.1 = [] := List.map_eq_nil_iff.1 (List.append_eq_nil_iff.1 (opn_keys r []).symm).1
    rw [hno] at g1 g2 g3
    exact ⟨x, e1, D', _, _, k2, g1, g2, g3⟩

/-- 'box' of a struct that holds references, or whose fields are written. -/
theorem ws_boxS {T : TypeId} {x : Operand} {v : V} {us : List V} {id : Nat} (hx : st.ev x = some v) (hf : v.fields = some us) (h1 : us.all (·.one) = true) (hl : us.length ≤ 1000) (hid : fresh id st.σ = true) {K : V → St → Prop}
    (h : K (.cell id 0) ⟨(id, ⟨closedL us, holesL 0 us⟩) :: st.σ, st.env, st.n⟩) : WS P [] [] (.box T x) ty st K := by
  intro D G a w hr dst pos after guard
  obtain ⟨xs, hxe, hxs⟩ := fields_spec hf (hr.ev hx)
  have hlen : us.length = xs.length := by
    have : ∀ (vs : List V) (xs : List Value), VRpL w (Imm G st.σ D.fp w) D.M vs xs → vs.length = xs.length := by
      intro vs
      induction vs with
      | nil => intro xs h; simp only [VRpL] at h; simp [h]
      | cons v vs ih => intro xs h; simp only [VRpL] at h; obtain ⟨x, xs', rfl, _, h3⟩ := h; simp [ih _ h3]
    exact this _ _ hxs
  have hone : ∀ (i : Nat) (u : Value), xs[i]? = some u → u.oneCell' = true := fun i u hu => by
    have hi : i < us.length := by rw [hlen]; exact (List.getElem?_eq_some_iff.1 hu).1
    obtain ⟨y, e1, e2⟩ := VRpL.get hxs (List.getElem?_eq_getElem hi)
    rw [hu] at e1
    obtain rfl := Option.some.inj e1
    exact (one_spec e2 (List.all_eq_true.1 h1 _ (List.getElem_mem hi))).2
  obtain ⟨D', g1, g2, g3, _⟩ := hr.new hid (cur := xs.toArray) (e := T) (xs := closedL us) (holes := holesL 0 us) (vs := xs) (cap := xs.length) (closedL_spec hxs)
    (by have := holesL_spec hxs []; simpa using this) (Nat.le_refl _) (by simp) (by simp only [maxLen]; omega) (fun i u hu => ⟨by simpa using hu, hone i u hu⟩)
  have hrun : (execOp a.eval ⟨dst, .box T x, ty, pos, after, guard⟩).run P w = .ok (.value (.pointer (some ⟨w.heap.size, 0, none⟩))) (w.alloc (.cells xs.toArray T)) := by
    simp [execOp, Instr.box, newVar, newRow, hxe, Value.cells]
  rw [hrun]
  refine ⟨D', _, _, h, g1, ?_, g3⟩
  simp only [VRp]
  exact ⟨_, g2, rfl, rfl⟩

theorem ss_extractC {X : Option (List Nat)} {x : Operand} {cs : List C} {k : Nat} {c : C} (hx : st.ev x = some (.c (.tup cs))) (hk : cs[k]? = some c) : SS P X (.extract x k) ty st (.c c) := fun D G a w hr => by
  have h1 := hr.ev hx
  simp only [VRp, Rp] at h1
  obtain ⟨xs, h2, h3⟩ := h1
  obtain ⟨y, e1, e2⟩ := h3.get0 hk
  exact ⟨y, by simp only [VRp]; exact e2, fun w' _ dst pos after guard => by simp [execOp, h2, Instr.extract, e1]⟩
end

def kdl : List Nat → Nat → Nat
  | [], _ => 0
  | k :: _, 0 => k
  | _ :: r, i + 1 => kdl r i

theorem eqci {a b : Int} (h : a = b) : some (V.c (ci a)) = some (V.c (ci b)) := by rw [h]
theorem lk_self {i : Nat} {v : V} {r : List (Nat × V)} : lk i ((i, v) :: r) = some v := by simp [lk]
theorem rm_self {i : Nat} {v : V} : rmH i [(i, v)] = [] := by simp [rmH]
theorem sgx {id : Nat} {xs ys : List C} {hs hs' : List (Nat × V)} {σ σ' : List (Nat × Ob)} (e : xs = ys) (eh : hs = hs') (h : σ = σ') : (id, Ob.mk xs hs) :: σ = (id, Ob.mk ys hs') :: σ' := by rw [e, eh, h]
theorem gh_trans {Y Z : List Nat} {a b c : St} (h : Gh Y a b) (k : Gh Z b c) : ∃ W, Gh W a c := ⟨Y ++ Z ++ Y, fun D G ac w hr => by
  obtain ⟨D1, h1, h2⟩ := h D G ac w hr
  obtain ⟨D2, k1, k2⟩ := k D1 G ac w h1
  refine ⟨D2, k1, fun p hp b hb => ?_⟩
  have up : ∀ i, b ∈ D1.fp i → b ∈ D.fp i ∨ ∃ id ∈ Y, b ∈ D.fp id := fun i hi => by
    obtain ⟨q, hq, rfl⟩ := h1.fpkey hi
    exact h2 q hq b hi
  rcases k2 p hp b hb with h3 | ⟨id, h3, h4⟩
  · rcases up _ h3 with h5 | ⟨i, h5, h6⟩
    · exact .inl h5
    · exact .inr ⟨i, by simp [h5], h6⟩
  · rcases up _ h4 with h5 | ⟨i, h5, h6⟩
    · exact .inr ⟨id, by simp [h3], h5⟩
    · exact .inr ⟨i, by simp [h5], h6⟩⟩

/-! Tables. -/
def totN : List (List Int) → Nat
  | [] => 0
  | r :: rs => r.length + totN rs
/-- The values of a function on 0 .. m - 1. -/
def ran {α : Type} (m : Int) (f : Int → α) : List α := (List.range m.toNat).map fun (j : Nat) => f j
@[simp] theorem length_ran {α : Type} (m : Int) (f : Int → α) : (ran m f).length = m.toNat := by simp [ran]
theorem ran_zero {α : Type} (f : Int → α) : ran 0 f = [] := rfl
theorem ran_succ {α : Type} {m : Int} (f : Int → α) (h : 0 ≤ m) : ran (m + 1) f = ran m f ++ [f m] := by
  have e : (m + 1).toNat = m.toNat + 1 := by omega
  unfold ran
  rw [e, List.range_succ, List.map_append, List.map_singleton, Int.toNat_of_nonneg h]
theorem ran_congr {α : Type} {m : Int} {f g : Int → α} (h : ∀ i, 0 ≤ i → i < m → f i = g i) : ran m f = ran m g := by
  unfold ran
  refine List.map_congr_left fun i hi => ?_
  have := List.mem_range.1 hi
  exact h i (by omega) (by omega)
theorem get_ran {α : Type} {m : Int} (f : Int → α) {i : Nat} (h : (i : Int) < m) : (ran m f)[i]? = some (f i) := by
  have : i < m.toNat := by omega
  simp [ran, this]
theorem map_ran {α β : Type} (m : Int) (f : Int → α) (g : α → β) : (ran m f).map g = ran m fun i => g (f i) := by simp [ran]
def tab (n : Int) (f : Int → Int → Int) : List (List Int) := ran n fun i => ran n (f i)
@[simp] theorem length_tab (n : Int) (f : Int → Int → Int) : (tab n f).length = n.toNat := by simp [tab]
theorem tab_congr {n : Int} {f g : Int → Int → Int} (h : ∀ i j, 0 ≤ i → i < n → 0 ≤ j → j < n → f i j = g i j) : tab n f = tab n g :=
  ran_congr fun i h0 h1 => ran_congr fun j h2 h3 => h i j h0 h1 h2 h3
theorem row_tab (n : Int) (f : Int → Int → Int) (i : Int) (h : 0 ≤ i ∧ i < n) : row_ (tab n f) i = ran n (f i) := by
  have := get_ran (m := n) (fun i => ran n (f i)) (i := i.toNat) (by omega)
  rw [Int.toNat_of_nonneg h.1] at this
  simp [row_, tab, List.getD_eq_getElem?_getD, this]
theorem tot_ran {m : Int} (f : Int → List Int) (c : Nat) (h : ∀ i, 0 ≤ i → i < m → (f i).length = c) : totN (ran m f) = m.toNat * c := by
  obtain h0 | h0 := Int.lt_or_le m 0
  · have : m.toNat = 0 := by omega
    simp [ran, this, totN]
  obtain ⟨k, rfl⟩ := Int.eq_ofNat_of_zero_le h0
  induction k with
  | zero => simp [ran, totN]
  | succ k ih =>
    have h1 := ih (fun i a b => h i a (by omega)) (by omega)
    have e : ((k + 1 : Nat) : Int) = (k : Int) + 1 := by omega
    rw [e, ran_succ f (by omega)]
    have : ∀ s t : List (List Int), totN (s ++ t) = totN s + totN t := by intro s; induction s with
      | nil => simp [totN]
      | cons r rs ih => intro t; simp only [List.cons_append, totN, ih]; omega
    rw [this, h1]
    simp only [totN, h k (by omega) (by omega), Int.toNat_natCast]
    rw [show ((k : Int) + 1).toNat = k + 1 by omega, Nat.add_mul]; omega

/-- The first 'i' filled, the others still as they were made. -/
def pre (n i : Int) (F : Int → C) (z : C) : List C := ran i F ++ List.replicate (n - i).toNat z
theorem pre_zero (n : Int) (F : Int → C) (z : C) : pre n 0 F z = List.replicate n.toNat z := by simp [pre, ran]
theorem pre_full (n : Int) (F : Int → C) (z : C) : pre n n F z = ran n F := by simp [pre]
theorem length_pre {n i : Int} (F : Int → C) (z : C) (h : 0 ≤ i ∧ i ≤ n) : (pre n i F z).length = n.toNat := by simp [pre]; omega
theorem pre_set {n i : Int} (F : Int → C) (z : C) (h : 0 ≤ i ∧ i < n) : (pre n i F z).set i.toNat (F i) = pre n (i + 1) F z := by
  unfold pre
  have e : (n - i).toNat = (n - (i + 1)).toNat + 1 := by omega
  rw [List.set_append_right _ _ (by simp), length_ran, Nat.sub_self, e, List.replicate_succ, List.set_cons_zero, ran_succ F h.1, List.append_assoc]; rfl
theorem ints_ran (m : Int) (f : Int → Int) : ints (ran m f) = ran m fun j => ci (f j) := by simp [ints, map_ran]
theorem orows_ran (m : Int) (f : Int → List Int) : orows (ran m f) = ran m fun i => .own (ints (f i)) := by simp [orows, map_ran]

theorem mulB {a i A B : Int} (h : 0 ≤ a ∧ a ≤ A ∧ 0 ≤ i ∧ i ≤ B) : 0 ≤ a * i ∧ a * i ≤ A * B := by
  obtain ⟨h1, h2, h3, h4⟩ := h
  exact ⟨Int.mul_nonneg h1 h3, Int.mul_le_mul h2 h4 h3 (by omega)⟩

/-! Marks. -/
def mk1 : Int → List Int → List Int
  | _, [] => []
  | k, _ :: l => k :: mk1 (k + 1) l
def mkR : Int → List (List Int) → List (List Int)
  | _, [] => []
  | k, r :: rs => mk1 k r :: mkR (k + r.length) rs
def tot : List (List Int) → Int
  | [] => 0
  | r :: rs => r.length + tot rs
theorem tot_totN : ∀ t : List (List Int), tot t = totN t
  | [] => rfl
  | r :: rs => by simp only [tot, totN, tot_totN rs]; omega
theorem tot_tab (n : Int) (f : Int → Int → Int) : tot (tab n f) = (n.toNat * n.toNat : Nat) := by
  rw [tot_totN, tab, tot_ran _ n.toNat (fun i _ _ => by simp)]
@[simp] theorem length_mk1 : ∀ (k : Int) (l : List Int), (mk1 k l).length = l.length
  | _, [] => rfl
  | k, _ :: l => by simp [mk1, length_mk1 (k + 1) l]
@[simp] theorem length_mkR : ∀ (k : Int) (l : List (List Int)), (mkR k l).length = l.length
  | _, [] => rfl
  | k, r :: l => by simp [mkR, length_mkR _ l]
theorem tot_nonneg : ∀ t : List (List Int), 0 ≤ tot t
  | [] => by simp [tot]
  | r :: rs => by have := tot_nonneg rs; simp only [tot]; omega
theorem tot_append : ∀ (s t : List (List Int)), tot (s ++ t) = tot s + tot t
  | [], t => by simp [tot]
  | r :: rs, t => by simp only [List.cons_append, tot, tot_append rs t]; omega
theorem mk1_append : ∀ (k : Int) (l m : List Int), mk1 k (l ++ m) = mk1 k l ++ mk1 (k + l.length) m
  | k, [], m => by simp [mk1]
  | k, x :: l, m => by simp only [List.cons_append, mk1, mk1_append (k + 1) l m, List.length_cons]; congr 3; omega
theorem mkR_append : ∀ (k : Int) (l m : List (List Int)), mkR k (l ++ m) = mkR k l ++ mkR (k + tot l) m
  | k, [], m => by simp [mkR, tot]
  | k, x :: l, m => by simp only [List.cons_append, mkR, mkR_append (k + x.length) l m, tot]; congr 3; omega
theorem at_mk1 : ∀ (k : Int) (l : List Int) (i : Int), 0 ≤ i → i < l.length → at_ (mk1 k l) i = k + i
  | k, [], i, h0, h1 => by simp at h1; omega
  | k, x :: l, i, h0, h1 => by
    by_cases h : i = 0
    · subst h; simp [at_, mk1]
    · have := at_mk1 (k + 1) l (i - 1) (by omega) (by simp at h1; omega)
      have e : i.toNat = (i - 1).toNat + 1 := by omega
      simp only [at_, mk1] at this ⊢
      rw [e, List.getD_cons_succ, this]; omega
theorem split_at {α : Type} (l : List α) (n : Nat) (h : n < l.length) : l = l.take n ++ l[n] :: l.drop (n + 1) := by
  rw [List.getElem_cons_drop, List.take_append_drop]
theorem mk1_step (k : Int) (l : List Int) (i : Int) (h0 : 0 ≤ i) (h1 : i < l.length) : (mk1 k (l.take i.toNat) ++ l.drop i.toNat).set i.toNat (k + i) = mk1 k (l.take (i + 1).toNat) ++ l.drop (i + 1).toNat := by
  have hi : i.toNat < l.length := by omega
  have e : (i + 1).toNat = i.toNat + 1 := by omega
  have e2 : l.drop i.toNat = l[i.toNat] :: l.drop (i.toNat + 1) := (List.getElem_cons_drop hi).symm
  have e3 : (l.take i.toNat).length = i.toNat := by simp; omega
  rw [e, List.set_append_right _ _ (by simp; omega), length_mk1, e3, Nat.sub_self, e2, List.set_cons_zero, List.take_succ_eq_append_getElem hi, mk1_append, e3, List.append_assoc]
  simp [mk1]; omega
theorem row_mkR : ∀ (k : Int) (t : List (List Int)) (i : Int), 0 ≤ i → i < t.length → row_ (mkR k t) i = mk1 (k + tot (t.take i.toNat)) (row_ t i)
  | k, [], i, h0, h1 => by simp at h1; omega
  | k, x :: l, i, h0, h1 => by
    by_cases h : i = 0
    · subst h; simp [row_, mkR, tot]
    · have := row_mkR (k + x.length) l (i - 1) (by omega) (by simp at h1; omega)
      have e : i.toNat = (i - 1).toNat + 1 := by omega
      simp only [row_, mkR] at this ⊢
      rw [e, List.getD_cons_succ, List.getD_cons_succ, this, List.take_succ_cons, tot]; congr 1; omega
theorem row_mkR_mid (k : Int) (t : List (List Int)) (i : Int) (h0 : 0 ≤ i) (h1 : i < t.length) : row_ (mkR k (t.take i.toNat) ++ t.drop i.toNat) i = row_ t i := by
  have hi : i.toNat < t.length := by omega
  have e3 : (mkR k (t.take i.toNat)).length = i.toNat := by simp; omega
  simp only [row_, List.getD_eq_getElem?_getD]
  rw [List.getElem?_append_right (by omega), e3, Nat.sub_self, List.getElem?_drop, Nat.add_zero]
theorem tot_take_succ (t : List (List Int)) (i : Int) (h0 : 0 ≤ i) (h1 : i < t.length) : tot (t.take (i + 1).toNat) = tot (t.take i.toNat) + (row_ t i).length := by
  have hi : i.toNat < t.length := by omega
  have e : (i + 1).toNat = i.toNat + 1 := by omega
  rw [e, List.take_succ_eq_append_getElem hi, tot_append]
  simp [tot, row_, List.getD_eq_getElem?_getD, List.getElem?_eq_getElem hi]
theorem tot_take_le (t : List (List Int)) (i : Nat) : tot (t.take i) ≤ tot t := by
  have : tot t = tot (t.take i) + tot (t.drop i) := by rw [← tot_append, List.take_append_drop]
  have := tot_nonneg (t.drop i); omega
theorem mkR_step (k : Int) (t : List (List Int)) (i : Int) (h0 : 0 ≤ i) (h1 : i < t.length) :
    (mkR k (t.take i.toNat) ++ t.drop i.toNat).set i.toNat (mk1 (k + tot (t.take i.toNat)) (row_ t i)) = mkR k (t.take (i + 1).toNat) ++ t.drop (i + 1).toNat := by
  have hi : i.toNat < t.length := by omega
  have e : (i + 1).toNat = i.toNat + 1 := by omega
  have e2 : t.drop i.toNat = t[i.toNat] :: t.drop (i.toNat + 1) := (List.getElem_cons_drop hi).symm
  have e3 : (t.take i.toNat).length = i.toNat := by simp; omega
  rw [e, List.set_append_right _ _ (by simp; omega), length_mkR, e3, Nat.sub_self, e2, List.set_cons_zero, List.take_succ_eq_append_getElem hi, mkR_append, List.append_assoc]
  simp [mkR, row_, List.getD_eq_getElem?_getD, List.getElem?_eq_getElem hi]
theorem row_len_le (t : List (List Int)) (i : Int) (h0 : 0 ≤ i) (h1 : i < t.length) : tot (t.take i.toNat) + (row_ t i).length ≤ tot t := by
  rw [← tot_take_succ t i h0 h1]; exact tot_take_le _ _

/-- A table of no great size. -/
def okT (t : List (List Int)) : Prop := t.length ≤ 1000000000 ∧ (∀ i, 0 ≤ i → i < (t.length : Int) → (row_ t i).length ≤ 1000000000) ∧ tot t ≤ 1000000000
theorem okT_nil : okT [] := ⟨by simp, by simp; omega, by simp [tot]⟩
theorem okT_tab {n : Int} (f : Int → Int → Int) (h : 0 ≤ n ∧ n ≤ 1000) : okT (tab n f) := by
  refine ⟨by simp; omega, fun i h0 h1 => ?_, ?_⟩
  · rw [row_tab n f i ⟨h0, by simp at h1; omega⟩]; simp; omega
  · rw [tot_tab]
    have : n.toNat * n.toNat ≤ 1000 * 1000 := Nat.mul_le_mul (by omega) (by omega)
    omega
theorem AF.args_eq {P : Program} {f : Nat} {args args' : List C} {Q : C → Prop} (h : AF P f args Q) (e : args' = args) : AF P f args' Q := e ▸ h
end Go.Proofs.YtjolbldlhjfciaaDoor
