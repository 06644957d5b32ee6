/- The value layer: the call that keeps what it is handed; loops of several variables; no condition. -/
import Derived.Test.YtjolbldlhjfciaaDoorWa
namespace Go.Proofs.YtjolbldlhjfciaaDoor

section
variable {P : Program} {st : St} {ty : TypeId}
/-- A call that only reads what it is handed; what it hands back is its own memory. -/
theorem ws_callR {fo : Operand} {xs : List Operand} {ats : Array TypeId} {fv : V} {f : Nat} {caps : List V} {vs : List V} {cs args : List C} {Q : C → Prop} {ids0 ids : List Nat} (hf : st.ev fo = some fv) (hfv : fv = .clo f caps ∨ (caps = [] ∧ fv = .c (.clo f []))) (hx : evs st xs = some vs) (ha : hvL st.σ (vs ++ caps) = some (cs, ids0))
    (hz : frzL cs = args) (hc : AF P f args Q) (hid : freshL st.σ ids = true) {K : V → St → Prop} (h : ∀ r, Q r → r.slf = true ∧ K (opn r ids).1 ⟨(opn r ids).2.1 ++ st.σ, st.env, st.n⟩) : WS P [] [] (.call ⟨.value fo, xs.toArray, ats⟩) ty st K := by
  subst hz
  intro D G a w hr dst pos after guard
  have h1 := evs_sound hr xs vs hx
  have h2 : ∃ cv, a.eval fo = .func (.func f) #[] cv.toArray ∧ VRpL w (Imm G st.σ D.fp w) D.M caps cv := by
    have h3 := hr.ev hf
    rcases hfv with rfl | ⟨rfl, rfl⟩
    · simp only [VRp] at h3; exact h3
    · simp only [VRp, Rp] at h3; obtain ⟨cv, e1, e2⟩ := h3; simp only [RpL] at e2; obtain ⟨rfl, _⟩ := e2; exact ⟨[], e1, by simp [VRpL]⟩
  obtain ⟨cv, h3, h4⟩ := h2
  have hrun : (execOp a.eval ⟨dst, .call ⟨.value fo, xs.toArray, ats⟩, ty, pos, after, guard⟩).run P w = .ok (.enter f (xs.map a.eval ++ cv).toArray) w := by
    simp only [execOp, resolve, h3, Deferred.ofValue, Sem.run_bind, Sem.run_pure, Result.andThen_ok, invoke]
    rw [callFunc_run hc.ent]
    simp
  rw [hrun]
  have h5 : VRpL w (Imm G st.σ D.fp w) D.M (vs ++ caps) (xs.map a.eval ++ cv) := by
    have : ∀ (vs : List V) (xs : List Value), VRpL w (Imm G st.σ D.fp w) D.M vs xs → VRpL w (Imm G st.σ D.fp w) D.M (vs ++ caps) (xs ++ cv) := by
      intro vs
      induction vs with
      | nil => intro xs h; simp only [VRpL] at h; subst h; exact h4
      | cons v vs ih =>
        intro xs h
        simp only [VRpL, List.cons_append] at h ⊢
        obtain ⟨x, xs', rfl, e2, e3⟩ := h
        exact ⟨x, xs' ++ cv, rfl, e2, ih xs' e3⟩
    exact this _ _ h1
  obtain ⟨h6, h7⟩ := hvL_spec hr _ _ cs ids0 ha h5
  have h8 : RpL w (fun b => Imm G st.σ D.fp w b ∨ b ∈ ids0.flatMap D.fp) (frzL cs) (xs.map a.eval ++ cv) [] := RpL.frz (fun b hb => .inl hb) _ _ _ (fun b hb => .inr hb) h6
  refine (hc.out w _ _ (fun b hb => ?_) h8).mono fun e w' ⟨r, x, fr, e1, e2, e3, e4, e5, e6, e7, e8, e9, e10⟩ => ?_
  · rcases hb with hb | hb
    · exact hb.2.1
    · obtain ⟨i, hi, hbi⟩ := List.mem_flatMap.1 hb
      obtain ⟨p, hp, rfl⟩ := h7 i hi
      exact hr.lt hp hbi
  · obtain ⟨k1, k2⟩ := h r e2
    have k3 := Rp.slf (I' := fun b => Imm G st.σ D.fp w b ∨ (w.heap.size ≤ b ∧ b < w'.heap.size ∧ b ∉ fr)) r x fr k1 e3
    obtain ⟨D', g1, g2, g3⟩ := hr.grow (ids := ids) e6 e7 e8 e9 e10 hid k3 e4 e5
    exact ⟨x, e1, D', _, _, k2, g1, g2, g3⟩

/-- Steps that only change what is said. -/
def GhE (a b : St) : Prop := ∃ Y, Gh Y a b
theorem ghe_refl (a : St) : GhE a a := ⟨[], Gh.refl a⟩
theorem ghe_of {Y : List Nat} {a b : St} (h : Gh Y a b) : GhE a b := ⟨Y, h⟩
theorem ghe_step {Y : List Nat} {a b c : St} (h : Gh Y a b) (k : GhE b c) : GhE a c := by
  obtain ⟨Z, hk⟩ := k
  obtain ⟨W, hw⟩ := gh_trans h hk
  exact ⟨W, hw⟩
theorem ghe_to {st : St} {σ' : List (Nat × Ob)} {env' : List (Nat × V)} {n : Nat} (hn : st.n = n) (hσ : st.σ = σ') (hE : SubE st.env env') : GhE st ⟨σ', env', n⟩ := ⟨[], gh_to hn hσ hE⟩
/-- A slot's value read in another way. -/
theorem gh_cleE {st : St} {i : Nat} {c c' : C} (hi : lk i st.env = some (.c c)) (hc : cle c c') : Gh [] st ⟨st.σ, (i, .c c') :: st.env, st.n⟩ := fun D G a w hr =>
  ⟨D, ⟨hr.obs, hr.dom, hr.nodup, hr.disj1, hr.disj2, fun j v hv => by
    simp only [lk] at hv
    cases hb : Nat.beq i j with
    | true =>
      rw [hb] at hv
      simp only [cond_true, Option.some.injEq] at hv
      have : i = j := Nat.eq_of_beq_eq_true hb
      subst this; subst hv
      obtain ⟨x, e1, e2⟩ := hr.env i _ hi
      simp only [VRp] at e2
      exact ⟨x, e1, by simp only [VRp]; exact hc _ _ _ _ e2⟩
    | false => rw [hb] at hv; exact hr.env j v hv, hr.own, hr.frame, hr.size, hr.os, hr.tape, hr.output, hr.ntmps, hr.defers⟩, fun _ _ _ hb => .inl hb⟩
/-- A list that is only read from now on. -/
theorem gh_frzE {α : Type} {st : St} {id : Nat} {f : α → C} (g : α → C) {l : List α} (ho : lko id st.σ = some ⟨l.map f, []⟩) (hg : ∀ x, (f x).frz = g x) : Gh [] st ⟨frzσ id (l.map g) st.σ, frzE id (l.map g) st.env, st.n⟩ := by
  have := gh_freeze ho rfl
  rw [show frzL (l.map f) = l.map g from fz_map hg l] at this
  exact this
variable {Q : Exit → St → Prop} {c : Code}
theorem aw_loop1 {A0 : Type} (S : A0 → St) (H : A0 → Prop) (μ : A0 → Nat) (h0 : ∃ a0, GhE st (S a0) ∧ H a0)
    (round : ∀ a0, H a0 → AW P c (thn (fun st' => ∃ b0, GhE st' (S b0) ∧ H b0 ∧ μ b0 < μ a0) Q) (S a0)) : AW P (.loop c) Q st :=
  aw_loop (X := A0) (fun x => S x) (fun x => H x) (fun x => μ x) (by obtain ⟨a0, ⟨Y, h1⟩, h2⟩ := h0; exact ⟨a0, Y, h1, h2⟩)
    fun x hx => aw_mono (round x hx) fun e s h => by
      cases e with
      | normal => simp only [thn] at h ⊢; obtain ⟨b0, ⟨Y, h1⟩, h2, h3⟩ := h; exact ⟨b0, Y, h1, h2, h3⟩
      | _ => exact h
theorem aw_loop2 {A0 A1 : Type} (S : A0 → A1 → St) (H : A0 → A1 → Prop) (μ : A0 → A1 → Nat) (h0 : ∃ a0 a1, GhE st (S a0 a1) ∧ H a0 a1)
    (round : ∀ a0 a1, H a0 a1 → AW P c (thn (fun st' => ∃ b0 b1, GhE st' (S b0 b1) ∧ H b0 b1 ∧ μ b0 b1 < μ a0 a1) Q) (S a0 a1)) : AW P (.loop c) Q st :=
  aw_loop (X := A0 × A1) (fun x => S x.1 x.2) (fun x => H x.1 x.2) (fun x => μ x.1 x.2) (by obtain ⟨a0, a1, ⟨Y, h1⟩, h2⟩ := h0; exact ⟨⟨a0, a1⟩, Y, h1, h2⟩)
    fun x hx => aw_mono (round x.1 x.2 hx) fun e s h => by
      cases e with
      | normal => simp only [thn] at h ⊢; obtain ⟨b0, b1, ⟨Y, h1⟩, h2, h3⟩ := h; exact ⟨⟨b0, b1⟩, Y, h1, h2, h3⟩
      | _ => exact h
theorem aw_loop3 {A0 A1 A2 : Type} (S : A0 → A1 → A2 → St) (H : A0 → A1 → A2 → Prop) (μ : A0 → A1 → A2 → Nat) (h0 : ∃ a0 a1 a2, GhE st (S a0 a1 a2) ∧ H a0 a1 a2)
    (round : ∀ a0 a1 a2, H a0 a1 a2 → AW P c (thn (fun st' => ∃ b0 b1 b2, GhE st' (S b0 b1 b2) ∧ H b0 b1 b2 ∧ μ b0 b1 b2 < μ a0 a1 a2) Q) (S a0 a1 a2)) : AW P (.loop c) Q st :=
  aw_loop (X := A0 × A1 × A2) (fun x => S x.1 x.2.1 x.2.2) (fun x => H x.1 x.2.1 x.2.2) (fun x => μ x.1 x.2.1 x.2.2) (by obtain ⟨a0, a1, a2, ⟨Y, h1⟩, h2⟩ := h0; exact ⟨⟨a0, a1, a2⟩, Y, h1, h2⟩)
    fun x hx => aw_mono (round x.1 x.2.1 x.2.2 hx) fun e s h => by
      cases e with
      | normal => simp only [thn] at h ⊢; obtain ⟨b0, b1, b2, ⟨Y, h1⟩, h2, h3⟩ := h; exact ⟨⟨b0, b1, b2⟩, Y, h1, h2, h3⟩
      | _ => exact h
theorem aw_loop4 {A0 A1 A2 A3 : Type} (S : A0 → A1 → A2 → A3 → St) (H : A0 → A1 → A2 → A3 → Prop) (μ : A0 → A1 → A2 → A3 → Nat) (h0 : ∃ a0 a1 a2 a3, GhE st (S a0 a1 a2 a3) ∧ H a0 a1 a2 a3)
    (round : ∀ a0 a1 a2 a3, H a0 a1 a2 a3 → AW P c (thn (fun st' => ∃ b0 b1 b2 b3, GhE st' (S b0 b1 b2 b3) ∧ H b0 b1 b2 b3 ∧ μ b0 b1 b2 b3 < μ a0 a1 a2 a3) Q) (S a0 a1 a2 a3)) : AW P (.loop c) Q st :=
  aw_loop (X := A0 × A1 × A2 × A3) (fun x => S x.1 x.2.1 x.2.2.1 x.2.2.2) (fun x => H x.1 x.2.1 x.2.2.1 x.2.2.2) (fun x => μ x.1 x.2.1 x.2.2.1 x.2.2.2) (by obtain ⟨a0, a1, a2, a3, ⟨Y, h1⟩, h2⟩ := h0; exact ⟨⟨a0, a1, a2, a3⟩, Y, h1, h2⟩)
    fun x hx => aw_mono (round x.1 x.2.1 x.2.2.1 x.2.2.2 hx) fun e s h => by
      cases e with
      | normal => simp only [thn] at h ⊢; obtain ⟨b0, b1, b2, b3, ⟨Y, h1⟩, h2, h3⟩ := h; exact ⟨⟨b0, b1, b2, b3⟩, Y, h1, h2, h3⟩
      | _ => exact h
theorem aw_loop5 {A0 A1 A2 A3 A4 : Type} (S : A0 → A1 → A2 → A3 → A4 → St) (H : A0 → A1 → A2 → A3 → A4 → Prop) (μ : A0 → A1 → A2 → A3 → A4 → Nat) (h0 : ∃ a0 a1 a2 a3 a4, GhE st (S a0 a1 a2 a3 a4) ∧ H a0 a1 a2 a3 a4)
    (round : ∀ a0 a1 a2 a3 a4, H a0 a1 a2 a3 a4 → AW P c (thn (fun st' => ∃ b0 b1 b2 b3 b4, GhE st' (S b0 b1 b2 b3 b4) ∧ H b0 b1 b2 b3 b4 ∧ μ b0 b1 b2 b3 b4 < μ a0 a1 a2 a3 a4) Q) (S a0 a1 a2 a3 a4)) : AW P (.loop c) Q st :=
  aw_loop (X := A0 × A1 × A2 × A3 × A4) (fun x => S x.1 x.2.1 x.2.2.1 x.2.2.2.1 x.2.2.2.2) (fun x => H x.1 x.2.1 x.2.2.1 x.2.2.2.1 x.2.2.2.2) (fun x => μ x.1 x.2.1 x.2.2.1 x.2.2.2.1 x.2.2.2.2) (by obtain ⟨a0, a1, a2, a3, a4, ⟨Y, h1⟩, h2⟩ := h0; exact ⟨⟨a0, a1, a2, a3, a4⟩, Y, h1, h2⟩)
    fun x hx => aw_mono (round x.1 x.2.1 x.2.2.1 x.2.2.2.1 x.2.2.2.2 hx) fun e s h => by
      cases e with
      | normal => simp only [thn] at h ⊢; obtain ⟨b0, b1, b2, b3, b4, ⟨Y, h1⟩, h2, h3⟩ := h; exact ⟨⟨b0, b1, b2, b3, b4⟩, Y, h1, h2, h3⟩
      | _ => exact h
theorem aw_loop6 {A0 A1 A2 A3 A4 A5 : Type} (S : A0 → A1 → A2 → A3 → A4 → A5 → St) (H : A0 → A1 → A2 → A3 → A4 → A5 → Prop) (μ : A0 → A1 → A2 → A3 → A4 → A5 → Nat) (h0 : ∃ a0 a1 a2 a3 a4 a5, GhE st (S a0 a1 a2 a3 a4 a5) ∧ H a0 a1 a2 a3 a4 a5)
    (round : ∀ a0 a1 a2 a3 a4 a5, H a0 a1 a2 a3 a4 a5 → AW P c (thn (fun st' => ∃ b0 b1 b2 b3 b4 b5, GhE st' (S b0 b1 b2 b3 b4 b5) ∧ H b0 b1 b2 b3 b4 b5 ∧ μ b0 b1 b2 b3 b4 b5 < μ a0 a1 a2 a3 a4 a5) Q) (S a0 a1 a2 a3 a4 a5)) : AW P (.loop c) Q st :=
  aw_loop (X := A0 × A1 × A2 × A3 × A4 × A5) (fun x => S x.1 x.2.1 x.2.2.1 x.2.2.2.1 x.2.2.2.2.1 x.2.2.2.2.2) (fun x => H x.1 x.2.1 x.2.2.1 x.2.2.2.1 x.2.2.2.2.1 x.2.2.2.2.2) (fun x => μ x.1 x.2.1 x.2.2.1 x.2.2.2.1 x.2.2.2.2.1 x.2.2.2.2.2) (by obtain ⟨a0, a1, a2, a3, a4, a5, ⟨Y, h1⟩, h2⟩ := h0; exact ⟨⟨a0, a1, a2, a3, a4, a5⟩, Y, h1, h2⟩)
    fun x hx => aw_mono (round x.1 x.2.1 x.2.2.1 x.2.2.2.1 x.2.2.2.2.1 x.2.2.2.2.2 hx) fun e s h => by
      cases e with
      | normal => simp only [thn] at h ⊢; obtain ⟨b0, b1, b2, b3, b4, b5, ⟨Y, h1⟩, h2, h3⟩ := h; exact ⟨⟨b0, b1, b2, b3, b4, b5⟩, Y, h1, h2, h3⟩
      | _ => exact h
theorem aw_loop7 {A0 A1 A2 A3 A4 A5 A6 : Type} (S : A0 → A1 → A2 → A3 → A4 → A5 → A6 → St) (H : A0 → A1 → A2 → A3 → A4 → A5 → A6 → Prop) (μ : A0 → A1 → A2 → A3 → A4 → A5 → A6 → Nat) (h0 : ∃ a0 a1 a2 a3 a4 a5 a6, GhE st (S a0 a1 a2 a3 a4 a5 a6) ∧ H a0 a1 a2 a3 a4 a5 a6)
    (round : ∀ a0 a1 a2 a3 a4 a5 a6, H a0 a1 a2 a3 a4 a5 a6 → AW P c (thn (fun st' => ∃ b0 b1 b2 b3 b4 b5 b6, GhE st' (S b0 b1 b2 b3 b4 b5 b6) ∧ H b0 b1 b2 b3 b4 b5 b6 ∧ μ b0 b1 b2 b3 b4 b5 b6 < μ a0 a1 a2 a3 a4 a5 a6) Q) (S a0 a1 a2 a3 a4 a5 a6)) : AW P (.loop c) Q st :=
  aw_loop (X := A0 × A1 × A2 × A3 × A4 × A5 × A6) (fun x => S x.1 x.2.1 x.2.2.1 x.2.2.2.1 x.2.2.2.2.1 x.2.2.2.2.2.1 x.2.2.2.2.2.2) (fun x => H x.1 x.2.1 x.2.2.1 x.2.2.2.1 x.2.2.2.2.1 x.2.2.2.2.2.1 x.2.2.2.2.2.2) (fun x => μ x.1 x.2.1 x.2.2.1 x.2.2.2.1 x.2.2.2.2.1 x.2.2.2.2.2.1 x.2.2.2.2.2.2) (by obtain ⟨a0, a1, a2, a3, a4, a5, a6, ⟨Y, h1⟩, h2⟩ := h0; exact ⟨⟨a0, a1, a2, a3, a4, a5, a6⟩, Y, h1, h2⟩)
    fun x hx => aw_mono (round x.1 x.2.1 x.2.2.1 x.2.2.2.1 x.2.2.2.2.1 x.2.2.2.2.2.1 x.2.2.2.2.2.2 hx) fun e s h => by
      cases e with
      | normal => simp only [thn] at h ⊢; obtain ⟨b0, b1, b2, b3, b4, b5, b6, ⟨Y, h1⟩, h2, h3⟩ := h; exact ⟨⟨b0, b1, b2, b3, b4, b5, b6⟩, Y, h1, h2, h3⟩
      | _ => exact h
theorem aw_loop8 {A0 A1 A2 A3 A4 A5 A6 A7 : Type} (S : A0 → A1 → A2 → A3 → A4 → A5 → A6 → A7 → St) (H : A0 → A1 → A2 → A3 → A4 → A5 → A6 → A7 → Prop) (μ : A0 → A1 → A2 → A3 → A4 → A5 → A6 → A7 → Nat) (h0 : ∃ a0 a1 a2 a3 a4 a5 a6 a7, GhE st (S a0 a1 a2 a3 a4 a5 a6 a7) ∧ H a0 a1 a2 a3 a4 a5 a6 a7)
    (round : ∀ a0 a1 a2 a3 a4 a5 a6 a7, H a0 a1 a2 a3 a4 a5 a6 a7 → AW P c (thn (fun st' => ∃ b0 b1 b2 b3 b4 b5 b6 b7, GhE st' (S b0 b1 b2 b3 b4 b5 b6 b7) ∧ H b0 b1 b2 b3 b4 b5 b6 b7 ∧ μ b0 b1 b2 b3 b4 b5 b6 b7 < μ a0 a1 a2 a3 a4 a5 a6 a7) Q) (S a0 a1 a2 a3 a4 a5 a6 a7)) : AW P (.loop c) Q st :=
  aw_loop (X := A0 × A1 × A2 × A3 × A4 × A5 × A6 × A7) (fun x => S x.1 x.2.1 x.2.2.1 x.2.2.2.1 x.2.2.2.2.1 x.2.2.2.2.2.1 x.2.2.2.2.2.2.1 x.2.2.2.2.2.2.2) (fun x => H x.1 x.2.1 x.2.2.1 x.2.2.2.1 x.2.2.2.2.1 x.2.2.2.2.2.1 x.2.2.2.2.2.2.1 x.2.2.2.2.2.2.2) (fun x => μ x.1 x.2.1 x.2.2.1 x.2.2.2.1 x.2.2.2.2.1 x.2.2.2.2.2.1 x.2.2.2.2.2.2.1 x.2.2.2.2.2.2.2) (by obtain ⟨a0, a1, a2, a3, a4, a5, a6, a7, ⟨Y, h1⟩, h2⟩ := h0; exact ⟨⟨a0, a1, a2, a3, a4, a5, a6, a7⟩, Y, h1, h2⟩)
    fun x hx => aw_mono (round x.1 x.2.1 x.2.2.1 x.2.2.2.1 x.2.2.2.2.1 x.2.2.2.2.2.1 x.2.2.2.2.2.2.1 x.2.2.2.2.2.2.2 hx) fun e s h => by
      cases e with
      | normal => simp only [thn] at h ⊢; obtain ⟨b0, b1, b2, b3, b4, b5, b6, b7, ⟨Y, h1⟩, h2, h3⟩ := h; exact ⟨⟨b0, b1, b2, b3, b4, b5, b6, b7⟩, Y, h1, h2, h3⟩
      | _ => exact h
theorem aw_loop9 {A0 A1 A2 A3 A4 A5 A6 A7 A8 : Type} (S : A0 → A1 → A2 → A3 → A4 → A5 → A6 → A7 → A8 → St) (H : A0 → A1 → A2 → A3 → A4 → A5 → A6 → A7 → A8 → Prop) (μ : A0 → A1 → A2 → A3 → A4 → A5 → A6 → A7 → A8 → Nat) (h0 : ∃ a0 a1 a2 a3 a4 a5 a6 a7 a8, GhE st (S a0 a1 a2 a3 a4 a5 a6 a7 a8) ∧ H a0 a1 a2 a3 a4 a5 a6 a7 a8)
    (round : ∀ a0 a1 a2 a3 a4 a5 a6 a7 a8, H a0 a1 a2 a3 a4 a5 a6 a7 a8 → AW P c (thn (fun st' => ∃ b0 b1 b2 b3 b4 b5 b6 b7 b8, GhE st' (S b0 b1 b2 b3 b4 b5 b6 b7 b8) ∧ H b0 b1 b2 b3 b4 b5 b6 b7 b8 ∧ μ b0 b1 b2 b3 b4 b5 b6 b7 b8 < μ a0 a1 a2 a3 a4 a5 a6 a7 a8) Q) (S a0 a1 a2 a3 a4 a5 a6 a7 a8)) : AW P (.loop c) Q st :=
  aw_loop (X := A0 × A1 × A2 × A3 × A4 × A5 × A6 × A7 × A8) (fun x => S x.1 x.2.1 x.2.2.1 x.2.2.2.1 x.2.2.2.2.1 x.2.2.2.2.2.1 x.2.2.2.2.2.2.1 x.2.2.2.2.2.2.2.1 x.2.2.2.2.2.2.2.2) (fun x => H x.1 x.2.1 x.2.2.1 x.2.2.2.1 x.2.2.2.2.1 x.2.2.2.2.2.1 x.2.2.2.2.2.2.1 x.2.2.2.2.2.2.2.1 x.2.2.2.2.2.2.2.2) (fun x => μ x.1 x.2.1 x.2.2.1 x.2.2.2.1 x.2.2.2.2.1 x.2.2.2.2.2.1 x.2.2.2.2.2.2.1 x.2.2.2.2.2.2.2.1 x.2.2.2.2.2.2.2.2) (by obtain ⟨a0, a1, a2, a3, a4, a5, a6, a7, a8, ⟨Y, h1⟩, h2⟩ := h0; exact ⟨⟨a0, a1, a2, a3, a4, a5, a6, a7, a8⟩, Y, h1, h2⟩)
    fun x hx => aw_mono (round x.1 x.2.1 x.2.2.1 x.2.2.2.1 x.2.2.2.2.1 x.2.2.2.2.2.1 x.2.2.2.2.2.2.1 x.2.2.2.2.2.2.2.1 x.2.2.2.2.2.2.2.2 hx) fun e s h => by
      cases e with
      | normal => simp only [thn] at h ⊢; obtain ⟨b0, b1, b2, b3, b4, b5, b6, b7, b8, ⟨Y, h1⟩, h2, h3⟩ := h; exact ⟨⟨b0, b1, b2, b3, b4, b5, b6, b7, b8⟩, Y, h1, h2, h3⟩
      | _ => exact h
theorem aw_loop10 {A0 A1 A2 A3 A4 A5 A6 A7 A8 A9 : Type} (S : A0 → A1 → A2 → A3 → A4 → A5 → A6 → A7 → A8 → A9 → St) (H : A0 → A1 → A2 → A3 → A4 → A5 → A6 → A7 → A8 → A9 → Prop) (μ : A0 → A1 → A2 → A3 → A4 → A5 → A6 → A7 → A8 → A9 → Nat) (h0 : ∃ a0 a1 a2 a3 a4 a5 a6 a7 a8 a9, GhE st (S a0 a1 a2 a3 a4 a5 a6 a7 a8 a9) ∧ H a0 a1 a2 a3 a4 a5 a6 a7 a8 a9)
    (round : ∀ a0 a1 a2 a3 a4 a5 a6 a7 a8 a9, H a0 a1 a2 a3 a4 a5 a6 a7 a8 a9 → AW P c (thn (fun st' => ∃ b0 b1 b2 b3 b4 b5 b6 b7 b8 b9, GhE st' (S b0 b1 b2 b3 b4 b5 b6 b7 b8 b9) ∧ H b0 b1 b2 b3 b4 b5 b6 b7 b8 b9 ∧ μ b0 b1 b2 b3 b4 b5 b6 b7 b8 b9 < μ a0 a1 a2 a3 a4 a5 a6 a7 a8 a9) Q) (S a0 a1 a2 a3 a4 a5 a6 a7 a8 a9)) : AW P (.loop c) Q st :=
  aw_loop (X := A0 × A1 × A2 × A3 × A4 × A5 × A6 × A7 × A8 × A9) (fun x => S x.1 x.2.1 x.2.2.1 x.2.2.2.1 x.2.2.2.2.1 x.2.2.2.2.2.1 x.2.2.2.2.2.2.1 x.2.2.2.2.2.2.2.1 x.2.2.2.2.2.2.2.2.1 x.2.2.2.2.2.2.2.2.2) (fun x => H x.1 x.2.1 x.2.2.1 x.2.2.2.1 x.2.2.2.2.1 x.2.2.2.2.2.1 x.2.2.2.2.2.2.1 x.2.2.2.2.2.2.2.1 x.2.2.2.2.2.2.2.2.1 x.2.2.2.2.2.2.2.2.2) (fun x => μ x.1 x.2.1 x.2.2.1 x.2.2.2.1 x.2.2.2.2.1 x.2.2.2.2.2.1 x.2.2.2.2.2.2.1 x.2.2.2.2.2.2.2.1 x.2.2.2.2.2.2.2.2.1 x.2.2.2.2.2.2.2.2.2) (by obtain ⟨a0, a1, a2, a3, a4, a5, a6, a7, a8, a9, ⟨Y, h1⟩, h2⟩ := h0; exact ⟨⟨a0, a1, a2, a3, a4, a5, a6, a7, a8, a9⟩, Y, h1, h2⟩)
    fun x hx => aw_mono (round x.1 x.2.1 x.2.2.1 x.2.2.2.1 x.2.2.2.2.1 x.2.2.2.2.2.1 x.2.2.2.2.2.2.1 x.2.2.2.2.2.2.2.1 x.2.2.2.2.2.2.2.2.1 x.2.2.2.2.2.2.2.2.2 hx) fun e s h => by
      cases e with
      | normal => simp only [thn] at h ⊢; obtain ⟨b0, b1, b2, b3, b4, b5, b6, b7, b8, b9, ⟨Y, h1⟩, h2, h3⟩ := h; exact ⟨⟨b0, b1, b2, b3, b4, b5, b6, b7, b8, b9⟩, Y, h1, h2, h3⟩
      | _ => exact h
theorem aw_loop11 {A0 A1 A2 A3 A4 A5 A6 A7 A8 A9 A10 : Type} (S : A0 → A1 → A2 → A3 → A4 → A5 → A6 → A7 → A8 → A9 → A10 → St) (H : A0 → A1 → A2 → A3 → A4 → A5 → A6 → A7 → A8 → A9 → A10 → Prop) (μ : A0 → A1 → A2 → A3 → A4 → A5 → A6 → A7 → A8 → A9 → A10 → Nat) (h0 : ∃ a0 a1 a2 a3 a4 a5 a6 a7 a8 a9 a10, GhE st (S a0 a1 a2 a3 a4 a5 a6 a7 a8 a9 a10) ∧ H a0 a1 a2 a3 a4 a5 a6 a7 a8 a9 a10)
    (round : ∀ a0 a1 a2 a3 a4 a5 a6 a7 a8 a9 a10, H a0 a1 a2 a3 a4 a5 a6 a7 a8 a9 a10 → AW P c (thn (fun st' => ∃ b0 b1 b2 b3 b4 b5 b6 b7 b8 b9 b10, GhE st' (S b0 b1 b2 b3 b4 b5 b6 b7 b8 b9 b10) ∧ H b0 b1 b2 b3 b4 b5 b6 b7 b8 b9 b10 ∧ μ b0 b1 b2 b3 b4 b5 b6 b7 b8 b9 b10 < μ a0 a1 a2 a3 a4 a5 a6 a7 a8 a9 a10) Q) (S a0 a1 a2 a3 a4 a5 a6 a7 a8 a9 a10)) : AW P (.loop c) Q st :=
  aw_loop (X := A0 × A1 × A2 × A3 × A4 × A5 × A6 × A7 × A8 × A9 × A10) (fun x => S x.1 x.2.1 x.2.2.1 x.2.2.2.1 x.2.2.2.2.1 x.2.2.2.2.2.1 x.2.2.2.2.2.2.1 x.2.2.2.2.2.2.2.1 x.2.2.2.2.2.2.2.2.1 x.2.2.2.2.2.2.2.2.2.1 x.2.2.2.2.2.2.2.2.2.2) (fun x => H x.1 x.2.1 x.2.2.1 x.2.2.2.1 x.2.2.2.2.1 x.2.2.2.2.2.1 x.2.2.2.2.2.2.1 x.2.2.2.2.2.2.2.1 x.2.2.2.2.2.2.2.2.1 x.2.2.2.2.2.2.2.2.2.1 x.2.2.2.2.2.2.2.2.2.2) (fun x => μ x.1 x.2.1 x.2.2.1 x.2.2.2.1 x.2.2.2.2.1 x.2.2.2.2.2.1 x.2.2.2.2.2.2.1 x.2.2.2.2.2.2.2.1 x.2.2.2.2.2.2.2.2.1 x.2.2.2.2.2.2.2.2.2.1 x.2.2.2.2.2.2.2.2.2.2) (by obtain ⟨a0, a1, a2, a3, a4, a5, a6, a7, a8, a9, a10, ⟨Y, h1⟩, h2⟩ := h0; exact ⟨⟨a0, a1, a2, a3, a4, a5, a6, a7, a8, a9, a10⟩, Y, h1, h2⟩)
    fun x hx => aw_mono (round x.1 x.2.1 x.2.2.1 x.2.2.2.1 x.2.2.2.2.1 x.2.2.2.2.2.1 x.2.2.2.2.2.2.1 x.2.2.2.2.2.2.2.1 x.2.2.2.2.2.2.2.2.1 x.2.2.2.2.2.2.2.2.2.1 x.2.2.2.2.2.2.2.2.2.2 hx) fun e s h => by
      cases e with
      | normal => simp only [thn] at h ⊢; obtain ⟨b0, b1, b2, b3, b4, b5, b6, b7, b8, b9, b10, ⟨Y, h1⟩, h2, h3⟩ := h; exact ⟨⟨b0, b1, b2, b3, b4, b5, b6, b7, b8, b9, b10⟩, Y, h1, h2, h3⟩
      | _ => exact h
theorem aw_loop12 {A0 A1 A2 A3 A4 A5 A6 A7 A8 A9 A10 A11 : Type} (S : A0 → A1 → A2 → A3 → A4 → A5 → A6 → A7 → A8 → A9 → A10 → A11 → St) (H : A0 → A1 → A2 → A3 → A4 → A5 → A6 → A7 → A8 → A9 → A10 → A11 → Prop) (μ : A0 → A1 → A2 → A3 → A4 → A5 → A6 → A7 → A8 → A9 → A10 → A11 → Nat) (h0 : ∃ a0 a1 a2 a3 a4 a5 a6 a7 a8 a9 a10 a11, GhE st (S a0 a1 a2 a3 a4 a5 a6 a7 a8 a9 a10 a11) ∧ H a0 a1 a2 a3 a4 a5 a6 a7 a8 a9 a10 a11)
    (round : ∀ a0 a1 a2 a3 a4 a5 a6 a7 a8 a9 a10 a11, H a0 a1 a2 a3 a4 a5 a6 a7 a8 a9 a10 a11 → AW P c (thn (fun st' => ∃ b0 b1 b2 b3 b4 b5 b6 b7 b8 b9 b10 b11, GhE st' (S b0 b1 b2 b3 b4 b5 b6 b7 b8 b9 b10 b11) ∧ H b0 b1 b2 b3 b4 b5 b6 b7 b8 b9 b10 b11 ∧ μ b0 b1 b2 b3 b4 b5 b6 b7 b8 b9 b10 b11 < μ a0 a1 a2 a3 a4 a5 a6 a7 a8 a9 a10 a11) Q) (S a0 a1 a2 a3 a4 a5 a6 a7 a8 a9 a10 a11)) : AW P (.loop c) Q st :=
  aw_loop (X := A0 × A1 × A2 × A3 × A4 × A5 × A6 × A7 × A8 × A9 × A10 × A11) (fun x => S x.1 x.2.1 x.2.2.1 x.2.2.2.1 x.2.2.2.2.1 x.2.2.2.2.2.1 x.2.2.2.2.2.2.1 x.2.2.2.2.2.2.2.1 x.2.2.2.2.2.2.2.2.1 x.2.2.2.2.2.2.2.2.2.1 x.2.2.2.2.2.2.2.2.2.2.1 x.2.2.2.2.2.2.2.2.2.2.2) (fun x => H x.1 x.2.1 x.2.2.1 x.2.2.2.1 x.2.2.2.2.1 x.2.2.2.2.2.1 x.2.2.2.2.2.2.1 x.2.2.2.2.2.2.2.1 x.2.2.2.2.2.2.2.2.1 x.2.2.2.2.2.2.2.2.2.1 x.2.2.2.2.2.2.2.2.2.2.1 x.2.2.2.2.2.2.2.2.2.2.2) (fun x => μ x.1 x.2.1 x.2.2.1 x.2.2.2.1 x.2.2.2.2.1 x.2.2.2.2.2.1 x.2.2.2.2.2.2.1 x.2.2.2.2.2.2.2.1 x.2.2.2.2.2.2.2.2.1 x.2.2.2.2.2.2.2.2.2.1 x.2.2.2.2.2.2.2.2.2.2.1 x.2.2.2.2.2.2.2.2.2.2.2) (by obtain ⟨a0, a1, a2, a3, a4, a5, a6, a7, a8, a9, a10, a11, ⟨Y, h1⟩, h2⟩ := h0; exact ⟨⟨a0, a1, a2, a3, a4, a5, a6, a7, a8, a9, a10, a11⟩, Y, h1, h2⟩)
    fun x hx => aw_mono (round x.1 x.2.1 x.2.2.1 x.2.2.2.1 x.2.2.2.2.1 x.2.2.2.2.2.1 x.2.2.2.2.2.2.1 x.2.2.2.2.2.2.2.1 x.2.2.2.2.2.2.2.2.1 x.2.2.2.2.2.2.2.2.2.1 x.2.2.2.2.2.2.2.2.2.2.1 x.2.2.2.2.2.2.2.2.2.2.2 hx) fun e s h => by
      cases e with
      | normal => simp only [thn] at h ⊢; obtain ⟨b0, b1, b2, b3, b4, b5, b6, b7, b8, b9, b10, b11, ⟨Y, h1⟩, h2, h3⟩ := h; exact ⟨⟨b0, b1, b2, b3, b4, b5, b6, b7, b8, b9, b10, b11⟩, Y, h1, h2, h3⟩
      | _ => exact h
theorem aw_loop13 {A0 A1 A2 A3 A4 A5 A6 A7 A8 A9 A10 A11 A12 : Type} (S : A0 → A1 → A2 → A3 → A4 → A5 → A6 → A7 → A8 → A9 → A10 → A11 → A12 → St) (H : A0 → A1 → A2 → A3 → A4 → A5 → A6 → A7 → A8 → A9 → A10 → A11 → A12 → Prop) (μ : A0 → A1 → A2 → A3 → A4 → A5 → A6 → A7 → A8 → A9 → A10 → A11 → A12 → Nat) (h0 : ∃ a0 a1 a2 a3 a4 a5 a6 a7 a8 a9 a10 a11 a12, GhE st (S a0 a1 a2 a3 a4 a5 a6 a7 a8 a9 a10 a11 a12) ∧ H a0 a1 a2 a3 a4 a5 a6 a7 a8 a9 a10 a11 a12)
    (round : ∀ a0 a1 a2 a3 a4 a5 a6 a7 a8 a9 a10 a11 a12, H a0 a1 a2 a3 a4 a5 a6 a7 a8 a9 a10 a11 a12 → AW P c (thn (fun st' => ∃ b0 b1 b2 b3 b4 b5 b6 b7 b8 b9 b10 b11 b12, GhE st' (S b0 b1 b2 b3 b4 b5 b6 b7 b8 b9 b10 b11 b12) ∧ H b0 b1 b2 b3 b4 b5 b6 b7 b8 b9 b10 b11 b12 ∧ μ b0 b1 b2 b3 b4 b5 b6 b7 b8 b9 b10 b11 b12 < μ a0 a1 a2 a3 a4 a5 a6 a7 a8 a9 a10 a11 a12) Q) (S a0 a1 a2 a3 a4 a5 a6 a7 a8 a9 a10 a11 a12)) : AW P (.loop c) Q st :=
  aw_loop (X := A0 × A1 × A2 × A3 × A4 × A5 × A6 × A7 × A8 × A9 × A10 × A11 × A12) (fun x => S x.1 x.2.1 x.2.2.1 x.2.2.2.1 x.2.2.2.2.1 x.2.2.2.2.2.1 x.2.2.2.2.2.2.1 x.2.2.2.2.2.2.2.1 x.2.2.2.2.2.2.2.2.1 x.2.2.2.2.2.2.2.2.2.1 x.2.2.2.2.2.2.2.2.2.2.1 x.2.2.2.2.2.2.2.2.2.2.2.1 x.2.2.2.2.2.2.2.2.2.2.2.2) (fun x => H x.1 x.2.1 x.2.2.1 x.2.2.2.1 x.2.2.2.2.1 x.2.2.2.2.2.1 x.2.2.2.2.2.2.1 x.2.2.2.2.2.2.2.1 x.2.2.2.2.2.2.2.2.1 x.2.2.2.2.2.2.2.2.2.1 x.2.2.2.2.2.2.2.2.2.2.1 x.2.2.2.2.2.2.2.2.2.2.2.1 x.2.2.2.2.2.2.2.2.2.2.2.2) (fun x => μ x.1 x.2.1 x.2.2.1 x.2.2.2.1 x.2.2.2.2.1 x.2.2.2.2.2.1 x.2.2.2.2.2.2.1 x.2.2.2.2.2.2.2.1 x.2.2.2.2.2.2.2.2.1 x.2.2.2.2.2.2.2.2.2.1 x.2.2.2.2.2.2.2.2.2.2.1 x.2.2.2.2.2.2.2.2.2.2.2.1 x.2.2.2.2.2.2.2.2.2.2.2.2) (by obtain ⟨a0, a1, a2, a3, a4, a5, a6, a7, a8, a9, a10, a11, a12, ⟨Y, h1⟩, h2⟩ := h0; exact ⟨⟨a0, a1, a2, a3, a4, a5, a6, a7, a8, a9, a10, a11, a12⟩, Y, h1, h2⟩)
    fun x hx => aw_mono (round x.1 x.2.1 x.2.2.1 x.2.2.2.1 x.2.2.2.2.1 x.2.2.2.2.2.1 x.2.2.2.2.2.2.1 x.2.2.2.2.2.2.2.1 x.2.2.2.2.2.2.2.2.1 x.2.2.2.2.2.2.2.2.2.1 x.2.2.2.2.2.2.2.2.2.2.1 x.2.2.2.2.2.2.2.2.2.2.2.1 x.2.2.2.2.2.2.2.2.2.2.2.2 hx) fun e s h => by
      cases e with
      | normal => simp only [thn] at h ⊢; obtain ⟨b0, b1, b2, b3, b4, b5, b6, b7, b8, b9, b10, b11, b12, ⟨Y, h1⟩, h2, h3⟩ := h; exact ⟨⟨b0, b1, b2, b3, b4, b5, b6, b7, b8, b9, b10, b11, b12⟩, Y, h1, h2, h3⟩
      | _ => exact h
theorem aw_loop14 {A0 A1 A2 A3 A4 A5 A6 A7 A8 A9 A10 A11 A12 A13 : Type} (S : A0 → A1 → A2 → A3 → A4 → A5 → A6 → A7 → A8 → A9 → A10 → A11 → A12 → A13 → St) (H : A0 → A1 → A2 → A3 → A4 → A5 → A6 → A7 → A8 → A9 → A10 → A11 → A12 → A13 → Prop) (μ : A0 → A1 → A2 → A3 → A4 → A5 → A6 → A7 → A8 → A9 → A10 → A11 → A12 → A13 → Nat) (h0 : ∃ a0 a1 a2 a3 a4 a5 a6 a7 a8 a9 a10 a11 a12 a13, GhE st (S a0 a1 a2 a3 a4 a5 a6 a7 a8 a9 a10 a11 a12 a13) ∧ H a0 a1 a2 a3 a4 a5 a6 a7 a8 a9 a10 a11 a12 a13)
    (round : ∀ a0 a1 a2 a3 a4 a5 a6 a7 a8 a9 a10 a11 a12 a13, H a0 a1 a2 a3 a4 a5 a6 a7 a8 a9 a10 a11 a12 a13 → AW P c (thn (fun st' => ∃ b0 b1 b2 b3 b4 b5 b6 b7 b8 b9 b10 b11 b12 b13, GhE st' (S b0 b1 b2 b3 b4 b5 b6 b7 b8 b9 b10 b11 b12 b13) ∧ H b0 b1 b2 b3 b4 b5 b6 b7 b8 b9 b10 b11 b12 b13 ∧ μ b0 b1 b2 b3 b4 b5 b6 b7 b8 b9 b10 b11 b12 b13 < μ a0 a1 a2 a3 a4 a5 a6 a7 a8 a9 a10 a11 a12 a13) Q) (S a0 a1 a2 a3 a4 a5 a6 a7 a8 a9 a10 a11 a12 a13)) : AW P (.loop c) Q st :=
  aw_loop (X := A0 × A1 × A2 × A3 × A4 × A5 × A6 × A7 × A8 × A9 × A10 × A11 × A12 × A13) (fun x => S x.1 x.2.1 x.2.2.1 x.2.2.2.1 x.2.2.2.2.1 x.2.2.2.2.2.1 x.2.2.2.2.2.2.1 x.2.2.2.2.2.2.2.1 x.2.2.2.2.2.2.2.2.1 x.2.2.2.2.2.2.2.2.2.1 x.2.2.2.2.2.2.2.2.2.2.1 x.2.2.2.2.2.2.2.2.2.2.2.1 x.2.2.2.2.2.2.2.2.2.2.2.2.1 x.2.2.2.2.2.2.2.2.2.2.2.2.2) (fun x => H x.1 x.2.1 x.2.2.1 x.2.2.2.1 x.2.2.2.2.1 x.2.2.2.2.2.1 x.2.2.2.2.2.2.1 x.2.2.2.2.2.2.2.1 x.2.2.2.2.2.2.2.2.1 x.2.2.2.2.2.2.2.2.2.1 x.2.2.2.2.2.2.2.2.2.2.1 x.2.2.2.2.2.2.2.2.2.2.2.1 x.2.2.2.2.2.2.2.2.2.2.2.2.1 x.2.2.2.2.2.2.2.2.2.2.2.2.2) (fun x => μ x.1 x.2.1 x.2.2.1 x.2.2.2.1 x.2.2.2.2.1 x.2.2.2.2.2.1 x.2.2.2.2.2.2.1 x.2.2.2.2.2.2.2.1 x.2.2.2.2.2.2.2.2.1 x.2.2.2.2.2.2.2.2.2.1 x.2.2.2.2.2.2.2.2.2.2.1 x.2.2.2.2.2.2.2.2.2.2.2.1 x.2.2.2.2.2.2.2.2.2.2.2.2.1 x.2.2.2.2.2.2.2.2.2.2.2.2.2) (by obtain ⟨a0, a1, a2, a3, a4, a5, a6, a7, a8, a9, a10, a11, a12, a13, ⟨Y, h1⟩, h2⟩ := h0; exact ⟨⟨a0, a1, a2, a3, a4, a5, a6, a7, a8, a9, a10, a11, a12, a13⟩, Y, h1, h2⟩)
    fun x hx => aw_mono (round x.1 x.2.1 x.2.2.1 x.2.2.2.1 x.2.2.2.2.1 x.2.2.2.2.2.1 x.2.2.2.2.2.2.1 x.2.2.2.2.2.2.2.1 x.2.2.2.2.2.2.2.2.1 x.2.2.2.2.2.2.2.2.2.1 x.2.2.2.2.2.2.2.2.2.2.1 x.2.2.2.2.2.2.2.2.2.2.2.1 x.2.2.2.2.2.2.2.2.2.2.2.2.1 x.2.2.2.2.2.2.2.2.2.2.2.2.2 hx) fun e s h => by
      cases e with
      | normal => simp only [thn] at h ⊢; obtain ⟨b0, b1, b2, b3, b4, b5, b6, b7, b8, b9, b10, b11, b12, b13, ⟨Y, h1⟩, h2, h3⟩ := h; exact ⟨⟨b0, b1, b2, b3, b4, b5, b6, b7, b8, b9, b10, b11, b12, b13⟩, Y, h1, h2, h3⟩
      | _ => exact h
end
end Go.Proofs.YtjolbldlhjfciaaDoor
