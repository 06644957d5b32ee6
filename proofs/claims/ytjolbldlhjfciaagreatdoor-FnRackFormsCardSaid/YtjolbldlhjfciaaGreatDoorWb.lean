/- The value layer: the call that keeps what it is handed; loops of several variables; no condition. -/
import Derived.Test.YtjolbldlhjfciaaGreatDoorWa
namespace Go.Proofs.YtjolbldlhjfciaaGreatDoor
section
variable {P:Program} {st:St} {ty:TypeId}
theorem ws_callR {fo:Operand} {xs:List Operand} {ats:Array TypeId} {fv:V} {f:Nat} {caps:List V} {vs:List V} {cs args:List C} {Q:C->Prop} {ids0 ids:List Nat} (hf:st.ev fo = some fv) (hfv:fv = .clo f caps\/(caps = []/\fv = .c (.clo f []))) (hx:evs st xs = some vs) (ha:hvL st.σ (vs ++ caps) = some (cs,ids0))
    (hz:frzL cs = args) (hc:AF P f args Q) (hid:freshL st.σ ids = true) {K:V->St->Prop} (h : ∀ r,Q r->r.slf = true/\K (opn r ids).1 ⟨(opn r ids).2.1 ++ st.σ,st.env,st.n⟩):WS P [] [] (.call ⟨.value fo,xs.toArray,ats⟩) ty st K:=by
  subst hz
  intro D G a w hr dst pos after guard
  have h1:=evs_sound hr xs vs hx
  have h2 : ∃ cv,a.eval fo = .func (.func f) #[] cv.toArray/\VRpL w (Imm G st.σ D.fp w) D.M caps cv:=by
    have h3:=hr.ev hf
    rcases hfv with rfl | ⟨rfl,rfl⟩
    · simp only [VRp] at h3; exact h3
    · simp only [VRp,Rp] at h3; obtain⟨cv,e1,e2⟩:=h3; simp only [RpL] at e2; obtain⟨rfl,_⟩:=e2; exact⟨[],e1,by simp [VRpL]⟩
  obtain⟨cv,h3,h4⟩:=h2
  have hrun:(execOp a.eval ⟨dst,.call ⟨.value fo,xs.toArray,ats⟩,ty,pos,after,guard⟩).run P w = .ok (.enter f (xs.map a.eval ++ cv).toArray) w:=by
    simp only [execOp,resolve,h3,Deferred.ofValue,Sem.run_bind,Sem.run_pure,Result.andThen_ok,invoke]
    rw [callFunc_run hc.ent]
    simp
  rw [hrun]
  have h5:VRpL w (Imm G st.σ D.fp w) D.M (vs ++ caps) (xs.map a.eval ++ cv):=by
    have : ∀ (vs:List V) (xs:List Value),VRpL w (Imm G st.σ D.fp w) D.M vs xs->VRpL w (Imm G st.σ D.fp w) D.M (vs ++ caps) (xs ++ cv):=by
      intro vs
      induction vs with
      | nil=>intro xs h; simp only [VRpL] at h; subst h; exact h4
      | cons v vs ih=>
        intro xs h
        simp only [VRpL,List.cons_append] at h ⊢
        obtain⟨x,xs',rfl,e2,e3⟩:=h
        exact⟨x,xs' ++ cv,rfl,e2,ih xs' e3⟩
    exact this _ _ h1
  obtain⟨h6,h7⟩:=hvL_spec hr _ _ cs ids0 ha h5
  have h8:RpL w (fun b=>Imm G st.σ D.fp w b\/b ∈ ids0.flatMap D.fp) (frzL cs) (xs.map a.eval ++ cv) []:=RpL.frz (fun b hb=>.inl hb) _ _ _ (fun b hb=>.inr hb) h6
  refine (hc.out w _ _ (fun b hb=>?_) h8).mono fun e w' ⟨r,x,fr,e1,e2,e3,e4,e5,e6,e7,e8,e9,e10⟩=>?_
  · rcases hb with hb | hb
    · exact hb.2.1
    · obtain⟨i,hi,hbi⟩:=List.mem_flatMap.1 hb
      obtain⟨p,hp,rfl⟩:=h7 i hi
      exact hr.lt hp hbi
  · obtain⟨k1,k2⟩:=h r e2
    have k3:=Rp.slf (I':=fun b=>Imm G st.σ D.fp w b\/(w.heap.size<=b/\b < w'.heap.size/\b ∉ fr)) r x fr k1 e3
    obtain⟨D',g1,g2,g3⟩:=hr.grow (ids:=ids) e6 e7 e8 e9 e10 hid k3 e4 e5
    exact⟨x,e1,D',_,_,k2,g1,g2,g3⟩
def GhE (a b:St):Prop:=∃ Y,Gh Y a b
theorem ghe_step {Y:List Nat} {a b c:St} (h:Gh Y a b) (k:GhE b c):GhE a c:=by
  obtain⟨Z,hk⟩:=k
  obtain⟨W,hw⟩:=gh_trans h hk
  exact⟨W,hw⟩
theorem ghe_to {st:St} {σ' : List (Nat × Ob)} {env' : List (Nat × V)} {n:Nat} (hn:st.n = n) (hσ:st.σ = σ') (hE:SubE st.env env'):GhE st ⟨σ',env',n⟩:=⟨[],gh_to hn hσ hE⟩
theorem gh_frzE {α:Type} {st:St} {id:Nat} {f:α->C} (g:α->C) {l:List α} (ho:lko id st.σ = some ⟨l.map f,[]⟩) (hg : ∀ x,(f x).frz = g x):Gh [] st ⟨frzσ id (l.map g) st.σ,frzE id (l.map g) st.env,st.n⟩:=by
  have:=gh_freeze ho rfl
  rw [show frzL (l.map f) = l.map g from fz_map hg l] at this
  exact this
variable {Q:Exit->St->Prop} {c:Code}
theorem aw_loop1 {A0:Type} (S:A0->St) (H:A0->Prop) (μ:A0->Nat) (h0 : ∃ a0,GhE st (S a0)/\H a0)
    (round : ∀ a0,H a0->AW P c (thn (fun st'=>∃ b0,GhE st' (S b0)/\H b0/\μ b0 < μ a0) Q) (S a0)):AW P (.loop c) Q st:=
  aw_loop (X:=A0) (fun x=>S x) (fun x=>H x) (fun x=>μ x) (by obtain⟨a0,⟨Y,h1⟩,h2⟩:=h0; exact⟨a0,Y,h1,h2⟩)
    fun x hx=>aw_mono (round x hx) fun e s h=>by
      cases e with
      | normal=>simp only [thn] at h ⊢; obtain⟨b0,⟨Y,h1⟩,h2,h3⟩:=h; exact⟨b0,Y,h1,h2,h3⟩
      | _=>exact h
theorem aw_loop2 {A0 A1:Type} (S:A0->A1->St) (H:A0->A1->Prop) (μ:A0->A1->Nat) (h0 : ∃ a0 a1,GhE st (S a0 a1)/\H a0 a1)
    (round : ∀ a0 a1,H a0 a1->AW P c (thn (fun st'=>∃ b0 b1,GhE st' (S b0 b1)/\H b0 b1/\μ b0 b1 < μ a0 a1) Q) (S a0 a1)):AW P (.loop c) Q st:=
  aw_loop (X:=A0 × A1) (fun x=>S x.1 x.2) (fun x=>H x.1 x.2) (fun x=>μ x.1 x.2) (by obtain⟨a0,a1,⟨Y,h1⟩,h2⟩:=h0; exact⟨⟨a0,a1⟩,Y,h1,h2⟩)
    fun x hx=>aw_mono (round x.1 x.2 hx) fun e s h=>by
      cases e with
      | normal=>simp only [thn] at h ⊢; obtain⟨b0,b1,⟨Y,h1⟩,h2,h3⟩:=h; exact⟨⟨b0,b1⟩,Y,h1,h2,h3⟩
      | _=>exact h
theorem aw_loop3 {A0 A1 A2:Type} (S:A0->A1->A2->St) (H:A0->A1->A2->Prop) (μ:A0->A1->A2->Nat) (h0 : ∃ a0 a1 a2,GhE st (S a0 a1 a2)/\H a0 a1 a2)
    (round : ∀ a0 a1 a2,H a0 a1 a2->AW P c (thn (fun st'=>∃ b0 b1 b2,GhE st' (S b0 b1 b2)/\H b0 b1 b2/\μ b0 b1 b2 < μ a0 a1 a2) Q) (S a0 a1 a2)):AW P (.loop c) Q st:=
  aw_loop (X:=A0 × A1 × A2) (fun x=>S x.1 x.2.1 x.2.2) (fun x=>H x.1 x.2.1 x.2.2) (fun x=>μ x.1 x.2.1 x.2.2) (by obtain⟨a0,a1,a2,⟨Y,h1⟩,h2⟩:=h0; exact⟨⟨a0,a1,a2⟩,Y,h1,h2⟩)
    fun x hx=>aw_mono (round x.1 x.2.1 x.2.2 hx) fun e s h=>by
      cases e with
      | normal=>simp only [thn] at h ⊢; obtain⟨b0,b1,b2,⟨Y,h1⟩,h2,h3⟩:=h; exact⟨⟨b0,b1,b2⟩,Y,h1,h2,h3⟩
      | _=>exact h
theorem aw_loop4 {A0 A1 A2 A3:Type} (S:A0->A1->A2->A3->St) (H:A0->A1->A2->A3->Prop) (μ:A0->A1->A2->A3->Nat) (h0 : ∃ a0 a1 a2 a3,GhE st (S a0 a1 a2 a3)/\H a0 a1 a2 a3)
    (round : ∀ a0 a1 a2 a3,H a0 a1 a2 a3->AW P c (thn (fun st'=>∃ b0 b1 b2 b3,GhE st' (S b0 b1 b2 b3)/\H b0 b1 b2 b3/\μ b0 b1 b2 b3 < μ a0 a1 a2 a3) Q) (S a0 a1 a2 a3)):AW P (.loop c) Q st:=
  aw_loop (X:=A0 × A1 × A2 × A3) (fun x=>S x.1 x.2.1 x.2.2.1 x.2.2.2) (fun x=>H x.1 x.2.1 x.2.2.1 x.2.2.2) (fun x=>μ x.1 x.2.1 x.2.2.1 x.2.2.2) (by obtain⟨a0,a1,a2,a3,⟨Y,h1⟩,h2⟩:=h0; exact⟨⟨a0,a1,a2,a3⟩,Y,h1,h2⟩)
    fun x hx=>aw_mono (round x.1 x.2.1 x.2.2.1 x.2.2.2 hx) fun e s h=>by
      cases e with
      | normal=>simp only [thn] at h ⊢; obtain⟨b0,b1,b2,b3,⟨Y,h1⟩,h2,h3⟩:=h; exact⟨⟨b0,b1,b2,b3⟩,Y,h1,h2,h3⟩
      | _=>exact h
theorem aw_loop5 {A0 A1 A2 A3 A4:Type} (S:A0->A1->A2->A3->A4->St) (H:A0->A1->A2->A3->A4->Prop) (μ:A0->A1->A2->A3->A4->Nat) (h0 : ∃ a0 a1 a2 a3 a4,GhE st (S a0 a1 a2 a3 a4)/\H a0 a1 a2 a3 a4)
    (round : ∀ a0 a1 a2 a3 a4,H a0 a1 a2 a3 a4->AW P c (thn (fun st'=>∃ b0 b1 b2 b3 b4,GhE st' (S b0 b1 b2 b3 b4)/\H b0 b1 b2 b3 b4/\μ b0 b1 b2 b3 b4 < μ a0 a1 a2 a3 a4) Q) (S a0 a1 a2 a3 a4)):AW P (.loop c) Q st:=
  aw_loop (X:=A0 × A1 × A2 × A3 × A4) (fun x=>S x.1 x.2.1 x.2.2.1 x.2.2.2.1 x.2.2.2.2) (fun x=>H x.1 x.2.1 x.2.2.1 x.2.2.2.1 x.2.2.2.2) (fun x=>μ x.1 x.2.1 x.2.2.1 x.2.2.2.1 x.2.2.2.2) (by obtain⟨a0,a1,a2,a3,a4,⟨Y,h1⟩,h2⟩:=h0; exact⟨⟨a0,a1,a2,a3,a4⟩,Y,h1,h2⟩)
    fun x hx=>aw_mono (round x.1 x.2.1 x.2.2.1 x.2.2.2.1 x.2.2.2.2 hx) fun e s h=>by
      cases e with
      | normal=>simp only [thn] at h ⊢; obtain⟨b0,b1,b2,b3,b4,⟨Y,h1⟩,h2,h3⟩:=h; exact⟨⟨b0,b1,b2,b3,b4⟩,Y,h1,h2,h3⟩
      | _=>exact h
theorem aw_loop6 {A0 A1 A2 A3 A4 A5:Type} (S:A0->A1->A2->A3->A4->A5->St) (H:A0->A1->A2->A3->A4->A5->Prop) (μ:A0->A1->A2->A3->A4->A5->Nat) (h0 : ∃ a0 a1 a2 a3 a4 a5,GhE st (S a0 a1 a2 a3 a4 a5)/\H a0 a1 a2 a3 a4 a5)
    (round : ∀ a0 a1 a2 a3 a4 a5,H a0 a1 a2 a3 a4 a5->AW P c (thn (fun st'=>∃ b0 b1 b2 b3 b4 b5,GhE st' (S b0 b1 b2 b3 b4 b5)/\H b0 b1 b2 b3 b4 b5/\μ b0 b1 b2 b3 b4 b5 < μ a0 a1 a2 a3 a4 a5) Q) (S a0 a1 a2 a3 a4 a5)):AW P (.loop c) Q st:=
  aw_loop (X:=A0 × A1 × A2 × A3 × A4 × A5) (fun x=>S x.1 x.2.1 x.2.2.1 x.2.2.2.1 x.2.2.2.2.1 x.2.2.2.2.2) (fun x=>H x.1 x.2.1 x.2.2.1 x.2.2.2.1 x.2.2.2.2.1 x.2.2.2.2.2) (fun x=>μ x.1 x.2.1 x.2.2.1 x.2.2.2.1 x.2.2.2.2.1 x.2.2.2.2.2) (by obtain⟨a0,a1,a2,a3,a4,a5,⟨Y,h1⟩,h2⟩:=h0; exact⟨⟨a0,a1,a2,a3,a4,a5⟩,Y,h1,h2⟩)
    fun x hx=>aw_mono (round x.1 x.2.1 x.2.2.1 x.2.2.2.1 x.2.2.2.2.1 x.2.2.2.2.2 hx) fun e s h=>by
      cases e with
      | normal=>simp only [thn] at h ⊢; obtain⟨b0,b1,b2,b3,b4,b5,⟨Y,h1⟩,h2,h3⟩:=h; exact⟨⟨b0,b1,b2,b3,b4,b5⟩,Y,h1,h2,h3⟩
      | _=>exact h
end
end Go.Proofs.YtjolbldlhjfciaaGreatDoor
