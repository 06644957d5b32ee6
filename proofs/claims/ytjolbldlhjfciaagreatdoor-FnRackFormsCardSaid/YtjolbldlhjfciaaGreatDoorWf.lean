/- The value layer: calls that take over what they are handed; no condition. -/
import Derived.Test.YtjolbldlhjfciaaGreatDoorWe
namespace Go.Proofs.YtjolbldlhjfciaaGreatDoor
def kσ (ids:List Nat):List (Nat × Ob)->List (Nat × Ob)
  | []=>[]
  | p :: r=>bif memN p.1 ids then kσ ids r else (p.1,⟨p.2.xs,killH ids p.2.holes⟩) :: kσ ids r
theorem mem_kσ {ids:List Nat} {p' : Nat × Ob} : ∀ {σ:List (Nat × Ob)},p' ∈ kσ ids σ->p'.1 ∉ ids/\∃ p ∈ σ,p.1 = p'.1/\p'.2.xs = p.2.xs/\p'.2.holes = killH ids p.2.holes
  | [],h=>by cases h
  | p :: r,h=>by
    have lift:(p'.1 ∉ ids/\∃ q ∈ r,q.1 = p'.1/\p'.2.xs = q.2.xs/\p'.2.holes = killH ids q.2.holes)->p'.1 ∉ ids/\∃ q ∈ p :: r,q.1 = p'.1/\p'.2.xs = q.2.xs/\p'.2.holes = killH ids q.2.holes:=by
      rintro⟨h1,q,hq,h2⟩; exact⟨h1,q,List.mem_cons_of_mem _ hq,h2⟩
    simp only [kσ] at h
    cases hd:memN p.1 ids with
    | true=>rw [hd] at h; exact lift (mem_kσ h)
    | false=>
      rw [hd] at h
      simp only [cond_false] at h
      rcases List.mem_cons.1 h with rfl | h
      · exact⟨fun hm=>(by rw [memN_spec.2 hm] at hd; cases hd),p,List.mem_cons_self,rfl,rfl,rfl⟩
      · exact lift (mem_kσ h)
theorem keys_kσ {ids:List Nat} : ∀ {σ:List (Nat × Ob)},((kσ ids σ).map (·.1)).Sublist (σ.map (·.1))
  | []=>List.Sublist.slnil
  | p :: r=>by
    simp only [kσ]
    cases memN p.1 ids with
    | true=>exact (keys_kσ (σ:=r)).cons _
    | false=>exact (keys_kσ (σ:=r)).cons_cons _
theorem key_in_kσ {ids:List Nat} {k:Nat} (hk:k ∉ ids) : ∀ {σ:List (Nat × Ob)},(∃ p ∈ σ,p.1 = k)->∃ p ∈ kσ ids σ,p.1 = k
  | [],⟨p,hp,_⟩=>by cases hp
  | p :: r,⟨q,hq,he⟩=>by
    simp only [kσ]
    cases hd:memN p.1 ids with
    | true=>
      rcases List.mem_cons.1 hq with rfl | hq
      · rw [he] at hd; exact absurd (memN_spec.1 hd) hk
      · exact key_in_kσ hk ⟨q,hq,he⟩
    | false=>
      rcases List.mem_cons.1 hq with rfl | hq
      · exact⟨_,List.mem_cons_self,he⟩
      · obtain⟨p',h1,h2⟩:=key_in_kσ hk (σ:=r) ⟨q,hq,he⟩
        exact⟨p',List.mem_cons_of_mem _ h1,h2⟩
section
variable {P:Program} {st:St} {ty:TypeId}
theorem Rep.growC {D:Data} {G:Glob} {a:Act} {w w' : World} (h:Rep D G st a w) {ids0 ids:List Nat} {x:Value} {r:C} {fr:List Nat} (hin0 : ∀ i ∈ ids0,∃ q ∈ st.σ,q.1 = i)
    (hid:freshL st.σ ids = true) (hsz:w.heap.size<=w'.heap.size) (hkeep : ∀ b,b < w.heap.size->(∀ id ∈ ids0,b ∉ D.fp id)->w'.heap[b]? = w.heap[b]?) (hos:w'.os = w.os) (hta:w'.tape = w.tape) (hou:w'.output = w.output)
    (hr:Rp w' (fun b=>Imm G st.σ D.fp w b\/((b ∈ ids0.flatMap D.fp\/w.heap.size<=b)/\b < w'.heap.size/\b ∉ fr)) r x fr) (hfr:fr.Nodup) (hsub : ∀ b ∈ fr,b ∈ ids0.flatMap D.fp\/w.heap.size<=b) :
    ∃ D',Rep D' G ⟨(opn r ids).2.1 ++ kσ ids0 st.σ,killE ids0 st.env,st.n⟩ a w'/\VRp w' (Imm G ((opn r ids).2.1 ++ kσ ids0 st.σ) D'.fp w') D'.M (opn r ids).1 x/\
      Upd ids0 ids0 D w D' ⟨(opn r ids).2.1 ++ kσ ids0 st.σ,killE ids0 st.env,st.n⟩ w':=by
  obtain⟨L1,e1,e2,e3,e4⟩:=opn_spec r ids x fr hr hfr
  obtain⟨hnd,hfresh⟩:=freshL_spec hid
  have hkeys1:((opn r ids).2.1.map (·.1)).Nodup:=by rw [e4] at hnd; exact (List.nodup_append.1 hnd).1
  have hkf1 : ∀ p ∈ (opn r ids).2.1,∀ q ∈ st.σ,q.1≠p.1:=fun p hp q hq=>hfresh p.1 (by rw [e4]; exact List.mem_append_left _ (List.mem_map.2 ⟨p,hp,rfl⟩)) q hq
  generalize hopn:(opn r ids).2.1 = os1 at *
  obtain⟨Mn,fpn,f1,f2,f3⟩:=e1.find hkeys1
  have hLn:(L1.flatMap (·.2)).Nodup:=e2.nodup hfr
  have hsubF : ∀ p ∈ os1,∀ b ∈ fpn p.1,b ∈ fr:=fun p hp b hb=>by obtain⟨_,_,_,_,g⟩:=f2 p hp; exact e2.subset (g.subset hb)
  let D' : Data:=⟨fun k=>if k ∈ os1.map (·.1) then Mn k else if k ∈ ids0 then none else D.M k,fun k=>if k ∈ os1.map (·.1) then fpn k else if k ∈ ids0 then [] else D.fp k⟩
  have hin : ∀ p ∈ os1,p.1 ∈ os1.map (·.1):=fun p hp=>List.mem_map.2 ⟨p,hp,rfl⟩
  have hMn : ∀ k,k ∈ os1.map (·.1)->D'.M k = Mn k:=fun k hk=>if_pos hk
  have hFn : ∀ p ∈ os1,D'.fp p.1 = fpn p.1:=fun p hp=>if_pos (hin p hp)
  have hout : ∀ q ∈ st.σ,q.1 ∉ os1.map (·.1):=fun q hq hm=>by
    obtain⟨p,hp,e⟩:=List.mem_map.1 hm; exact hkf1 p hp q hq e.symm
  have hFo : ∀ q ∈ st.σ,q.1 ∉ ids0->D'.fp q.1 = D.fp q.1:=fun q hq hq0=>(if_neg (hout q hq)).trans (if_neg hq0)
  have hM : ∀ i l,i ∉ ids0->D.M i = some l->D'.M i = some l:=fun i l hi0 hi=>by
    obtain⟨q,hq,rfl⟩:=h.key hi
    show (if q.1 ∈ os1.map (·.1) then Mn q.1 else if q.1 ∈ ids0 then none else D.M q.1) = _
    rw [if_neg (hout q hq),if_neg hi0]; exact hi
  have hmem : ∀ p ∈ os1 ++ kσ ids0 st.σ,p ∈ os1\/(p.1 ∉ ids0/\∃ q ∈ st.σ,q.1 = p.1/\p.2.xs = q.2.xs/\p.2.holes = killH ids0 q.2.holes):=fun p hp=>by
    rcases List.mem_append.1 hp with hp | hp
    · exact .inl hp
    · exact .inr (mem_kσ hp)
  have hI : ∀ b,Imm G st.σ D.fp w b->Imm G (os1 ++ kσ ids0 st.σ) D'.fp w' b:=fun b hb=>⟨hb.1,by have:=hb.2.1; omega,fun p hp hbp=>by
    rcases hmem p hp with hp | ⟨hp0,q,hq,he,_⟩
    · rw [hFn p hp] at hbp
      rcases hsub b (hsubF p hp b hbp) with h1 | h1
      · obtain⟨i,hi,hbi⟩:=List.mem_flatMap.1 h1
        obtain⟨q,hq,rfl⟩:=hin0 i hi
        exact hb.2.2 q hq hbi
      · have:=hb.2.1; omega
    · rw [<- he,hFo q hq (by rw [he]; exact hp0)] at hbp; exact hb.2.2 q hq hbp⟩
  have hIk : ∀ b,Imm G st.σ D.fp w b->w'.heap[b]? = w.heap[b]?:=fun b hb=>hkeep b hb.2.1 fun id hid hbid=>by
    obtain⟨q,hq,rfl⟩:=hin0 id hid
    exact hb.2.2 q hq hbid
  have hI2 : ∀ b,(Imm G st.σ D.fp w b\/((b ∈ ids0.flatMap D.fp\/w.heap.size<=b)/\b < w'.heap.size/\b ∉ fr))->Imm G (os1 ++ kσ ids0 st.σ) D'.fp w' b:=fun b hb=>by
    rcases hb with hb | ⟨h1,h2,h3⟩
    · exact hI b hb
    · refine⟨?_,h2,fun p hp hbp=>?_⟩
      · rcases h1 with h1 | h1
        · obtain⟨i,hi,hbi⟩:=List.mem_flatMap.1 h1
          obtain⟨q,hq,rfl⟩:=hin0 i hi
          exact .inr (h.own q hq b hbi)
        · exact .inr (.inr (by have:=h.size; omega))
      · rcases hmem p hp with hp | ⟨hp0,q,hq,he,_⟩
        · rw [hFn p hp] at hbp
          exact h3 (hsubF p hp b hbp)
        · have hq0:q.1 ∉ ids0:=by rw [he]; exact hp0
          rw [<- he,hFo q hq hq0] at hbp
          rcases h1 with h1 | h1
          · obtain⟨i,hi,hbi⟩:=List.mem_flatMap.1 h1
            obtain⟨q',hq',rfl⟩:=hin0 i hi
            exact h.disj2 q' hq' q hq (fun e=>hq0 (e ▸ hi)) b hbi hbp
          · have:=h.lt hq hbp; omega
  have hsubO : ∀ p ∈ os1,∀ b ∈ D'.fp p.1,b ∈ ids0.flatMap D.fp\/w.heap.size<=b:=fun p hp b hb=>by rw [hFn p hp] at hb; exact hsub b (hsubF p hp b hb)
  have hob : ∀ p ∈ os1,∃ l,D'.M p.1 = some l/\ObRp w' (Imm G (os1 ++ kσ ids0 st.σ) D'.fp w') D'.M l p.2 (D'.fp p.1):=fun p hp=>by
    obtain⟨l,g1,g2,g3,_⟩:=f2 p hp
    refine⟨l,by rw [hMn _ (hin p hp)]; exact g1,?_⟩
    rw [hFn p hp]
    rcases g3 with g3 | ⟨k1,k2,vs,f,k3,k4,k5,k6⟩
    · exact .inl g3
    · exact .inr ⟨k1,k2,vs,f,k3,RpL.frame hI2 (fun _ _=>rfl) _ _ _ (fun _ _=>rfl) k4,k5,by rw [g2]; intro q hq; cases hq⟩
  have hdis : ∀ p ∈ os1,∀ q ∈ st.σ,q.1 ∉ ids0->∀ b ∈ D'.fp p.1,b ∉ D.fp q.1:=fun p hp q hq hq0 b hb hb2=>by
    rcases hsubO p hp b hb with h1 | h1
    · obtain⟨i,hi,hbi⟩:=List.mem_flatMap.1 h1
      obtain⟨q',hq',rfl⟩:=hin0 i hi
      exact h.disj2 q' hq' q hq (fun e=>hq0 (e ▸ hi)) b hbi hb2
    · have:=h.lt hq hb2; omega
  refine⟨D',⟨?_,?_,?_,?_,?_,?_,?_,?_,?_,hos.trans h.os,hta.trans h.tape,hou.trans h.output,h.ntmps,h.defers⟩,VRp.frame hI2 (fun _ _=>rfl) (fun _ _ h=>h) _ _ (e3 D'.M fun q hq=>by
      have hq':=f1 q hq
      have : ∀ (os:List (Nat × Ob)) (L:List (Loc × List Nat)),∀ q ∈ locs os L,q.1 ∈ os.map (·.1):=by
          intro os
          induction os with
          | nil=>intro L q hq; simp [locs] at hq
          | cons p r ih=>
            intro L q hq
            cases L with
            | nil=>simp [locs] at hq
            | cons s L=>
              simp only [locs] at hq
              rcases List.mem_cons.1 hq with rfl | hq
              · simp
              · rw [List.map_cons]; exact List.mem_cons_of_mem _ (ih L q hq)
      rw [hMn _ (this os1 L1 q hq)]; exact hq'),⟨hsz,fun b hb hn=>hkeep b hb hn,?_⟩⟩
  · intro p hp
    rcases hmem p hp with hp | ⟨hp0,q,hq,he,hx,hh⟩
    · exact hob p hp
    · have hq0:q.1 ∉ ids0:=by rw [he]; exact hp0
      obtain⟨l,g1,g2⟩:=h.obs q hq
      refine⟨l,by rw [<- he]; exact hM _ _ hq0 g1,?_⟩
      rw [<- he,hFo q hq hq0]
      have hkb : ∀ b ∈ D.fp q.1,w'.heap[b]? = w.heap[b]?:=fun b hb=>hkeep b (h.lt hq hb) fun id hid hbid=>by
        obtain⟨q',hq',rfl⟩:=hin0 id hid
        exact h.disj2 q hq q' hq' (fun e=>hq0 (e.symm ▸ hid)) b hb hbid
      rcases g2 with ⟨k1,k2,k3,k4⟩ | ⟨k1,k2,vs,f,k3,k4,k5,k6⟩
      · exact .inl ⟨k1,by rw [hx]; exact k2,by rw [hh,k3]; rfl,k4⟩
      · refine .inr ⟨k1,by rw [hx]; exact k2,vs,f,k3,?_,k5.frame (hkb _ (by rw [k3]; exact List.mem_cons_self)),?_⟩
        · rw [hx]; exact RpL.frame hI hIk _ _ _ (fun b hb=>hkb b (by rw [k3]; exact List.mem_cons_of_mem _ hb)) k4
        · intro y hy
          rw [hh] at hy
          obtain⟨m1,m2⟩:=mem_killH hy
          obtain⟨v,m3,m4⟩:=k6 y m1
          exact⟨v,m3,VRp.frameM hI hIk _ _ (fun i hi m hm=>hM i m (m2 i hi) hm) m4⟩
  · intro i hi
    have h2:i ∉ os1.map (·.1):=fun hm=>by
      obtain⟨p,hp,e⟩:=List.mem_map.1 hm; exact hi p (List.mem_append_left _ hp) e
    by_cases h0:i ∈ ids0
    · exact⟨(if_neg h2).trans (if_pos h0),(if_neg h2).trans (if_pos h0)⟩
    · have h1 : ∀ p ∈ st.σ,p.1≠i:=fun p hp e=>by
        obtain⟨q,hq,e2⟩:=key_in_kσ h0 ⟨p,hp,e⟩
        exact hi q (List.mem_append_right _ hq) e2
      have h3:=h.dom i h1
      exact⟨((if_neg h2).trans (if_neg h0)).trans h3.1,((if_neg h2).trans (if_neg h0)).trans h3.2⟩
  · simp only [List.map_append]
    exact List.nodup_append.2 ⟨hkeys1,keys_kσ.nodup h.nodup,fun i hi j hj e=>by
      obtain⟨p,hp,rfl⟩:=List.mem_map.1 hi
      obtain⟨q,hq,e2⟩:=List.mem_map.1 hj
      obtain⟨_,q',hq',he,_⟩:=mem_kσ hq
      exact hkf1 p hp q' hq' (he.trans (e2.trans e.symm))⟩
  · intro p hp
    rcases hmem p hp with hp | ⟨hp0,q,hq,he,_⟩
    · rw [hFn p hp]; obtain⟨_,_,_,_,g⟩:=f2 p hp; exact (g.trans e2).nodup hfr
    · rw [<- he,hFo q hq (by rw [he]; exact hp0)]; exact h.disj1 q hq
  · intro p hp q hq hne b hb hb2
    rcases hmem p hp with hp | ⟨hp0,p2,hp2,he,_⟩
    · rcases hmem q hq with hq | ⟨hq0,q2,hq2,he2,_⟩
      · rw [hFn p hp] at hb
        rw [hFn q hq] at hb2
        exact f3 hLn p hp q hq hne b hb hb2
      · rw [<- he2,hFo q2 hq2 (by rw [he2]; exact hq0)] at hb2
        exact hdis p hp q2 hq2 (by rw [he2]; exact hq0) b hb hb2
    · rw [<- he,hFo p2 hp2 (by rw [he]; exact hp0)] at hb
      rcases hmem q hq with hq | ⟨hq0,q2,hq2,he2,_⟩
      · exact hdis q hq p2 hp2 (by rw [he]; exact hp0) b hb2 hb
      · rw [<- he2,hFo q2 hq2 (by rw [he2]; exact hq0)] at hb2
        exact h.disj2 p2 hp2 q2 hq2 (by rw [he,he2]; exact hne) b hb hb2
  · intro i v hv
    rcases lk_killE hv with rfl | ⟨hv1,hv2⟩
    · obtain⟨u,hu⟩ : ∃ u,lk i st.env = some u:=by
        have : ∀ (env:List (Nat × V)) (v:V),lk i (killE ids0 env) = some v->∃ u,lk i env = some u:=by
          intro env
          induction env with
          | nil=>intro v h; cases h
          | cons q r ih=>
            intro v h
            simp only [killE,lk] at h ⊢
            cases hb:Nat.beq q.1 i with
            | true=>exact⟨q.2,by simp⟩
            | false=>rw [hb] at h; simpa using ih v h
        exact this _ _ hv
      obtain⟨y,g1,_⟩:=h.env i u hu
      exact⟨y,g1,by simp [VRp,Rp]⟩
    · obtain⟨y,g1,g2⟩:=h.env i v hv1
      exact⟨y,g1,VRp.frameM hI hIk _ _ (fun k hk m hm=>hM k m (hv2 k hk) hm) g2⟩
  · intro p hp b hb
    rcases hmem p hp with hp | ⟨hp0,q,hq,he,_⟩
    · rcases hsubO p hp b hb with h1 | h1
      · obtain⟨i,hi,hbi⟩:=List.mem_flatMap.1 h1
        obtain⟨q,hq,rfl⟩:=hin0 i hi
        exact h.own q hq b hbi
      · exact .inr (by have:=h.size; omega)
    · rw [<- he,hFo q hq (by rw [he]; exact hp0)] at hb; exact h.own q hq b hb
  · intro b hb hF
    rw [hkeep b (by have:=h.size; omega) fun id hid hbid=>by
      obtain⟨q,hq,rfl⟩:=hin0 id hid
      rcases h.own q hq b hbid with h1 | h1
      · exact hF h1
      · omega]
    exact h.frame b hb hF
  · have:=h.size; omega
  · intro p hp b hb hlt
    rcases hmem p hp with hp | ⟨hp0,q,hq,he,_⟩
    · rcases hsubO p hp b hb with h1 | h1
      · obtain⟨i,hi,hbi⟩:=List.mem_flatMap.1 h1
        exact .inr ⟨i,hi,hbi⟩
      · omega
    · rw [<- he,hFo q hq (by rw [he]; exact hp0)] at hb; rw [<- he]; exact .inl hb
theorem ws_callC {fo:Operand} {xs:List Operand} {ats:Array TypeId} {f:Nat} {vs:List V} {cs:List C} {Q:C->List C->Prop} {ids0 ids:List Nat} (hf:st.ev fo = some (.c (.clo f []))) (hx:evs st xs = some vs) (ha:hvL st.σ vs = some (cs,ids0)) (hnd:nodupB ids0 = true)
    (hc:AM P f cs Q) (hid:freshL st.σ ids = true) {K:V->St->Prop} (h : ∀ r outs,Q r outs->K (opn r ids).1 ⟨(opn r ids).2.1 ++ kσ ids0 st.σ,killE ids0 st.env,st.n⟩):WS P ids0 ids0 (.call ⟨.value fo,xs.toArray,ats⟩) ty st K:=by
  intro D G a w hr dst pos after guard
  have h1:=evs_sound hr xs vs hx
  have h3:a.eval fo = .func (.func f) #[] #[]:=by
    have h3:=hr.ev hf
    simp only [VRp,Rp] at h3; obtain⟨cv,e1,e2⟩:=h3; simp only [RpL] at e2; obtain⟨rfl,_⟩:=e2; exact e1
  have hrun:(execOp a.eval ⟨dst,.call ⟨.value fo,xs.toArray,ats⟩,ty,pos,after,guard⟩).run P w = .ok (.enter f (xs.map a.eval).toArray) w:=by
    simp only [execOp,resolve,h3,Deferred.ofValue,Sem.run_bind,Sem.run_pure,Result.andThen_ok,invoke]
    rw [callFunc_run hc.ent]
    simp
  rw [hrun]
  obtain⟨h6,h7⟩:=hvL_spec hr _ _ cs ids0 ha h1
  have hnd0:=nodupB_spec hnd
  have hfn:(ids0.flatMap D.fp).Nodup:=flat_nodup hnd0 (fun i hi=>by obtain⟨p,hp,rfl⟩:=h7 i hi; exact hr.disj1 p hp) fun i hi j hj hij b hb=>by
    obtain⟨p,hp,rfl⟩:=h7 i hi
    obtain⟨q,hq,rfl⟩:=h7 j hj
    exact hr.disj2 p hp q hq hij b hb
  refine (hc.out w (Imm G st.σ D.fp w) _ (ids0.flatMap D.fp) (fun b hb=>hb.2.1) (fun b hb hI=>?_) hfn h6).mono fun e w' ⟨r,outs,x,fz,e1,e2,e3,e4,e5,e6,e7,e8,e9,e10⟩=>?_
  · obtain⟨i,hi,hbi⟩:=List.mem_flatMap.1 hb
    obtain⟨p,hp,rfl⟩:=h7 i hi
    exact hI.2.2 p hp hbi
  · simp only [RpL] at e3
    obtain⟨x',vs',fr,fo',hxe,rfl,hrr,_⟩:=e3
    obtain⟨rfl,rfl⟩:=List.cons.inj hxe
    have hrr' : Rp w' (fun b=>Imm G st.σ D.fp w b\/((b ∈ ids0.flatMap D.fp\/w.heap.size<=b)/\b < w'.heap.size/\b ∉ fr)) r x fr:=
      Rp.frame (fun b hb=>by
        rcases hb with hb | ⟨g1,g2,g3⟩
        · exact .inl hb
        · exact .inr ⟨g1,g2,fun hm=>g3 (List.mem_append_left _ hm)⟩) (fun _ _=>rfl) _ _ _ (fun _ _=>rfl) hrr
    obtain⟨D',g1,g2,g3⟩:=hr.growC (ids:=ids) h7 hid e6 (fun b hb hn=>e7 b hb fun hm=>by obtain⟨i,hi,hbi⟩:=List.mem_flatMap.1 hm; exact hn i hi hbi) e8 e9 e10 hrr' (List.nodup_append.1 e4).1 (fun b hb=>e5 b (List.mem_append_left _ hb))
    exact⟨x,e1,D',_,_,h r outs e2,g1,g2,g3⟩
end
end Go.Proofs.YtjolbldlhjfciaaGreatDoor
