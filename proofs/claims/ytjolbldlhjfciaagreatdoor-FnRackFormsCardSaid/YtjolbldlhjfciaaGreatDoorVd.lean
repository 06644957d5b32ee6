/- The value layer: an object changes; stores, appends; steps that only change what is said; no condition. -/
import Derived.Test.YtjolbldlhjfciaaGreatDoorVc
namespace Go.Proofs.YtjolbldlhjfciaaGreatDoor
mutual
def V.refs:V->List Nat
  | .c _=>[]
  | .ref i=>[i]
  | .cell i _=>[i]
  | .agg vs=>refsL vs
  | .tup vs=>refsL vs
  | .clo _ vs=>refsL vs
def refsL:List V->List Nat
  | []=>[]
  | v :: vs=>v.refs ++ refsL vs
end
mutual
theorem VRp.frameM {w w' : World} {I I' : Nat->Prop} {M M' : Nat->Option Loc} (hI : ∀ b,I b->I' b) (hk : ∀ b,I b->w'.heap[b]? = w.heap[b]?) :
    ∀ (v:V) (x:Value),(∀ i ∈ v.refs,∀ l,M i = some l->M' i = some l)->VRp w I M v x->VRp w' I' M' v x
  | .c c,x,_,h=>by simp only [VRp] at h ⊢; exact Rp.frame hI hk c x [] (by simp) h
  | .ref id,x,hM,h=>by simp only [VRp] at h ⊢; obtain⟨l,h1,h2⟩:=h; exact⟨l,hM id (by simp [V.refs]) l h1,h2⟩
  | .cell id off,x,hM,h=>by simp only [VRp] at h ⊢; obtain⟨l,h1,h2⟩:=h; exact⟨l,hM id (by simp [V.refs]) l h1,h2⟩
  | .agg vs,x,hM,h=>by simp only [VRp,V.refs] at h hM ⊢; obtain⟨xs,h1,h2⟩:=h; exact⟨xs,h1,VRpL.frameM hI hk vs xs hM h2⟩
  | .tup vs,x,hM,h=>by simp only [VRp,V.refs] at h hM ⊢; obtain⟨xs,h1,h2⟩:=h; exact⟨xs,h1,VRpL.frameM hI hk vs xs hM h2⟩
  | .clo f vs,x,hM,h=>by simp only [VRp,V.refs] at h hM ⊢; obtain⟨xs,h1,h2⟩:=h; exact⟨xs,h1,VRpL.frameM hI hk vs xs hM h2⟩
theorem VRpL.frameM {w w' : World} {I I' : Nat->Prop} {M M' : Nat->Option Loc} (hI : ∀ b,I b->I' b) (hk : ∀ b,I b->w'.heap[b]? = w.heap[b]?) :
    ∀ (vs:List V) (xs:List Value),(∀ i ∈ refsL vs,∀ l,M i = some l->M' i = some l)->VRpL w I M vs xs->VRpL w' I' M' vs xs
  | [],xs,_,h=>by simpa only [VRpL] using h
  | v :: vs,xs,hM,h=>by
    simp only [VRpL,refsL] at h hM ⊢
    obtain⟨x,xs',h1,h2,h3⟩:=h
    exact⟨x,xs',h1,VRp.frameM hI hk v x (fun i hi=>hM i (List.mem_append_left _ hi)) h2,VRpL.frameM hI hk vs xs' (fun i hi=>hM i (List.mem_append_right _ hi)) h3⟩
end
mutual
theorem VRp.refs {w:World} {I:Nat->Prop} {M:Nat->Option Loc} : ∀ (v:V) (x:Value),VRp w I M v x->∀ i ∈ v.refs,∃ l,M i = some l
  | .c c,x,h,i,hi=>by simp [V.refs] at hi
  | .ref id,x,h,i,hi=>by simp only [V.refs,List.mem_singleton] at hi; subst hi; simp only [VRp] at h; obtain⟨l,h1,_⟩:=h; exact⟨l,h1⟩
  | .cell id off,x,h,i,hi=>by simp only [V.refs,List.mem_singleton] at hi; subst hi; simp only [VRp] at h; obtain⟨l,h1,_⟩:=h; exact⟨l,h1⟩
  | .agg vs,x,h,i,hi=>by simp only [VRp,V.refs] at h hi; obtain⟨xs,_,h2⟩:=h; exact VRpL.refs vs xs h2 i hi
  | .tup vs,x,h,i,hi=>by simp only [VRp,V.refs] at h hi; obtain⟨xs,_,h2⟩:=h; exact VRpL.refs vs xs h2 i hi
  | .clo f vs,x,h,i,hi=>by simp only [VRp,V.refs] at h hi; obtain⟨xs,_,h2⟩:=h; exact VRpL.refs vs xs h2 i hi
theorem VRpL.refs {w:World} {I:Nat->Prop} {M:Nat->Option Loc} : ∀ (vs:List V) (xs:List Value),VRpL w I M vs xs->∀ i ∈ refsL vs,∃ l,M i = some l
  | [],xs,_,i,hi=>by simp [refsL] at hi
  | v :: vs,xs,h,i,hi=>by
    simp only [VRpL,refsL] at h hi
    obtain⟨x,xs',h1,h2,h3⟩:=h
    rcases List.mem_append.1 hi with hi | hi
    · exact VRp.refs v x h2 i hi
    · exact VRpL.refs vs xs' h3 i hi
end
def memN (k:Nat):List Nat->Bool
  | []=>false
  | i :: r=>Nat.beq i k || memN k r
theorem memN_spec {k:Nat} : ∀ {l:List Nat},memN k l = true↔k ∈ l
  | []=>by simp [memN]
  | i :: r=>by
    simp only [memN,Bool.or_eq_true,memN_spec (l:=r),List.mem_cons]
    constructor
    · rintro (h | h)
      · exact .inl (Nat.eq_of_beq_eq_true h).symm
      · exact .inr h
    · rintro (h | h)
      · subst h; exact .inl (Nat.beq_refl k)
      · exact .inr h
def meetB (ids:List Nat):List Nat->Bool
  | []=>false
  | i :: r=>memN i ids || meetB ids r
theorem meetB_spec {ids:List Nat} : ∀ {l:List Nat},meetB ids l = false->∀ i ∈ l,i ∉ ids
  | [],_,i,hi=>by cases hi
  | j :: r,h,i,hi=>by
    simp only [meetB,Bool.or_eq_false_iff] at h
    rcases List.mem_cons.1 hi with rfl | hi
    · intro hm; rw [memN_spec.2 hm] at h; cases h.1
    · exact meetB_spec h.2 i hi
def killE (ids:List Nat):List (Nat × V)->List (Nat × V)
  | []=>[]
  | q :: r=>(q.1,bif meetB ids q.2.refs then .c .hole else q.2) :: killE ids r
def killH (ids:List Nat):List (Nat × V)->List (Nat × V)
  | []=>[]
  | q :: r=>bif meetB ids q.2.refs then killH ids r else q :: killH ids r
def mo (id:Nat) (ob' : Ob) (ids drop:List Nat):List (Nat × Ob)->List (Nat × Ob)
  | []=>[]
  | p :: r=>bif memN p.1 drop then mo id ob' ids drop r else (bif Nat.beq p.1 id then (p.1,ob') else (p.1,⟨p.2.xs,killH ids p.2.holes⟩)) :: mo id ob' ids drop r
theorem lk_killE {ids:List Nat} {i:Nat} {v:V} : ∀ {env:List (Nat × V)},lk i (killE ids env) = some v->v = .c .hole\/(lk i env = some v/\∀ k ∈ v.refs,k ∉ ids)
  | [],h=>by cases h
  | (qi,qv) :: r,h=>by
    simp only [killE,lk] at h ⊢
    cases hb:Nat.beq qi i with
    | true=>
      rw [hb] at h
      simp only [cond_true,Option.some.injEq] at h ⊢
      cases hm:meetB ids qv.refs with
      | true=>rw [hm] at h; exact .inl h.symm
      | false=>rw [hm] at h; simp only [cond_false] at h; subst h; exact .inr ⟨rfl,meetB_spec hm⟩
    | false=>rw [hb] at h; exact lk_killE h
theorem mem_killH {ids:List Nat} {q:Nat × V} : ∀ {hs:List (Nat × V)},q ∈ killH ids hs->q ∈ hs/\∀ k ∈ q.2.refs,k ∉ ids
  | [],h=>by cases h
  | p :: r,h=>by
    simp only [killH] at h
    cases hm:meetB ids p.2.refs with
    | true=>rw [hm] at h; exact⟨List.mem_cons_of_mem _ (mem_killH h).1,(mem_killH h).2⟩
    | false=>
      rw [hm] at h
      rcases List.mem_cons.1 h with rfl | h
      · exact⟨List.mem_cons_self,meetB_spec hm⟩
      · exact⟨List.mem_cons_of_mem _ (mem_killH h).1,(mem_killH h).2⟩
theorem mem_mo {id:Nat} {ob' : Ob} {ids drop:List Nat} {p' : Nat × Ob} : ∀ {σ:List (Nat × Ob)},p' ∈ mo id ob' ids drop σ->
    p'.1 ∉ drop/\((p' = (id,ob')/\∃ p ∈ σ,p.1 = id)\/(p'.1≠id/\∃ p ∈ σ,p.1 = p'.1/\p'.2.xs = p.2.xs/\p'.2.holes = killH ids p.2.holes))
  | [],h=>by cases h
  | p :: r,h=>by
    have lift:(p'.1 ∉ drop/\((p' = (id,ob')/\∃ p ∈ r,p.1 = id)\/(p'.1≠id/\∃ p ∈ r,p.1 = p'.1/\p'.2.xs = p.2.xs/\p'.2.holes = killH ids p.2.holes)))->
        (p'.1 ∉ drop/\((p' = (id,ob')/\∃ q ∈ p :: r,q.1 = id)\/(p'.1≠id/\∃ q ∈ p :: r,q.1 = p'.1/\p'.2.xs = q.2.xs/\p'.2.holes = killH ids q.2.holes))):=by
      rintro⟨h1,⟨h2,q,hq,h3⟩ | ⟨h2,q,hq,h3⟩⟩
      · exact⟨h1,.inl ⟨h2,q,List.mem_cons_of_mem _ hq,h3⟩⟩
      · exact⟨h1,.inr ⟨h2,q,List.mem_cons_of_mem _ hq,h3⟩⟩
    simp only [mo] at h
    cases hd:memN p.1 drop with
    | true=>rw [hd] at h; exact lift (mem_mo h)
    | false=>
      have hnd:p.1 ∉ drop:=fun hm=>by rw [memN_spec.2 hm] at hd; cases hd
      rw [hd] at h
      simp only [cond_false] at h
      rcases List.mem_cons.1 h with h | h
      · cases hb:Nat.beq p.1 id with
        | true=>
          have he:=Nat.eq_of_beq_eq_true hb
          rw [hb] at h
          simp only [cond_true] at h
          subst h
          exact⟨hnd,.inl ⟨by rw [he],p,List.mem_cons_self,he⟩⟩
        | false=>
          rw [hb] at h
          simp only [cond_false] at h
          subst h
          exact⟨hnd,.inr ⟨Nat.ne_of_beq_eq_false hb,p,List.mem_cons_self,rfl,rfl,rfl⟩⟩
      · exact lift (mem_mo h)
theorem keys_mo {id:Nat} {ob' : Ob} {ids drop:List Nat} : ∀ {σ:List (Nat × Ob)},((mo id ob' ids drop σ).map (·.1)).Sublist (σ.map (·.1))
  | []=>List.Sublist.slnil
  | p :: r=>by
    simp only [mo]
    cases hd:memN p.1 drop with
    | true=>exact (keys_mo (σ:=r)).cons _
    | false=>
      simp only [cond_false,List.map_cons]
      have:(bif Nat.beq p.1 id then (p.1,ob') else (p.1,(⟨p.2.xs,killH ids p.2.holes⟩ : Ob))).1 = p.1:=by cases Nat.beq p.1 id <;> rfl
      rw [this]
      exact (keys_mo (σ:=r)).cons_cons _
theorem key_in_mo {id:Nat} {ob' : Ob} {ids drop:List Nat} {k:Nat} (hk:k ∉ drop) : ∀ {σ:List (Nat × Ob)},(∃ p ∈ σ,p.1 = k)->∃ p ∈ mo id ob' ids drop σ,p.1 = k
  | [],⟨p,hp,_⟩=>by cases hp
  | p :: r,⟨q,hq,he⟩=>by
    simp only [mo]
    cases hd:memN p.1 drop with
    | true=>
      rcases List.mem_cons.1 hq with rfl | hq
      · rw [he] at hd; exact absurd (memN_spec.1 hd) hk
      · exact key_in_mo hk ⟨q,hq,he⟩
    | false=>
      simp only [cond_false]
      rcases List.mem_cons.1 hq with rfl | hq
      · exact⟨_,List.mem_cons_self,by cases Nat.beq q.1 id <;> exact he⟩
      · obtain⟨p',h1,h2⟩:=key_in_mo (id:=id) (ob':=ob') (ids:=ids) hk (σ:=r) ⟨q,hq,he⟩
        exact⟨p',List.mem_cons_of_mem _ h1,h2⟩
section
variable {D:Data} {G:Glob} {st:St} {a:Act} {w:World}
theorem Rep.key (h:Rep D G st a w) {i:Nat} {l:Loc} (hi:D.M i = some l) : ∃ p ∈ st.σ,p.1 = i:=by
  by_cases hk : ∃ p ∈ st.σ,p.1 = i
  · exact hk
  · rw [(h.dom i fun p hp e=>hk ⟨p,hp,e⟩).1] at hi; cases hi
theorem Rep.fpkey (h:Rep D G st a w) {i b:Nat} (hb:b ∈ D.fp i) : ∃ p ∈ st.σ,p.1 = i:=by
  by_cases hk : ∃ p ∈ st.σ,p.1 = i
  · exact hk
  · rw [(h.dom i fun p hp e=>hk ⟨p,hp,e⟩).2] at hb; cases hb
theorem Rep.mod (h:Rep D G st a w) {id:Nat} {ob ob' : Ob} {l l' : Loc} {w' : World} {F:List Nat} {ids drop:List Nat}
    (ho:lko id st.σ = some ob) (hl:D.M id = some l) (hid:id ∉ drop) (hdrop : ∀ k ∈ drop,k ∈ ids) (hll:l' = l\/id ∈ ids)
    (hsz:w.heap.size<=w'.heap.size) (hos:w'.os = w.os) (hta:w'.tape = w.tape) (hou:w'.output = w.output)
    (hkeep : ∀ b,b < w.heap.size->b ∉ D.fp id->w'.heap[b]? = w.heap[b]?)
    (hF1:F.Nodup) (hF2 : ∀ b ∈ F,b ∈ D.fp id\/(∃ k ∈ drop,b ∈ D.fp k)\/w.heap.size<=b)
    (hob : ∀ I' : Nat->Prop,(∀ b,Imm G st.σ D.fp w b->I' b)->∀ M' : Nat->Option Loc,(∀ i l,i ∉ ids->D.M i = some l->M' i = some l)->ObRp w' I' M' l' ob' F) :
    ∃ D',Rep D' G ⟨mo id ob' ids drop st.σ,killE ids st.env,st.n⟩ a w'/\D'.M id = some l'/\Upd [id] drop D w D' ⟨mo id ob' ids drop st.σ,killE ids st.env,st.n⟩ w'/\
      (∀ i l,i ∉ ids->D.M i = some l->D'.M i = some l)/\(∀ b,Imm G st.σ D.fp w b->Imm G (mo id ob' ids drop st.σ) D'.fp w' b)/\(∀ b,Imm G st.σ D.fp w b->w'.heap[b]? = w.heap[b]?):=by
  let σ':=mo id ob' ids drop st.σ
  have hidk : ∃ p ∈ st.σ,p.1 = id:=⟨_,mem_of_lko ho,rfl⟩
  have hmemkey : ∀ k,(∃ p ∈ σ',p.1 = k)↔((∃ p ∈ st.σ,p.1 = k)/\k ∉ drop):=fun k=>
    ⟨fun⟨p,hp,e⟩=>by
      obtain⟨h1,⟨h2,q,hq,h3⟩ | ⟨h2,q,hq,h3,_⟩⟩:=mem_mo hp
      · refine⟨⟨q,hq,?_⟩,by rw [<- e]; exact h1⟩; rw [h3,<- e,h2]
      · exact⟨⟨q,hq,by rw [h3,e]⟩,by rw [<- e]; exact h1⟩,
     fun⟨h1,h2⟩=>key_in_mo h2 h1⟩
  let D' : Data:=⟨fun k=>if k ∈ drop then none else if k = id then some l' else D.M k,fun k=>if k ∈ drop then [] else if k = id then F else D.fp k⟩
  have hMid:D'.M id = some l':=by show (if id ∈ drop then none else if id = id then some l' else D.M id) = _; rw [if_neg hid,if_pos rfl]
  have hFid:D'.fp id = F:=by show (if id ∈ drop then [] else if id = id then F else D.fp id) = _; rw [if_neg hid,if_pos rfl]
  have hMo : ∀ k,k ∉ drop->k≠id->D'.M k = D.M k:=fun k h1 h2=>by show (if k ∈ drop then none else if k = id then some l' else D.M k) = _; rw [if_neg h1,if_neg h2]
  have hFo : ∀ k,k ∉ drop->k≠id->D'.fp k = D.fp k:=fun k h1 h2=>by show (if k ∈ drop then [] else if k = id then F else D.fp k) = _; rw [if_neg h1,if_neg h2]
  have hM : ∀ i l,i ∉ ids->D.M i = some l->D'.M i = some l:=fun i m hi hm=>by
    by_cases e:i = id
    · subst e
      rcases hll with rfl | hc
      · rw [hMid,<- hm]; exact hl.symm
      · exact absurd hc hi
    · rw [hMo i (fun hd=>hi (hdrop i hd)) e]; exact hm
  have hFb : ∀ b ∈ F,b < w.heap.size->∃ k,(k = id\/k ∈ drop)/\b ∈ D.fp k:=fun b hb hlt=>by
    rcases hF2 b hb with h1 | ⟨k,hk,h1⟩ | h1
    · exact⟨id,.inl rfl,h1⟩
    · exact⟨k,.inr hk,h1⟩
    · omega
  have hI : ∀ b,Imm G st.σ D.fp w b->Imm G σ' D'.fp w' b:=fun b hb=>⟨hb.1,by have:=hb.2.1; omega,fun p hp hbp=>by
    obtain⟨h1,⟨h2,_⟩ | ⟨h2,q,hq,h3,_⟩⟩:=mem_mo hp
    · rw [h2] at hbp
      rw [hFid] at hbp
      obtain⟨k,_,hk⟩:=hFb b hbp hb.2.1
      exact h.imm hb [k] k (by simp) hk
    · rw [hFo p.1 h1 h2,<- h3] at hbp
      exact hb.2.2 q hq hbp⟩
  have hIk : ∀ b,Imm G st.σ D.fp w b->w'.heap[b]? = w.heap[b]?:=fun b hb=>hkeep b hb.2.1 (h.imm hb [id] id (by simp))
  have hown : ∀ b ∈ F,G.F0 b\/G.w0.heap.size<=b:=fun b hb=>by
    by_cases hlt:b < w.heap.size
    · obtain⟨k,_,hk⟩:=hFb b hb hlt
      obtain⟨q,hq,rfl⟩:=h.fpkey hk
      exact h.own q hq b hk
    · exact .inr (by have:=h.size; omega)
  have hsep : ∀ p ∈ st.σ,p.1≠id->p.1 ∉ drop->∀ b ∈ D.fp p.1,b ∉ F:=fun p hp h1 h2 b hb hbF=>by
    obtain⟨k,hk,hbk⟩:=hFb b hbF (h.lt hp hb)
    obtain⟨q,hq,rfl⟩:=h.fpkey hbk
    refine h.disj2 p hp q hq (fun e=>?_) b hb hbk
    rcases hk with hk | hk
    · exact h1 (e.trans hk)
    · exact h2 (by rw [e]; exact hk)
  refine⟨D',⟨?_,?_,?_,?_,?_,?_,?_,?_,?_,hos.trans h.os,hta.trans h.tape,hou.trans h.output,h.ntmps,h.defers⟩,hMid,⟨hsz,fun b hb hX=>hkeep b hb (hX id (by simp)),?_⟩,hM,hI,hIk⟩
  · intro p hp
    obtain⟨h1,⟨h2,_⟩ | ⟨h2,q,hq,h3,h4,h5⟩⟩:=mem_mo hp
    · subst h2
      exact⟨l',hMid,by rw [hFid]; exact hob _ hI _ hM⟩
    · obtain⟨m,e1,e2⟩:=h.obs q hq
      rw [h3] at e1 e2
      refine⟨m,by rw [hMo p.1 h1 h2]; exact e1,?_⟩
      rw [hFo p.1 h1 h2]
      rcases e2 with ⟨f1,f2,f3,f4⟩ | ⟨f1,f2,vs,f,f3,f4,f5,f6⟩
      · exact .inl ⟨f1,by rw [h4]; exact f2,by rw [h5,f3]; rfl,f4⟩
      · have hkb : ∀ b ∈ D.fp p.1,w'.heap[b]? = w.heap[b]?:=fun b hb=>by
          have hb' : b ∈ D.fp q.1:=by rw [h3]; exact hb
          exact hkeep b (h.lt hq hb') (h.disj2 q hq (id,ob) (mem_of_lko ho) (by rw [h3]; exact h2) b hb')
        refine .inr ⟨f1,by rw [h4]; exact f2,vs,f,f3,?_,?_,?_⟩
        · rw [h4]; exact RpL.frame hI hIk _ _ _ (fun b hb=>hkb b (by rw [f3]; exact List.mem_cons_of_mem _ hb)) f4
        · exact f5.frame (hkb _ (by rw [f3]; exact List.mem_cons_self))
        · intro x hx
          rw [h5] at hx
          obtain⟨g1,g2⟩:=mem_killH hx
          obtain⟨v,g3,g4⟩:=f6 x g1
          exact⟨v,g3,VRp.frameM hI hIk _ _ (fun i hi m hm=>hM i m (g2 i hi) hm) g4⟩
  · intro i hi
    by_cases hd:i ∈ drop
    · exact⟨by show (if i ∈ drop then none else _) = none; rw [if_pos hd],by show (if i ∈ drop then [] else _) = []; rw [if_pos hd]⟩
    · have hn : ¬ ∃ p ∈ st.σ,p.1 = i:=fun hk=>by
        obtain⟨p,hp,e⟩:=(hmemkey i).2 ⟨hk,hd⟩
        exact hi p hp e
      have hne:i≠id:=fun e=>hn (by rw [e]; exact hidk)
      have:=h.dom i fun p hp e=>hn ⟨p,hp,e⟩
      exact⟨by rw [hMo i hd hne]; exact this.1,by rw [hFo i hd hne]; exact this.2⟩
  · exact List.Sublist.nodup keys_mo h.nodup
  · intro p hp
    obtain⟨h1,⟨h2,_⟩ | ⟨h2,q,hq,h3,_⟩⟩:=mem_mo hp
    · rw [h2,hFid]; exact hF1
    · rw [hFo p.1 h1 h2,<- h3]; exact h.disj1 q hq
  · intro p hp q hq hne b hb hb2
    obtain⟨h1,⟨h2,_⟩ | ⟨h2,p0,hp0,h3,_⟩⟩:=mem_mo hp
    · obtain⟨k1,⟨k2,_⟩ | ⟨k2,q0,hq0,k3,_⟩⟩:=mem_mo hq
      · exact hne (by rw [h2,k2])
      · rw [h2,hFid] at hb
        rw [hFo q.1 k1 k2,<- k3] at hb2
        exact hsep q0 hq0 (by rw [k3]; exact k2) (by rw [k3]; exact k1) b hb2 hb
    · rw [hFo p.1 h1 h2,<- h3] at hb
      obtain⟨k1,⟨k2,_⟩ | ⟨k2,q0,hq0,k3,_⟩⟩:=mem_mo hq
      · rw [k2,hFid] at hb2
        exact hsep p0 hp0 (by rw [h3]; exact h2) (by rw [h3]; exact h1) b hb hb2
      · rw [hFo q.1 k1 k2,<- k3] at hb2
        exact h.disj2 p0 hp0 q0 hq0 (by rw [h3,k3]; exact hne) b hb hb2
  · intro i v hv
    rcases lk_killE hv with rfl | ⟨h1,h2⟩
    · have : ∃ x,lk i st.env = some x:=by
        clear hM hI
        revert hv
        generalize st.env = env
        induction env with
        | nil=>intro hv; cases hv
        | cons q r ih=>
          obtain⟨qi,qv⟩:=q
          intro hv
          simp only [killE,lk] at hv ⊢
          cases hb:Nat.beq qi i with
          | true=>exact⟨qv,rfl⟩
          | false=>rw [hb] at hv; exact ih hv
      obtain⟨u,hu⟩:=this
      obtain⟨x,e1,_⟩:=h.env i u hu
      exact⟨x,e1,by simp [VRp,Rp]⟩
    · obtain⟨x,e1,e2⟩:=h.env i v h1
      exact⟨x,e1,VRp.frameM hI hIk _ _ (fun k hk m hm=>hM k m (h2 k hk) hm) e2⟩
  · intro p hp b hb
    obtain⟨h1,⟨h2,_⟩ | ⟨h2,q,hq,h3,_⟩⟩:=mem_mo hp
    · rw [h2,hFid] at hb; exact hown b hb
    · rw [hFo p.1 h1 h2,<- h3] at hb; exact h.own q hq b hb
  · intro b hb hF
    rw [hkeep b (by have:=h.size; omega) (fun hbf=>by
      rcases h.own _ (mem_of_lko ho) b hbf with h1 | h1
      · exact hF h1
      · omega)]
    exact h.frame b hb hF
  · have:=h.size; omega
  · intro p hp b hb hlt
    obtain⟨h1,⟨h2,_⟩ | ⟨h2,q,hq,h3,_⟩⟩:=mem_mo hp
    · rw [h2,hFid] at hb
      rcases hF2 b hb with e | e | e
      · exact .inl (by rw [h2]; exact e)
      · exact .inr e
      · omega
    · rw [hFo p.1 h1 h2] at hb; exact .inl hb
end
end Go.Proofs.YtjolbldlhjfciaaGreatDoor
