/- The value layer: contracts of functions, calls, the walk over code; no condition. -/
import Derived.Test.YtjolbldlhjfciaaGreatDoorVf
namespace Go.Proofs.YtjolbldlhjfciaaGreatDoor
mutual
def opn:C->List Nat->V × List (Nat × Ob) × List Nat
  | .own xs,i :: r=>(.ref i,[(i,⟨xs,[]⟩)],r)
  | .agg xs,ids=>(.agg (opnL xs ids).1,(opnL xs ids).2.1,(opnL xs ids).2.2)
  | .tup xs,ids=>(.tup (opnL xs ids).1,(opnL xs ids).2.1,(opnL xs ids).2.2)
  | .val x,ids=>(.c (.val x),[],ids)
  | .lst xs,ids=>(.c (.lst xs),[],ids)
  | .ptr xs,ids=>(.c (.ptr xs),[],ids)
  | .clo f xs,ids=>bif plainL xs then (.c (.clo f xs),[],ids) else (.clo f (opnL xs ids).1,(opnL xs ids).2.1,(opnL xs ids).2.2)
  | .own _,[]=>(.c .hole,[],[])
  | .hole,ids=>(.c .hole,[],ids)
  | .obox _,[]=>(.c .hole,[],[])
  | .obox xs,i :: r=>(.cell i 0,[(i,⟨xs,[]⟩)],r)
def opnL:List C->List Nat->List V × List (Nat × Ob) × List Nat
  | [],ids=>([],[],ids)
  | x :: xs,ids=>((opn x ids).1 :: (opnL xs (opn x ids).2.2).1,(opn x ids).2.1 ++ (opnL xs (opn x ids).2.2).2.1,(opnL xs (opn x ids).2.2).2.2)
end
def Laid (w:World) (I:Nat->Prop):List (Nat × Ob)->List (Loc × List Nat)->Prop
  | [],L=>L = []
  | p :: r,L=>∃ l f L',L = (l,f) :: L'/\p.2.holes = []/\ObRp w I (fun _=>none) l p.2 f/\Laid w I r L'
def locs:List (Nat × Ob)->List (Loc × List Nat)->List (Nat × Loc)
  | p :: r,q :: s=>(p.1,q.1) :: locs r s
  | _,_=>[]
theorem Laid.append {w:World} {I:Nat->Prop} : ∀ {o1 o2:List (Nat × Ob)} {L1 L2:List (Loc × List Nat)},Laid w I o1 L1->Laid w I o2 L2->Laid w I (o1 ++ o2) (L1 ++ L2)/\locs (o1 ++ o2) (L1 ++ L2) = locs o1 L1 ++ locs o2 L2
  | [],o2,L1,L2,h1,h2=>by simp only [Laid] at h1; subst h1; exact⟨h2,rfl⟩
  | p :: r,o2,L1,L2,h1,h2=>by
    simp only [Laid] at h1
    obtain⟨l,f,L',rfl,e1,e2,e3⟩:=h1
    obtain⟨g1,g2⟩:=Laid.append e3 h2
    exact⟨⟨l,f,_,rfl,e1,e2,g1⟩,by simp [locs,g2]⟩
mutual
theorem opn_spec {w:World} {I:Nat->Prop} : ∀ (c:C) (ids:List Nat) (x:Value) (fp:List Nat),Rp w I c x fp->fp.Nodup->
    ∃ L,Laid w I (opn c ids).2.1 L/\(L.flatMap (·.2)).Sublist fp/\(∀ M:Nat->Option Loc,(∀ q ∈ locs (opn c ids).2.1 L,M q.1 = some q.2)->VRp w I M (opn c ids).1 x)/\ids = (opn c ids).2.1.map (·.1) ++ (opn c ids).2.2
  | .val v,ids,x,fp,h,hn=>by simp only [Rp] at h; exact⟨[],rfl,by simp,fun M _=>by simp only [opn,VRp,Rp]; exact⟨h.1,trivial⟩,by simp [opn]⟩
  | .hole,ids,x,fp,h,hn=>⟨[],rfl,by simp,fun M _=>by simp [opn,VRp,Rp],by simp [opn]⟩
  | .obox xs,[],x,fp,h,hn=>⟨[],rfl,by simp,fun M _=>by simp [opn,VRp,Rp],by simp [opn]⟩
  | .obox xs,i :: r,x,fp,h,hn=>by
    simp only [Rp] at h
    obtain⟨b,off,cap,vs,f,h1,h2,h3,h4⟩:=h
    exact⟨[(⟨b,off,xs.length,cap,false⟩,fp)],⟨_,_,_,rfl,rfl,.inr ⟨rfl,rfl,vs,f,h2,h3,h4,by intro q hq; cases hq⟩,rfl⟩,by simp,fun M hM=>by
        simp only [opn,VRp]; exact⟨_,hM (i,⟨b,off,xs.length,cap,false⟩) (by simp [opn,locs]),rfl,by rw [h1]; rfl⟩,by simp [opn]⟩
  | .lst xs,ids,x,fp,h,hn=>by
    have h0:fp = []:=by simp only [Rp] at h; exact h.1
    subst h0
    exact⟨[],rfl,by simp,fun M _=>by simp only [opn,VRp]; exact h,by simp [opn]⟩
  | .ptr xs,ids,x,fp,h,hn=>by
    have h0:fp = []:=by simp only [Rp] at h; exact h.1
    subst h0
    exact⟨[],rfl,by simp,fun M _=>by simp only [opn,VRp]; exact h,by simp [opn]⟩
  | .clo f xs,ids,x,fp,h,hn=>by
    cases hp:plainL xs with
    | false=>
      simp only [Rp] at h
      obtain⟨vs,h1,h2⟩:=h
      obtain⟨L,e1,e2,e3,e4⟩:=opnL_spec xs ids vs fp h2 hn
      exact⟨L,by simpa only [opn,hp,cond_false] using e1,e2,fun M hM=>by simp only [opn,hp,cond_false,VRp] at hM ⊢; exact⟨vs,h1,e3 M hM⟩,by simpa only [opn,hp,cond_false] using e4⟩
    | true=>
      refine⟨[],by simp only [opn,hp,cond_true]; rfl,by simp,fun M _=>?_,by simp [opn,hp]⟩
      have h0:fp = []:=Rp.plain (.clo f xs) _ _ (by simpa only [C.plain] using hp) h
      subst h0
      simp only [opn,hp,cond_true,VRp]; exact h
  | .own xs,[],x,fp,h,hn=>⟨[],rfl,by simp,fun M _=>by simp [opn,VRp,Rp],by simp [opn]⟩
  | .own xs,i :: r,x,fp,h,hn=>by
    simp only [Rp] at h
    rcases h with ⟨rfl,h1,rfl⟩ | ⟨b,off,cap,vs,f,h1,h2,h3,h4⟩
    · exact⟨[(⟨0,0,0,0,true⟩,[])],⟨_,_,_,rfl,rfl,.inl ⟨rfl,rfl,rfl,rfl⟩,rfl⟩,by simp,fun M hM=>by
        simp only [opn,VRp]; exact⟨_,hM (i,⟨0,0,0,0,true⟩) (by simp [opn,locs]),by rw [h1]; rfl⟩,by simp [opn]⟩
    · exact⟨[(⟨b,off,xs.length,cap,false⟩,fp)],⟨_,_,_,rfl,rfl,.inr ⟨rfl,rfl,vs,f,h2,h3,h4,by intro q hq; cases hq⟩,rfl⟩,by simp,fun M hM=>by
        simp only [opn,VRp]; exact⟨_,hM (i,⟨b,off,xs.length,cap,false⟩) (by simp [opn,locs]),by rw [h1]; rfl⟩,by simp [opn]⟩
  | .agg xs,ids,x,fp,h,hn=>by
    simp only [Rp] at h
    obtain⟨vs,h1,h2⟩:=h
    obtain⟨L,e1,e2,e3,e4⟩:=opnL_spec xs ids vs fp h2 hn
    exact⟨L,e1,e2,fun M hM=>by simp only [opn,VRp]; exact⟨vs,h1,e3 M hM⟩,e4⟩
  | .tup xs,ids,x,fp,h,hn=>by
    simp only [Rp] at h
    obtain⟨vs,h1,h2⟩:=h
    obtain⟨L,e1,e2,e3,e4⟩:=opnL_spec xs ids vs fp h2 hn
    exact⟨L,e1,e2,fun M hM=>by simp only [opn,VRp]; exact⟨vs,h1,e3 M hM⟩,e4⟩
theorem opnL_spec {w:World} {I:Nat->Prop} : ∀ (cs:List C) (ids:List Nat) (xs:List Value) (fp:List Nat),RpL w I cs xs fp->fp.Nodup->
    ∃ L,Laid w I (opnL cs ids).2.1 L/\(L.flatMap (·.2)).Sublist fp/\(∀ M:Nat->Option Loc,(∀ q ∈ locs (opnL cs ids).2.1 L,M q.1 = some q.2)->VRpL w I M (opnL cs ids).1 xs)/\ids = (opnL cs ids).2.1.map (·.1) ++ (opnL cs ids).2.2
  | [],ids,xs,fp,h,hn=>⟨[],rfl,by simp,fun M _=>by simp only [RpL] at h; simp only [opnL,VRpL]; exact h.1,by simp [opnL]⟩
  | c :: cs,ids,xs,fp,h,hn=>by
    simp only [RpL] at h
    obtain⟨v,vs',f,f',rfl,rfl,h3,h4⟩:=h
    have hn':=List.nodup_append.1 hn
    obtain⟨L1,a1,a2,a3,a4⟩:=opn_spec c ids v f h3 hn'.1
    obtain⟨L2,b1,b2,b3,b4⟩:=opnL_spec cs (opn c ids).2.2 vs' f' h4 hn'.2.1
    obtain⟨g1,g2⟩:=a1.append b1
    refine⟨L1 ++ L2,g1,by rw [List.flatMap_append]; exact a2.append b2,fun M hM=>?_,by simp only [opnL,List.map_append,List.append_assoc]; rw [<- b4]; exact a4⟩
    simp only [opnL] at hM ⊢
    rw [g2] at hM
    simp only [VRpL]
    exact⟨v,vs',rfl,a3 M fun q hq=>hM q (List.mem_append_left _ hq),b3 M fun q hq=>hM q (List.mem_append_right _ hq)⟩
end
def EntB (P : Program) (f : Nat) : Bool := match P.funcs[f]? with | some fn => fn.body.isSome && !(fn.name == "runtime.NumGoroutine") | none => false
theorem callFunc_run {P:Program} {f:Nat} (h:EntB P f = true) (args:Array Value) (w:World):(callFunc f args).run P w = .ok (.enter f args) w:=by
  unfold EntB at h
  split at h
  · rename_i fn hf
    simp only [Bool.and_eq_true,Bool.not_eq_true'] at h
    cases hb:fn.body with
    | none=>rw [hb] at h; simp at h
    | some c=>
      have hne : ¬ fn.name = "runtime.NumGoroutine" := by simpa using h.2
      simp [callFunc,hf,hb,hne]
  · cases h
structure AF (P:Program) (f:Nat) (args:List C) (Q:C->Prop):Prop where
  ent:EntB P f = true
  out : ∀ (w:World) (I:Nat->Prop) (vals:List Value),(∀ b,I b->b < w.heap.size)->RpL w I args vals []->Calls P f vals.toArray w fun e w'=>
    ∃ r x fr,e = .returned x/\Q r/\Rp w' (fun b=>I b\/(w.heap.size<=b/\b < w'.heap.size/\b ∉ fr)) r x fr/\fr.Nodup/\(∀ b ∈ fr,w.heap.size<=b)/\
      w.heap.size<=w'.heap.size/\(∀ b,b < w.heap.size->w'.heap[b]? = w.heap[b]?)/\w'.os = w.os/\w'.tape = w.tape/\w'.output = w.output
theorem AF.mono {P:Program} {f:Nat} {args:List C} {Q Q' : C->Prop} (h:AF P f args Q) (hq : ∀ r,Q r->Q' r):AF P f args Q':=
  ⟨h.ent,fun w I vals hI hv=>(h.out w I vals hI hv).mono fun _ _ ⟨r,x,fr,h1,h2,h3⟩=>⟨r,x,fr,h1,hq r h2,h3⟩⟩
mutual
def V.toC:V->Option C
  | .c x=>some x
  | .agg vs=>match toCL vs with | some xs=>some (.agg xs) | none=>none
  | .tup vs=>match toCL vs with | some xs=>some (.tup xs) | none=>none
  | .clo f vs=>match toCL vs with | some xs=>some (.clo f xs) | none=>none
  | _=>none
def toCL:List V->Option (List C)
  | []=>some []
  | v :: vs=>match v.toC,toCL vs with | some x,some xs=>some (x :: xs) | _,_=>none
end
mutual
theorem toC_spec {w:World} {I:Nat->Prop} {M:Nat->Option Loc} : ∀ (v:V) (c:C) (x:Value),v.toC = some c->VRp w I M v x->Rp w I c x []
  | .c y,c,x,h,hv=>by simp only [V.toC,Option.some.injEq] at h; subst h; simpa only [VRp] using hv
  | .ref _,c,x,h,hv=>by simp [V.toC] at h
  | .cell _ _,c,x,h,hv=>by simp [V.toC] at h
  | .agg vs,c,x,h,hv=>by
    simp only [V.toC] at h
    split at h
    · rename_i xs hx
      simp only [Option.some.injEq] at h
      subst h
      simp only [VRp] at hv
      obtain⟨ys,h1,h2⟩:=hv
      simp only [Rp]; exact⟨ys,h1,toCL_spec vs xs ys hx h2⟩
    · cases h
  | .tup vs,c,x,h,hv=>by
    simp only [V.toC] at h
    split at h
    · rename_i xs hx
      simp only [Option.some.injEq] at h
      subst h
      simp only [VRp] at hv
      obtain⟨ys,h1,h2⟩:=hv
      simp only [Rp]; exact⟨ys,h1,toCL_spec vs xs ys hx h2⟩
    · cases h
  | .clo f vs,c,x,h,hv=>by
    simp only [V.toC] at h
    split at h
    · rename_i xs hx
      simp only [Option.some.injEq] at h
      subst h
      simp only [VRp] at hv
      obtain⟨ys,h1,h2⟩:=hv
      simp only [Rp]; exact⟨ys,h1,toCL_spec vs xs ys hx h2⟩
    · cases h
theorem toCL_spec {w:World} {I:Nat->Prop} {M:Nat->Option Loc} : ∀ (vs:List V) (cs:List C) (xs:List Value),toCL vs = some cs->VRpL w I M vs xs->RpL w I cs xs []
  | [],cs,xs,h,hv=>by simp only [toCL,Option.some.injEq] at h; subst h; simp only [VRpL] at hv; subst hv; simp [RpL]
  | v :: vs,cs,xs,h,hv=>by
    simp only [toCL] at h
    split at h
    · rename_i y ys h1 h2
      simp only [Option.some.injEq] at h
      subst h
      simp only [VRpL] at hv
      obtain⟨x,xs',e1,e2,e3⟩:=hv
      simp only [RpL]; exact⟨x,xs',[],[],e1,rfl,toC_spec v y x h1 e2,toCL_spec vs ys xs' h2 e3⟩
    · cases h
end
section
variable {P:Program} {st:St} {ty:TypeId}
def freshL (σ:List (Nat × Ob)):List Nat->Bool
  | []=>true
  | i :: r=>fresh i σ && !memN i r && freshL σ r
theorem freshL_spec {σ:List (Nat × Ob)} : ∀ {ids:List Nat},freshL σ ids = true->ids.Nodup/\∀ i ∈ ids,∀ p ∈ σ,p.1≠i
  | [],_=>⟨by simp,by simp⟩
  | i :: r,h=>by
    simp only [freshL,Bool.and_eq_true,Bool.not_eq_true'] at h
    obtain⟨h1,h2⟩:=freshL_spec h.2
    refine⟨List.nodup_cons.2 ⟨fun hm=>(by rw [memN_spec.2 hm] at h; cases h.1.2),h1⟩,fun j hj=>?_⟩
    rcases List.mem_cons.1 hj with rfl | hj
    · exact fresh_spec h.1.1
    · exact h2 j hj
theorem Laid.find {w:World} {I:Nat->Prop} : ∀ {os:List (Nat × Ob)} {L:List (Loc × List Nat)} (_:Laid w I os L) (_:(os.map (·.1)).Nodup),
    ∃ (Mn:Nat->Option Loc) (fpn:Nat->List Nat),(∀ q ∈ locs os L,Mn q.1 = some q.2)/\(∀ p ∈ os,∃ l,Mn p.1 = some l/\p.2.holes = []/\ObRp w I (fun _=>none) l p.2 (fpn p.1)/\(fpn p.1).Sublist (L.flatMap (·.2)))/\
      ((L.flatMap (·.2)).Nodup->∀ p ∈ os,∀ q ∈ os,p.1≠q.1->∀ b ∈ fpn p.1,b ∉ fpn q.1)
  | [],L,h,_=>by simp only [Laid] at h; subst h; exact⟨fun _=>none,fun _=>[],by simp [locs],by simp,by simp⟩
  | p :: r,L,h,hn=>by
    simp only [Laid] at h
    obtain⟨l,f,L',rfl,e1,e2,e3⟩:=h
    simp only [List.map_cons,List.nodup_cons] at hn
    obtain⟨Mn,fpn,h1,h2,h3⟩:=Laid.find e3 hn.2
    have hne : ∀ q ∈ r,q.1≠p.1:=fun q hq e=>hn.1 (List.mem_map.2 ⟨q,hq,e⟩)
    have hlocs : ∀ q ∈ locs r L',q.1≠p.1:=by
      intro q hq e
      have : ∀ (os:List (Nat × Ob)) (L:List (Loc × List Nat)),∀ q ∈ locs os L,∃ p ∈ os,p.1 = q.1:=by
        intro os
        induction os with
        | nil=>intro L q hq; simp [locs] at hq
        | cons p r ih=>
          intro L q hq
          cases L with
          | nil=>simp [locs] at hq
          | cons s L=>
            simp only [locs] at hq
            rcases List.mem_cons.1 hq with rfl | hq
            · exact⟨p,List.mem_cons_self,rfl⟩
            · obtain⟨p',g1,g2⟩:=ih L q hq; exact⟨p',List.mem_cons_of_mem _ g1,g2⟩
      obtain⟨p',g1,g2⟩:=this r L' q hq
      exact hne p' g1 (g2.trans e)
    refine⟨upd Mn p.1 (some l),upd fpn p.1 f,?_,?_,?_⟩
    · intro q hq
      simp only [locs] at hq
      rcases List.mem_cons.1 hq with rfl | hq
      · exact upd_same _ _ _
      · rw [upd_other _ _ (hlocs q hq)]; exact h1 q hq
    · intro q hq
      rcases List.mem_cons.1 hq with rfl | hq
      · exact⟨l,upd_same _ _ _,e1,by rw [upd_same]; exact e2,by rw [upd_same,List.flatMap_cons]; exact List.sublist_append_left _ _⟩
      · obtain⟨m,g1,g2,g3,g4⟩:=h2 q hq
        exact⟨m,by rw [upd_other _ _ (hne q hq)]; exact g1,g2,by rw [upd_other _ _ (hne q hq)]; exact g3,by rw [upd_other _ _ (hne q hq),List.flatMap_cons]; exact g4.trans (List.sublist_append_right _ _)⟩
    · intro hnd a ha b hb hab c hc
      rw [List.flatMap_cons] at hnd
      obtain⟨n1,n2,n3⟩:=List.nodup_append.1 hnd
      rcases List.mem_cons.1 ha with rfl | ha
      · rcases List.mem_cons.1 hb with rfl | hb
        · exact absurd rfl hab
        · rw [upd_same] at hc
          rw [upd_other _ _ (hne b hb)]
          obtain⟨_,_,_,_,g⟩:=h2 b hb
          exact fun hc'=>n3 c hc c (g.subset hc') rfl
      · rw [upd_other _ _ (hne a ha)] at hc
        obtain⟨_,_,_,_,g⟩:=h2 a ha
        rcases List.mem_cons.1 hb with rfl | hb
        · rw [upd_same]
          exact fun hc'=>n3 c hc' c (g.subset hc) rfl
        · rw [upd_other _ _ (hne b hb)]
          exact h3 n2 a ha b hb hab c hc
theorem Rep.grow {D:Data} {G:Glob} {a:Act} {w w' : World} (h:Rep D G st a w) (hsz:w.heap.size<=w'.heap.size) (hkeep : ∀ b,b < w.heap.size->w'.heap[b]? = w.heap[b]?) (hos:w'.os = w.os) (hta:w'.tape = w.tape) (hou:w'.output = w.output)
    {c:C} {x:Value} {fr:List Nat} {ids:List Nat} (hid:freshL st.σ ids = true) (hc:Rp w' (fun b=>Imm G st.σ D.fp w b\/(w.heap.size<=b/\b < w'.heap.size/\b ∉ fr)) c x fr) (hfr:fr.Nodup) (hnew : ∀ b ∈ fr,w.heap.size<=b) :
    ∃ D',Rep D' G ⟨(opn c ids).2.1 ++ st.σ,st.env,st.n⟩ a w'/\VRp w' (Imm G ((opn c ids).2.1 ++ st.σ) D'.fp w') D'.M (opn c ids).1 x/\Upd [] [] D w D' ⟨(opn c ids).2.1 ++ st.σ,st.env,st.n⟩ w':=by
  obtain⟨L,e1,e2,e3,e4⟩:=opn_spec c ids x fr hc hfr
  obtain⟨hnd,hfresh⟩:=freshL_spec hid
  have hkeys:((opn c ids).2.1.map (·.1)).Nodup:=by rw [e4] at hnd; exact (List.nodup_append.1 hnd).1
  have hkf : ∀ p ∈ (opn c ids).2.1,∀ q ∈ st.σ,q.1≠p.1:=fun p hp q hq=>hfresh p.1 (by rw [e4]; exact List.mem_append_left _ (List.mem_map.2 ⟨p,hp,rfl⟩)) q hq
  obtain⟨Mn,fpn,f1,f2,f3⟩:=e1.find hkeys
  generalize hos' : (opn c ids).2.1 = os at *
  have hsub : ∀ p ∈ os,∀ b ∈ fpn p.1,b ∈ fr:=fun p hp b hb=>by obtain⟨_,_,_,_,g⟩:=f2 p hp; exact e2.subset (g.subset hb)
  let D' : Data:=⟨fun k=>if k ∈ os.map (·.1) then Mn k else D.M k,fun k=>if k ∈ os.map (·.1) then fpn k else D.fp k⟩
  have hin : ∀ p ∈ os,p.1 ∈ os.map (·.1):=fun p hp=>List.mem_map.2 ⟨p,hp,rfl⟩
  have hout : ∀ q ∈ st.σ,q.1 ∉ os.map (·.1):=fun q hq hm=>by obtain⟨p,hp,e⟩:=List.mem_map.1 hm; exact hkf p hp q hq e.symm
  have hM : ∀ i l,D.M i = some l->D'.M i = some l:=fun i l hi=>by
    obtain⟨q,hq,rfl⟩:=h.key hi
    show (if q.1 ∈ os.map (·.1) then Mn q.1 else D.M q.1) = _
    rw [if_neg (hout q hq)]; exact hi
  have hMn : ∀ k,k ∈ os.map (·.1)->D'.M k = Mn k:=fun k hk=>if_pos hk
  have hFn : ∀ p ∈ os,D'.fp p.1 = fpn p.1:=fun p hp=>if_pos (hin p hp)
  have hFo : ∀ q ∈ st.σ,D'.fp q.1 = D.fp q.1:=fun q hq=>if_neg (hout q hq)
  have hI : ∀ b,Imm G st.σ D.fp w b->Imm G (os ++ st.σ) D'.fp w' b:=fun b hb=>⟨hb.1,by have:=hb.2.1; omega,fun p hp hbp=>by
    rcases List.mem_append.1 hp with hp | hp
    · rw [hFn p hp] at hbp
      have:=hnew b (hsub p hp b hbp); have:=hb.2.1; omega
    · rw [hFo p hp] at hbp; exact hb.2.2 p hp hbp⟩
  have hIk : ∀ b,Imm G st.σ D.fp w b->w'.heap[b]? = w.heap[b]?:=fun b hb=>hkeep b hb.2.1
  have hI2 : ∀ b,(Imm G st.σ D.fp w b\/(w.heap.size<=b/\b < w'.heap.size/\b ∉ fr))->Imm G (os ++ st.σ) D'.fp w' b:=fun b hb=>by
    rcases hb with hb | ⟨h1,h2,h3⟩
    · exact hI b hb
    · refine⟨.inr (.inr (by have:=h.size; omega)),h2,fun p hp hbp=>?_⟩
      rcases List.mem_append.1 hp with hp | hp
      · rw [hFn p hp] at hbp; exact h3 (hsub p hp b hbp)
      · rw [hFo p hp] at hbp; have:=h.lt hp hbp; omega
  refine⟨D',⟨?_,?_,?_,?_,?_,?_,?_,?_,?_,hos.trans h.os,hta.trans h.tape,hou.trans h.output,h.ntmps,h.defers⟩,VRp.frame hI2 (fun _ _=>rfl) (fun _ _ h=>h) _ _ (e3 D'.M fun q hq=>by
      have hq':=f1 q hq
      by_cases hk:q.1 ∈ os.map (·.1)
      · rw [hMn _ hk]; exact hq'
      · exfalso
        have : ∀ (os:List (Nat × Ob)) (L:List (Loc × List Nat)),∀ q ∈ locs os L,q.1 ∈ os.map (·.1):=by
          intro os
          induction os with
          | nil=>intro L q hq; simp [locs] at hq
          | cons p r ih=>
            intro L q hq
            cases L with
            | nil=>simp [locs] at hq
            | cons s L=>
              simp only [locs] at hq
              rcases List.mem_cons.1 hq with rfl | hq
              · simp
              · rw [List.map_cons]; exact List.mem_cons_of_mem _ (ih L q hq)
        exact hk (this os L q hq)),⟨hsz,fun b hb _=>hkeep b hb,?_⟩⟩
  · intro p hp
    rcases List.mem_append.1 hp with hp | hp
    · obtain⟨l,g1,g2,g3,_⟩:=f2 p hp
      refine⟨l,by rw [hMn _ (hin p hp)]; exact g1,?_⟩
      rw [hFn p hp]
      rcases g3 with g3 | ⟨k1,k2,vs,f,k3,k4,k5,k6⟩
      · exact .inl g3
      · exact .inr ⟨k1,k2,vs,f,k3,RpL.frame hI2 (fun _ _=>rfl) _ _ _ (fun _ _=>rfl) k4,k5,by rw [g2]; intro q hq; cases hq⟩
    · obtain⟨l,g1,g2⟩:=h.obs p hp
      exact⟨l,hM _ _ g1,by rw [hFo p hp]; exact g2.frame hI hIk hM (fun b hb=>hkeep b (h.lt hp hb))⟩
  · intro i hi
    have h1:i ∉ os.map (·.1):=fun hm=>by obtain⟨p,hp,e⟩:=List.mem_map.1 hm; exact hi p (List.mem_append_left _ hp) e
    have h2:=h.dom i fun p hp=>hi p (List.mem_append_right _ hp)
    exact⟨by show (if i ∈ os.map (·.1) then Mn i else D.M i) = none; rw [if_neg h1]; exact h2.1,by show (if i ∈ os.map (·.1) then fpn i else D.fp i) = []; rw [if_neg h1]; exact h2.2⟩
  · simp only [List.map_append]
    exact List.nodup_append.2 ⟨hkeys,h.nodup,fun x hx y hy e=>by
      obtain⟨q,hq,e2⟩:=List.mem_map.1 hy
      exact hout q hq (by rw [e2,<- e]; exact hx)⟩
  · intro p hp
    rcases List.mem_append.1 hp with hp | hp
    · rw [hFn p hp]; obtain⟨_,_,_,_,g⟩:=f2 p hp; exact (g.trans e2).nodup hfr
    · rw [hFo p hp]; exact h.disj1 p hp
  · intro p hp q hq hne b hb hb2
    rcases List.mem_append.1 hp with hp | hp
    · rw [hFn p hp] at hb
      have hbn:=hnew b (hsub p hp b hb)
      rcases List.mem_append.1 hq with hq | hq
      · rw [hFn q hq] at hb2; exact f3 (e2.nodup hfr) p hp q hq hne b hb hb2
      · rw [hFo q hq] at hb2; have:=h.lt hq hb2; omega
    · rw [hFo p hp] at hb
      rcases List.mem_append.1 hq with hq | hq
      · rw [hFn q hq] at hb2; have:=h.lt hp hb; have:=hnew b (hsub q hq b hb2); omega
      · rw [hFo q hq] at hb2; exact h.disj2 p hp q hq hne b hb hb2
  · intro i v hv
    obtain⟨y,g1,g2⟩:=h.env i v hv
    exact⟨y,g1,VRp.frame hI hIk hM _ _ g2⟩
  · intro p hp b hb
    rcases List.mem_append.1 hp with hp | hp
    · rw [hFn p hp] at hb; exact .inr (by have:=hnew b (hsub p hp b hb); have:=h.size; omega)
    · rw [hFo p hp] at hb; exact h.own p hp b hb
  · intro b hb hF
    rw [hkeep b (by have:=h.size; omega)]; exact h.frame b hb hF
  · have:=h.size; omega
  · intro p hp b hb hlt
    rcases List.mem_append.1 hp with hp | hp
    · rw [hFn p hp] at hb; have:=hnew b (hsub p hp b hb); omega
    · rw [hFo p hp] at hb; exact .inl hb
theorem ws_call {fo:Operand} {xs:List Operand} {ats:Array TypeId} {fv:V} {f:Nat} {caps args:List C} {vs:List V} {Q:C->Prop} {ids:List Nat} (hf:st.ev fo = some fv) (hfv:fv.toC = some (.clo f caps)) (hx:evs st xs = some vs) (ha:toCL vs = some args)
    (hc:AF P f (args ++ caps) Q) (hid:freshL st.σ ids = true) {K:V->St->Prop} (h : ∀ r,Q r->K (opn r ids).1 ⟨(opn r ids).2.1 ++ st.σ,st.env,st.n⟩):WS P [] [] (.call ⟨.value fo,xs.toArray,ats⟩) ty st K:=by
  intro D G a w hr dst pos after guard
  have h1:=toCL_spec vs args _ ha (evs_sound hr xs vs hx)
  have h2:=toC_spec fv _ _ hfv (hr.ev hf)
  simp only [Rp] at h2
  obtain⟨cv,h3,h4⟩:=h2
  have hrun:(execOp a.eval ⟨dst,.call ⟨.value fo,xs.toArray,ats⟩,ty,pos,after,guard⟩).run P w = .ok (.enter f (xs.map a.eval ++ cv).toArray) w:=by
    simp only [execOp,resolve,h3,Deferred.ofValue,Sem.run_bind,Sem.run_pure,Result.andThen_ok,invoke]
    rw [callFunc_run hc.ent]
    simp
  rw [hrun]
  have h5:RpL w (Imm G st.σ D.fp w) (args ++ caps) (xs.map a.eval ++ cv) []:=by simpa using RpL.append h1 h4
  exact (hc.out w (Imm G st.σ D.fp w) _ (fun b hb=>hb.2.1) h5).mono fun e w' ⟨r,x,fr,e1,e2,e3,e4,e5,e6,e7,e8,e9,e10⟩=>by
    obtain⟨D',g1,g2,g3⟩:=hr.grow e6 e7 e8 e9 e10 hid e3 e4 e5
    exact⟨x,e1,D',_,_,h r e2,g1,g2,g3⟩
end
end Go.Proofs.YtjolbldlhjfciaaGreatDoor
