/- The value layer: structs built, objects that are from now on only read, nil slices as objects; no condition. -/
import Derived.Test.YtjolbldlhjfciaaGreatDoorVh
namespace Go.Proofs.YtjolbldlhjfciaaGreatDoor
class BuT (P:Program) (T:Nat) (zs:outParam (List Value)):Prop where
  u:(match P.underlying T with | some (.struct fs)=>(fs.toList.map fun f=>(f.offset,(P.info? f.type).map (·.size))) | _=>[]) = (List.range zs.length).map (fun i=>(i,some 1))
  z:(P.info? T).map (·.zero) = some (some (.agg zs.toArray))
  s:(match P.underlying T with | some (.struct _)=>true | _=>false) = true
section
variable {P:Program} {X:Option (List Nat)} {st:St} {ty:TypeId}
theorem mapM_run {α β:Type} (g:α->Sem β) (h:α->β) (w:World) : ∀ (l:List α),(∀ f ∈ l,(g f).run P w = .ok (h f) w)->(l.mapM g).run P w = .ok (l.map h) w
  | [],_=>by simp
  | x :: l,hl=>by
    have ih:=mapM_run g h w l fun f hf=>hl f (List.mem_cons_of_mem _ hf)
    rw [List.mapM_cons]
    simp [hl x List.mem_cons_self,ih]
theorem build_places {T:TypeId} {zs:List Value} [hT:BuT P T zs] (w:World) : ∃ fs:Array Field,P.underlying T = some (.struct fs)/\(fs.mapM (fun f=>do pure (f.offset,<- sizeOf f.type):Field->Sem (Nat × Nat))).run P w = .ok ((List.range zs.length).map fun i=>(i,1)).toArray w:=by
  have hs:=hT.s
  have hu:=hT.u
  split at hs
  · rename_i fs hfs
    rw [hfs] at hu
    simp only at hu
    refine⟨fs,hfs,?_⟩
    rw [Array.mapM_eq_mapM_toList]
    have hl:fs.toList.length = zs.length:=by have:=congrArg List.length hu; simpa using this
    have hg : ∀ i (hi:i < fs.toList.length),fs.toList[i].offset = i/\(P.info? fs.toList[i].type).map (·.size) = some 1:=by
      intro i hi
      have:=congrArg (fun l=>l[i]?) hu
      simp only [List.getElem?_map,List.getElem?_eq_getElem hi,Option.map_some] at this
      rw [List.getElem?_range (by omega)] at this
      simpa using this
    have hrun:=mapM_run (P:=P) (fun f=>do pure (f.offset,<- sizeOf f.type):Field->Sem (Nat × Nat)) (fun f=>(f.offset,1)) w fs.toList (fun f hf=>by
      obtain⟨i,hi,e⟩:=List.getElem_of_mem hf
      have:=(hg i hi).2
      rw [e] at this
      simp [sizeOf_run this])
    rw [Sem.run_map,hrun]
    simp only [Result.andThen_ok]
    congr 2
    apply List.ext_getElem?
    intro i
    rw [List.getElem?_map,List.getElem?_map]
    by_cases hi:i < fs.toList.length
    · rw [List.getElem?_eq_getElem hi,List.getElem?_range (by omega)]
      simpa using (hg i hi).1
    · rw [List.getElem?_eq_none (by omega),List.getElem?_eq_none (by simp; omega)]; rfl
  · cases hs
theorem build_zero {T:TypeId} {zs:List Value} [hT:BuT P T zs] (w:World):(zeroValue T).run P w = .ok (.agg zs.toArray) w:=by
  obtain⟨i,hi,hz⟩:=Option.map_eq_some_iff.1 hT.z
  simp [zeroValue,typeInfo,hi,hz]
theorem fill_places (n:Nat) : ∀ (vs:List Value) (k:Nat) (pre post:List Value),pre.length = k->post.length = vs.length->k + vs.length = n->(∀ v ∈ vs,v.cells = #[v])->
    Instr.fill (fun i=>(((List.range n).map fun i=>(i,1)).toArray)[i]?) (pre ++ post).toArray (vs.zipIdx k |>.map fun p=>(p.2,p.1)) = some (pre ++ vs).toArray
  | [],k,pre,post,h1,h2,_,_=>by simp at h2; subst h2; simp [Instr.fill]
  | v :: vs,k,pre,post,h1,h2,hn,h3=>by
    cases post with
    | nil=>simp at h2
    | cons p post=>
      have hv:=h3 v List.mem_cons_self
      have hk:k < n:=by simp at hn; omega
      have:=fill_places n vs (k + 1) (pre ++ [v]) post (by simp [h1]) (by simpa using h2) (by simp at hn; omega) (fun u hu=>h3 u (List.mem_cons_of_mem _ hu))
      have hp:(((List.range n).map fun i=>(i,1)).toArray)[k]? = some (k,1):=by simp [hk]
      simp only [List.zipIdx_cons,List.map_cons,Instr.fill,hp,hv]
      rw [if_neg (by simp; omega)]
      have e:((#[v] : Array Value).zipIdx.foldl (fun cs (c,j)=>cs.setIfInBounds (k + j) c) (pre ++ p :: post).toArray) = (pre ++ [v] ++ post).toArray:=by
        subst h1
        simp
      simp only [e]
      rw [this]; simp
theorem ss_build0 {T:TypeId} {zs:List Value} [hT:BuT P T zs] : SS P X (.build T #[]) ty st (.c (.agg (zs.map .val))):=fun D G a w hr=>by
  refine⟨.agg zs.toArray,by simp only [VRp,Rp]; exact⟨zs,rfl,RpL.ofVals zs⟩,fun w' _ dst pos after guard=>?_⟩
  obtain⟨fs,h1,h2⟩:=build_places (P:=P) (T:=T) w'
  simp only [execOp,Instr.build,Sem.run_bind,build_zero (P:=P) (T:=T),Result.andThen_ok,run_underlying h1,List.map_toArray,List.map_nil]
  rw [h2]
  simp [Instr.fill,Value.cells]
theorem ss_build {T:TypeId} {zs:List Value} [hT:BuT P T zs] {ps:List (Nat × Operand)} {vs:List V} (hp:partsOk st 0 ps = some vs) (hn:ps.length = zs.length):SS P X (.build T ps.toArray) ty st (.agg vs):=fun D G a w hr=>by
  obtain⟨e1,e2,e3⟩:=partsOk_sound hr ps 0 vs hp
  refine⟨.agg (ps.map fun p=>a.eval p.2).toArray,by simp only [VRp]; exact⟨_,rfl,e1⟩,fun w' _ dst pos after guard=>?_⟩
  obtain⟨fs,h1,h2⟩:=build_places (P:=P) (T:=T) w'
  have hmap:(ps.toArray.map fun x=>(x.1,a.eval x.2)).toList = ((ps.map fun p=>a.eval p.2).zipIdx 0).map fun p=>(p.2,p.1):=by
    rw [Array.toList_map,parts_zipIdx ps 0 fun j p hj=>by have:=(e2 j p hj).1; omega]
  have hfill:=fill_places zs.length (ps.map fun p=>a.eval p.2) 0 [] zs rfl (by simp [hn]) (by simp [hn]) (fun v hv=>by
    obtain⟨p,hp1,rfl⟩:=List.mem_map.1 hv
    obtain⟨j,hj,hj2⟩:=List.getElem_of_mem hp1
    exact (e2 j p (by rw [List.getElem?_eq_getElem hj,hj2])).2.1)
  simp only [execOp,Instr.build,Sem.run_bind,build_zero (P:=P) (T:=T),Result.andThen_ok,run_underlying h1]
  rw [h2]
  simp only [Result.andThen_ok,hmap,Value.cells]
  simp only [List.nil_append] at hfill
  rw [hfill]
  rfl
end
mutual
def frzV (id:Nat) (xs:List C):V->V
  | .c x=>.c x
  | .ref i=>bif Nat.beq i id then .c (.lst xs) else .ref i
  | .cell i off=>bif Nat.beq i id then .c (.ptr (xs.drop off)) else .cell i off
  | .agg vs=>.agg (frzVL id xs vs)
  | .tup vs=>.tup (frzVL id xs vs)
  | .clo f vs=>.clo f (frzVL id xs vs)
def frzVL (id:Nat) (xs:List C):List V->List V
  | []=>[]
  | v :: vs=>frzV id xs v :: frzVL id xs vs
end
def frzE (id:Nat) (xs:List C):List (Nat × V)->List (Nat × V)
  | []=>[]
  | q :: r=>(q.1,frzV id xs q.2) :: frzE id xs r
def frzσ (id:Nat) (xs:List C):List (Nat × Ob)->List (Nat × Ob)
  | []=>[]
  | p :: r=>bif Nat.beq p.1 id then frzσ id xs r else (p.1,⟨p.2.xs,frzE id xs p.2.holes⟩) :: frzσ id xs r
theorem lk_frzE {id:Nat} {xs:List C} {i:Nat} {v:V} : ∀ {env:List (Nat × V)},lk i (frzE id xs env) = some v->∃ u,lk i env = some u/\v = frzV id xs u
  | [],h=>by cases h
  | (qi,qv) :: r,h=>by
    simp only [frzE,lk] at h ⊢
    cases hb:Nat.beq qi i with
    | true=>rw [hb] at h; simp only [cond_true,Option.some.injEq] at h ⊢; exact⟨qv,rfl,h.symm⟩
    | false=>rw [hb] at h; exact lk_frzE h
theorem mem_frzE {id:Nat} {xs:List C} {q:Nat × V} : ∀ {hs:List (Nat × V)},q ∈ frzE id xs hs->∃ p ∈ hs,q = (p.1,frzV id xs p.2)
  | [],h=>by cases h
  | p :: r,h=>by
    simp only [frzE] at h
    rcases List.mem_cons.1 h with rfl | h
    · exact⟨p,List.mem_cons_self,rfl⟩
    · obtain⟨p',h1,h2⟩:=mem_frzE h; exact⟨p',List.mem_cons_of_mem _ h1,h2⟩
theorem mem_frzσ {id:Nat} {xs:List C} {p' : Nat × Ob} : ∀ {σ:List (Nat × Ob)},p' ∈ frzσ id xs σ->p'.1≠id/\∃ p ∈ σ,p.1 = p'.1/\p'.2.xs = p.2.xs/\p'.2.holes = frzE id xs p.2.holes
  | [],h=>by cases h
  | p :: r,h=>by
    simp only [frzσ] at h
    have lift:(p'.1≠id/\∃ q ∈ r,q.1 = p'.1/\p'.2.xs = q.2.xs/\p'.2.holes = frzE id xs q.2.holes)->(p'.1≠id/\∃ q ∈ p :: r,q.1 = p'.1/\p'.2.xs = q.2.xs/\p'.2.holes = frzE id xs q.2.holes):=fun⟨h1,q,h2,h3⟩=>⟨h1,q,List.mem_cons_of_mem _ h2,h3⟩
    cases hb:Nat.beq p.1 id with
    | true=>rw [hb] at h; exact lift (mem_frzσ h)
    | false=>
      rw [hb] at h
      simp only [cond_false] at h
      rcases List.mem_cons.1 h with rfl | h
      · exact⟨Nat.ne_of_beq_eq_false hb,p,List.mem_cons_self,rfl,rfl,rfl⟩
      · exact lift (mem_frzσ h)
theorem keys_frzσ {id:Nat} {xs:List C} : ∀ {σ:List (Nat × Ob)},((frzσ id xs σ).map (·.1)).Sublist (σ.map (·.1))
  | []=>List.Sublist.slnil
  | p :: r=>by
    simp only [frzσ]
    cases Nat.beq p.1 id with
    | true=>exact (keys_frzσ (σ:=r)).cons _
    | false=>exact (keys_frzσ (σ:=r)).cons_cons _
theorem key_in_frzσ {id:Nat} {xs:List C} {k:Nat} (hk:k≠id) : ∀ {σ:List (Nat × Ob)},(∃ p ∈ σ,p.1 = k)->∃ p ∈ frzσ id xs σ,p.1 = k
  | [],⟨p,hp,_⟩=>by cases hp
  | p :: r,⟨q,hq,he⟩=>by
    simp only [frzσ]
    cases hb:Nat.beq p.1 id with
    | true=>
      rcases List.mem_cons.1 hq with rfl | hq
      · exact absurd (he.symm.trans (Nat.eq_of_beq_eq_true hb)) hk
      · exact key_in_frzσ hk ⟨q,hq,he⟩
    | false=>
      simp only [cond_false]
      rcases List.mem_cons.1 hq with rfl | hq
      · exact⟨_,List.mem_cons_self,he⟩
      · obtain⟨p',h1,h2⟩:=key_in_frzσ (xs:=xs) hk (σ:=r) ⟨q,hq,he⟩
        exact⟨p',List.mem_cons_of_mem _ h1,h2⟩
mutual
theorem VRp.frzV {w:World} {I I' : Nat->Prop} {M M' : Nat->Option Loc} (hI : ∀ b,I b->I' b) {id:Nat} {xs:List C} {l:Loc} (hl:M id = some l) (hM : ∀ i m,i≠id->M i = some m->M' i = some m)
    (h1:VRp w I' M' (.c (.lst xs)) l.slice) (h2:l.nil = false->∀ off,VRp w I' M' (.c (.ptr (xs.drop off))) (.pointer (some ⟨l.b,l.off + off,none⟩))) :
    ∀ (v:V) (x:Value),VRp w I M v x->VRp w I' M' (frzV id xs v) x
  | .c c,x,h=>by simp only [VRp,Go.Proofs.YtjolbldlhjfciaaGreatDoor.frzV] at h ⊢; exact Rp.frame hI (fun _ _=>rfl) c x [] (by simp) h
  | .ref i,x,h=>by
    simp only [VRp] at h
    obtain⟨m,e1,rfl⟩:=h
    simp only [Go.Proofs.YtjolbldlhjfciaaGreatDoor.frzV]
    cases hb:Nat.beq i id with
    | true=>
      have:i = id:=Nat.eq_of_beq_eq_true hb
      subst this
      have:m = l:=Option.some.inj (e1.symm.trans hl)
      subst this
      exact h1
    | false=>simp only [cond_false,VRp]; exact⟨m,hM i m (Nat.ne_of_beq_eq_false hb) e1,rfl⟩
  | .cell i off,x,h=>by
    simp only [VRp] at h
    obtain⟨m,e1,e2,rfl⟩:=h
    simp only [Go.Proofs.YtjolbldlhjfciaaGreatDoor.frzV]
    cases hb:Nat.beq i id with
    | true=>
      have:i = id:=Nat.eq_of_beq_eq_true hb
      subst this
      have:m = l:=Option.some.inj (e1.symm.trans hl)
      subst this
      exact h2 e2 off
    | false=>simp only [cond_false,VRp]; exact⟨m,hM i m (Nat.ne_of_beq_eq_false hb) e1,e2,rfl⟩
  | .agg vs,x,h=>by simp only [VRp,Go.Proofs.YtjolbldlhjfciaaGreatDoor.frzV] at h ⊢; obtain⟨ys,e1,e2⟩:=h; exact⟨ys,e1,VRpL.frzV hI hl hM h1 h2 vs ys e2⟩
  | .tup vs,x,h=>by simp only [VRp,Go.Proofs.YtjolbldlhjfciaaGreatDoor.frzV] at h ⊢; obtain⟨ys,e1,e2⟩:=h; exact⟨ys,e1,VRpL.frzV hI hl hM h1 h2 vs ys e2⟩
  | .clo f vs,x,h=>by simp only [VRp,Go.Proofs.YtjolbldlhjfciaaGreatDoor.frzV] at h ⊢; obtain⟨ys,e1,e2⟩:=h; exact⟨ys,e1,VRpL.frzV hI hl hM h1 h2 vs ys e2⟩
theorem VRpL.frzV {w:World} {I I' : Nat->Prop} {M M' : Nat->Option Loc} (hI : ∀ b,I b->I' b) {id:Nat} {xs:List C} {l:Loc} (hl:M id = some l) (hM : ∀ i m,i≠id->M i = some m->M' i = some m)
    (h1:VRp w I' M' (.c (.lst xs)) l.slice) (h2:l.nil = false->∀ off,VRp w I' M' (.c (.ptr (xs.drop off))) (.pointer (some ⟨l.b,l.off + off,none⟩))) :
    ∀ (vs:List V) (ys:List Value),VRpL w I M vs ys->VRpL w I' M' (frzVL id xs vs) ys
  | [],ys,h=>by simpa only [VRpL,frzVL] using h
  | v :: vs,ys,h=>by
    simp only [VRpL,frzVL] at h ⊢
    obtain⟨y,ys',rfl,e2,e3⟩:=h
    exact⟨y,ys',rfl,VRp.frzV hI hl hM h1 h2 v y e2,VRpL.frzV hI hl hM h1 h2 vs ys' e3⟩
end
theorem freeze_core {st:St} {id:Nat} {ob:Ob} (ho:lko id st.σ = some ob) (_hh:ob.holes = []) (D:Data) (G:Glob) (a:Act) (w:World) (hr:Rep D G st a w) :
    ∃ D',Rep D' G ⟨frzσ id (frzL ob.xs) st.σ,frzE id (frzL ob.xs) st.env,st.n⟩ a w/\(∀ p ∈ frzσ id (frzL ob.xs) st.σ,∀ b ∈ D'.fp p.1,b ∈ D.fp p.1\/∃ i ∈ ([] : List Nat),b ∈ D.fp i)/\∀ k,k≠id->D'.fp k = D.fp k:=by
  obtain⟨l,hl,hob⟩:=hr.obs _ (mem_of_lko ho)
  simp only at hl hob
  let D' : Data:=⟨fun k=>if k = id then none else D.M k,fun k=>if k = id then [] else D.fp k⟩
  have hMo : ∀ k,k≠id->D'.M k = D.M k:=fun k h=>if_neg h
  have hFo : ∀ k,k≠id->D'.fp k = D.fp k:=fun k h=>if_neg h
  have hidm:=mem_of_lko ho
  have hI : ∀ b,Imm G st.σ D.fp w b->Imm G (frzσ id (frzL ob.xs) st.σ) D'.fp w b:=fun b hb=>⟨hb.1,hb.2.1,fun p hp hbp=>by
    obtain⟨h1,q,hq,h3,_⟩:=mem_frzσ hp
    rw [hFo p.1 h1,<- h3] at hbp
    exact hb.2.2 q hq hbp⟩
  have hIf : ∀ b ∈ D.fp id,Imm G (frzσ id (frzL ob.xs) st.σ) D'.fp w b:=fun b hb=>⟨.inr (hr.own _ hidm b hb),hr.lt hidm hb,fun p hp hbp=>by
    obtain⟨h1,q,hq,h3,_⟩:=mem_frzσ hp
    rw [hFo p.1 h1,<- h3] at hbp
    exact hr.disj2 _ hidm q hq (fun e=>h1 (by rw [<- h3]; exact e.symm)) b hb hbp⟩
  have hlst:VRp w (Imm G (frzσ id (frzL ob.xs) st.σ) D'.fp w) D'.M (.c (.lst (frzL ob.xs))) l.slice:=by
    simp only [VRp,Rp]
    rcases hob with ⟨k1,k2,_,k4⟩ | ⟨k1,k2,vs,f,k3,k4,k5,_⟩
    · refine⟨trivial,none,0,[],by rw [Loc.slice,k1,k2]; rfl,by rw [k2]; simp [frzL],by rw [k2]; simp [frzL,RpL],by intro i v hv; simp at hv⟩
    · refine⟨trivial,some ⟨l.b,l.off,none⟩,l.cap,vs,by rw [Loc.slice,k1,k2,length_frzL]; rfl,by rw [length_frzL,<- k4.length]; obtain⟨_,_,_,h,_⟩:=k5; exact h,RpL.frz hI _ _ _ (fun b hb=>hIf b (by rw [k3]; exact List.mem_cons_of_mem _ hb)) k4,k5.row (hIf _ (by rw [k3]; exact List.mem_cons_self))⟩
  have hptr:l.nil = false->∀ off,VRp w (Imm G (frzσ id (frzL ob.xs) st.σ) D'.fp w) D'.M (.c (.ptr ((frzL ob.xs).drop off))) (.pointer (some ⟨l.b,l.off + off,none⟩)):=fun hn off=>by
    simp only [VRp,Rp]
    rcases hob with ⟨k1,_⟩ | ⟨k1,k2,vs,f,k3,k4,k5,_⟩
    · rw [hn] at k1; cases k1
    · refine⟨trivial,l.b,l.off + off,vs.drop off,rfl,(RpL.frz hI _ _ _ (fun b hb=>hIf b (by rw [k3]; exact List.mem_cons_of_mem _ hb)) k4).drop off,?_⟩
      intro i v hv
      rw [List.getElem?_drop] at hv
      exact⟨l.b,l.off + off,rfl,hIf _ (by rw [k3]; exact List.mem_cons_self),by rw [Nat.add_assoc]; exact k5.cell hv,k5.one hv⟩
  have hM : ∀ i m,i≠id->D.M i = some m->D'.M i = some m:=fun i m h hm=>by rw [hMo i h]; exact hm
  refine⟨D',⟨?_,?_,?_,?_,?_,?_,?_,hr.frame,hr.size,hr.os,hr.tape,hr.output,hr.ntmps,hr.defers⟩,?_,hFo⟩
  · intro p hp
    obtain⟨h1,q,hq,h3,h4,h5⟩:=mem_frzσ hp
    obtain⟨m,e1,e2⟩:=hr.obs q hq
    rw [h3] at e1 e2
    refine⟨m,by rw [hMo p.1 h1]; exact e1,?_⟩
    rw [hFo p.1 h1]
    rcases e2 with ⟨f1,f2,f3,f4⟩ | ⟨f1,f2,vs,f,f3,f4,f5,f6⟩
    · exact .inl ⟨f1,by rw [h4]; exact f2,by rw [h5,f3]; rfl,f4⟩
    · refine .inr ⟨f1,by rw [h4]; exact f2,vs,f,f3,by rw [h4]; exact RpL.frame hI (fun _ _=>rfl) _ _ _ (fun _ _=>rfl) f4,f5,?_⟩
      intro x hx
      rw [h5] at hx
      obtain⟨y,hy,rfl⟩:=mem_frzE hx
      obtain⟨v,g1,g2⟩:=f6 y hy
      exact⟨v,g1,VRp.frzV hI hl hM hlst hptr _ _ g2⟩
  · intro i hi
    by_cases e:i = id
    · subst e; exact⟨if_pos rfl,if_pos rfl⟩
    · have hn : ∀ p ∈ st.σ,p.1≠i:=fun p hp he=>by
        obtain⟨p',h1,h2⟩:=key_in_frzσ (xs:=frzL ob.xs) e ⟨p,hp,he⟩
        exact hi p' h1 h2
      have:=hr.dom i hn
      exact⟨by rw [hMo i e]; exact this.1,by rw [hFo i e]; exact this.2⟩
  · exact List.Sublist.nodup keys_frzσ hr.nodup
  · intro p hp
    obtain⟨h1,q,hq,h3,_⟩:=mem_frzσ hp
    rw [hFo p.1 h1,<- h3]; exact hr.disj1 q hq
  · intro p hp p2 hp2 hne b hb hb2
    obtain⟨h1,q,hq,h3,_⟩:=mem_frzσ hp
    obtain⟨k1,q2,hq2,k3,_⟩:=mem_frzσ hp2
    rw [hFo p.1 h1,<- h3] at hb
    rw [hFo p2.1 k1,<- k3] at hb2
    exact hr.disj2 q hq q2 hq2 (by rw [h3,k3]; exact hne) b hb hb2
  · intro i v hv
    obtain⟨u,h1,rfl⟩:=lk_frzE hv
    obtain⟨x,e1,e2⟩:=hr.env i u h1
    exact⟨x,e1,VRp.frzV hI hl hM hlst hptr _ _ e2⟩
  · intro p hp b hb
    obtain⟨h1,q,hq,h3,_⟩:=mem_frzσ hp
    rw [hFo p.1 h1,<- h3] at hb; exact hr.own q hq b hb
  · intro p hp b hb
    obtain⟨h1,_⟩:=mem_frzσ hp
    rw [hFo p.1 h1] at hb; exact .inl hb
theorem gh_freeze {st:St} {id:Nat} {ob:Ob} (ho:lko id st.σ = some ob) (hh:ob.holes = []):Gh [] st ⟨frzσ id (frzL ob.xs) st.σ,frzE id (frzL ob.xs) st.env,st.n⟩:=fun D G a w hr=>
  let ⟨D',h1,h2,_⟩:=freeze_core ho hh D G a w hr
  ⟨D',h1,h2⟩
theorem Rep.newNil {D:Data} {G:Glob} {st:St} {a:Act} {w:World} (h:Rep D G st a w) {id:Nat} (hid:fresh id st.σ = true) :
    ∃ D',Rep D' G ⟨(id,⟨[],[]⟩) :: st.σ,st.env,st.n⟩ a w/\D'.M id = some ⟨0,0,0,0,true⟩/\(∀ i l,D.M i = some l->D'.M i = some l)/\
      (∀ b,Imm G st.σ D.fp w b->Imm G ((id,⟨[],[]⟩) :: st.σ) D'.fp w b)/\∀ p ∈ ((id,(⟨[],[]⟩ : Ob)) :: st.σ),∀ b ∈ D'.fp p.1,b ∈ D.fp p.1:=by
  have hfr:=fresh_spec hid
  have h0:=h.dom id hfr
  have hfp:upd D.fp id [] = D.fp:=funext fun i=>by unfold upd; split <;> simp_all
  have hM : ∀ i l,D.M i = some l->upd D.M id (some ⟨0,0,0,0,true⟩) i = some l:=fun i l hi=>by rw [upd_other _ _ (fun e=>by subst e; rw [h0.1] at hi; cases hi)]; exact hi
  have hI : ∀ b,Imm G st.σ D.fp w b->Imm G ((id,⟨[],[]⟩) :: st.σ) D.fp w b:=fun b hb=>⟨hb.1,hb.2.1,fun p hp=>by
    rcases List.mem_cons.1 hp with rfl | hp
    · simp [h0.2]
    · exact hb.2.2 p hp⟩
  refine⟨⟨upd D.M id (some ⟨0,0,0,0,true⟩),D.fp⟩,⟨?_,?_,?_,?_,?_,?_,?_,h.frame,h.size,h.os,h.tape,h.output,h.ntmps,h.defers⟩,upd_same _ _ _,hM,hI,fun p _ b hb=>hb⟩
  · intro p hp
    rcases List.mem_cons.1 hp with rfl | hp
    · exact⟨_,upd_same _ _ _,.inl ⟨rfl,rfl,rfl,h0.2⟩⟩
    · obtain⟨l,h1,h2⟩:=h.obs p hp
      exact⟨l,hM _ _ h1,h2.frame hI (fun _ _=>rfl) hM (fun _ _=>rfl)⟩
  · intro i hi
    have h2:=h.dom i fun p hp=>hi p (List.mem_cons_of_mem _ hp)
    exact⟨by show upd D.M id _ i = none; rw [upd_other _ _ (fun e=>hi _ List.mem_cons_self e.symm)]; exact h2.1,h2.2⟩
  · simp only [List.map_cons,List.nodup_cons]
    exact⟨fun hm=>by obtain⟨p,hp,e⟩:=List.mem_map.1 hm; exact hfr p hp e,h.nodup⟩
  · intro p hp
    rcases List.mem_cons.1 hp with rfl | hp
    · simp [h0.2]
    · exact h.disj1 p hp
  · intro p hp q hq hne b hb hb2
    rcases List.mem_cons.1 hp with rfl | hp
    · simp [h0.2] at hb
    · rcases List.mem_cons.1 hq with rfl | hq
      · simp [h0.2] at hb2
      · exact h.disj2 p hp q hq hne b hb hb2
  · intro i v hv
    obtain⟨x,h1,h2⟩:=h.env i v hv
    exact⟨x,h1,VRp.frame hI (fun _ _=>rfl) hM _ _ h2⟩
  · intro p hp b hb
    rcases List.mem_cons.1 hp with rfl | hp
    · simp [h0.2] at hb
    · exact h.own p hp b hb
theorem gh_nilE {st:St} {i id:Nat} (hi:lk i st.env = some (.c (.val (.slice none 0 0)))) (hid:fresh id st.σ = true):Gh [] st ⟨(id,⟨[],[]⟩) :: st.σ,(i,.ref id) :: st.env,st.n⟩:=by
  intro D G a w hr
  obtain⟨D',h1,h2,h3,h4,h5⟩:=hr.newNil hid
  refine⟨D',⟨h1.obs,h1.dom,h1.nodup,h1.disj1,h1.disj2,?_,h1.own,h1.frame,h1.size,h1.os,h1.tape,h1.output,h1.ntmps,h1.defers⟩,fun p hp b hb=>.inl (h5 p hp b hb)⟩
  intro j v hv
  simp only [lk] at hv
  cases hb:Nat.beq i j with
  | true=>
    rw [hb] at hv
    simp only [cond_true,Option.some.injEq] at hv
    have:i = j:=Nat.eq_of_beq_eq_true hb
    subst this; subst hv
    obtain⟨x,e1,e2⟩:=hr.env i _ hi
    simp only [VRp,Rp] at e2
    exact⟨x,e1,by simp only [VRp]; exact⟨_,h2,e2.1⟩⟩
  | false=>rw [hb] at hv; exact h1.env j v hv
theorem gh_nilH {st:St} {id0 j id:Nat} {ob:Ob} (ho:lko id0 st.σ = some ob) (hj:ob.xs[j]? = some (.val (.slice none 0 0))) (_hh:lk j ob.holes = none) (hid:fresh id st.σ = true) :
    Gh [] st ⟨so id0 ⟨ob.xs.set j .hole,(j,.ref id) :: ob.holes⟩ ((id,⟨[],[]⟩) :: st.σ),st.env,st.n⟩:=by
  intro D G a w hr
  obtain⟨D',h1,h2,h3,h4,h5⟩:=hr.newNil hid
  have hne:Nat.beq id id0 = false:=by
    cases hb:Nat.beq id id0 with
    | false=>rfl
    | true=>exact absurd (Nat.eq_of_beq_eq_true hb).symm (fresh_spec hid _ (mem_of_lko ho))
  have ho' : lko id0 ((id,⟨[],[]⟩) :: st.σ) = some ob:=by simp only [lko,hne]; exact ho
  obtain⟨l,hl,hob⟩:=h1.obs _ (mem_of_lko ho')
  simp only at hl hob
  rcases hob with ⟨_,k2,_⟩ | ⟨k1,k2,vs,f,k3,k4,k5,k6⟩
  · rw [k2] at hj; simp at hj
  · obtain⟨v,g,e1,e2,e3⟩:=k4.get hj
    simp only [Rp] at e3
    have hjl:j < ob.xs.length:=(List.getElem?_eq_some_iff.1 hj).1
    obtain⟨g',f1,f2,q1,q2⟩:=RpL.exch k4 hjl (x':=.hole) (v':=v) (f':=[]) (by simp [Rp])
    have hset:vs.set j v = vs:=by
      apply List.ext_getElem?
      intro i
      rw [List.getElem?_set]
      split
      · rename_i e; subst e; rw [e1]; simp [(List.getElem?_eq_some_iff.1 e1).1]
      · rfl
    rw [hset] at q2
    have hnd:(l.b :: f).Nodup:=by have:=h1.disj1 _ (mem_of_lko ho'); simp only at this; rwa [k3] at this
    have hsub:(f1 ++ [] ++ f2).Sublist f:=by rw [q1,List.append_nil,List.append_assoc]; exact List.Sublist.append_left (List.sublist_append_right g' f2) f1
    have hb0:=List.nodup_cons.1 hnd
    obtain⟨D2,r1,r2,r3,_⟩:=h1.mod (id:=id0) (ob:=ob) (ob':=⟨ob.xs.set j .hole,(j,.ref id) :: ob.holes⟩) (l:=l) (l':=l) (w':=w) (F:=l.b :: (f1 ++ [] ++ f2)) (ids:=[]) (drop:=[]) ho' hl (by simp) (by simp) (.inl rfl) (Nat.le_refl _) rfl rfl rfl (fun _ _ _=>rfl)
      (List.nodup_cons.2 ⟨fun hm=>hb0.1 (hsub.subset hm),hsub.nodup hb0.2⟩)
      (fun b hb=>.inl (by
        rcases List.mem_cons.1 hb with rfl | hb
        · rw [k3]; exact List.mem_cons_self
        · rw [k3]; exact List.mem_cons_of_mem _ (hsub.subset hb)))
      (by
        intro I' hI' M' hM'
        refine .inr ⟨k1,by simp [k2],vs,_,rfl,RpL.frame hI' (fun _ _=>rfl) _ _ _ (fun _ _=>rfl) q2,k5,?_⟩
        intro x hx
        rcases List.mem_cons.1 hx with rfl | hx
        · exact⟨v,e1,by simp only [VRp]; exact⟨_,hM' id _ (by simp) h2,e3.1⟩⟩
        · obtain⟨u,g3,g4⟩:=k6 x hx
          exact⟨u,g3,VRp.frameM hI' (fun _ _=>rfl) _ _ (fun i _ m hm=>hM' i m (by simp) hm) g4⟩)
    rw [mo_nil,killE_nil] at r1 r3
    refine⟨D2,r1,fun p hp b hb=>?_⟩
    rcases r3.own p hp b hb (r1.lt hp hb) with e | ⟨k,hk,_⟩
    · obtain⟨q,hq,e'⟩:=h1.fpkey e
      exact .inl (by have:=h5 q hq b (by rw [e']; exact e); rw [e'] at this; exact this)
    · cases hk
end Go.Proofs.YtjolbldlhjfciaaGreatDoor
