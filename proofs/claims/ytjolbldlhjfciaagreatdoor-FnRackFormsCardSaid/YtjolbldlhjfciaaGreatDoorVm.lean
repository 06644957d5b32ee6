/- The value layer: how a contract that turns its arguments is entered and left, parts of objects opened; no condition. -/
import Derived.Test.YtjolbldlhjfciaaGreatDoorVl
namespace Go.Proofs.YtjolbldlhjfciaaGreatDoor
theorem RpL.part {w:World} {I:Nat->Prop} : ∀ {xs:List C} {vs:List Value} {fp:List Nat} (_:RpL w I xs vs fp) {i:Nat} {x:C} (_:xs[i]? = some x),
    ∃ v g f1 f2,vs[i]? = some v/\fp = f1 ++ g ++ f2/\Rp w I x v g/\∀ x' f',Rp w I x' v f'->RpL w I (xs.set i x') vs (f1 ++ f' ++ f2)
  | [],vs,fp,_,i,x,hx=>by simp at hx
  | y :: xs,vs,fp,h,i,x,hx=>by
    simp only [RpL] at h
    obtain⟨v,vs',f,f',h1,h2,h3,h4⟩:=h
    subst h1 h2
    cases i with
    | zero=>
      simp at hx; subst hx
      exact⟨v,f,[],f',by simp,by simp,h3,fun x' g hg=>by simp only [List.set_cons_zero,RpL]; exact⟨v,vs',g,f',rfl,by simp,hg,h4⟩⟩
    | succ i=>
      obtain⟨u,g,f1,f2,e1,e2,e3,e4⟩:=RpL.part h4 (i:=i) (by simpa using hx)
      exact⟨u,g,f ++ f1,f2,by simpa using e1,by simp [e2],e3,fun x' g' hg=>by
        simp only [List.set_cons_succ,RpL]; exact⟨v,vs',f,f1 ++ g' ++ f2,rfl,by simp,h3,e4 x' g' hg⟩⟩
theorem open_core {st:St} {id j:Nat} (id2:Nat) {ob:Ob} {ys:List C} (ho:lko id st.σ = some ob) (hj:ob.xs[j]? = some (.own ys)) (hid:fresh id2 st.σ = true) {D:Data} {G:Glob} {a:Act} {w:World} (hr:Rep D G st a w) :
    ∃ D',Rep D' G ⟨(id2,⟨ys,[]⟩) :: upσ [(id,⟨ob.xs.set j .hole,(j,.ref id2) :: ob.holes⟩)] st.σ,st.env,st.n⟩ a w/\
      (∀ p ∈ (id2,(⟨ys,[]⟩ : Ob)) :: upσ [(id,⟨ob.xs.set j .hole,(j,.ref id2) :: ob.holes⟩)] st.σ,∀ b ∈ D'.fp p.1,b ∈ D.fp p.1\/∃ i ∈ [id],b ∈ D.fp i)/\∀ k,k≠id->k≠id2->D'.fp k = D.fp k:=by
  have hidm:=mem_of_lko ho
  obtain⟨l,hl,hob⟩:=hr.obs _ hidm
  simp only at hl hob
  have hfr:=fresh_spec hid
  have hne:id≠id2:=fun e=>hfr _ hidm e
  rcases hob with ⟨_,h2,_⟩ | ⟨h1,h2,vs,f,h3,h4,h5,h6⟩
  · rw [h2] at hj; simp at hj
  obtain⟨v,g,f1,f2,e1,e2,e3,e4⟩:=h4.part hj
  obtain⟨l2,hv2,hob2⟩ : ∃ l2:Loc,v = l2.slice/\ObRp w (Imm G st.σ D.fp w) (fun _=>none) l2 ⟨ys,[]⟩ g:=by
    simp only [Rp] at e3
    rcases e3 with ⟨rfl,k1,k2⟩ | ⟨b,off,cap,us,f',k1,k2,k3,k4⟩
    · exact⟨⟨0,0,0,0,true⟩,k1,.inl ⟨rfl,rfl,rfl,k2⟩⟩
    · exact⟨⟨b,off,ys.length,cap,false⟩,k1,.inr ⟨rfl,rfl,us,f',k2,k3,k4,by intro q hq; cases hq⟩⟩
  have hnd:(l.b :: f).Nodup:=by have:=hr.disj1 _ hidm; simp only at this; rwa [h3] at this
  have hfp0:D.fp id2 = []:=(hr.dom id2 hfr).2
  have hM0:D.M id2 = none:=(hr.dom id2 hfr).1
  let D' : Data:=⟨upd D.M id2 (some l2),upd (upd D.fp id (l.b :: (f1 ++ f2))) id2 g⟩
  have F2:D'.fp id2 = g:=upd_same _ _ _
  have F1:D'.fp id = l.b :: (f1 ++ f2):=by show upd (upd D.fp id _) id2 g id = _; rw [upd_other _ _ hne,upd_same]
  have Fo : ∀ k,k≠id->k≠id2->D'.fp k = D.fp k:=fun k h1 h2=>by show upd (upd D.fp id _) id2 g k = _; rw [upd_other _ _ h2,upd_other _ _ h1]
  have Mo : ∀ k m,D.M k = some m->D'.M k = some m:=fun k m hk=>by show upd D.M id2 _ k = _; rw [upd_other _ _ (fun e=>by subst e; rw [hM0] at hk; cases hk)]; exact hk
  have hgf : ∀ b ∈ g,b ∈ D.fp id:=fun b hb=>by rw [h3,e2]; simp [hb]
  have h1f : ∀ b ∈ l.b :: (f1 ++ f2),b ∈ D.fp id:=fun b hb=>by
    rw [h3,e2]; simp only [List.mem_cons,List.mem_append] at hb ⊢; rcases hb with hb | hb | hb <;> simp [hb]
  have hcase : ∀ p ∈ (id2,(⟨ys,[]⟩ : Ob)) :: upσ [(id,⟨ob.xs.set j .hole,(j,.ref id2) :: ob.holes⟩)] st.σ,p = (id2,⟨ys,[]⟩)\/p = (id,⟨ob.xs.set j .hole,(j,.ref id2) :: ob.holes⟩)\/(p ∈ st.σ/\p.1≠id/\p.1≠id2):=fun p hp=>by
    rcases List.mem_cons.1 hp with hp | hp
    · exact .inl hp
    · rcases mem_upσ hp with hp | ⟨hp,hn⟩
      · exact .inr (.inl (by simpa using hp))
      · exact .inr (.inr ⟨hp,by simpa using hn,hfr p hp⟩)
  have hfsub : ∀ p ∈ (id2,(⟨ys,[]⟩ : Ob)) :: upσ [(id,⟨ob.xs.set j .hole,(j,.ref id2) :: ob.holes⟩)] st.σ,∀ b ∈ D'.fp p.1,∃ q ∈ st.σ,b ∈ D.fp q.1/\(p.1 = id2->q.1 = id)/\(p.1≠id2->q.1 = p.1):=fun p hp b hb=>by
    rcases hcase p hp with rfl | rfl | ⟨h7,h8,h9⟩
    · exact⟨_,hidm,hgf b (by simp only [F2] at hb; exact hb),fun _=>rfl,fun h=>absurd rfl h⟩
    · exact⟨_,hidm,h1f b (by simp only [F1] at hb; exact hb),fun _=>rfl,fun _=>rfl⟩
    · exact⟨p,h7,by rw [Fo p.1 h8 h9] at hb; exact hb,fun h=>absurd h h9,fun _=>rfl⟩
  have hI : ∀ b,Imm G st.σ D.fp w b->Imm G ((id2,⟨ys,[]⟩) :: upσ [(id,⟨ob.xs.set j .hole,(j,.ref id2) :: ob.holes⟩)] st.σ) D'.fp w b:=fun b hb=>⟨hb.1,hb.2.1,fun p hp hbp=>by
    obtain⟨q,hq,h7,_⟩:=hfsub p hp b hbp
    exact hb.2.2 q hq h7⟩
  have hb0:=List.nodup_cons.1 hnd
  have hsubl:(f1 ++ f2).Sublist f:=by rw [e2,List.append_assoc]; exact List.Sublist.append_left (List.sublist_append_right g f2) f1
  have hg1 : ∀ b ∈ g,b ∉ l.b :: (f1 ++ f2):=fun b hb hm=>by
    rw [e2] at hb0
    rcases List.mem_cons.1 hm with rfl | hm
    · exact hb0.1 (by simp [hb])
    · obtain⟨n1,n2,n3⟩:=List.nodup_append.1 hb0.2
      obtain⟨n4,n5,n6⟩:=List.nodup_append.1 n1
      rcases List.mem_append.1 hm with hm | hm
      · exact n6 b hm b hb rfl
      · exact n3 b (List.mem_append_right _ hb) b hm rfl
  refine⟨D',⟨?_,?_,?_,?_,?_,?_,?_,hr.frame,hr.size,hr.os,hr.tape,hr.output,hr.ntmps,hr.defers⟩,?_,Fo⟩
  · intro p hp
    rcases hcase p hp with rfl | rfl | ⟨h7,h8,h9⟩
    · refine⟨l2,upd_same _ _ _,?_⟩
      simp only [F2]
      exact hob2.frame hI (fun _ _=>rfl) (fun _ _ h=>by cases h) (fun _ _=>rfl)
    · refine⟨l,Mo _ _ hl,?_⟩
      simp only [F1]
      refine .inr ⟨h1,by simpa using h2,vs,f1 ++ f2,rfl,RpL.frame hI (fun _ _=>rfl) _ _ _ (fun _ _=>rfl) (by have:=e4 .hole [] (by simp [Rp]); simpa using this),h5,?_⟩
      intro q hq
      rcases List.mem_cons.1 hq with rfl | hq
      · exact⟨v,e1,by simp only [VRp]; exact⟨l2,upd_same _ _ _,hv2⟩⟩
      · obtain⟨u,g1,g2⟩:=h6 q hq
        exact⟨u,g1,VRp.frame hI (fun _ _=>rfl) Mo _ _ g2⟩
    · obtain⟨m,g1,g2⟩:=hr.obs p h7
      exact⟨m,Mo _ _ g1,by rw [Fo _ h8 h9]; exact g2.frame hI (fun _ _=>rfl) Mo (fun _ _=>rfl)⟩
  · intro i hi
    have h7:i≠id2:=fun e=>hi _ List.mem_cons_self e.symm
    have h8 : ∀ p ∈ st.σ,p.1≠i:=fun p hp e=>by
      have:i ∈ (upσ [(id,(⟨ob.xs.set j .hole,(j,.ref id2) :: ob.holes⟩ : Ob))] st.σ).map (·.1):=by rw [keys_upσ]; exact List.mem_map.2 ⟨p,hp,e⟩
      obtain⟨q,hq,e2⟩:=List.mem_map.1 this
      exact hi q (List.mem_cons_of_mem _ hq) e2
    have h9:=hr.dom i h8
    exact⟨by show upd D.M id2 _ i = none; rw [upd_other _ _ h7]; exact h9.1,by rw [Fo i (fun e=>h8 _ hidm e.symm) h7]; exact h9.2⟩
  · simp only [List.map_cons,keys_upσ]
    exact List.nodup_cons.2 ⟨fun hm=>by obtain⟨p,hp,e⟩:=List.mem_map.1 hm; exact hfr p hp e,hr.nodup⟩
  · intro p hp
    rcases hcase p hp with rfl | rfl | ⟨h7,h8,h9⟩
    · simp only [F2]
      have h10:=hb0.2
      rw [e2] at h10
      exact (List.nodup_append.1 (List.nodup_append.1 h10).1).2.1
    · simp only [F1]
      exact List.nodup_cons.2 ⟨fun hm=>hb0.1 (hsubl.subset hm),hsubl.nodup hb0.2⟩
    · rw [Fo _ h8 h9]; exact hr.disj1 p h7
  · intro p hp q hq hpq b hb hb2
    rcases hcase p hp with rfl | rfl | ⟨h7,h8,h9⟩
    · simp only [F2] at hb
      rcases hcase q hq with rfl | rfl | ⟨k7,k8,k9⟩
      · exact hpq rfl
      · simp only [F1] at hb2; exact hg1 b hb hb2
      · rw [Fo _ k8 k9] at hb2; exact hr.disj2 _ hidm q k7 (fun e=>k8 e.symm) b (hgf b hb) hb2
    · simp only [F1] at hb
      rcases hcase q hq with rfl | rfl | ⟨k7,k8,k9⟩
      · simp only [F2] at hb2; exact hg1 b hb2 hb
      · exact hpq rfl
      · rw [Fo _ k8 k9] at hb2; exact hr.disj2 _ hidm q k7 (fun e=>k8 e.symm) b (h1f b hb) hb2
    · rw [Fo _ h8 h9] at hb
      rcases hcase q hq with rfl | rfl | ⟨k7,k8,k9⟩
      · simp only [F2] at hb2; exact hr.disj2 p h7 _ hidm h8 b hb (hgf b hb2)
      · simp only [F1] at hb2; exact hr.disj2 p h7 _ hidm h8 b hb (h1f b hb2)
      · rw [Fo _ k8 k9] at hb2; exact hr.disj2 p h7 q k7 hpq b hb hb2
  · intro i u hu
    obtain⟨x,g1,g2⟩:=hr.env i u hu
    exact⟨x,g1,VRp.frame hI (fun _ _=>rfl) Mo _ _ g2⟩
  · intro p hp b hb
    obtain⟨q,hq,h7,_⟩:=hfsub p hp b hb
    exact hr.own q hq b h7
  · intro p hp b hb
    obtain⟨q,hq,h7,h8,h9⟩:=hfsub p hp b hb
    by_cases he:p.1 = id2
    · rw [h8 he] at h7; exact .inr ⟨id,by simp,h7⟩
    · rw [h9 he] at h7; exact .inl h7
theorem gh_open {st:St} {id j:Nat} (id2:Nat) {ob:Ob} {ys:List C} (ho:lko id st.σ = some ob) (hj:ob.xs[j]? = some (.own ys)) (hid:fresh id2 st.σ = true) :
    Gh [id] st ⟨(id2,⟨ys,[]⟩) :: upσ [(id,⟨ob.xs.set j .hole,(j,.ref id2) :: ob.holes⟩)] st.σ,st.env,st.n⟩:=fun _ _ _ _ hr=>
  let ⟨D',h1,h2,_⟩:=open_core id2 ho hj hid hr
  ⟨D',h1,h2⟩
theorem rd_open {P:Program} {ops:Array Oper} {kd:Nat->Nat} {X:List Nat} {K:St->Prop} {st:St} {l:List Nat} {id j:Nat} (id2:Nat) {ob:Ob} {ys:List C} (ho:lko id st.σ = some ob) (hj:ob.xs[j]? = some (.own ys)) (hid:fresh id2 st.σ = true)
    (hX:memN id X = false) (hX2:memN id2 X = false) (h:RunD P ops kd X K l ⟨(id2,⟨ys,[]⟩) :: upσ [(id,⟨ob.xs.set j .hole,(j,.ref id2) :: ob.holes⟩)] st.σ,st.env,st.n⟩):RunD P ops kd X K l st:=
  rd_gh (fun _ _ _ _ hr=>let ⟨D',h1,_,h2⟩:=open_core id2 ho hj hid hr
    ⟨D',h1,fun k hk=>h2 k (fun e=>by subst e; rw [memN_spec.2 hk] at hX; cases hX) (fun e=>by subst e; rw [memN_spec.2 hk] at hX2; cases hX2)⟩) h
def initV:Nat->List V->List (Nat × V)
  | _,[]=>[]
  | k,v :: vs=>(k,v) :: initV (k + 1) vs
theorem lk_initV {i:Nat} {v:V} : ∀ {vs:List V} {k:Nat},lk i (initV k vs) = some v->∃ j,i = k + j/\vs[j]? = some v
  | [],k,h=>by simp [initV,lk] at h
  | c :: cs,k,h=>by
    simp only [initV,lk] at h
    cases hb:Nat.beq k i with
    | true=>
      rw [hb] at h
      simp only [cond_true,Option.some.injEq] at h
      exact⟨0,(Nat.eq_of_beq_eq_true hb).symm,by simp [h]⟩
    | false=>
      rw [hb] at h
      obtain⟨j,h1,h2⟩:=lk_initV (vs:=cs) (k:=k + 1) h
      exact⟨j + 1,by omega,by simpa using h2⟩
def apE:List (Nat × V)->List (Nat × V)->List (Nat × V)
  | [],f=>f
  | q :: r,f=>q :: apE r f
theorem lk_apE {i:Nat} {v:V} {f:List (Nat × V)} : ∀ {e:List (Nat × V)},lk i (apE e f) = some v->lk i e = some v\/lk i f = some v
  | [],h=>.inr h
  | q :: r,h=>by
    simp only [apE,lk] at h ⊢
    cases hb:Nat.beq q.1 i with
    | true=>rw [hb] at h; exact .inl h
    | false=>rw [hb] at h; exact lk_apE h
def gl (env:List (Nat × V)) (i:Nat):Nat->List V
  | 0=>[]
  | m + 1=>(match lk i env with | some v=>v | none=>.c .hole) :: gl env (i + 1) m
section
variable {P:Program} {st:St}
def RetAM (P:Program) (fn:Func) (Q:C->List C->Prop) (n m:Nat):Exit->St->Prop
  | .normal,st | .ret,st=>∃ v r outs ids,RetV P fn st v/\hvL st.σ (v :: gl st.env n m) = some (r :: outs,ids)/\nodupB ids = true/\Q r outs/\st.n = n
  | _,_=>False
theorem retAM_mk {fn:Func} {Q:C->List C->Prop} {n m:Nat} {v:V} {r:C} {outs:List C} {ids:List Nat} (h1:RetV P fn st v) (h2:hvL st.σ (v :: gl st.env n m) = some (r :: outs,ids)) (h3:nodupB ids = true) (h5:st.n = n) (h4:Q r outs):RetAM P fn Q n m .ret st:=⟨v,r,outs,ids,h1,h2,h3,h4,h5⟩
theorem retAM_mkN {fn:Func} {Q:C->List C->Prop} {n m:Nat} {v:V} {r:C} {outs:List C} {ids:List Nat} (h1:RetV P fn st v) (h2:hvL st.σ (v :: gl st.env n m) = some (r :: outs,ids)) (h3:nodupB ids = true) (h5:st.n = n) (h4:Q r outs):RetAM P fn Q n m .normal st:=⟨v,r,outs,ids,h1,h2,h3,h4,h5⟩
theorem am_enter {f : Nat} {fn : Func} {c : Code} {args : List C} {Q : C -> List C -> Prop} (hf : P.funcs[f]? = some fn) (hb : fn.body = some c) (he : (fn.name == "runtime.NumGoroutine") = false) {n m : Nat} (hn : fn.ntmps = n) (hm : args.length = m) (hl : m <= n) (ids : List Nat) (hid : nodupB ids = true)
    (h:AW P c (RetAM P fn Q n m) ⟨(opnL args ids).2.1,apE (initV 0 (opnL args ids).1) (initV n (opnL args ids).1),n⟩):AM P f args Q:=by
  refine⟨by simp [EntB,hf,hb,he],fun w I vals fp hI hdj hnd hv=>?_⟩
  refine calls_of_wp hf hb ?_
  have hvl:=hv.length
  obtain⟨L,e1,e2,e3,e4⟩:=opnL_spec args ids vals fp hv hnd
  have hkeys:((opnL args ids).2.1.map (·.1)).Nodup:=by have:=nodupB_spec hid; rw [e4] at this; exact (List.nodup_append.1 this).1
  obtain⟨Mn,fpn,f1,f2,f3⟩:=e1.find hkeys
  generalize hopn:opnL args ids = o at *
  obtain⟨vs,os,rest⟩:=o
  simp only at *
  let D:Data:=⟨fun k=>if k ∈ os.map (·.1) then Mn k else none,fun k=>if k ∈ os.map (·.1) then fpn k else []⟩
  have hin : ∀ p ∈ os,p.1 ∈ os.map (·.1):=fun p hp=>List.mem_map.2 ⟨p,hp,rfl⟩
  have hDM : ∀ p ∈ os,D.M p.1 = Mn p.1:=fun p hp=>if_pos (hin p hp)
  have hDF : ∀ p ∈ os,D.fp p.1 = fpn p.1:=fun p hp=>if_pos (hin p hp)
  have hsub : ∀ p ∈ os,∀ b ∈ fpn p.1,b ∈ fp:=fun p hp b hb=>by obtain⟨_,_,_,_,g⟩:=f2 p hp; exact e2.subset (g.subset hb)
  let G:Glob:=⟨w,fun b=>b ∈ fp,I,fun i=>vals[i - n]?,[]⟩
  have hImm : ∀ b,I b->Imm G os D.fp w b:=fun b hb=>⟨.inl hb,hI b hb,fun p hp hbp=>by rw [hDF p hp] at hbp; exact hdj b (hsub p hp b hbp) hb⟩
  have hlen : ∀ (vs:List V) (xs:List Value) (M:Nat->Option Loc),VRpL w I M vs xs->vs.length = xs.length:=by
    intro vs
    induction vs with
    | nil=>intro xs M h; simp only [VRpL] at h; simp [h]
    | cons v vs ih=>intro xs M h; simp only [VRpL] at h; obtain⟨x,xs',rfl,_,h3⟩:=h; simp [ih _ _ h3]
  have hvals:VRpL w I D.M vs vals:=e3 D.M fun q hq=>by
    have : ∀ (os:List (Nat × Ob)) (L:List (Loc × List Nat)),∀ q ∈ locs os L,q.1 ∈ os.map (·.1):=by
      intro os
      induction os with
      | nil=>intro L q hq; simp [locs] at hq
      | cons p r ih=>
        intro L q hq
        cases L with
        | nil=>simp [locs] at hq
        | cons s L=>
          simp only [locs] at hq
          rcases List.mem_cons.1 hq with rfl | hq
          · simp
          · rw [List.map_cons]; exact List.mem_cons_of_mem _ (ih L q hq)
    show (if q.1 ∈ os.map (·.1) then Mn q.1 else none) = _
    rw [if_pos (this os L q hq)]; exact f1 q hq
  have hvsl:=hlen vs vals _ hvals
  have hvals' : VRpL w (Imm G os D.fp w) D.M vs vals:=VRpL.frame hImm (fun _ _=>rfl) (fun _ _ h=>h) _ _ hvals
  have hr:Rep D G ⟨os,apE (initV 0 vs) (initV n vs),n⟩ { tmps:=vals.toArray ++ Array.replicate (fn.ntmps - vals.toArray.size) undef,defers:=[] } w:=by
    refine⟨?_,?_,hkeys,?_,?_,?_,?_,fun _ _ _=>rfl,Nat.le_refl _,rfl,rfl,rfl,by simp; omega,rfl⟩
    · intro p hp
      obtain⟨l,g1,g2,g3,_⟩:=f2 p hp
      refine⟨l,by rw [hDM p hp]; exact g1,?_⟩
      rw [hDF p hp]
      exact g3.frame hImm (fun _ _=>rfl) (fun _ _ h=>by cases h) (fun _ _=>rfl)
    · intro i hi
      have:i ∉ os.map (·.1):=fun hm=>by obtain⟨p,hp,e⟩:=List.mem_map.1 hm; exact hi p hp e
      exact⟨if_neg this,if_neg this⟩
    · intro p hp; rw [hDF p hp]; obtain⟨_,_,_,_,g⟩:=f2 p hp; exact (g.trans e2).nodup hnd
    · intro p hp q hq hne b hb hb2
      rw [hDF p hp] at hb; rw [hDF q hq] at hb2
      exact f3 (e2.nodup hnd) p hp q hq hne b hb hb2
    · intro i v hiv
      rcases lk_apE hiv with h7 | h7
      · obtain⟨j,h1,h2⟩:=lk_initV h7
        obtain⟨x,k1,k2⟩:=VRpL.get hvals' h2
        have hj:j < vals.length:=(List.getElem?_eq_some_iff.1 k1).1
        refine⟨x,?_,k2⟩
        simp only [slot,h1,Nat.zero_add,show Nat.blt j n = true by simp; omega,cond_true]
        rw [Array.getElem?_append_left (by simpa using hj)]
        simpa using k1
      · obtain⟨j,h1,h2⟩:=lk_initV h7
        obtain⟨x,k1,k2⟩:=VRpL.get hvals' h2
        refine⟨x,?_,k2⟩
        have hge:Nat.blt (n + j) n = false:=Bool.eq_false_iff.2 (by simp)
        simp only [slot,h1,hge,cond_false,G]
        rw [Nat.add_sub_cancel_left]; exact k1
    · intro p hp b hb; rw [hDF p hp] at hb; exact .inl (hsub p hp b hb)
  refine wp_mono (wpIn_wide.1 (h.out G D _ _ hr none)) fun e a' w' ⟨D',st',hq,hr'⟩=>?_
  have fin : ∀ v r outs ids,RetV P fn st' v->hvL st'.σ (v :: gl st'.env n m) = some (r :: outs,ids)->nodupB ids = true->Q r outs->st'.n = n->a'.defers = []/\∃ x,(results fn a'.tmps).run P w' = .ok x w'/\
      (∃ r outs y fz,Ending.returned x = .returned y/\Q r outs/\RpL w' (fun b=>I b\/((b ∈ fp\/w.heap.size<=b)/\b < w'.heap.size/\b ∉ fz)) (r :: outs) (y :: vals) fz/\fz.Nodup/\(∀ b ∈ fz,b ∈ fp\/w.heap.size<=b)/\
      w.heap.size<=w'.heap.size/\(∀ b,b < w.heap.size->b ∉ fp->w'.heap[b]? = w.heap[b]?)/\w'.os = w.os/\w'.tape = w.tape/\w'.output = w.output):=by
    intro v r outs ids h1 h2 h3 h4 h5
    obtain⟨x,k1,k2⟩:=h1 D' _ a' w' hr'
    have hgl : ∀ (m i:Nat),n<=i->(i - n) + m = vals.length->VRpL w' (Imm G st'.σ D'.fp w') D'.M (gl st'.env i m) (vals.drop (i - n)):=by
      intro m
      induction m with
      | zero=>intro i hi hm; simp only [gl,VRpL]; exact List.drop_eq_nil_of_le (by omega)
      | succ m ih=>
        intro i hi hm
        have hlt:i - n < vals.length:=by omega
        simp only [gl,VRpL]
        refine⟨vals[i - n],vals.drop (i - n + 1),List.drop_eq_getElem_cons hlt,?_,?_⟩
        · cases hk:lk i st'.env with
          | none=>simp [VRp,Rp]
          | some u=>
            obtain⟨y,y1,y2⟩:=hr'.env i u hk
            have hge:Nat.blt i st'.n = false:=by rw [h5]; exact Bool.eq_false_iff.2 (by simp; omega)
            simp only [slot,hge,cond_false,G] at y1
            rw [List.getElem?_eq_getElem hlt] at y1
            simp only [Option.some.injEq] at y1
            subst y1; exact y2
        · have:=ih (i + 1) (by omega) (by omega)
          rwa [show i + 1 - n = i - n + 1 by omega] at this
    have hgl0:=hgl m n (Nat.le_refl n) (by omega)
    rw [Nat.sub_self,List.drop_zero] at hgl0
    obtain⟨g1,g2⟩:=hvL_spec hr' (v :: gl st'.env n m) (x :: vals) _ ids h2 (by simp only [VRpL]; exact⟨x,vals,rfl,k2,hgl0⟩)
    have hnd2:=nodupB_spec h3
    refine⟨hr'.defers,x,k1,r,outs,x,ids.flatMap D'.fp,rfl,h4,?_,?_,?_,hr'.size,fun b hb hbf=>hr'.frame b hb hbf,hr'.os,hr'.tape,hr'.output⟩
    · refine RpL.frame (fun b hb=>?_) (fun _ _=>rfl) _ _ _ (fun _ _=>rfl) g1
      obtain⟨h5,h6,h7⟩:=hb
      have h8:b ∉ ids.flatMap D'.fp:=fun hm=>by
        obtain⟨i,hi,hbi⟩:=List.mem_flatMap.1 hm
        obtain⟨p,hp,rfl⟩:=g2 i hi
        exact h7 p hp hbi
      rcases h5 with h5 | h5 | h5
      · exact .inl h5
      · exact .inr ⟨.inl h5,h6,h8⟩
      · exact .inr ⟨.inr h5,h6,h8⟩
    · refine flat_nodup hnd2 (fun i hi=>?_) (fun i hi j hj hij b hbi=>?_)
      · obtain⟨p,hp,rfl⟩:=g2 i hi; exact hr'.disj1 p hp
      · obtain⟨p,hp,rfl⟩:=g2 i hi
        obtain⟨q,hq',rfl⟩:=g2 j hj
        exact hr'.disj2 p hp q hq' hij b hbi
    · intro b hm
      obtain⟨i,hi,hbi⟩:=List.mem_flatMap.1 hm
      obtain⟨p,hp,rfl⟩:=g2 i hi
      exact hr'.own p hp b hbi
  cases e with
  | normal=>obtain⟨v,r,outs,ids,h1,h2,h3,h4,h5⟩:=hq; exact fin v r outs ids h1 h2 h3 h4 h5
  | ret=>obtain⟨v,r,outs,ids,h1,h2,h3,h4,h5⟩:=hq; exact fin v r outs ids h1 h2 h3 h4 h5
  | _=>exact hq.elim
end
end Go.Proofs.YtjolbldlhjfciaaGreatDoor
