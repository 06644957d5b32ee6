/- The value layer: append, and steps that only change what is said; no condition. -/
import Derived.Test.YtjolbldlhjfciaaGreatDoorVe
namespace Go.Proofs.YtjolbldlhjfciaaGreatDoor
section
variable {P:Program} {st:St} {ty:TypeId}
theorem append_core {T:TypeId} [hT:SlT P T] {z:Value} {bytes:Nat} [hE:ElT P (P.elem T) z bytes] {s x:Operand} {id:Nat} {ob:Ob} {ys:List C} {ids drop:List Nat}
    (hs:st.ev s = some (.ref id)) (ho:lko id st.σ = some ob) (_hh:ob.holes = []) (hb:bytes<=1000) (hlen:ob.xs.length + ys.length<=1000000000) (hids:id ∈ ids) (hdi : ∀ k ∈ drop,k ∈ ids) (hid:id ∉ drop)
    (hsrc : ∀ D G a w,Rep D G st a w->∃ ax c news g,a.eval x = .slice ax news.length c/\RpL w (Imm G st.σ D.fp w) ys news g/\g.Nodup/\(∀ b ∈ g,∃ k ∈ drop,b ∈ D.fp k)/\
      ∀ j u,news[j]? = some u->∃ bx ox,ax = some ⟨bx,ox,none⟩/\w.cell? ⟨bx,ox + j,none⟩ = some u/\u.oneCell' = true)
    {K:V->St->Prop} (h:K (.ref id) ⟨mo id ⟨ob.xs ++ ys,[]⟩ ids drop st.σ,killE ids st.env,st.n⟩):WS P [id] drop (.call ⟨.builtin .append,#[s,x],#[T,T]⟩) ty st K:=by
  intro D G a w hr dst pos after guard
  obtain⟨l,hl,hv,hob⟩:=hr.ref hs ho
  obtain⟨ax,c,news,g,hx,hR,hg1,hg2,hcells⟩:=hsrc D G a w hr
  have hnl:news.length = ys.length:=hR.length
  have hgfp : ∀ b ∈ g,b ∉ D.fp id:=fun b hb=>by
    obtain⟨k,hk,hbk⟩:=hg2 b hb
    obtain⟨q,hq,rfl⟩:=hr.fpkey hbk
    exact hr.disj2 q hq _ (mem_of_lko ho) (fun e=>hid (by have e' : q.1 = id:=e; rw [<- e']; exact hk)) b hbk
  have hglt : ∀ b ∈ g,b < w.heap.size:=RpL.lt _ _ _ hR
  have hmul:(ob.xs.length + news.length) * bytes<=140737488355328:=Nat.le_trans (Nat.mul_le_mul (by rw [hnl]; exact hlen) hb) (by omega)
  have fin : ∀ (v' : Value) (l' : Loc) (w' : World) (F:List Nat),(Builtin.append_ #[T,T] ty #[a.eval s,a.eval x]).run P w = .ok v' w'->v' = l'.slice->w.heap.size<=w'.heap.size->w'.os = w.os->w'.tape = w.tape->w'.output = w.output->
      (∀ b,b < w.heap.size->b ∉ D.fp id->w'.heap[b]? = w.heap[b]?)->F.Nodup->(∀ b ∈ F,b ∈ D.fp id\/(∃ k ∈ drop,b ∈ D.fp k)\/w.heap.size<=b)->
      (∀ I' : Nat->Prop,(∀ b,Imm G st.σ D.fp w b->I' b)->∀ M',ObRp w' I' M' l' ⟨ob.xs ++ ys,[]⟩ F)->
      valsR P (fun x w'=>∃ D' v st',K v st'/\Rep D' G st' a w'/\VRp w' (Imm G st'.σ D'.fp w') D'.M v x/\Upd [id] drop D w D' st' w') ((execOp a.eval ⟨dst,.call ⟨.builtin .append,#[s,x],#[T,T]⟩,ty,pos,after,guard⟩).run P w):=by
    intro v' l' w' F hrun hv' h1 h2 h3 h4 h5 h6 h7 h8
    obtain⟨D',r1,r2,r3,_⟩:=hr.mod (id:=id) (ob:=ob) (ob':=⟨ob.xs ++ ys,[]⟩) (l:=l) (l':=l') (w':=w') (F:=F) (ids:=ids) (drop:=drop) ho hl hid hdi (.inr hids) h1 h2 h3 h4 h5 h6 h7 (fun I' hI' M' _=>h8 I' hI' M')
    have hex:(execOp a.eval ⟨dst,.call ⟨.builtin .append,#[s,x],#[T,T]⟩,ty,pos,after,guard⟩).run P w = .ok (.value v') w':=by
      simp only [execOp,resolve,invoke,builtin,Sem.run_bind,Sem.run_pure,Result.andThen_ok,List.map_toArray,List.map_cons,List.map_nil,hrun]
    rw [hex]
    exact⟨D',_,_,h,r1,by simp only [VRp]; exact⟨l',r2,hv'⟩,r3⟩
  rcases hob with ⟨h1,h2,_,h4⟩ | ⟨h1,h2,vs,f,h3,h4,h5,h6⟩
  · have hsv:a.eval s = .slice none 0 0:=by rw [hv,Loc.slice,h1]; rfl
    rw [h2] at hmul hlen
    simp only [List.length_nil,Nat.zero_add] at hmul hlen
    rw [h2,List.nil_append] at fin
    rcases exec_appendNil (P:=P) (T:=T) (t:=ty) (w:=w) (c:=c) hcells hmul (by simp only [maxLen]; omega) with ⟨e1,e2⟩ | ⟨cap',w',e1,e2,e3,e4,e5,e6,e7⟩
    · subst e1
      have hys:ys = []:=List.eq_nil_of_length_eq_zero (by simpa using hnl.symm)
      subst hys
      exact fin _ l w [] (by rw [hsv,hx]; exact e2) (by rw [Loc.slice,h1]; rfl) (Nat.le_refl _) rfl rfl rfl (fun _ _ _=>rfl) (by simp) (by simp) (fun I' _ M'=>.inl ⟨h1,rfl,rfl,rfl⟩)
    · refine fin _ ⟨w.heap.size,0,news.length,cap',false⟩ w' (w.heap.size :: g) (by rw [hsv,hx]; exact e1) (by simp [Loc.slice]) e3 e5 e6 e7 (fun b hb _=>e4 b hb) ?_ ?_ ?_
      · exact List.nodup_cons.2 ⟨fun hm=>by have:=hglt _ hm; omega,hg1⟩
      · intro b hb
        rcases List.mem_cons.1 hb with rfl | hb
        · exact .inr (.inr (Nat.le_refl _))
        · exact .inr (.inl (hg2 b hb))
      · intro I' hI' M'
        exact .inr ⟨rfl,by simp [hnl],news,g,rfl,RpL.frame hI' (fun b hb=>e4 b hb.2.1) _ _ _ (fun b hb=>e4 b (hglt b hb)) hR,e2,by intro q hq; cases hq⟩
  · have hvl:=h4.length
    have hsv:a.eval s = .slice (some ⟨l.b,l.off,none⟩) vs.length l.cap:=by rw [hv,Loc.slice,h1,hvl,<- h2]; rfl
    have hnd:(l.b :: f).Nodup:=by have:=hr.disj1 _ (mem_of_lko ho); rwa [h3] at this
    have hbf:=List.nodup_cons.1 hnd
    obtain⟨b',off',cap',w',e1,e2,e3,e4,e5,e6,e7,e8⟩:=exec_append (P:=P) (T:=T) (t:=ty) h5 (c:=c) hcells (by rw [hvl]; exact hmul) (by simp only [maxLen]; rw [hvl]; omega)
    have hfk : ∀ b ∈ f,w'.heap[b]? = w.heap[b]?:=fun b hb=>e5 b (RpL.lt _ _ _ h4 b hb) (fun e=>hbf.1 (e ▸ hb))
    have hgk : ∀ b ∈ g,w'.heap[b]? = w.heap[b]?:=fun b hb=>e5 b (hglt b hb) (fun e=>hgfp b hb (by rw [h3,e]; exact List.mem_cons_self))
    refine fin _ ⟨b',off',vs.length + news.length,cap',false⟩ w' (b' :: (f ++ g)) (by rw [hsv,hx]; exact e1) (by simp [Loc.slice]) e4 e6 e7 e8 (fun b hb hbf'=>e5 b hb (fun e=>hbf' (by rw [h3,e]; exact List.mem_cons_self))) ?_ ?_ ?_
    · refine List.nodup_cons.2 ⟨fun hm=>?_,List.nodup_append.2 ⟨hbf.2,hg1,fun x hxf y hyg e=>hgfp y hyg (by rw [h3]; exact List.mem_cons_of_mem _ (e ▸ hxf))⟩⟩
      rcases e3 with e | e
      · subst e
        rcases List.mem_append.1 hm with hm | hm
        · exact hbf.1 hm
        · exact hgfp _ hm (by rw [h3]; exact List.mem_cons_self)
      · subst e
        rcases List.mem_append.1 hm with hm | hm
        · have:=RpL.lt _ _ _ h4 _ hm; omega
        · have:=hglt _ hm; omega
    · intro b hb
      rcases List.mem_cons.1 hb with rfl | hb
      · rcases e3 with e | e
        · exact .inl (by rw [h3,e]; exact List.mem_cons_self)
        · exact .inr (.inr (by omega))
      · rcases List.mem_append.1 hb with hb | hb
        · exact .inl (by rw [h3]; exact List.mem_cons_of_mem _ hb)
        · exact .inr (.inl (hg2 b hb))
    · intro I' hI' M'
      have hIk : ∀ b,Imm G st.σ D.fp w b->w'.heap[b]? = w.heap[b]?:=fun b hb=>e5 b hb.2.1 (fun e=>hb.2.2 _ (mem_of_lko ho) (by rw [h3,e]; exact List.mem_cons_self))
      exact .inr ⟨rfl,by simp [hvl,hnl],vs ++ news,f ++ g,rfl,RpL.append (RpL.frame hI' hIk _ _ _ hfk h4) (RpL.frame hI' hIk _ _ _ hgk hR),e2,by intro q hq; cases hq⟩
theorem ws_append_lst {T:TypeId} [hT:SlT P T] {z:Value} {bytes:Nat} [hE:ElT P (P.elem T) z bytes] {s x:Operand} {id:Nat} {ob:Ob} {ys:List C}
    (hs:st.ev s = some (.ref id)) (ho:lko id st.σ = some ob) (hh:ob.holes = []) (hx:st.ev x = some (.c (.lst ys))) (hb:bytes<=1000) (hlen:ob.xs.length + ys.length<=1000000000)
    {K:V->St->Prop} (h:K (.ref id) ⟨mo id ⟨ob.xs ++ ys,[]⟩ [id] [] st.σ,killE [id] st.env,st.n⟩):WS P [id] [] (.call ⟨.builtin .append,#[s,x],#[T,T]⟩) ty st K:=
  append_core hs ho hh hb hlen (by simp) (by simp) (by simp) (fun D G a w hr=>by
    have h1:=hr.ev hx
    simp only [VRp,Rp] at h1
    obtain⟨_,ax,cap,vs,h2,_,h3,h4⟩:=h1
    exact⟨ax,cap,vs,[],by rw [h2,h3.length],h3,by simp,by simp,fun j u hu=>let ⟨b,off,e1,_,e2,e3⟩:=h4 j u hu; ⟨b,off,e1,e2,e3⟩⟩) h
theorem ws_append_ref {T:TypeId} [hT:SlT P T] {z:Value} {bytes:Nat} [hE:ElT P (P.elem T) z bytes] {s x:Operand} {id id2:Nat} {ob ob2:Ob}
    (hs:st.ev s = some (.ref id)) (ho:lko id st.σ = some ob) (hh:ob.holes = []) (hx:st.ev x = some (.ref id2)) (ho2:lko id2 st.σ = some ob2) (_hh2:ob2.holes = []) (hne:Nat.beq id2 id = false) (hb:bytes<=1000) (hlen:ob.xs.length + ob2.xs.length<=1000000000)
    {K:V->St->Prop} (h:K (.ref id) ⟨mo id ⟨ob.xs ++ ob2.xs,[]⟩ [id,id2] [id2] st.σ,killE [id,id2] st.env,st.n⟩):WS P [id] [id2] (.call ⟨.builtin .append,#[s,x],#[T,T]⟩) ty st K:=
  append_core hs ho hh hb hlen (by simp) (by simp) (by simpa using fun e=>Nat.ne_of_beq_eq_false hne e.symm) (fun D G a w hr=>by
    obtain⟨l,hl,hv,hob⟩:=hr.ref hx ho2
    rcases hob with ⟨h1,h2,_,h4⟩ | ⟨h1,h2,vs,f,h3,h4,h5,h6⟩
    · rw [h2]
      exact⟨none,0,[],[],by rw [hv,Loc.slice,h1]; rfl,by simp [RpL],by simp,by simp,by intro j u hu; simp at hu⟩
    · have hnd:(l.b :: f).Nodup:=by have:=hr.disj1 _ (mem_of_lko ho2); rwa [h3] at this
      exact⟨some ⟨l.b,l.off,none⟩,l.cap,vs,f,by rw [hv,Loc.slice,h1,h2,<- h4.length]; rfl,h4,(List.nodup_cons.1 hnd).2,fun b hb=>⟨id2,by simp,by rw [h3]; exact List.mem_cons_of_mem _ hb⟩,
        fun j u hu=>⟨l.b,l.off,rfl,h5.cell hu,h5.one hu⟩⟩) h
end
def Gh (Y:List Nat) (st st' : St):Prop:=
  ∀ (D:Data) (G:Glob) (a:Act) (w:World),Rep D G st a w->∃ D',Rep D' G st' a w/\∀ p ∈ st'.σ,∀ b ∈ D'.fp p.1,b ∈ D.fp p.1\/∃ id ∈ Y,b ∈ D.fp id
theorem Gh.refl (st:St):Gh [] st st:=fun D _ _ _ hr=>⟨D,hr,fun _ _ _ hb=>.inl hb⟩
def SubE (env:List (Nat × V)):List (Nat × V)->Prop
  | []=>True
  | q :: r=>lk q.1 env = some q.2/\SubE env r
theorem SubE.lk {env:List (Nat × V)} : ∀ {env' : List (Nat × V)},SubE env env'->∀ {i:Nat} {v:V},lk i env' = some v->Go.Proofs.YtjolbldlhjfciaaGreatDoor.lk i env = some v
  | [],_,i,v,h=>by cases h
  | (qi,qv) :: r,hs,i,v,h=>by
    simp only [Go.Proofs.YtjolbldlhjfciaaGreatDoor.lk] at h
    cases hb:Nat.beq qi i with
    | true=>
      rw [hb] at h
      simp only [cond_true,Option.some.injEq] at h
      rw [<- Nat.eq_of_beq_eq_true hb,<- h]; exact hs.1
    | false=>rw [hb] at h; exact SubE.lk hs.2 h
theorem gh_sub {st:St} {env' : List (Nat × V)} (h:SubE st.env env'):Gh [] st ⟨st.σ,env',st.n⟩:=fun D _G _a _w hr=>
  ⟨D,⟨hr.obs,hr.dom,hr.nodup,hr.disj1,hr.disj2,fun i v hv=>hr.env i v (h.lk hv),hr.own,hr.frame,hr.size,hr.os,hr.tape,hr.output,hr.ntmps,hr.defers⟩,fun _ _ _ hb=>.inl hb⟩
theorem gh_fill {st:St} {id id2 j:Nat} {ob ob2:Ob} (ho:lko id st.σ = some ob) (hj:lk j ob.holes = some (.ref id2)) (hlt:j < ob.xs.length) (ho2:lko id2 st.σ = some ob2) (_hh2:ob2.holes = []) (hne:Nat.beq id2 id = false) :
    Gh [id2] st ⟨mo id ⟨ob.xs.set j (.own ob2.xs),killH [id2] (rmH j ob.holes)⟩ [id2] [id2] st.σ,killE [id2] st.env,st.n⟩:=by
  intro D G a w hr
  have hne' : id2≠id:=Nat.ne_of_beq_eq_false hne
  obtain⟨l,hl,hob⟩:=hr.obs _ (mem_of_lko ho)
  rcases hob with ⟨_,h2,_⟩ | ⟨h1,h2,vs,f,h3,h4,h5,h6⟩
  · simp only at h2; rw [h2] at hlt; simp at hlt
  · simp only at h2 h3 h4 h6
    obtain⟨x,hx,hxv⟩:=h6 _ (mem_of_lk hj)
    simp only at hx hxv
    simp only [VRp] at hxv
    obtain⟨l2,hl2,hx2⟩:=hxv
    obtain⟨l2',hl2',hob2⟩:=hr.obs _ (mem_of_lko ho2)
    simp only at hl2' hob2
    have:l2' = l2:=Option.some.inj (hl2'.symm.trans hl2)
    subst this
    have hown:Rp w (Imm G st.σ D.fp w) (.own ob2.xs) x (D.fp id2):=by
      simp only [Rp]
      rcases hob2 with ⟨k1,k2,_,k4⟩ | ⟨k1,k2,vs2,f2,k3,k4,k5,_⟩
      · exact .inl ⟨k2,by rw [hx2,Loc.slice,k1]; rfl,k4⟩
      · exact .inr ⟨l2'.b,l2'.off,l2'.cap,vs2,f2,by rw [hx2,Loc.slice,k1,k2]; rfl,k3,k4,k5⟩
    obtain⟨g,f1,f2,hf,hR⟩:=RpL.exch h4 hlt hown
    have hset:vs.set j x = vs:=by
      apply List.ext_getElem?
      intro i
      rw [List.getElem?_set]
      split
      · rename_i e; subst e; rw [hx]; simp [(List.getElem?_eq_some_iff.1 hx).1]
      · rfl
    rw [hset] at hR
    have hnd:(l.b :: f).Nodup:=by have:=hr.disj1 _ (mem_of_lko ho); simp only at this; rwa [h3] at this
    have hsep : ∀ b ∈ D.fp id,b ∉ D.fp id2:=fun b hb=>hr.disj2 _ (mem_of_lko ho) _ (mem_of_lko ho2) (fun e=>hne' e.symm) b hb
    have hnd2:(D.fp id2).Nodup:=hr.disj1 _ (mem_of_lko ho2)
    have hsub:(f1 ++ f2).Sublist f:=by rw [hf,List.append_assoc]; exact List.Sublist.append_left (List.sublist_append_right g f2) f1
    have hmem : ∀ b,b ∈ f1 ++ D.fp id2 ++ f2↔b ∈ f1 ++ f2\/b ∈ D.fp id2:=fun b=>by simp only [List.mem_append]; constructor <;> (intro h; rcases h with (h | h) | h <;> simp [h])
    have hb0:=List.nodup_cons.1 hnd
    obtain⟨D',r1,r2,r3,_⟩:=hr.mod (id:=id) (ob:=ob) (ob':=⟨ob.xs.set j (.own ob2.xs),killH [id2] (rmH j ob.holes)⟩) (l:=l) (l':=l) (w':=w) (F:=l.b :: (f1 ++ D.fp id2 ++ f2)) (ids:=[id2]) (drop:=[id2])
      ho hl (by simp; exact fun e=>hne' e.symm) (by simp) (.inl rfl) (Nat.le_refl _) rfl rfl rfl (fun _ _ _=>rfl)
      (by
        refine List.nodup_cons.2 ⟨fun hm=>?_,?_⟩
        · rcases (hmem _).1 hm with hm | hm
          · exact hb0.1 (hsub.subset hm)
          · exact hsep l.b (by simp only [h3]; exact List.mem_cons_self) hm
        · have h12:(f1 ++ f2).Nodup:=hsub.nodup hb0.2
          obtain⟨n1,n2,n3⟩:=List.nodup_append.1 h12
          refine List.nodup_append.2 ⟨List.nodup_append.2 ⟨n1,hnd2,fun p hp q hq e=>?_⟩,n2,fun p hp q hq e=>?_⟩
          · subst e; exact hsep p (by simp only [h3]; exact List.mem_cons_of_mem _ (hsub.subset (List.mem_append_left _ hp))) hq
          · subst e
            rcases List.mem_append.1 hp with hp | hp
            · exact n3 p hp p hq rfl
            · exact hsep p (by simp only [h3]; exact List.mem_cons_of_mem _ (hsub.subset (List.mem_append_right _ hq))) hp)
      (by
        intro b hb
        rcases List.mem_cons.1 hb with rfl | hb
        · exact .inl (by simp only [h3]; exact List.mem_cons_self)
        · rcases (hmem b).1 hb with hb | hb
          · exact .inl (by simp only [h3]; exact List.mem_cons_of_mem _ (hsub.subset hb))
          · exact .inr (.inl ⟨id2,by simp,hb⟩))
      (by
        intro I' hI' M' hM'
        refine .inr ⟨h1,by simp [h2],vs,_,rfl,RpL.frame hI' (fun _ _=>rfl) _ _ _ (fun _ _=>rfl) hR,h5,?_⟩
        intro q hq
        obtain⟨g1,g2⟩:=mem_killH hq
        obtain⟨u,g3,g4⟩:=h6 q (mem_rmH g1).1
        exact⟨u,g3,VRp.frameM hI' (fun _ _=>rfl) _ _ (fun i hi m hm=>hM' i m (g2 i hi) hm) g4⟩)
    refine⟨D',r1,fun p hp b hb=>r3.own p hp b hb ?_⟩
    obtain⟨q,hq,e⟩:=r1.fpkey hb
    exact r1.lt hp hb
end Go.Proofs.YtjolbldlhjfciaaGreatDoor
