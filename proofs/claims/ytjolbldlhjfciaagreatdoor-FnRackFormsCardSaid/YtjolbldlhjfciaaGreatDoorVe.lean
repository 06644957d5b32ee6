/- The value layer: stores, appends, and steps that only change what is said; no condition. -/
import Derived.Test.YtjolbldlhjfciaaGreatDoorVd
namespace Go.Proofs.YtjolbldlhjfciaaGreatDoor
theorem killE_nil : ∀ env:List (Nat × V),killE [] env = env
  | []=>rfl
  | q :: r=>by
    have : ∀ l:List Nat,meetB [] l = false:=fun l=>by induction l with | nil=>rfl | cons i r ih=>simp [meetB,memN,ih]
    simp [killE,this,killE_nil r]
theorem killH_nil : ∀ hs:List (Nat × V),killH [] hs = hs
  | []=>rfl
  | q :: r=>by
    have : ∀ l:List Nat,meetB [] l = false:=fun l=>by induction l with | nil=>rfl | cons i r ih=>simp [meetB,memN,ih]
    simp [killH,this,killH_nil r]
def so (id:Nat) (ob' : Ob):List (Nat × Ob)->List (Nat × Ob)
  | []=>[]
  | p :: r=>(bif Nat.beq p.1 id then (p.1,ob') else p) :: so id ob' r
theorem mo_nil {id:Nat} {ob' : Ob} : ∀ σ:List (Nat × Ob),mo id ob' [] [] σ = so id ob' σ
  | []=>rfl
  | p :: r=>by simp [mo,so,memN,killH_nil,mo_nil r]
def rmH (j:Nat):List (Nat × V)->List (Nat × V)
  | []=>[]
  | q :: r=>bif Nat.beq q.1 j then rmH j r else q :: rmH j r
theorem mem_rmH {j:Nat} {q:Nat × V} : ∀ {hs:List (Nat × V)},q ∈ rmH j hs->q ∈ hs/\q.1≠j
  | [],h=>by cases h
  | p :: r,h=>by
    unfold rmH at h
    cases hb:Nat.beq p.1 j with
    | true=>rw [hb] at h; exact⟨List.mem_cons_of_mem _ (mem_rmH h).1,(mem_rmH h).2⟩
    | false=>
      rw [hb] at h
      simp only [cond_false] at h
      rcases List.mem_cons.1 h with rfl | h
      · exact⟨List.mem_cons_self,Nat.ne_of_beq_eq_false hb⟩
      · exact⟨List.mem_cons_of_mem _ (mem_rmH h).1,(mem_rmH h).2⟩
class SzT (P:Program) (T:Nat) (n:outParam Nat):Prop where
  s:(P.info? T).map (·.size) = some n
section
variable {P:Program} {st:St} {ty:TypeId}
theorem OwnAt.set {w:World} {b off cap:Nat} {vs:List Value} (h:OwnAt w b off cap vs) {j:Nat} {x:Value} (hx:x.oneCell' = true):OwnAt (w.setCell ⟨b,off + j,none⟩ x) b off cap (vs.set j x):=by
  obtain⟨cur,e,h1,h2,h3,h4,h5⟩:=h
  refine⟨cur.setIfInBounds (off + j) x,e,by simp [World.setCell,Array.getElem?_modify,h1],by simpa using h2,by simpa using h3,h4,?_⟩
  intro i v hv
  rw [List.getElem?_set] at hv
  split at hv
  · rename_i hij
    subst hij
    split at hv
    · rename_i hlt
      simp only [Option.some.injEq] at hv
      subst hv
      exact⟨by rw [Array.getElem?_setIfInBounds,if_pos rfl,if_pos (by omega)],hx⟩
    · cases hv
  · rename_i hij
    rw [Array.getElem?_setIfInBounds,if_neg (by omega)]
    exact h5 i v hv
theorem Rep.store1 {D:Data} {G:Glob} {a:Act} {w:World} (hr:Rep D G st a w) {id off:Nat} {ob:Ob} {l:Loc} {v:V} {x:Value} (ho:lko id st.σ = some ob) (hl:D.M id = some l) (hn:l.nil = false) (hlt:off < ob.xs.length)
    (hv:VRp w (Imm G st.σ D.fp w) D.M v x) (e2:x.oneCell' = true) :
    w.cell? ⟨l.b,l.off + off,none⟩≠none/\w.frozen? ⟨l.b,l.off + off,none⟩ = false/\
    ∃ D',Rep D' G ⟨so id ⟨ob.xs.set off v.closed,v.holeAt off ++ rmH off ob.holes⟩ st.σ,st.env,st.n⟩ a (w.setCell ⟨l.b,l.off + off,none⟩ x)/\D'.M id = some l/\
      Upd [id] [] D w D' ⟨so id ⟨ob.xs.set off v.closed,v.holeAt off ++ rmH off ob.holes⟩ st.σ,st.env,st.n⟩ (w.setCell ⟨l.b,l.off + off,none⟩ x)/\
      (∀ i m,D.M i = some m->D'.M i = some m)/\(∀ b,Imm G st.σ D.fp w b->Imm G (so id ⟨ob.xs.set off v.closed,v.holeAt off ++ rmH off ob.holes⟩ st.σ) D'.fp (w.setCell ⟨l.b,l.off + off,none⟩ x) b)/\
      (∀ b,Imm G st.σ D.fp w b->(w.setCell ⟨l.b,l.off + off,none⟩ x).heap[b]? = w.heap[b]?):=by
  obtain⟨l',hl',hob⟩:=hr.obs _ (mem_of_lko ho)
  have:l' = l:=Option.some.inj (hl'.symm.trans hl)
  subst this
  rcases hob with ⟨h1,_⟩ | ⟨_,hlen,vs,f,hfp,hR,hO,hH⟩
  · rw [hn] at h1; cases h1
  simp only at hlen hfp hR hH
  have hvl:=hR.length
  obtain⟨g,f1,f2,hf,hR2⟩:=RpL.exch hR (i:=off) hlt (closed_spec hv)
  have hnd:(l'.b :: f).Nodup:=by have:=hr.disj1 _ (mem_of_lko ho); simp only at this; rwa [hfp] at this
  have hcell:w.cell? ⟨l'.b,l'.off + off,none⟩ = some (vs[off]'(by rw [hvl]; exact hlt)):=hO.cell (List.getElem?_eq_getElem _)
  refine⟨by rw [hcell]; simp,hO.frozen _,?_⟩
  have hoth : ∀ b,b≠l'.b->(w.setCell ⟨l'.b,l'.off + off,none⟩ x).heap[b]? = w.heap[b]?:=fun b hb=>Go.RowKit.Below.heap_setCell _ _ _ _ hb
  have hImm : ∀ b,Imm G st.σ D.fp w b->b≠l'.b:=fun b hb e=>hb.2.2 _ (mem_of_lko ho) (by simp only [hfp]; rw [e]; exact List.mem_cons_self)
  obtain⟨D',r1,r2,r3,r4,r5,r6⟩:=hr.mod (id:=id) (ob:=ob) (ob':=⟨ob.xs.set off v.closed,v.holeAt off ++ rmH off ob.holes⟩) (l:=l') (l':=l') (w':=w.setCell ⟨l'.b,l'.off + off,none⟩ x) (F:=l'.b :: (f1 ++ f2)) (ids:=[]) (drop:=[]) ho hl (by simp) (by simp) (.inl rfl)
    (by simp) rfl rfl rfl (fun b _ hb=>hoth b (fun e=>hb (by rw [hfp,e]; exact List.mem_cons_self)))
    (by
      subst hf
      have h3:=List.nodup_cons.1 hnd
      exact List.nodup_cons.2 ⟨fun hm=>h3.1 (by simp only [List.mem_append] at hm ⊢; rcases hm with hm | hm <;> simp [hm]),List.Sublist.nodup (by rw [List.append_assoc]; exact List.Sublist.append_left (List.sublist_append_right g f2) f1) h3.2⟩)
    (fun b hb=>.inl (by
      rw [hfp,hf]
      rcases List.mem_cons.1 hb with rfl | hb
      · exact List.mem_cons_self
      · refine List.mem_cons_of_mem _ ?_; simp only [List.mem_append] at hb ⊢; rcases hb with hb | hb <;> simp [hb]))
    (by
      intro I' hI' M' hM'
      have hIk : ∀ b,Imm G st.σ D.fp w b->(w.setCell ⟨l'.b,l'.off + off,none⟩ x).heap[b]? = w.heap[b]?:=fun b hb=>hoth b (hImm b hb)
      have hfr : ∀ b ∈ f1 ++ [] ++ f2,(w.setCell ⟨l'.b,l'.off + off,none⟩ x).heap[b]? = w.heap[b]?:=fun b hb=>hoth b (fun e=>(List.nodup_cons.1 hnd).1 (by
        subst e; rw [hf]; simp only [List.mem_append] at hb ⊢; rcases hb with (hb | hb) | hb
        · simp [hb]
        · cases hb
        · simp [hb]))
      refine .inr ⟨hn,by simp [hlen],vs.set off x,f1 ++ f2,rfl,by have:=RpL.frame hI' hIk _ _ _ hfr hR2; simpa using this,hO.set e2,?_⟩
      intro q hq
      rcases List.mem_append.1 hq with hq | hq
      · obtain⟨u,g1,g2⟩:=holeAt_spec (M:=D.M) (vs:=vs.set off x) (j:=off) (x:=x) (by rw [List.getElem?_set]; simp [hvl,hlt]) hv q hq
        exact⟨u,g1,VRp.frameM hI' hIk _ _ (fun i _ m hm=>hM' i m (by simp) hm) g2⟩
      · obtain⟨g1,g2⟩:=mem_rmH hq
        obtain⟨u,g3,g4⟩:=hH q g1
        exact⟨u,by rw [List.getElem?_set,if_neg (fun e=>g2 e.symm)]; exact g3,VRp.frameM hI' hIk _ _ (fun i _ m hm=>hM' i m (by simp) hm) g4⟩)
  rw [mo_nil,killE_nil] at r1 r3
  rw [mo_nil] at r5
  exact⟨D',r1,r2,r3,fun i m hm=>r4 i m (by simp) hm,r5,r6⟩
theorem ws_store {T:TypeId} {p x:Operand} {id off:Nat} {ob:Ob} {v:V} [hS:SzT P T 1] (hp:st.ev p = some (.cell id off)) (ho:lko id st.σ = some ob) (hlt:off < ob.xs.length) (hx:st.ev x = some v) (h1:v.one = true)
    {K:V->St->Prop} (h:K (.c .hole) ⟨so id ⟨ob.xs.set off v.closed,v.holeAt off ++ rmH off ob.holes⟩ st.σ,st.env,st.n⟩):WS P [id] [] (.store T p x) ty st K:=by
  intro D G a w hr dst pos after guard
  obtain⟨l,vs,f,hl,hn,hpv,_⟩:=hr.cell hp ho
  have hv:=hr.ev hx
  obtain⟨e1,e2⟩:=one_spec hv h1
  obtain⟨c1,c2,D',r1,r2,r3,_⟩:=hr.store1 ho hl hn hlt hv e2
  obtain⟨u,hu⟩:=Option.ne_none_iff_exists'.1 c1
  have hrun:(execOp a.eval ⟨dst,.store T p x,ty,pos,after,guard⟩).run P w = .ok .skip (w.setCell ⟨l.b,l.off + off,none⟩ (a.eval x)):=by
    simp [execOp,Instr.storeAt,hpv,Instr.sureAddr,storeVar,e1,sizeOf_run hS.s,storeCells,run_store _ _ _ _ _ e2,hu,c2,Addr.add]
  rw [hrun]
  exact⟨D',.c .hole,_,h,r1,by simp [VRp,Rp],r3⟩
def V.fields:V->Option (List V)
  | .agg vs=>some vs
  | .c (.agg cs)=>some (cs.map .c)
  | _=>none
theorem fields_spec {w:World} {I:Nat->Prop} {M:Nat->Option Loc} {v:V} {us:List V} {x:Value} (h:v.fields = some us) (hv:VRp w I M v x) : ∃ xs,x = .agg xs.toArray/\VRpL w I M us xs:=by
  have hmap : ∀ (cs:List C) (xs:List Value),RpL w I cs xs []->VRpL w I M (cs.map .c) xs:=by
    intro cs
    induction cs with
    | nil=>intro xs h; simp only [RpL] at h; simp only [List.map_nil,VRpL]; exact h.1
    | cons c cs ih=>
      intro xs h
      simp only [RpL] at h
      obtain⟨v,vs',f,f',rfl,h2,h3,h4⟩:=h
      obtain⟨rfl,rfl⟩:=List.append_eq_nil_iff.1 h2.symm
      simp only [List.map_cons,VRpL]
      exact⟨v,vs',rfl,by simp only [VRp]; exact h3,ih vs' h4⟩
  cases v with
  | agg vs=>simp only [V.fields,Option.some.injEq] at h; subst h; simpa only [VRp] using hv
  | c c=>
    cases c with
    | agg cs=>
      simp only [V.fields,Option.some.injEq] at h
      subst h
      simp only [VRp,Rp] at hv
      obtain⟨vs,h1,h2⟩:=hv
      exact⟨vs,h1,hmap cs vs h2⟩
    | _=>simp [V.fields] at h
  | _=>simp [V.fields] at h
theorem ws_storeS {T:TypeId} {p x:Operand} {id off:Nat} {ob:Ob} {v u:V} [hS:SzT P T 1] (hp:st.ev p = some (.cell id off)) (ho:lko id st.σ = some ob) (hlt:off < ob.xs.length) (hx:st.ev x = some v) (hf:v.fields = some [u]) (h1:u.one = true)
    {K:V->St->Prop} (h:K (.c .hole) ⟨so id ⟨ob.xs.set off u.closed,u.holeAt off ++ rmH off ob.holes⟩ st.σ,st.env,st.n⟩):WS P [id] [] (.store T p x) ty st K:=by
  intro D G a w hr dst pos after guard
  obtain⟨l,vs,f,hl,hn,hpv,_⟩:=hr.cell hp ho
  obtain⟨xs,hxe,hxs⟩:=fields_spec hf (hr.ev hx)
  simp only [VRpL] at hxs
  obtain⟨y,xs',rfl,hv,rfl⟩:=hxs
  obtain⟨e1,e2⟩:=one_spec hv h1
  obtain⟨c1,c2,D',r1,r2,r3,_⟩:=hr.store1 ho hl hn hlt hv e2
  obtain⟨u',hu⟩:=Option.ne_none_iff_exists'.1 c1
  have hrun:(execOp a.eval ⟨dst,.store T p x,ty,pos,after,guard⟩).run P w = .ok .skip (w.setCell ⟨l.b,l.off + off,none⟩ y):=by
    simp [execOp,Instr.storeAt,hpv,hxe,Instr.sureAddr,storeVar,Value.cells,sizeOf_run hS.s,storeCells,run_store _ _ _ _ _ e2,hu,c2,Addr.add]
  rw [hrun]
  exact⟨D',.c .hole,_,h,r1,by simp [VRp,Rp],r3⟩
theorem exec_append {T:TypeId} [hT:SlT P T] {z:Value} {bytes:Nat} [hE:ElT P (P.elem T) z bytes] {t:TypeId} {w:World} {b off cap:Nat} {vs:List Value} (hO:OwnAt w b off cap vs) {ax:Option Addr} {c:Nat} {news:List Value}
    (hn : ∀ j u,news[j]? = some u->∃ bx ox,ax = some ⟨bx,ox,none⟩/\w.cell? ⟨bx,ox + j,none⟩ = some u/\u.oneCell' = true) (hb:(vs.length + news.length) * bytes<=140737488355328) (hm:vs.length + news.length<=maxLen) :
    ∃ b' off' cap' w',(Builtin.append_ #[T,T] t #[.slice (some ⟨b,off,none⟩) vs.length cap,.slice ax news.length c]).run P w = .ok (.slice (some ⟨b',off',none⟩) (vs.length + news.length) cap') w'/\
      OwnAt w' b' off' cap' (vs ++ news)/\(b' = b\/b' = w.heap.size)/\w.heap.size<=w'.heap.size/\(∀ k,k < w.heap.size->k≠b->w'.heap[k]? = w.heap[k]?)/\w'.os = w.os/\w'.tape = w.tape/\w'.output = w.output:=by
  have hlt:=hO.lt
  obtain⟨cur,e,h1,h2,h3,h4,h5⟩:=hO
  obtain⟨i,hi,hz⟩:=Option.map_eq_some_iff.1 hE.i
  simp only [Prod.mk.injEq] at hz
  obtain⟨hz1,hz2,hz3⟩:=hz
  have hone : ∀ u ∈ news,u.oneCell' = true:=fun u hu=>by
    obtain⟨j,hj,e⟩:=List.getElem_of_mem hu
    obtain⟨_,_,_,_,h⟩:=hn j u (by rw [List.getElem?_eq_getElem hj,e])
    exact h
  by_cases hroom:vs.length + news.length<=cap
  · have hnew:(Builtin.firstCells 1 news.length (.slice ax news.length c)).run P w = .ok news.toArray w:=by
      by_cases h0:news = []
      · subst h0; cases ax <;> simp [Builtin.firstCells,loadCells,loadCellsFrom]
      · obtain⟨bx,ox,hax,_⟩:=hn 0 (news[0]'(List.length_pos_iff.2 h0)) (List.getElem?_eq_getElem _)
        subst hax
        exact run_firstCells_some (P:=P) w 1 news.length ⟨bx,ox,none⟩ news.length c news (by simp) (fun j v hv=>by
          obtain⟨bx',ox',e1,e2,_⟩:=hn j v hv
          simp only [Option.some.injEq,Addr.mk.injEq,and_true] at e1
          rw [Addr.add_lit,e1.1,e1.2]; exact e2)
    have hst:=run_storeCells_at P b (off + vs.length) e news 0 cur w h1 (by omega) hone
    simp only [Nat.add_zero] at hst
    refine⟨b,off,cap,w.setRow b (cur.toList.take (off + vs.length) ++ news ++ cur.toList.drop (off + vs.length + news.length)).toArray,?_,?_,.inl rfl,?_,?_,rfl,rfl,rfl⟩
    · simp [Builtin.append_,run_underlying hT.u,sizeOf,typeInfo,hi,hz2,Builtin.lenOf,hroom,hnew,Addr.add_lit,hst]
    · refine⟨_,e,setRow_heap w b cur _ e _ h1,by simp; omega,by simp; omega,h4,?_⟩
      intro j v hv
      rw [List.getElem?_append] at hv
      split at hv
      · rename_i hj
        refine⟨?_,(h5 j v hv).2⟩
        simp only [List.getElem?_toArray]
        rw [List.append_assoc,List.getElem?_append_left (by simp; omega),List.getElem?_take,if_pos (by omega)]
        simpa using (h5 j v hv).1
      · rename_i hj
        refine⟨?_,hone v (List.mem_of_getElem? hv)⟩
        have hjl:j - vs.length < news.length:=(List.getElem?_eq_some_iff.1 hv).1
        simp only [List.getElem?_toArray]
        rw [List.append_assoc,List.getElem?_append_right (by simp; omega),List.getElem?_append_left (by simp; omega)]
        rw [<- hv]; congr 1; simp; omega
    · simp [World.setRow]
    · intro k _ hk; exact setRow_other w b k _ hk
  · have h0:0 < news.length:=by omega
    obtain⟨bx,ox,hax,_⟩:=hn 0 (news[0]'h0) (List.getElem?_eq_getElem _)
    subst hax
    have hr:=run_append_grow (P:=P) w T t (P.elem T) i z hT.u hi hz1 ⟨b,off,none⟩ vs.length cap vs (by simp [hz2]) (fun j v hv=>by rw [Addr.add_lit]; exact OwnAt.cell ⟨cur,e,h1,h2,h3,h4,h5⟩ hv)
      ⟨bx,ox,none⟩ news.length c news (by simp [hz2]) (fun j v hv=>by
          obtain⟨bx',ox',e1,e2,_⟩:=hn j v hv
          simp only [Option.some.injEq,Addr.mk.injEq,and_true] at e1
          rw [Addr.add_lit,e1.1,e1.2]; exact e2) (by omega) (by simp only [maxLen] at hm; omega) (growslice_fits (by omega) (by rw [hz3]; exact hb))
    have hge:=grownCap_ge w (vs.length + news.length) cap (P.elem T)
    have hcm:=grownCap_le_maxLen w (vs.length + news.length) cap (P.elem T) hm
    refine⟨w.heap.size,0,_,_,hr,?_,.inr rfl,by simp,fun k hk _=>heap_alloc_old w.drew _ hk,rfl,rfl,rfl⟩
    refine⟨_,P.elem T,heap_alloc_new w.drew _,by simpa using hge,?_,hcm,?_⟩
    · have:(Builtin.zeroCells z.cells (grownCap w (vs.length + news.length) cap (P.elem T) - (vs.length + news.length))).size = grownCap w (vs.length + news.length) cap (P.elem T) - (vs.length + news.length):=by rw [size_zeroCells,hE.z1]; simp
      simp only [Array.size_append,List.size_toArray,this]; omega
    · intro j v hv
      have hj:j < (vs ++ news).length:=(List.getElem?_eq_some_iff.1 hv).1
      refine⟨?_,?_⟩
      · rw [Nat.zero_add,Array.getElem?_append_left (by simpa using hj)]
        simpa using hv
      · rcases List.mem_append.1 (List.mem_of_getElem? hv) with hm | hm
        · obtain⟨k,hk,e⟩:=List.getElem_of_mem hm
          exact (h5 k v (by rw [List.getElem?_eq_getElem hk,e])).2
        · exact hone v hm
theorem exec_appendNil {T:TypeId} [hT:SlT P T] {z:Value} {bytes:Nat} [hE:ElT P (P.elem T) z bytes] {t:TypeId} {w:World} {ax:Option Addr} {c:Nat} {news:List Value}
    (hn : ∀ j u,news[j]? = some u->∃ bx ox,ax = some ⟨bx,ox,none⟩/\w.cell? ⟨bx,ox + j,none⟩ = some u/\u.oneCell' = true) (hb:news.length * bytes<=140737488355328) (hm:news.length<=maxLen) :
    (news = []/\(Builtin.append_ #[T,T] t #[.slice none 0 0,.slice ax news.length c]).run P w = .ok (.slice none 0 0) w)\/
    ∃ cap' w',(Builtin.append_ #[T,T] t #[.slice none 0 0,.slice ax news.length c]).run P w = .ok (.slice (some ⟨w.heap.size,0,none⟩) news.length cap') w'/\
      OwnAt w' w.heap.size 0 cap' news/\w.heap.size<=w'.heap.size/\(∀ k,k < w.heap.size->w'.heap[k]? = w.heap[k]?)/\w'.os = w.os/\w'.tape = w.tape/\w'.output = w.output:=by
  obtain⟨i,hi,hz⟩:=Option.map_eq_some_iff.1 hE.i
  simp only [Prod.mk.injEq] at hz
  obtain⟨hz1,hz2,hz3⟩:=hz
  by_cases h0:news = []
  · subst h0
    refine .inl ⟨rfl,?_⟩
    cases ax <;> simp [Builtin.append_,run_underlying hT.u,sizeOf,typeInfo,hi,Builtin.lenOf,Builtin.firstCells,loadCells,loadCellsFrom]
  · have hpos:=List.length_pos_iff.2 h0
    obtain⟨bx,ox,hax,_⟩:=hn 0 (news[0]'hpos) (List.getElem?_eq_getElem _)
    subst hax
    have hr:=run_append_nil (P:=P) w T t (P.elem T) i z hT.u hi hz1 ⟨bx,ox,none⟩ news.length c news (by simp [hz2]) (fun j v hv=>by
          obtain⟨bx',ox',e1,e2,_⟩:=hn j v hv
          simp only [Option.some.injEq,Addr.mk.injEq,and_true] at e1
          rw [Addr.add_lit,e1.1,e1.2]; exact e2) hpos (by simp only [maxLen] at hm; omega) (by rw [hz3]; omega)
    have hge:=grownCap_ge w news.length 0 (P.elem T)
    have hcm:=grownCap_le_maxLen w news.length 0 (P.elem T) hm
    refine .inr ⟨_,_,hr,⟨_,P.elem T,heap_alloc_new w.drew _,hge,?_,hcm,?_⟩,by simp,fun k hk=>heap_alloc_old w.drew _ hk,rfl,rfl,rfl⟩
    · have:(Builtin.zeroCells z.cells (grownCap w news.length 0 (P.elem T) - news.length)).size = grownCap w news.length 0 (P.elem T) - news.length:=by rw [size_zeroCells,hE.z1]; simp
      simp only [Array.size_append,List.size_toArray,this]; omega
    · intro j v hv
      have hj:j < news.length:=(List.getElem?_eq_some_iff.1 hv).1
      refine⟨?_,?_⟩
      · rw [Nat.zero_add,Array.getElem?_append_left (by simpa using hj)]
        simpa using hv
      · obtain⟨_,_,_,_,h⟩:=hn j v hv
        exact h
end
end Go.Proofs.YtjolbldlhjfciaaGreatDoor
