/- The value layer: the loop that ranges over a function; no condition. -/
import Derived.Test.YtjolbldlhjfciaaGreatDoorWh
namespace Go.Proofs.YtjolbldlhjfciaaGreatDoor
open Go.RowKit
section
variable {P:Program} {Q:Exit->St->Prop} {st:St}
theorem ar_range {g:Operand} {p:Nat} {assign body:Code} {f:Nat} {args xs:List C} {X:Type} (ofs:Nat) (T:X->List (Nat × Ob)) (H:Nat->X->Prop) (hs:SeqA P f args xs) (hg:st.ev g = some (.c (.clo f args))) (hp:p < st.n)
    (hok:st.env.all (fun p=>vOk p.2 && Nat.blt p.1 ofs) = true) (hofs:st.n<=ofs) (h0 : ∃ x Y,Gh Y st ⟨T x,st.env,st.n⟩/\σok (T x) = true/\H 0 x)
    (round : ∀ k x c,xs[k]? = some c->H k x->AW P assign (thn (AW P body (rq T H Q ofs k st.env st.n)) (fun _ _=>False)) ⟨T x,(p,.c c) :: (st.env ++ gh0 ofs st.env),st.n⟩)
    (done : ∀ x,H xs.length x->Q .normal ⟨T x,st.env,st.n⟩):AR P (.rangeFunc g #[p] assign body) Q st:=by
  obtain⟨x0,Y,hgh,hx0,hH0⟩:=h0
  refine ar_gh hgh ⟨fun G0 G D a w hr hl hm=>?_⟩
  refine wpIn_rangeFunc fun fn _=>?_
  have hgv:=hr.ev (o:=g) (v:=.c (.clo f args)) hg
  simp only [VRp,Rp] at hgv
  obtain⟨vs,hgx,hvs⟩:=hgv
  obtain⟨rec,hrec⟩ : ∃ rec:LoopState->Option Code->Loop,rec = fun s pe=>{ state:=s,pending:=pe,fn,tmps:=a.tmps,params:=#[p],assign,body,defers:=w.heap.size }:=⟨_,rfl⟩
  obtain⟨W1,hW1⟩ : ∃ W1,(w.alloc (.deferred (some []))).alloc (.loop (rec .ready none)) = W1:=⟨_,rfl⟩
  have hL1:W1.heap[w.heap.size + 1]? = some (.loop (rec .ready none)):=by
    rw [<- hW1]; have:=World.alloc_heap_new (w.alloc (.deferred (some []))) (.loop (rec .ready none)); rwa [World.size_alloc] at this
  have hK1:W1.heap[w.heap.size]? = some (.deferred (some [])):=by
    rw [<- hW1]; exact (Below.heap_alloc _ _ _ (by simp)).trans (World.alloc_heap_new w _)
  have hS1:W1.heap.size = w.heap.size + 2:=by rw [<- hW1]; simp
  have hB1 : ∀ b,b < w.heap.size->W1.heap[b]? = w.heap[b]?:=fun b hb=>by
    rw [<- hW1]; exact (Below.heap_alloc _ _ _ (by simp; omega)).trans (Below.heap_alloc _ _ _ hb)
  have hO1:W1.os = w.os/\W1.tape = w.tape/\W1.output = w.output:=by rw [<- hW1]; exact⟨rfl,rfl,rfl⟩
  have hnp:a.tmps.size = st.n:=hr.ntmps
  obtain⟨gv',hgv'⟩ : ∃ gv',gv' = fun i=>if ofs<=i then slot G st.n a (i - ofs) else G.gv i:=⟨_,rfl⟩
  refine⟨w.heap.size + 1,[{ target:=.collected w.heap.size,args:=#[] }],W1,{ target:=.fn (.func f) vs.toArray,args:=#[.func (.yield (w.heap.size + 1)) #[] #[]] },W1,f,
    #[.func (.yield (w.heap.size + 1)) #[] #[]] ++ vs.toArray,W1,?_,?_,fun _ _=>trivial,?_,fun g=>by simp [Fw,Fence.wide] at g,?_⟩
  · rw [<- hW1,hrec]; exact run_enterLoop_outer _ _ _ _ _
  · simp only [resolve,hgx]
    simp [go_sem]
  · simp [invoke,go_sem,callFunc_run hs.ent]
  -- between two rounds
  have key:=hs.out (w.heap.size + 1) W1 (Imm G (T x0) D.fp w) vs
    (fun k W Z=>JJ G D ⟨T x0,st.env,st.n⟩ a w ofs (w.heap.size + 1) (fun σ=>∃ x,σ = T x/\σok (T x) = true/\H k x) (rec .ready none) W Z)
    (fun W Z=>∃ c:Code,JJ G D ⟨T x0,st.env,st.n⟩ a w ofs (w.heap.size + 1) (fun σ=>(c = .ret/\Q .ret ⟨σ,st.env,st.n⟩)\/∃ id,c = .exit id/\Q (.exit id) ⟨σ,st.env,st.n⟩) (rec .done (some c)) W Z)
    (fun b hb=>by have:=hb.2.1; omega)
    (RpL.frame (fun b hb=>hb) (fun b hb=>hB1 b hb.2.1) _ _ _ (by simp) hvs)
    (fun k W W' Z h ha=>h.abide rfl (by rwa [hS1] at ha)) (fun W W' Z ⟨c,h⟩ ha=>⟨c,h.abide rfl (by rwa [hS1] at ha)⟩) ?_
    (fun b=>b = w.heap.size + 1\/b = w.heap.size\/∃ p ∈ T x0,b ∈ D.fp p.1) ?_ (fun b hb=>?_)
  · refine key.mono ?_
    rintro e W' ⟨⟨v,rfl⟩,hh⟩
    -- behind the iterator
    have fin : ∀ (R:List (Nat × Ob)->Prop) (o:Loop) (Z:Nat->Prop),JJ G D ⟨T x0,st.env,st.n⟩ a w ofs (w.heap.size + 1) R o W' Z->∃ σ D',R σ/\W'.heap[w.heap.size + 1]? = some (.loop o)/\∀ o',∃ G',Rep D' G' ⟨σ,st.env,st.n⟩ { a with defers:={ target:=.collected w.heap.size,args:=#[] } :: a.defers } (W'.putObj (w.heap.size + 1) (.loop o'))/\Le G0 G'/\MkOk G0 G' G'.df:=by
      rintro R o Z ⟨σ,D',hR,hr',k1,k2,k3,k4,k5,k6,k7,k8,k9⟩
      refine⟨σ,D',hR,k1,fun o'=>⟨⟨W'.putObj (w.heap.size + 1) (.loop o'),fun b=>∃ p ∈ σ,b ∈ D'.fp p.1,Imm G (T x0) D.fp w,G.gv,{ target:=.collected w.heap.size,args:=#[] } :: G.df⟩,?_,?_,?_⟩⟩
      · have hne : ∀ b,b < w.heap.size->b≠w.heap.size + 1:=fun b hb=>by omega
        have hr2:=hr'.rebase (w':=W'.putObj (w.heap.size + 1) (.loop o')) (Imm G (T x0) D.fp w) (fun b hb=>by
            rcases hb.1 with g | ⟨p,hp,g⟩ | g
            · exact g
            · exact absurd g (hb.2.2 p hp)
            · exact absurd hb.2.1 (Nat.not_lt.2 g)) (fun b hb=>by have:=hb.2.1; omega) (fun b hb=>World.putObj_heap_other (by
            rcases hb.1 with g | ⟨p,hp,g⟩ | g
            · exact hne b g.2.1
            · exact absurd g (hb.2.2 p hp)
            · exact absurd hb.2.1 (Nat.not_lt.2 g))) (fun p hp b hb=>World.putObj_heap_other (by rcases k6 p hp b hb with g | g <;> omega)) (by simp)
        refine⟨hr2.obs,hr2.dom,hr2.nodup,hr2.disj1,hr2.disj2,fun i v hv=>?_,hr2.own,hr2.frame,hr2.size,hr2.os,hr2.tape,hr2.output,hnp,by show _ :: _ = _ :: _; rw [hr.defers]⟩
        obtain⟨x,hx,hv2⟩:=hr2.env _ v (lk_gh0 (ofs:=ofs) hv)
        refine⟨x,?_,hv2⟩
        rw [slot_ge (show st.n<=i + ofs by omega)] at hx
        simp only [show ofs<=i + ofs by omega,if_true,Nat.add_sub_cancel] at hx
        exact hx
      · have hu:=hr.unle hl
        refine⟨by have:=hu.size; show _<=(W'.putObj _ _).heap.size; simp; have h2:G0.w0.heap.size<=w.heap.size:=this; omega,fun b hb hn=>?_,fun b hb=>?_,fun b hb=>?_,hl.gv,k7.trans hu.os,k8.trans hu.tape,k9.trans hu.output⟩
        · have h2:G0.w0.heap.size<=w.heap.size:=hu.size
          have h3:b < w.heap.size:=by omega
          refine (World.putObj_heap_other (by omega)).trans ((k5 b h3 fun p hp g=>?_).trans (hu.frame b hb hn))
          rcases hu.own p hp b g with h | h
          · exact hn h
          · exact absurd hb (Nat.not_lt.2 h)
        · obtain⟨p,hp,g⟩:=hb
          rcases k6 p hp b g with ⟨_,q,hq,h⟩ | h
          · exact hu.own q hq b h
          · have h2:G0.w0.heap.size<=w.heap.size:=hu.size
            exact .inr (by omega)
        · rcases hb.1 with h | h | h
          · exact hl.imm b h
          · exact .inr (hl.own b h)
          · exact .inr (.inr (Nat.le_trans hl.size h))
      · have hu:=hr.unle hl
        have h2:G0.w0.heap.size<=w.heap.size:=hu.size
        have hsz:=hr.size
        refine⟨List.pairwise_cons.2 ⟨fun d hd e=>?_,hm.1⟩,fun d hd=>?_⟩
        · obtain⟨b,rfl,q1,_⟩:=hm.2 d hd
          have:b < G.w0.heap.size:=(Array.getElem?_eq_some_iff.1 q1).1
          simp at e; omega
        · rcases List.mem_cons.1 hd with rfl | hd
          · refine⟨_,rfl,(World.putObj_heap_other (by omega)).trans k2,fun⟨p,hp,g⟩=>?_,fun g=>absurd g.2.1 (Nat.lt_irrefl _),h2⟩
            rcases k6 p hp _ g with h | h <;> omega
          · obtain⟨b,rfl,q1,q2,q3,q4⟩:=hm.2 d hd
            have hb:b < G.w0.heap.size:=(Array.getElem?_eq_some_iff.1 q1).1
            have hnf : ∀ p ∈ T x0,b ∉ D.fp p.1:=fun p hp g=>by
              rcases hr.own p hp b g with h | h
              · exact q2 h
              · omega
            refine⟨b,rfl,(World.putObj_heap_other (by omega)).trans ((k5 b (by omega) hnf).trans ((hr.frame b hb q2).trans q1)),fun⟨p,hp,g⟩=>?_,fun g=>?_,q4⟩
            · rcases k6 p hp _ g with ⟨_,q,hq,h⟩ | h
              · exact hnf q hq h
              · omega
            · rcases g.1 with h | h | h
              · exact q3 h
              · exact q2 h
              · omega
    rcases hh with ⟨Z,hh⟩ | ⟨Z,c,hh⟩
    · obtain⟨σ,D',⟨x,rfl,_,hx⟩,hl1,hfin⟩:=fin _ _ _ hh
      obtain⟨G',h1,h2,h3⟩:=hfin (rec .exhausted none)
      refine⟨none,_,by have:=run_endLoop (P:=P) hl1 (by rw [hrec]; simp); rw [hrec] at this; exact this,G',D',_,done x hx,?_,h2,h3⟩
      rw [hrec] at h1; exact h1
    · obtain⟨σ,D',hx,hl1,hfin⟩:=fin _ _ _ hh
      obtain⟨G',h1,h2,h3⟩:=hfin (rec .exhausted (some c))
      refine⟨some c,_,by have:=run_endLoop (P:=P) hl1 (by rw [hrec]; simp); rw [hrec] at this; exact this,?_⟩
      rw [hrec] at h1
      rcases hx with ⟨rfl,hq⟩ | ⟨id,rfl,hq⟩
      · exact wpIn_ret ⟨G',D',_,hq,h1,h2,h3⟩
      · exact wpIn_exit ⟨G',D',_,hq,h1,h2,h3⟩
  · -- one round
    rintro k W Z Ie c v hc ⟨σ,D',⟨x,rfl,hxo,hHx⟩,hr',k1,k2,k3,k4,k5,k6,k7,k8,k9⟩ hWs hIe hv
    have hlt:w.heap.size + 1 < W.heap.size:=by omega
    have hy:=run_yield (P:=P) (args:=#[v]) k1 (by rw [hrec]; rfl)
    rw [hrec] at hy
    have hfpl : ∀ q ∈ T x,∀ b ∈ D'.fp q.1,b≠w.heap.size + 1/\b≠w.heap.size:=fun q hq b hb=>by rcases k6 q hq b hb with g | g <;> omega
    have hIn : ∀ b,Ie b->b≠w.heap.size + 1/\b≠w.heap.size/\∀ q ∈ T x,b ∉ D'.fp q.1:=fun b hb=>by
      have:=(hIe b hb).2
      rw [k3] at this
      exact⟨fun e=>this (.inl e),fun e=>this (.inr (.inl e)),fun q hq g=>this (.inr (.inr ⟨q,hq,g⟩))⟩
    -- the round's frame begins
    have hI1 : ∀ b,Imm ⟨W,fun b=>∃ p ∈ T x,b ∈ D'.fp p.1,Imm G (T x0) D.fp w,gv',[]⟩ (T x) D'.fp W b->Imm ⟨W,fun b=>∃ p ∈ T x,b ∈ D'.fp p.1,fun b=>Imm G (T x0) D.fp w b\/Ie b,gv',[]⟩ (T x) D'.fp W b:=fun b hb=>⟨by
      rcases hb.1 with g | g | g
      · exact .inl (.inl g)
      · exact .inr (.inl g)
      · exact .inr (.inr g),hb.2.1,hb.2.2⟩
    have hr1:Rep D' ⟨W,fun b=>∃ p ∈ T x,b ∈ D'.fp p.1,fun b=>Imm G (T x0) D.fp w b\/Ie b,gv',[]⟩ ⟨T x,(p,.c c) :: (st.env ++ gh0 ofs st.env),st.n⟩ { tmps:=a.tmps.setIfInBounds p v,defers:=[] } W:=by
      rw [<- hgv'] at hr'
      refine⟨fun q hq=>let ⟨lo,h1,h2⟩:=hr'.obs q hq; ⟨lo,h1,h2.frame hI1 (fun _ _=>rfl) (fun _ _ h=>h) (fun _ _=>rfl)⟩,hr'.dom,hr'.nodup,hr'.disj1,hr'.disj2,fun i u hu=>?_,hr'.own,fun _ _ _=>rfl,Nat.le_refl _,rfl,rfl,rfl,by simp [hnp],rfl⟩
      have old : ∀ j,lk j st.env = some u->∃ y,slot G st.n a j = some y/\VRp W (Imm ⟨W,fun b=>∃ p ∈ T x,b ∈ D'.fp p.1,fun b=>Imm G (T x0) D.fp w b\/Ie b,gv',[]⟩ (T x) D'.fp W) D'.M u y:=fun j hj=>by
        obtain⟨y,hy1,hy2⟩:=hr'.env _ u (lk_gh0 (ofs:=ofs) hj)
        rw [slot_ge (show st.n<=j + ofs by omega)] at hy1
        simp only [hgv',show ofs<=j + ofs by omega,if_true,Nat.add_sub_cancel] at hy1
        exact⟨y,hy1,VRp.frame hI1 (fun _ _=>rfl) (fun _ _ h=>h) _ _ hy2⟩
      simp only [lk] at hu
      cases hb:Nat.beq p i with
      | true=>
        rw [hb] at hu
        simp only [cond_true,Option.some.injEq] at hu
        subst hu
        simp only [Nat.beq_eq] at hb
        subst hb
        refine⟨v,?_,?_⟩
        · unfold slot
          rw [show Nat.blt p st.n = true by simp; exact hp]
          simp only [cond_true]
          simp [hnp,hp]
        · simp only [VRp]
          exact Rp.frame (fun b hb=>⟨.inl (.inr hb),(hIe b hb).1,(hIn b hb).2.2⟩) (fun _ _=>rfl) _ _ _ (by simp) hv
      | false=>
        rw [hb] at hu
        simp only [cond_false] at hu
        have hne:p≠i:=fun e=>by rw [e] at hb; simp at hb
        rcases lk_app hu with h | h
        · obtain⟨y,hy1,hy2⟩:=old i h
          refine⟨y,?_,hy2⟩
          have hko:=lk_key hok h
          simp only [Bool.and_eq_true,Nat.blt_eq] at hko
          unfold slot at hy1 ⊢
          cases hbl:Nat.blt i st.n with
          | true=>rw [hbl] at hy1; simp only [cond_true] at hy1 ⊢; rw [Array.getElem?_setIfInBounds_ne hne]; exact hy1
          | false=>rw [hbl] at hy1; simp only [cond_false,hgv'] at hy1 ⊢; rw [if_neg (by omega)]; exact hy1
        · obtain⟨j,rfl,h2⟩:=lk_gh0' h
          obtain⟨y,hy1,hy2⟩:=old j h2
          refine⟨y,?_,hy2⟩
          rw [slot_ge (show st.n<=j + ofs by omega)]
          simp only [hgv',show ofs<=j + ofs by omega,if_true,Nat.add_sub_cancel]; exact hy1
    have hy2:(Instr.yield (w.heap.size + 1) #[v]).run P W = .ok (.round (w.heap.size + 1) fn (a.tmps.setIfInBounds p v) assign body) W:=by
      rw [hy]
      have:((#[p] : Array Tmp).zip #[v]).foldl (fun tmps (t,a)=>tmps.setIfInBounds t a) a.tmps = a.tmps.setIfInBounds p v:=by simp
      rw [<- this]
    refine⟨fn,_,assign,body,hy2,roundIn_of_wpIn trivial ?_⟩
    refine wpIn_mono ((round k x c hc hHx).out _ _ _ _ hr1 (some (w.heap.size + 1))) ?_
    rintro e a2 w2 ⟨D2,s1,hq,hr2⟩
    cases e with
    | normal=>
      have hn1 : ∀ b,(b = w.heap.size + 1\/b = w.heap.size)->¬ Imm ⟨W,fun b=>∃ p ∈ T x,b ∈ D'.fp p.1,fun b=>Imm G (T x0) D.fp w b\/Ie b,gv',[]⟩ s1.σ D2.fp w2 b/\(∀ q ∈ s1.σ,b ∉ D2.fp q.1)/\¬ ∃ p ∈ T x,b ∈ D'.fp p.1:=fun b hb=>by
        have h3 : ¬ ∃ p ∈ T x,b ∈ D'.fp p.1:=fun⟨q,hq,g⟩=>by rcases k6 q hq b g with h | h <;> omega
        refine⟨fun g=>?_,fun q hq g=>?_,h3⟩
        · rcases g.1 with (h | h) | h | h
          · have:=h.2.1; omega
          · have:=hIn b h; omega
          · exact h3 h
          · have h:W.heap.size<=b:=h; omega
        · rcases hr2.own q hq b g with h | h
          · exact h3 h
          · have h:W.heap.size<=b:=h; omega
      have hl2:w2.heap[w.heap.size + 1]? = some (.loop (rec .ready none)):=(hr2.frame _ hlt (hn1 _ (.inl rfl)).2.2).trans k1
      have hd2:w2.heap[w.heap.size]? = some (.deferred (some [])):=(hr2.frame _ (by show _ < W.heap.size; omega) (hn1 _ (.inr rfl)).2.2).trans k2
      have hs2:W.heap.size<=w2.heap.size:=hr2.size
      refine⟨_,run_beginRound hl2 (by rw [hrec]),?_⟩
      have hr3:=hr2.rebase (w':=w2.putObj (w.heap.size + 1) (.loop { rec .ready none with state:=.busy })) (Imm ⟨W,fun b=>∃ p ∈ T x,b ∈ D'.fp p.1,fun b=>Imm G (T x0) D.fp w b\/Ie b,gv',[]⟩ s1.σ D2.fp w2) (fun _ h=>h) (fun _ h=>h.2.1)
        (fun b hb=>World.putObj_heap_other fun e=>(hn1 b (.inl e)).1 hb) (fun q hq b hb=>World.putObj_heap_other fun e=>(hn1 b (.inl e)).2.1 q hq hb) (by simp)
      refine wpIn_mono (AW.out hq _ _ _ _ hr3 (some (w.heap.size + 1))) ?_
      rintro e a4 w4 ⟨D4,s4,hq4,hr4⟩
      -- the round's end
      have rend : ∀ (σ3:List (Nat × Ob)) (Y:List Nat) (R:List (Nat × Ob)->Prop),Gh Y s4 ⟨σ3,gh0 ofs st.env,st.n⟩->σok σ3 = true->R σ3->
          w4.heap[w.heap.size + 1]? = some (.loop { rec .ready none with state:=.busy })/\∀ o' : Loop,∃ Z',JJ G D ⟨T x0,st.env,st.n⟩ a w ofs (w.heap.size + 1) R o' (w4.putObj (w.heap.size + 1) (.loop o')) Z'/\Grw Z W Z' (w4.putObj (w.heap.size + 1) (.loop o')):=fun σ3 Y R hgh3 hσ3 hR3=>by
        obtain⟨D5,hr5,_⟩:=hgh3 D4 _ a4 w4 hr4
        refine round_end (st:=⟨T x0,st.env,st.n⟩) hr hok hofs rfl (W:=W) (fun b hb=>?_) ⟨(k3 _).2 (.inl rfl),(k3 _).2 (.inr (.inl rfl))⟩ (by omega) k5 ⟨k7,k8,k9⟩ hr5 hgv' hσ3 (by simpa using hs2) (fun b hb hn=>?_) (fun b hb=>?_) ⟨World.putObj_heap_same (by omega),(World.putObj_heap_other (by omega)).trans hd2⟩ ⟨hr2.os,hr2.tape,hr2.output⟩ hR3
        · rcases (k3 b).1 hb with h | h | ⟨q,hq,h⟩
          · exact .inl h
          · exact .inr (.inl h)
          · exact .inr (.inr (k6 q hq b h))
        · have hbl:b≠w.heap.size + 1:=fun e=>hn ((k3 b).2 (.inl e))
          exact (World.putObj_heap_other hbl).trans (hr2.frame b hb fun⟨q,hq,h⟩=>hn ((k3 b).2 (.inr (.inr ⟨q,hq,h⟩))))
        · obtain⟨q,hq,h⟩:=hb
          rcases hr2.own q hq b h with ⟨q',hq',h'⟩ | h'
          · exact .inl ⟨(k3 b).2 (.inr (.inr ⟨q',hq',h'⟩)),hfpl q' hq' b h'⟩
          · exact .inr h'
      cases e with
      | normal=>
        obtain⟨x',Y',hgh3,hσ3,hH3⟩:=hq4
        obtain⟨hl4,hj⟩:=rend _ _ (fun σ=>∃ x,σ = T x/\σok (T x) = true/\H (k + 1) x) hgh3 hσ3 ⟨x',rfl,hσ3,hH3⟩
        obtain⟨Z',hj1,hj2⟩:=hj (rec .ready none)
        have hend:=run_endRound (P:=P) none hl4
        refine⟨_,_,hend,.inl ⟨rfl,Z',?_,?_⟩⟩
        · rw [hrec] at hj1 ⊢; exact hj1
        · rw [hrec] at hj2 ⊢; exact hj2
      | ret=>
        obtain⟨σ3,Y',hgh3,hσ3,hH3⟩:=hq4
        obtain⟨hl4,hj⟩:=rend _ _ (fun σ=>(Code.ret = Code.ret/\Q .ret ⟨σ,st.env,st.n⟩)\/∃ id,Code.ret = .exit id/\Q (.exit id) ⟨σ,st.env,st.n⟩) hgh3 hσ3 (.inl ⟨rfl,hH3⟩)
        obtain⟨Z',hj1,hj2⟩:=hj (rec .done (some .ret))
        have hend:=run_endRound (P:=P) (some .ret) hl4
        refine⟨_,_,hend,.inr ⟨rfl,Z',⟨.ret,?_⟩,?_⟩⟩
        · rw [hrec] at hj1 ⊢; exact hj1
        · rw [hrec] at hj2 ⊢; exact hj2
      | exit id=>
        obtain⟨σ3,Y',hgh3,hσ3,hH3⟩:=hq4
        obtain⟨hl4,hj⟩:=rend _ _ (fun σ=>(Code.exit id = Code.ret/\Q .ret ⟨σ,st.env,st.n⟩)\/∃ id',Code.exit id = .exit id'/\Q (.exit id') ⟨σ,st.env,st.n⟩) hgh3 hσ3 (.inr ⟨id,rfl,hH3⟩)
        obtain⟨Z',hj1,hj2⟩:=hj (rec .done (some (.exit id)))
        have hend:=run_endRound (P:=P) (some (.exit id)) hl4
        refine⟨_,_,hend,.inr ⟨rfl,Z',⟨.exit id,?_⟩,?_⟩⟩
        · rw [hrec] at hj1 ⊢; exact hj1
        · rw [hrec] at hj2 ⊢; exact hj2
      | _=>exact hq4.elim
    | _=>exact hq.elim
  · -- the start
    refine⟨T x0,D,⟨x0,rfl,hx0,hH0⟩,?_,hL1,hK1,fun b=>Iff.rfl,by omega,fun b hb _=>hB1 b hb,fun p hp b hb=>.inl ⟨hr.lt hp hb,p,hp,hb⟩,hO1.1,hO1.2.1,hO1.2.2⟩
    have hr2:=hr.rebase (w':=W1) (Imm G (T x0) D.fp w) (fun _ h=>h) (fun _ h=>h.2.1) (fun b hb=>hB1 b hb.2.1) (fun p hp b hb=>hB1 b (hr.lt hp hb)) (by omega)
    refine⟨hr2.obs,hr2.dom,hr2.nodup,hr2.disj1,hr2.disj2,fun i v hv=>?_,hr2.own,hr2.frame,hr2.size,hr2.os,hr2.tape,hr2.output,hnp,rfl⟩
    obtain⟨j,rfl,h2⟩:=lk_gh0' hv
    obtain⟨y,hy1,hy2⟩:=hr2.env _ v h2
    refine⟨y,?_,hy2⟩
    rw [slot_ge (show st.n<=j + ofs by omega)]
    simp only [show ofs<=j + ofs by omega,if_true,Nat.add_sub_cancel]; exact hy1
  · refine⟨?_,fun g=>?_⟩
    · rcases hb with h | h | ⟨p,hp,h⟩
      · omega
      · omega
      · have:=hr.lt hp h; omega
    · rcases hb with h | h | ⟨p,hp,h⟩
      · have:=g.2.1; omega
      · have:=g.2.1; omega
      · exact g.2.2 p hp h
end
end Go.Proofs.YtjolbldlhjfciaaGreatDoor
