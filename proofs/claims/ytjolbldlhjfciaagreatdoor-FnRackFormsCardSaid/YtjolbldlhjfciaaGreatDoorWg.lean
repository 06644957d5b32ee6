/- The value layer: loops that range over a function: the walk of the loop's function; no condition. -/
import Derived.Test.YtjolbldlhjfciaaGreatDoorWf
namespace Go.Proofs.YtjolbldlhjfciaaGreatDoor
theorem Rep.rebase {D:Data} {G:Glob} {st:St} {a:Act} {w w' : World} (h:Rep D G st a w) (I0' : Nat->Prop) (hI : ∀ b,Imm G st.σ D.fp w b->I0' b) (_hI2 : ∀ b,I0' b->b < w.heap.size)
    (hk : ∀ b,Imm G st.σ D.fp w b->w'.heap[b]? = w.heap[b]?) (hf : ∀ p ∈ st.σ,∀ b ∈ D.fp p.1,w'.heap[b]? = w.heap[b]?) (hs:w.heap.size<=w'.heap.size) :
    Rep D ⟨w',fun b=>∃ p ∈ st.σ,b ∈ D.fp p.1,I0',G.gv,G.df⟩ st a w':=by
  have hI' : ∀ b,Imm G st.σ D.fp w b->Imm ⟨w',fun b=>∃ p ∈ st.σ,b ∈ D.fp p.1,I0',G.gv,G.df⟩ st.σ D.fp w' b:=fun b hb=>⟨.inl (hI b hb),by have:=hb.2.1; omega,hb.2.2⟩
  exact⟨fun p hp=>let ⟨l,h1,h2⟩:=h.obs p hp; ⟨l,h1,h2.frame hI' hk (fun _ _ h=>h) (hf p hp)⟩,h.dom,h.nodup,h.disj1,h.disj2,
    fun i v hv=>let ⟨x,h1,h2⟩:=h.env i v hv; ⟨x,h1,VRp.frame hI' hk (fun _ _ h=>h) _ _ h2⟩,fun p hp b hb=>.inl ⟨p,hp,hb⟩,fun _ _ _=>rfl,Nat.le_refl _,rfl,rfl,rfl,h.ntmps,h.defers⟩
structure Le (G G' : Glob):Prop where
  size:G.w0.heap.size<=G'.w0.heap.size
  frame : ∀ b,b < G.w0.heap.size->¬ G.F0 b->G'.w0.heap[b]? = G.w0.heap[b]?
  own : ∀ b,G'.F0 b->G.F0 b\/G.w0.heap.size<=b
  imm : ∀ b,G'.I0 b->G.I0 b\/G.F0 b\/G.w0.heap.size<=b
  gv:G'.gv = G.gv
  os:G'.w0.os = G.w0.os
  tape:G'.w0.tape = G.w0.tape
  output:G'.w0.output = G.w0.output
theorem Le.refl (G:Glob):Le G G:=⟨Nat.le_refl _,fun _ _ _=>rfl,fun _ h=>.inl h,fun _ h=>.inl h,rfl,rfl,rfl,rfl⟩
theorem Rep.unle {G G' : Glob} (hl:Le G G') {D:Data} {st:St} {a:Act} {w:World} (h:Rep D G' st a w):Rep D ⟨G.w0,G.F0,G.I0,G.gv,G'.df⟩ st a w:=by
  have hI : ∀ b,Imm G' st.σ D.fp w b->Imm ⟨G.w0,G.F0,G.I0,G.gv,G'.df⟩ st.σ D.fp w b:=fun b hb=>⟨by
    rcases hb.1 with h1 | h1 | h1
    · exact hl.imm b h1
    · exact .inr (hl.own b h1)
    · exact .inr (.inr (by have:=hl.size; show G.w0.heap.size<=b; omega)),hb.2.1,hb.2.2⟩
  refine⟨fun p hp=>let ⟨l,h1,h2⟩:=h.obs p hp; ⟨l,h1,h2.frame hI (fun _ _=>rfl) (fun _ _ h=>h) (fun _ _=>rfl)⟩,h.dom,h.nodup,h.disj1,h.disj2,
    fun i v hv=>let ⟨x,h1,h2⟩:=h.env i v hv; ⟨x,by rw [<- h1]; unfold slot; rw [hl.gv],VRp.frame hI (fun _ _=>rfl) (fun _ _ h=>h) _ _ h2⟩,fun p hp b hb=>?_,fun b hb hn=>?_,Nat.le_trans hl.size h.size,h.os.trans hl.os,h.tape.trans hl.tape,h.output.trans hl.output,h.ntmps,h.defers⟩
  · rcases h.own p hp b hb with h1 | h1
    · exact hl.own b h1
    · exact .inr (Nat.le_trans hl.size h1)
  · have hlt:=hl.size
    rw [h.frame b (Nat.lt_of_lt_of_le hb hlt) fun g=>(hl.own b g).elim hn fun g=>by have:b < G.w0.heap.size:=hb; omega]
    exact hl.frame b hb hn
def MkOk (G0 G:Glob) (ds:List Deferred):Prop:=(ds.Pairwise fun d e=>d.target≠e.target)/\∀ d ∈ ds,∃ b,d = { target:=.collected b,args:=#[] }/\G.w0.heap[b]? = some (.deferred (some []))/\¬ G.F0 b/\¬ G.I0 b/\G0.w0.heap.size<=b
structure AR (P:Program) (c:Code) (Q:Exit->St->Prop) (st:St):Prop where
  out : ∀ (G0 G:Glob) (D:Data) (a:Act) (w:World),Rep D G st a w->Le G0 G->MkOk G0 G G.df->
    c.wpIn (Fw none) 0 P (fun e a' w'=>∃ G' D' st',Q e st'/\Rep D' G' st' a' w'/\Le G0 G'/\MkOk G0 G' G'.df) a w
section
variable {P:Program} {Q:Exit->St->Prop} {st:St}
theorem ar_aw {c:Code} (h:AW P c Q st):AR P c Q st:=⟨fun _ G D a w hr hl hm=>wpIn_mono (h.out G D a w hr none) fun _ _ _ ⟨D',st',h1,h2⟩=>⟨G,D',st',h1,h2,hl,hm⟩⟩
theorem ar_seq {x y:Code} (h:AW P x (thn (AR P y Q) Q) st):AR P (.seq x y) Q st:=⟨fun G0 G D a w hr hl hm=>
  wpIn_seq (wpIn_mono (h.out G D a w hr none) fun e a' w' ⟨D',st',h1,h2⟩=>by
    cases e with
    | normal=>exact AR.out h1 G0 G D' a' w' h2 hl hm
    | _=>exact⟨G,D',st',h1,h2,hl,hm⟩)⟩
theorem ar_seqK {x y:Code} (h:AR P x (thn (AR P y Q) Q) st):AR P (.seq x y) Q st:=⟨fun G0 G D a w hr hl hm=>
  wpIn_seq (wpIn_mono (h.out G0 G D a w hr hl hm) fun e a' w' ⟨G',D',st',h1,h2,h3,h4⟩=>by
    cases e with
    | normal=>exact AR.out h1 G0 G' D' a' w' h2 h3 h4
    | _=>exact⟨G',D',st',h1,h2,h3,h4⟩)⟩
theorem ar_block {id:Nat} {c:Code} (h:AR P c (inBlk id Q) st):AR P (.block id c) Q st:=⟨fun G0 G D a w hr hl hm=>
  wpIn_block (wpIn_mono (h.out G0 G D a w hr hl hm) fun e a' w' ⟨G',D',st',h1,h2⟩=>by
    cases e with
    | exit id'=>
      simp only [inBlk] at h1
      simp only [Exit.inBlock]
      split
      · rename_i he; rw [if_pos he] at h1; exact⟨G',D',st',h1,h2⟩
      · rename_i he; rw [if_neg he] at h1; exact⟨G',D',st',h1,h2⟩
    | _=>exact⟨G',D',st',h1,h2⟩)⟩
theorem ar_gh {Y:List Nat} {st' : St} {c:Code} (hg:Gh Y st st') (h:AR P c Q st'):AR P c Q st:=⟨fun G0 G D a w hr hl hm=>
  let ⟨D',h1,_⟩:=hg D G a w hr
  h.out G0 G D' a w h1 hl hm⟩
end
theorem leave_marks {P:Program} {fn:Func} {R:Ending->World->Prop} {G0:Glob} {st:St} {tm:Array Value}
    (fin : ∀ (D:Data) (G:Glob) (a:Act) (w:World),a.tmps = tm->Rep D G st a w->G.df = []->Le G0 G->∃ x,(results fn tm).run P w = .ok x w/\R (.returned x) w) :
    ∀ (ds:List Deferred) (D:Data) (G:Glob) (a:Act) (w:World),a.tmps = tm->Rep D G st a w->Le G0 G->G.df = ds->MkOk G0 G ds->LeavesInM (Fw none) 0 P fn tm R ds .returning w:=by
  intro ds
  induction ds with
  | nil=>intro D G a w ht hr hl hd _; exact fin D G a w ht hr hd hl
  | cons d ds ih=>
    intro D G a w ht hr hl hd ⟨hp,hm⟩
    obtain⟨b,rfl,h1,h2,h3,h4⟩:=hm d List.mem_cons_self
    rw [List.pairwise_cons] at hp
    have hb:b < G.w0.heap.size:=(Array.getElem?_eq_some_iff.1 h1).1
    have hw:w.heap[b]? = some (.deferred (some [])):=(hr.frame b hb h2).trans h1
    have hnI : ¬ Imm G st.σ D.fp w b:=fun g=>by
      rcases g.1 with g | g | g
      · exact h3 g
      · exact h2 g
      · omega
    have hnF : ∀ p ∈ st.σ,b ∉ D.fp p.1:=fun p hp g=>by
      rcases hr.own p hp b g with g | g
      · exact h2 g
      · omega
    have hr1:=hr.rebase (w':=w.putObj b (.deferred none)) (Imm G st.σ D.fp w) (fun _ h=>h) (fun _ h=>h.2.1)
      (fun c hc=>World.putObj_heap_other fun e=>hnI (e ▸ hc)) (fun p hp c hc=>World.putObj_heap_other fun e=>hnF p hp (e ▸ hc)) (by simp)
    have hr2:Rep D ⟨w.putObj b (.deferred none),fun b=>∃ p ∈ st.σ,b ∈ D.fp p.1,Imm G st.σ D.fp w,G.gv,ds⟩ st { a with defers:=ds } (w.putObj b (.deferred none)):=
      ⟨hr1.obs,hr1.dom,hr1.nodup,hr1.disj1,hr1.disj2,hr1.env,hr1.own,hr1.frame,hr1.size,hr1.os,hr1.tape,hr1.output,hr1.ntmps,rfl⟩
    have hu:=hr.unle hl
    refine⟨by simp,.inl ⟨b,_,rfl,run_takeDeferred hw,ih D _ { a with defers:=ds } _ ht hr2 ?_ rfl ⟨hp.2,fun e he=>?_⟩⟩⟩
    · refine⟨by show _<=(w.putObj b _).heap.size; simpa using hu.size,fun c hc hn=>?_,fun c ⟨p,hp,hc⟩=>hu.own p hp c hc,fun c hc=>?_,hl.gv,hu.os,hu.tape,hu.output⟩
      · exact (World.putObj_heap_other (by omega)).trans (hu.frame c hc hn)
      · rcases hc.1 with g | g | g
        · exact hl.imm c g
        · exact .inr (hl.own c g)
        · exact .inr (.inr (Nat.le_trans hl.size g))
    · obtain⟨b',rfl,k1,k2,k3,k4⟩:=hm e (List.mem_cons_of_mem _ he)
      have hne:b'≠b:=fun e2=>hp.1 _ he (by rw [e2])
      have hb' : b' < G.w0.heap.size:=(Array.getElem?_eq_some_iff.1 k1).1
      refine⟨b',rfl,(World.putObj_heap_other hne).trans ((hr.frame b' hb' k2).trans k1),fun⟨p,hp,g⟩=>?_,fun g=>?_,k4⟩
      · rcases hr.own p hp b' g with g | g
        · exact k2 g
        · omega
      · rcases g.1 with g | g | g
        · exact k3 g
        · exact k2 g
        · omega
theorem af_enterK {P : Program} {f : Nat} {fn : Func} {c : Code} {args : List C} {Q : C -> Prop} (hf : P.funcs[f]? = some fn) (hb : fn.body = some c) (he : (fn.name == "runtime.NumGoroutine") = false) {n : Nat} (hn : fn.ntmps = n) (hl : args.length <= n)
    (h:AR P c (RetAF P fn Q) ⟨[],initE 0 args,n⟩):AF P f args Q:=by
  refine⟨by simp [EntB,hf,hb,he],fun w I vals hI hv=>?_⟩
  refine (callsIn_wide (n:=0)).1 (callsIn_of_wp_marks (F:=Fw none) hf hb trivial ?_ rfl)
  have hvl:=hv.length
  have hr:Rep ⟨fun _=>none,fun _=>[]⟩ ⟨w,fun _=>False,I,fun _=>none,[]⟩ ⟨[],initE 0 args,n⟩ { tmps:=vals.toArray ++ Array.replicate (fn.ntmps - vals.toArray.size) undef,defers:=[] } w:=by
    refine⟨by simp,by simp,by simp,by simp,by simp,?_,by simp,fun _ _ _=>rfl,Nat.le_refl _,rfl,rfl,rfl,by simp; omega,rfl⟩
    intro i v hiv
    obtain⟨j,y,h1,h2,rfl⟩:=lk_initE hiv
    obtain⟨x,e1,e2⟩:=hv.get0 h2
    have hj:j < vals.length:=(List.getElem?_eq_some_iff.1 e1).1
    refine⟨x,?_,?_⟩
    · simp only [slot,h1,Nat.zero_add,show Nat.blt j n = true by simp; omega,cond_true]
      rw [Array.getElem?_append_left (by simpa using hj)]
      simpa using e1
    · simp only [VRp]
      exact Rp.frame (fun b hb=>⟨.inl hb,hI b hb,by simp⟩) (fun _ _=>rfl) _ _ _ (by simp) e2
  refine wpIn_mono (h.out _ _ _ _ _ hr (Le.refl _) ⟨List.Pairwise.nil,by simp⟩) fun e a' w' ⟨G',D',st',hq,hr',hle,hmk⟩=>?_
  have fin : ∀ v c ids,RetV P fn st' v->Go.Proofs.YtjolbldlhjfciaaGreatDoor.hv st'.σ v = some (c,ids)->nodupB ids = true->Q c->LeavesInM (Fw none) 0 P fn a'.tmps (fun e w'=>∃ r y fr,e = Ending.returned y/\Q r/\Rp w' (fun b=>I b\/(w.heap.size<=b/\b < w'.heap.size/\b ∉ fr)) r y fr/\fr.Nodup/\(∀ b ∈ fr,w.heap.size<=b)/\
      w.heap.size<=w'.heap.size/\(∀ b,b < w.heap.size->w'.heap[b]? = w.heap[b]?)/\w'.os = w.os/\w'.tape = w.tape/\w'.output = w.output) a'.defers .returning w':=by
    intro v c ids h1 h2 h3 h4
    have hdf:G'.df = a'.defers:=hr'.defers.symm
    refine leave_marks (tm:=a'.tmps) (fun D1 G1 a1 w1 ht1 hr1 hd1 hl1=>?_) _ _ _ _ _ rfl hr' hle hdf (hdf ▸ hmk)
    have hr2:=hr1.unle hl1
    obtain⟨x,e1,e2⟩:=h1 D1 _ a1 w1 hr2
    rw [ht1] at e1
    obtain⟨g1,g2⟩:=hv_spec hr2 v x c ids h2 e2
    have hnd:=nodupB_spec h3
    refine⟨x,e1,c,x,ids.flatMap D1.fp,rfl,h4,?_,?_,?_,hr2.size,fun b hb=>hr2.frame b hb (fun hf=>hf),hr2.os,hr2.tape,hr2.output⟩
    · refine Rp.frame (fun b hb=>?_) (fun _ _=>rfl) _ _ _ (fun _ _=>rfl) g1
      rcases hb with ⟨h5 | h5 | h5,h6,h7⟩
      · exact .inl h5
      · exact h5.elim
      · exact .inr ⟨h5,h6,fun hm=>by
          obtain⟨i,hi,hbi⟩:=List.mem_flatMap.1 hm
          obtain⟨p,hp,rfl⟩:=g2 i hi
          exact h7 p hp hbi⟩
    · refine flat_nodup hnd (fun i hi=>?_) (fun i hi j hj hij b hbi=>?_)
      · obtain⟨p,hp,rfl⟩:=g2 i hi; exact hr2.disj1 p hp
      · obtain⟨p,hp,rfl⟩:=g2 i hi
        obtain⟨q,hq',rfl⟩:=g2 j hj
        exact hr2.disj2 p hp q hq' hij b hbi
    · intro b hm
      obtain⟨i,hi,hbi⟩:=List.mem_flatMap.1 hm
      obtain⟨p,hp,rfl⟩:=g2 i hi
      rcases hr2.own p hp b hbi with h5 | h5
      · exact h5.elim
      · exact h5
  cases e with
  | normal=>obtain⟨v,c,ids,h1,h2,h3,h4⟩:=hq; exact fin v c ids h1 h2 h3 h4
  | ret=>obtain⟨v,c,ids,h1,h2,h3,h4⟩:=hq; exact fin v c ids h1 h2 h3 h4
  | _=>exact hq.elim
end Go.Proofs.YtjolbldlhjfciaaGreatDoor
