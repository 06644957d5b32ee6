/- The value layer: functions that yield beside what they turn, and the iterators over them; no condition. -/
import Derived.Test.YtjolbldlhjfciaaGreatDoorWn
namespace Go.Proofs.YtjolbldlhjfciaaGreatDoor
structure Yc (P:Program) (l n0:Nat) (xs:List C) (J:Nat->World->(Nat->Prop)->Prop) (Jx:World->(Nat->Prop)->Prop):Prop where
  aJ : ∀ k W W' Z,J k W Z->Abd n0 Z W W'->J k W' Z
  aJx : ∀ W W' Z,Jx W Z->Abd n0 Z W W'->Jx W' Z
  hY : ∀ k W Z (Ie:Nat->Prop) c v,xs[k]? = some c->J k W Z->n0<=W.heap.size->(∀ b,Ie b->b < W.heap.size/\¬ Z b)->Rp W Ie c v []->
      YieldAt (Fw none) 0 P l #[v] W fun e W'=>(e = .returned (.bool true)/\∃ Z',J (k + 1) W' Z'/\Grw Z W Z' W')\/(e = .returned (.bool false)/\∃ Z',Jx W' Z'/\Grw Z W Z' W')
def JG (J:Nat->World->(Nat->Prop)->Prop) (Jx:World->(Nat->Prop)->Prop):Option Nat->World->(Nat->Prop)->Prop
  | some k,W,Z=>J k W Z
  | none,W,Z=>Jx W Z
structure LeZ (Gb:Glob) (Zb:Nat->Prop) (G:Glob) (Z:Nat->Prop):Prop where
  size:Gb.w0.heap.size<=G.w0.heap.size
  frame : ∀ b,b < Gb.w0.heap.size->¬ Gb.F0 b->¬ Zb b->G.w0.heap[b]? = Gb.w0.heap[b]?
  own : ∀ b,G.F0 b->Gb.F0 b\/Gb.w0.heap.size<=b
  imm : ∀ b,G.I0 b->Gb.I0 b\/Gb.F0 b\/Gb.w0.heap.size<=b
  zz : ∀ b,Z b->Zb b\/Gb.w0.heap.size<=b
  gv:G.gv = Gb.gv
  os:G.w0.os = Gb.w0.os
  tape:G.w0.tape = Gb.w0.tape
  output:G.w0.output = Gb.w0.output
theorem LeZ.refl (G:Glob) (Z:Nat->Prop):LeZ G Z G Z:=⟨Nat.le_refl _,fun _ _ _ _=>rfl,fun _ h=>.inl h,fun _ h=>.inl h,fun _ h=>.inl h,rfl,rfl,rfl,rfl⟩
def YF (n0:Nat) (J:Nat->World->(Nat->Prop)->Prop) (Jx:World->(Nat->Prop)->Prop) (Gb:Glob) (Zb:Nat->Prop) (γ:Option Nat) (G:Glob):Prop:=∃ Z,Zo n0 G Z/\JG J Jx γ G.w0 Z/\LeZ Gb Zb G Z
section
variable {P:Program} {l n0:Nat} {xs:List C} {J:Nat->World->(Nat->Prop)->Prop} {Jx:World->(Nat->Prop)->Prop}
theorem JG.abide (h:Yc P l n0 xs J Jx) {γ:Option Nat} {W W' : World} {Z:Nat->Prop} (hj:JG J Jx γ W Z) (ha:Abd n0 Z W W'):JG J Jx γ W' Z:=by
  cases γ with
  | some k=>exact h.aJ k W W' Z hj ha
  | none=>exact h.aJx W W' Z hj ha
theorem Zo.nI {G:Glob} {Z:Nat->Prop} (h:Zo n0 G Z) {D:Data} {st:St} {w:World} {b:Nat} (hb:Imm G st.σ D.fp w b) : ¬ Z b:=fun hz=>by
  have:=h.z b hz
  rcases hb.1 with k | k | k
  · exact this.2.2 k
  · exact this.2.1 k
  · omega
theorem Zo.nF {G:Glob} {Z:Nat->Prop} (h:Zo n0 G Z) {D:Data} {st:St} {a:Act} {w:World} (hr:Rep D G st a w) {p:Nat × Ob} (hp:p ∈ st.σ) {b:Nat} (hb:b ∈ D.fp p.1) : ¬ Z b:=fun hz=>by
  have:=h.z b hz
  rcases hr.own p hp b hb with k | k
  · exact this.2.1 k
  · omega
theorem leZ_step {Gb G:Glob} {Zb Z Z' : Nat->Prop} {D:Data} {st:St} {a:Act} {w w' : World} (hl:LeZ Gb Zb G Z) (hr:Rep D G st a w) (F' I' : Nat->Prop) (hF : ∀ b,F' b->(∃ p ∈ st.σ,b ∈ D.fp p.1)\/w.heap.size<=b)
    (hI : ∀ b,I' b->Imm G st.σ D.fp w b\/(∃ p ∈ st.σ,b ∈ D.fp p.1)\/w.heap.size<=b) (hs:w.heap.size<=w'.heap.size) (hk : ∀ b,b < w.heap.size->(∀ p ∈ st.σ,b ∉ D.fp p.1)->¬ Z b->w'.heap[b]? = w.heap[b]?)
    (hZ : ∀ b,Z' b->Z b\/w.heap.size<=b) (ho:w'.os = w.os) (ht:w'.tape = w.tape) (hu:w'.output = w.output):LeZ Gb Zb ⟨w',F',I',G.gv,G.df⟩ Z':=by
  have h1:=hl.size
  have h2:=hr.size
  have hown : ∀ p ∈ st.σ,∀ b ∈ D.fp p.1,Gb.F0 b\/Gb.w0.heap.size<=b:=fun p hp b hb=>by
    rcases hr.own p hp b hb with k | k
    · exact hl.own b k
    · exact .inr (by omega)
  refine⟨by show _<=w'.heap.size; omega,fun b hb hn hz=>?_,fun b hb=>?_,fun b hb=>?_,fun b hb=>?_,hl.gv,(ho.trans hr.os).trans hl.os,(ht.trans hr.tape).trans hl.tape,(hu.trans hr.output).trans hl.output⟩
  · have hnf : ∀ p ∈ st.σ,b ∉ D.fp p.1:=fun p hp hm=>(hown p hp b hm).elim hn fun k=>by omega
    have hnz : ¬ Z b:=fun k=>(hl.zz b k).elim hz fun k=>by omega
    rw [show (⟨w',F',I',G.gv,G.df⟩ : Glob).w0 = w' from rfl,hk b (by omega) hnf hnz,hr.frame b (by omega) fun k=>(hl.own b k).elim hn fun k=>by omega]
    exact hl.frame b hb hn hz
  · rcases hF b hb with ⟨p,hp,k⟩ | k
    · exact hown p hp b k
    · exact .inr (by omega)
  · rcases hI b hb with k | ⟨p,hp,k⟩ | k
    · rcases k.1 with k | k | k
      · exact hl.imm b k
      · exact .inr (hl.own b k)
      · exact .inr (.inr (by omega))
    · exact .inr (hown p hp b k)
    · exact .inr (.inr (by omega))
  · rcases hZ b hb with k | k
    · exact hl.zz b k
    · exact .inr (by omega)
structure AMZ (P:Program) (n0:Nat) (J:Nat->World->(Nat->Prop)->Prop) (Jx:World->(Nat->Prop)->Prop) (f:Nat) (args:List C) (γ:Option Nat) (Q:C->List C->Option Nat->Prop):Prop where
  ent:EntB P f = true
  out : ∀ (w:World) (I:Nat->Prop) (vals:List Value) (fp:List Nat) (Z:Nat->Prop),(∀ b,I b->b < w.heap.size)->(∀ b ∈ fp,¬ I b)->fp.Nodup->RpL w I args vals fp->(∀ b ∈ fp,n0<=b)->n0<=w.heap.size->
    (∀ b,Z b->b < w.heap.size/\b ∉ fp/\¬ I b)->JG J Jx γ w Z->
    CallsIn (Fw none) 0 P f vals.toArray w fun e w'=>∃ r outs x fz γ' Z',e = .returned x/\Q r outs γ'/\RpL w' (fun b=>(I b\/((b ∈ fp\/w.heap.size<=b)/\b < w'.heap.size/\b ∉ fz))/\¬ Z' b) (r :: outs) (x :: vals) fz/\fz.Nodup/\
      (∀ b ∈ fz,(b ∈ fp\/w.heap.size<=b)/\¬ Z' b)/\w.heap.size<=w'.heap.size/\(∀ b,b < w.heap.size->b ∉ fp->¬ Z b->w'.heap[b]? = w.heap[b]?)/\(∀ b,Z' b->b < w'.heap.size/\(Z b\/w.heap.size<=b))/\
      JG J Jx γ' w' Z'/\w'.os = w.os/\w'.tape = w.tape/\w'.output = w.output
theorem AMZ.mono {f:Nat} {args:List C} {γ:Option Nat} {Q Q' : C->List C->Option Nat->Prop} (h:AMZ P n0 J Jx f args γ Q) (hq : ∀ r o g,Q r o g->Q' r o g):AMZ P n0 J Jx f args γ Q':=
  ⟨h.ent,fun w I vals fp Z a b c d e f g i=>(h.out w I vals fp Z a b c d e f g i).mono fun _ _ ⟨r,outs,x,fz,g',Z',e1,e2,e3⟩=>⟨r,outs,x,fz,g',Z',e1,hq _ _ _ e2,e3⟩⟩
theorem amz_enter (hY : Yc P l n0 xs J Jx) {f : Nat} {fn : Func} {c : Code} {args : List C} {γ : Option Nat} {Q : C -> List C -> Option Nat -> Prop} (hf : P.funcs[f]? = some fn) (hb : fn.body = some c) (he : (fn.name == "runtime.NumGoroutine") = false) {n m : Nat} (hn : fn.ntmps = n) (hm : args.length = m) (hl : m <= n) (ids : List Nat) (hid : nodupB ids = true)
    (h : ∀ Gb Zb,AZ P (YF n0 J Jx Gb Zb) c (fun e γ' s=>RetAM P fn (fun r o=>Q r o γ') n m e s) γ ⟨(opnL args ids).2.1,apE (initV 0 (opnL args ids).1) (initV n (opnL args ids).1),n⟩):AMZ P n0 J Jx f args γ Q:=by
  refine⟨by simp [EntB,hf,hb,he],fun w I vals fp Z hI hdj hnd hv hfn hnw hZ hJ=>?_⟩
  refine callsIn_of_wp_marks (F:=Fw none) hf hb trivial ?_ rfl
  have hvl:=hv.length
  obtain⟨L,e1,e2,e3,e4⟩:=opnL_spec args ids vals fp hv hnd
  have hkeys:((opnL args ids).2.1.map (·.1)).Nodup:=by have:=nodupB_spec hid; rw [e4] at this; exact (List.nodup_append.1 this).1
  obtain⟨Mn,fpn,f1,f2,f3⟩:=e1.find hkeys
  generalize hopn:opnL args ids = o at *
  obtain⟨vs,os,rest⟩:=o
  simp only at *
  let D:Data:=⟨fun k=>if k ∈ os.map (·.1) then Mn k else none,fun k=>if k ∈ os.map (·.1) then fpn k else []⟩
  have hin : ∀ p ∈ os,p.1 ∈ os.map (·.1):=fun p hp=>List.mem_map.2 ⟨p,hp,rfl⟩
  have hDM : ∀ p ∈ os,D.M p.1 = Mn p.1:=fun p hp=>if_pos (hin p hp)
  have hDF : ∀ p ∈ os,D.fp p.1 = fpn p.1:=fun p hp=>if_pos (hin p hp)
  have hsub : ∀ p ∈ os,∀ b ∈ fpn p.1,b ∈ fp:=fun p hp b hb=>by obtain⟨_,_,_,_,g⟩:=f2 p hp; exact e2.subset (g.subset hb)
  let G:Glob:=⟨w,fun b=>b ∈ fp,I,fun i=>vals[i - n]?,[]⟩
  have hImm : ∀ b,I b->Imm G os D.fp w b:=fun b hb=>⟨.inl hb,hI b hb,fun p hp hbp=>by rw [hDF p hp] at hbp; exact hdj b (hsub p hp b hbp) hb⟩
  have hlen : ∀ (vs:List V) (xs:List Value) (M:Nat->Option Loc),VRpL w I M vs xs->vs.length = xs.length:=by
    intro vs
    induction vs with
    | nil=>intro xs M h; simp only [VRpL] at h; simp [h]
    | cons v vs ih=>intro xs M h; simp only [VRpL] at h; obtain⟨x,xs',rfl,_,h3⟩:=h; simp [ih _ _ h3]
  have hvals:VRpL w I D.M vs vals:=e3 D.M fun q hq=>by
    have : ∀ (os:List (Nat × Ob)) (L:List (Loc × List Nat)),∀ q ∈ locs os L,q.1 ∈ os.map (·.1):=by
      intro os
      induction os with
      | nil=>intro L q hq; simp [locs] at hq
      | cons p r ih=>
        intro L q hq
        cases L with
        | nil=>simp [locs] at hq
        | cons s L=>
          simp only [locs] at hq
          rcases List.mem_cons.1 hq with rfl | hq
          · simp
          · rw [List.map_cons]; exact List.mem_cons_of_mem _ (ih L q hq)
    show (if q.1 ∈ os.map (·.1) then Mn q.1 else none) = _
    rw [if_pos (this os L q hq)]; exact f1 q hq
  have hvsl:=hlen vs vals _ hvals
  have hvals' : VRpL w (Imm G os D.fp w) D.M vs vals:=VRpL.frame hImm (fun _ _=>rfl) (fun _ _ h=>h) _ _ hvals
  have hr:Rep D G ⟨os,apE (initV 0 vs) (initV n vs),n⟩ { tmps:=vals.toArray ++ Array.replicate (fn.ntmps - vals.toArray.size) undef,defers:=[] } w:=by
    refine⟨?_,?_,hkeys,?_,?_,?_,?_,fun _ _ _=>rfl,Nat.le_refl _,rfl,rfl,rfl,by simp; omega,rfl⟩
    · intro p hp
      obtain⟨l,g1,g2,g3,_⟩:=f2 p hp
      refine⟨l,by rw [hDM p hp]; exact g1,?_⟩
      rw [hDF p hp]
      exact g3.frame hImm (fun _ _=>rfl) (fun _ _ h=>by cases h) (fun _ _=>rfl)
    · intro i hi
      have:i ∉ os.map (·.1):=fun hm=>by obtain⟨p,hp,e⟩:=List.mem_map.1 hm; exact hi p hp e
      exact⟨if_neg this,if_neg this⟩
    · intro p hp; rw [hDF p hp]; obtain⟨_,_,_,_,g⟩:=f2 p hp; exact (g.trans e2).nodup hnd
    · intro p hp q hq hne b hb hb2
      rw [hDF p hp] at hb; rw [hDF q hq] at hb2
      exact f3 (e2.nodup hnd) p hp q hq hne b hb hb2
    · intro i v hiv
      rcases lk_apE hiv with h7 | h7
      · obtain⟨j,h1,h2⟩:=lk_initV h7
        obtain⟨x,k1,k2⟩:=VRpL.get hvals' h2
        have hj:j < vals.length:=(List.getElem?_eq_some_iff.1 k1).1
        refine⟨x,?_,k2⟩
        simp only [slot,h1,Nat.zero_add,show Nat.blt j n = true by simp; omega,cond_true]
        rw [Array.getElem?_append_left (by simpa using hj)]
        simpa using k1
      · obtain⟨j,h1,h2⟩:=lk_initV h7
        obtain⟨x,k1,k2⟩:=VRpL.get hvals' h2
        refine⟨x,?_,k2⟩
        have hge:Nat.blt (n + j) n = false:=Bool.eq_false_iff.2 (by simp)
        simp only [slot,h1,hge,cond_false,G]
        rw [Nat.add_sub_cancel_left]; exact k1
    · intro p hp b hb; rw [hDF p hp] at hb; exact .inl (hsub p hp b hb)
  have hz0:Zo n0 G Z:=⟨fun b hb=>⟨(hZ b hb).1,(hZ b hb).2.1,(hZ b hb).2.2⟩,hnw,fun b hb=>hfn b hb,rfl⟩
  refine wpIn_mono ((h G Z).out G D _ _ hr ⟨Z,hz0,hJ,LeZ.refl G Z⟩) fun e a' w' ⟨γ',G',D',st',hq,hr',⟨Z',hz,hj,hle⟩⟩=>?_
  have fin : ∀ v r outs ids,RetV P fn st' v->hvL st'.σ (v :: gl st'.env n m) = some (r :: outs,ids)->nodupB ids = true->Q r outs γ'->st'.n = n->bodyPostM (Fw none) 0 P fn (fun e w'=>∃ r outs x fz γ' Z',e = .returned x/\Q r outs γ'/\RpL w' (fun b=>(I b\/((b ∈ fp\/w.heap.size<=b)/\b < w'.heap.size/\b ∉ fz))/\¬ Z' b) (r :: outs) (x :: vals) fz/\fz.Nodup/\
      (∀ b ∈ fz,(b ∈ fp\/w.heap.size<=b)/\¬ Z' b)/\w.heap.size<=w'.heap.size/\(∀ b,b < w.heap.size->b ∉ fp->¬ Z b->w'.heap[b]? = w.heap[b]?)/\(∀ b,Z' b->b < w'.heap.size/\(Z b\/w.heap.size<=b))/\
      JG J Jx γ' w' Z'/\w'.os = w.os/\w'.tape = w.tape/\w'.output = w.output) .ret a' w':=by
    intro v r outs ids h1 h2 h3 h4 h5
    obtain⟨x,k1,k2⟩:=h1 D' _ a' w' hr'
    have hgv:G'.gv = fun i=>vals[i - n]?:=hle.gv
    have hgl : ∀ (m i:Nat),n<=i->(i - n) + m = vals.length->VRpL w' (Imm G' st'.σ D'.fp w') D'.M (gl st'.env i m) (vals.drop (i - n)):=by
      intro m
      induction m with
      | zero=>intro i hi hm; simp only [gl,VRpL]; exact List.drop_eq_nil_of_le (by omega)
      | succ m ih=>
        intro i hi hm
        have hlt:i - n < vals.length:=by omega
        simp only [gl,VRpL]
        refine⟨vals[i - n],vals.drop (i - n + 1),List.drop_eq_getElem_cons hlt,?_,?_⟩
        · cases hk:lk i st'.env with
          | none=>simp [VRp,Rp]
          | some u=>
            obtain⟨y,y1,y2⟩:=hr'.env i u hk
            have hge:Nat.blt i st'.n = false:=by rw [h5]; exact Bool.eq_false_iff.2 (by simp; omega)
            simp only [slot,hge,cond_false,hgv] at y1
            rw [List.getElem?_eq_getElem hlt] at y1
            simp only [Option.some.injEq] at y1
            subst y1; exact y2
        · have:=ih (i + 1) (by omega) (by omega)
          rwa [show i + 1 - n = i - n + 1 by omega] at this
    have hgl0:=hgl m n (Nat.le_refl n) (by omega)
    rw [Nat.sub_self,List.drop_zero] at hgl0
    obtain⟨g1,g2⟩:=hvL_spec hr' (v :: gl st'.env n m) (x :: vals) _ ids h2 (by simp only [VRpL]; exact⟨x,vals,rfl,k2,hgl0⟩)
    have hnd2:=nodupB_spec h3
    have hsz':=hr'.size
    have hsz:w.heap.size<=G'.w0.heap.size:=hle.size
    simp only [bodyPostM]
    rw [hr'.defers,hz.df]
    refine⟨x,k1,r,outs,x,ids.flatMap D'.fp,γ',Z',rfl,h4,?_,?_,?_,by omega,fun b hb hbf hbz=>?_,fun b hb=>?_,JG.abide hY hj (hz.abd hr'),hr'.os.trans hle.os,hr'.tape.trans hle.tape,hr'.output.trans hle.output⟩
    · refine RpL.frame (fun b hb=>?_) (fun _ _=>rfl) _ _ _ (fun _ _=>rfl) g1
      refine⟨?_,hz.nI hb⟩
      obtain⟨h5,h6,h7⟩:=hb
      have h8:b ∉ ids.flatMap D'.fp:=fun hm=>by
        obtain⟨i,hi,hbi⟩:=List.mem_flatMap.1 hm
        obtain⟨p,hp,rfl⟩:=g2 i hi
        exact h7 p hp hbi
      rcases h5 with h5 | h5 | h5
      · rcases hle.imm b h5 with h5 | h5 | h5
        · exact .inl h5
        · exact .inr ⟨.inl h5,h6,h8⟩
        · exact .inr ⟨.inr h5,h6,h8⟩
      · rcases hle.own b h5 with h5 | h5
        · exact .inr ⟨.inl h5,h6,h8⟩
        · exact .inr ⟨.inr h5,h6,h8⟩
      · exact .inr ⟨.inr (by omega),h6,h8⟩
    · refine flat_nodup hnd2 (fun i hi=>?_) (fun i hi j hj hij b hbi=>?_)
      · obtain⟨p,hp,rfl⟩:=g2 i hi; exact hr'.disj1 p hp
      · obtain⟨p,hp,rfl⟩:=g2 i hi
        obtain⟨q,hq',rfl⟩:=g2 j hj
        exact hr'.disj2 p hp q hq' hij b hbi
    · intro b hm
      obtain⟨i,hi,hbi⟩:=List.mem_flatMap.1 hm
      obtain⟨p,hp,rfl⟩:=g2 i hi
      refine⟨?_,hz.nF hr' hp hbi⟩
      rcases hr'.own p hp b hbi with k | k
      · exact hle.own b k
      · exact .inr (by omega)
    · rw [hr'.frame b (by omega) fun k=>(hle.own b k).elim hbf fun k=>by have:w.heap.size<=b:=k; omega]
      exact hle.frame b hb hbf hbz
    · have:=(hz.z b hb).1
      exact⟨by omega,hle.zz b hb⟩
  cases e with
  | normal=>obtain⟨v,r,outs,ids,h1,h2,h3,h4,h5⟩:=hq; exact fin v r outs ids h1 h2 h3 h4 h5
  | ret=>obtain⟨v,r,outs,ids,h1,h2,h3,h4,h5⟩:=hq; exact fin v r outs ids h1 h2 h3 h4 h5
  | _=>exact hq.elim
section
variable {Gb:Glob} {Zb:Nat->Prop} {ops:Array Oper} {K:Option Nat->St->Prop} {st:St} {rest:List Oper} {ty:TypeId} {dst:Option Nat} {pos:String} {after:Array Edge} {γ:Option Nat}
theorem rz_yield (hY:Yc P l n0 xs J Jx) {x y:Operand} {at_:Array TypeId} {id k:Nat} {ys:List C} (hg:γ = some k) (hx:st.ev x = some (.c (.val (yv l)))) (hy:st.ev y = some (.ref id)) (ho:lko id st.σ = some ⟨ys,[]⟩) (hxs:xs[k]? = some (.lst (frzL ys))) (hd:dOk dst st.n = true)
    (hT:RunZ P (YF n0 J Jx Gb Zb) ops K rest (some (k + 1)) (st.put dst (.c (.val (.bool true))))) (hF:RunZ P (YF n0 J Jx Gb Zb) ops K rest none (st.put dst (.c (.val (.bool false))))) :
    RunZ P (YF n0 J Jx Gb Zb) ops K (⟨dst,.call { callee:=.value x,args:=#[y],argTypes:=at_ },ty,pos,after,none⟩ :: rest) γ st:=⟨fun G D a w hr ⟨Z,hz,hj,hle⟩ Q hQ=>by
  subst hg
  have e6:=hr.ev hx
  have e7:=hr.ev hy
  simp only [VRp,Rp] at e6
  have hsz:=hr.size
  have hel:=(hv_spec hr (.ref id) _ (.own ys) [id] (by
    show Go.Proofs.YtjolbldlhjfciaaGreatDoor.hv st.σ (.ref id) = _
    simp [Go.Proofs.YtjolbldlhjfciaaGreatDoor.hv,ho]) e7).1
  have hel2:=Rp.frz (I':=fun b=>Imm G st.σ D.fp w b\/∃ p ∈ st.σ,b ∈ D.fp p.1) (fun b hb=>.inl hb) _ _ _ (fun b hb=>by
    simp only [List.flatMap_cons,List.flatMap_nil,List.append_nil] at hb
    obtain⟨p,hp,rfl⟩:=hr.fpkey hb
    exact .inr ⟨p,hp,hb⟩) hel
  obtain⟨fn',tm',as',bd',hyr,hR⟩:=hY.hY k w Z _ _ _ hxs (hY.aJ _ _ _ _ hj (hz.abd hr)) (by have:=hz.nn; omega) (fun b hb=>by
    rcases hb with hb | ⟨p,hp,hb⟩
    · exact⟨hb.2.1,hz.nI hb⟩
    · exact⟨hr.lt hp hb,hz.nF hr hp hb⟩) hel2
  have step : ∀ (W' : World) (Z' : Nat->Prop),Grw Z w Z' W'->∃ G',Rep D G' st a W'/\Zo n0 G' Z'/\G'.w0 = W'/\LeZ Gb Zb G' Z':=fun W' Z' hg=>by
    obtain⟨g1,g2,g3,g4,g5,g6⟩:=hg
    refine⟨_,hr.rebase (w':=W') (Imm G st.σ D.fp w) (fun _ h=>h) (fun _ h=>h.2.1) (fun b hb=>g2 b hb.2.1 (hz.nI hb)) (fun p hp b hb=>g2 b (hr.lt hp hb) (hz.nF hr hp hb)) g1,⟨fun b hb=>?_,?_,fun b hb=>?_,hz.df⟩,rfl,
      leZ_step hle hr _ _ (fun b hb=>.inl hb) (fun b hb=>.inl hb) g1 (fun b hb _ hnz=>g2 b hb hnz) (fun b hb=>(g3 b hb).2) g4 g5 g6⟩
    · obtain⟨k1,k2⟩:=g3 b hb
      refine⟨k1,fun⟨p,hp,k⟩=>?_,fun k=>?_⟩
      · rcases k2 with k2 | k2
        · exact hz.nF hr hp k k2
        · have:=hr.lt hp k; omega
      · rcases k2 with k2 | k2
        · exact hz.nI k k2
        · have:=k.2.1; omega
    · have:=hz.nn
      show n0<=W'.heap.size
      omega
    · obtain⟨p,hp,k⟩:=hb
      rcases hr.own p hp b k with k | k
      · exact hz.f0 b k
      · have:=hz.nn; omega
  refine wpListIn_plain rfl fun K3 hK3=>⟨fun _ _=>trivial,?_⟩
  rw [Oper.semAt_eq _ _ _ (fun c h=>by cases h),yield_run e6.1 hyr]
  refine⟨fun g=>by simp [Fw,Fence.wide] at g,hR.mono ?_⟩
  rintro e W' (⟨rfl,Z',hj',hg⟩ | ⟨rfl,Z',hjx,hg⟩)
  · obtain⟨G',hr',hz',hw0,hle'⟩:=step W' Z' hg
    exact hK3 _ _ (hT.out G' D _ W' (hr'.put (v:=.c (.val (.bool true))) (dOk_spec hd) (by simp [VRp,Rp])) ⟨Z',hz',by rw [hw0]; exact hj',hle'⟩ Q hQ)
  · obtain⟨G',hr',hz',hw0,hle'⟩:=step W' Z' hg
    exact hK3 _ _ (hF.out G' D _ W' (hr'.put (v:=.c (.val (.bool false))) (dOk_spec hd) (by simp [VRp,Rp])) ⟨Z',hz',by rw [hw0]; exact hjx,hle'⟩ Q hQ)⟩
theorem rz_callZ (hY:Yc P l n0 xs J Jx) {fo t1 t2:Operand} {ats:Array TypeId} {f id:Nat} {xm:List C} {y:Value} {Q:C->List C->Option Nat->Prop} (hf:st.ev fo = some (.c (.clo f []))) (h1:st.ev t1 = some (.cell id 0)) (h2:st.ev t2 = some (.c (.val y))) (ho:lko id st.σ = some ⟨xm,[]⟩)
    (hbx:bxOk [id] st = true) (hc:AMZ P n0 J Jx f [.obox xm,.val y] γ Q) (hQ : ∀ r o g,Q r o g->∃ b:Bool,r = .val (.bool b)/\o = [.obox xm,.val y]) (hd:dOk dst st.n = true)
    (h : ∀ b g,Q (.val (.bool b)) [.obox xm,.val y] g->RunZ P (YF n0 J Jx Gb Zb) ops K rest g (st.put dst (.c (.val (.bool b))))) :
    RunZ P (YF n0 J Jx Gb Zb) ops K (⟨dst,.call { callee:=.value fo,args:=#[t1,t2],argTypes:=ats },ty,pos,after,none⟩ :: rest) γ st:=⟨fun G D0 a w hr0 ⟨Z,hz,hj,hle⟩ R hR=>by
  obtain⟨D,hr,hfp,HB⟩:=hr0.tight hbx
  have hidm:=mem_of_lko ho
  have e1:=hr.ev h1
  have e2:a.eval t2 = y:=hr.evVal h2
  have e3:a.eval fo = .func (.func f) #[] #[]:=by
    have h3:=hr.ev hf
    simp only [VRp,Rp] at h3; obtain⟨cv,k1,k2⟩:=h3; simp only [RpL] at k2; obtain⟨rfl,_⟩:=k2; exact k1
  have e4:=e1
  simp only [VRp] at e4
  obtain⟨lo,hM,hnil,hptr⟩:=e4
  obtain⟨l',hM',hob⟩:=hr.obs _ hidm
  simp only at hM' hob
  have:l' = lo:=Option.some.inj (hM'.symm.trans hM)
  subst this
  rcases hob with ⟨k1,_⟩ | ⟨_,hlen,vs,g,hfpid,hcells,hown,_⟩
  · rw [hnil] at k1; cases k1
  simp only at hlen hcells hfpid hown
  have hcap:l'.cap = l'.len:=HB id (by simp) l' hM hnil
  have hsz:=hr.size
  have hrun:(execOp a.eval ⟨dst,.call { callee:=.value fo,args:=#[t1,t2],argTypes:=ats },ty,pos,after,none⟩).run P w = .ok (.enter f #[a.eval t1,y]) w:=by
    simp only [execOp,resolve,e3,Deferred.ofValue,Sem.run_bind,Sem.run_pure,Result.andThen_ok,invoke]
    rw [callFunc_run hc.ent]
    simp [e2]
  have hargs:RpL w (Imm G st.σ D.fp w) [.obox xm,.val y] [a.eval t1,y] (D.fp id):=by
    simp only [RpL]
    refine⟨_,_,D.fp id,[],rfl,by simp,?_,_,_,[],[],rfl,rfl,by simp [Rp],rfl,rfl⟩
    simp only [Rp]
    exact⟨l'.b,l'.off,l'.cap,vs,g,by rw [hptr]; simp,hfpid,hcells,hown⟩
  have hown' : ∀ b ∈ D.fp id,G.F0 b\/G.w0.heap.size<=b:=fun b hb=>hr.own _ hidm b hb
  have hcall:=hc.out w (Imm G st.σ D.fp w) _ (D.fp id) Z (fun b hb=>hb.2.1) (fun b hb hi=>hi.2.2 _ hidm hb) (hr.disj1 _ hidm) hargs (fun b hb=>(hown' b hb).elim (hz.f0 b) fun k=>by have:=hz.nn; omega) (by have:=hz.nn; omega)
    (fun b hb=>⟨by have:=(hz.z b hb).1; omega,fun hm=>hz.nF hr hidm hm hb,fun hi=>hz.nI hi hb⟩) (JG.abide hY hj (hz.abd hr))
  refine wpListIn_plain rfl fun K3 hK3=>⟨fun _ _=>trivial,?_⟩
  rw [Oper.semAt_eq _ _ _ (fun c h=>by cases h),hrun]
  refine⟨fun g=>by simp [Fw,Fence.wide] at g,hcall.mono ?_⟩
  rintro e w' ⟨r,outs,x,fz,γ',Z',rfl,hq,hRp,hz1,hz2,hs,hkeep,hZ',hj',ho',ht',hu'⟩
  obtain⟨b,rfl,rfl⟩:=hQ _ _ _ hq
  simp only [RpL] at hRp
  obtain⟨x',t,f1,f2,e5,rfl,hx,pv,t',f3,f4,e6,rfl,hbx2,yv,t3,f5,f6,e7,rfl,hy2,rfl,rfl⟩:=hRp
  obtain⟨rfl,rfl⟩:=List.cons.inj e5
  obtain⟨rfl,rfl⟩:=List.cons.inj e6
  obtain⟨rfl,_⟩:=List.cons.inj e7
  simp only [Rp] at hx hy2 hbx2
  obtain⟨rfl,rfl⟩:=hx
  obtain⟨_,rfl⟩:=hy2
  obtain⟨bb,oo,cap',vs',g',e8,rfl,hcells',hown2⟩:=hbx2
  rw [hptr] at e8
  simp only [Value.pointer.injEq,Option.some.injEq,Addr.mk.injEq,and_true,Nat.add_zero] at e8
  obtain⟨rfl,rfl⟩:=e8
  simp only [List.append_nil,List.nil_append] at hz1 hz2 hcells'
  have hvl:=hcells'.length
  have hown3:OwnAt w' l'.b l'.off l'.cap vs':=by
    obtain⟨cur,e,c1,c2,c3,c4,c5⟩:=hown2
    exact⟨cur,e,c1,by omega,by omega,by omega,c5⟩
  let D' : Data:=⟨D.M,fun k=>if k = id then l'.b :: g' else D.fp k⟩
  have hFi:D'.fp id = l'.b :: g':=if_pos rfl
  have hFo : ∀ k,k≠id->D'.fp k = D.fp k:=fun k hk=>if_neg hk
  let I' : Nat->Prop:=fun c=>(Imm G st.σ D.fp w c\/((c ∈ D.fp id\/w.heap.size<=c)/\c < w'.heap.size/\c ∉ l'.b :: g'))/\¬ Z' c
  let G' : Glob:=⟨w',fun c=>∃ p ∈ st.σ,c ∈ D'.fp p.1,I',G.gv,G.df⟩
  have hfz : ∀ c ∈ l'.b :: g',(c ∈ D.fp id\/w.heap.size<=c)/\¬ Z' c:=hz2
  have hnz : ∀ c,Z' c->¬ Z c->w.heap.size<=c:=fun c hc hn=>(hZ' c hc).2.resolve_left hn
  have himm : ∀ c,I' c->Imm G' st.σ D'.fp w' c:=fun c hc=>by
    refine⟨.inl hc,?_,fun p hp hm=>?_⟩
    · rcases hc.1 with k | k
      · have:=k.2.1; omega
      · exact k.2.1
    · by_cases e:p.1 = id
      · rw [e,hFi] at hm
        rcases hc.1 with k | k
        · rcases (hfz c hm).1 with q | q
          · exact k.2.2 _ hidm q
          · have:=k.2.1; omega
        · exact k.2.2 hm
      · rw [hFo _ e] at hm
        rcases hc.1 with k | k
        · exact k.2.2 p hp hm
        · rcases k.1 with q | q
          · exact hr.disj2 _ hidm p hp (fun q=>e q.symm) c q hm
          · have:=hr.lt hp hm; omega
  have hI1 : ∀ c,Imm G st.σ D.fp w c->Imm G' st.σ D'.fp w' c:=fun c hc=>himm c ⟨.inl hc,fun hzc=>by
    have:=hnz c hzc (hz.nI hc)
    have:=hc.2.1; omega⟩
  have hk1 : ∀ c,Imm G st.σ D.fp w c->w'.heap[c]? = w.heap[c]?:=fun c hc=>hkeep c hc.2.1 (hc.2.2 _ hidm) (hz.nI hc)
  have hk2 : ∀ p ∈ st.σ,p.1≠id->∀ c ∈ D.fp p.1,w'.heap[c]? = w.heap[c]?:=fun p hp hne c hc=>hkeep c (hr.lt hp hc) (fun q=>hr.disj2 p hp _ hidm hne c hc q) (hz.nF hr hp hc)
  have hr' : Rep D' G' st a w':=by
    refine⟨fun p hp=>?_,fun i hi=>?_,hr.nodup,fun p hp=>?_,fun p hp q hp2 hne c hc hc2=>?_,fun i v hv=>?_,fun p hp c hc=>.inl ⟨p,hp,hc⟩,fun _ _ _=>rfl,Nat.le_refl _,rfl,rfl,rfl,hr.ntmps,hr.defers⟩
    · by_cases e:p.1 = id
      · have hpe:p.2 = ⟨xm,[]⟩:=by
          have hnd:=hr.nodup
          have : ∀ (σ:List (Nat × Ob)),(σ.map (·.1)).Nodup->∀ p ∈ σ,∀ q ∈ σ,p.1 = q.1->p = q:=by
            intro σ
            induction σ with
            | nil=>intro _ p hp; cases hp
            | cons s σ ih=>
              intro hn p hp q hq e
              have hn':=List.nodup_cons.1 hn
              rcases List.mem_cons.1 hp with rfl | hp2 <;> rcases List.mem_cons.1 hq with rfl | hq2
              · rfl
              · exact (hn'.1 (List.mem_map.2 ⟨q,hq2,e.symm⟩)).elim
              · exact (hn'.1 (List.mem_map.2 ⟨p,hp2,e⟩)).elim
              · exact ih hn'.2 p hp2 q hq2 e
          rw [this st.σ hnd p hp _ hidm e]
        rw [e,hpe,hFi]
        exact⟨l',hM,.inr ⟨hnil,by simpa using hlen,vs',g',rfl,RpL.frame (fun c hc=>himm c hc) (fun _ _=>rfl) _ _ _ (fun _ _=>rfl) hcells',hown3,fun q hq=>by cases hq⟩⟩
      · obtain⟨m,q1,q2⟩:=hr.obs p hp
        rw [hFo _ e]
        exact⟨m,q1,q2.frame hI1 hk1 (fun _ _ h=>h) (hk2 p hp e)⟩
    · have q:=hr.dom i hi
      exact⟨q.1,by rw [hFo i fun e=>hi _ hidm e.symm]; exact q.2⟩
    · by_cases e:p.1 = id
      · rw [e,hFi]; exact hz1
      · rw [hFo _ e]; exact hr.disj1 p hp
    · by_cases e1:p.1 = id
      · by_cases e2:q.1 = id
        · exact hne (e1.trans e2.symm)
        · rw [e1,hFi] at hc
          rw [hFo _ e2] at hc2
          rcases (hfz c hc).1 with k | k
          · exact hr.disj2 _ hidm q hp2 (fun k=>e2 k.symm) c k hc2
          · have:=hr.lt hp2 hc2; omega
      · rw [hFo _ e1] at hc
        by_cases e2:q.1 = id
        · rw [e2,hFi] at hc2
          rcases (hfz c hc2).1 with k | k
          · exact hr.disj2 _ hidm p hp (fun k=>e1 k.symm) c k hc
          · have:=hr.lt hp hc; omega
        · rw [hFo _ e2] at hc2
          exact hr.disj2 p hp q hp2 hne c hc hc2
    · obtain⟨z,q1,q2⟩:=hr.env i v hv
      exact⟨z,q1,VRp.frame hI1 hk1 (fun _ _ h=>h) _ _ q2⟩
  have hz' : Zo n0 G' Z':=by
    refine⟨fun c hc=>⟨(hZ' c hc).1,fun⟨p,hp,hm⟩=>?_,fun hi=>hi.2 hc⟩,?_,fun c ⟨p,hp,hm⟩=>?_,hz.df⟩
    · by_cases e:p.1 = id
      · rw [e,hFi] at hm; exact (hfz c hm).2 hc
      · rw [hFo _ e] at hm
        have:=hnz c hc (hz.nF hr hp hm)
        have:=hr.lt hp hm; omega
    · show n0<=w'.heap.size
      have:=hz.nn; omega
    · have old : ∀ p ∈ st.σ,∀ c ∈ D.fp p.1,n0<=c:=fun p hp c hc=>(hr.own p hp c hc).elim (hz.f0 c) fun k=>by have:=hz.nn; omega
      by_cases e:p.1 = id
      · rw [e,hFi] at hm
        rcases (hfz c hm).1 with k | k
        · exact old _ hidm c k
        · have:=hz.nn; omega
      · rw [hFo _ e] at hm; exact old p hp c hm
  have hle' : LeZ Gb Zb G' Z':=leZ_step hle hr _ _ (fun c ⟨p,hp,hm⟩=>by
      by_cases e:p.1 = id
      · rw [e,hFi] at hm
        rcases (hfz c hm).1 with k | k
        · exact .inl ⟨_,hidm,k⟩
        · exact .inr k
      · rw [hFo _ e] at hm; exact .inl ⟨p,hp,hm⟩) (fun c hc=>by
      rcases hc.1 with k | ⟨k | k,_⟩
      · exact .inl k
      · exact .inr (.inl ⟨_,hidm,k⟩)
      · exact .inr (.inr k)) hs (fun c hc hn hzc=>hkeep c hc (hn _ hidm) hzc) (fun c hc=>(hZ' c hc).2) ho' ht' hu'
  exact hK3 _ _ ((h b γ' hq).out G' D' _ w' (hr'.put (v:=.c (.val (.bool b))) (dOk_spec hd) (by simp [VRp,Rp])) ⟨Z',hz',hj',hle'⟩ R hR)⟩
theorem rz_callY (hY:Yc P l n0 xs J Jx) {fo t1 t2:Operand} {ats:Array TypeId} {f id:Nat} {xm:List C} {y:Value} {Pq:Bool->Option Nat->Prop} (hf:st.ev fo = some (.c (.clo f []))) (h1:st.ev t1 = some (.cell id 0)) (h2:st.ev t2 = some (.c (.val y))) (ho:lko id st.σ = some ⟨xm,[]⟩)
    (hbx:bxOk [id] st = true) (hc:AMZ P n0 J Jx f [.obox xm,.val y] γ (fun R O Z=>∃ b:Bool,Pq b Z/\R = cb b/\O = [.obox xm,.val y])) (hd:dOk dst st.n = true)
    (h : ∀ b g,Pq b g->RunZ P (YF n0 J Jx Gb Zb) ops K rest g (st.put dst (.c (cb b)))) :
    RunZ P (YF n0 J Jx Gb Zb) ops K (⟨dst,.call { callee:=.value fo,args:=#[t1,t2],argTypes:=ats },ty,pos,after,none⟩ :: rest) γ st:=
  rz_callZ hY hf h1 h2 ho hbx hc (by rintro r o g ⟨b,_,rfl,rfl⟩; exact⟨b,rfl,rfl⟩) hd fun b g ⟨b',hq,e,_⟩=>by cases e; exact h b g hq
theorem yl_at {L:List (List Int)} {k:Nat} {e:List Int} (h:L[k]? = some e):(L.map fun p_=>C.lst (ints p_))[k]? = some (.lst (frzL (ints e))):=by
  rw [List.getElem?_map,h,show frzL (ints e) = ints e from fz_map (f:=ci) (g:=ci) (fun _=>rfl) e]; rfl
end
end
theorem sq_enterZ {P : Program} {xs : List C} {f : Nat} {fn : Func} {c : Code} {args : List C} (hf : P.funcs[f]? = some fn) (hb : fn.body = some c) (he : (fn.name == "runtime.NumGoroutine") = false) {n : Nat} (hn : fn.ntmps = n) (hla : args.length + 1 <= n) (hrs : fn.results = #[])
    (h : ∀ l n0 J Jx Gb Zb,Yc P l n0 xs J Jx->AZ P (YF n0 J Jx Gb Zb) c (fun e γ _=>(e = .normal\/e = .ret)/\(γ = some xs.length\/γ = none)) (some 0) ⟨[],initE 0 (.val (yv l) :: args),n⟩):SeqA P f args xs:=by
  refine⟨by simp [EntB,hf,hb,he],fun l w I vals J Jx hI hv aJ aJx hY Z hJ hZ=>?_⟩
  refine callsIn_of_wp_marks (F:=Fw none) hf hb trivial ?_ rfl
  have hvl:=hv.length
  have hr:Rep ⟨fun _=>none,fun _=>[]⟩ ⟨w,fun _=>False,I,fun _=>none,[]⟩ ⟨[],initE 0 (.val (yv l) :: args),n⟩ { tmps:=(#[yv l] ++ vals.toArray) ++ Array.replicate (fn.ntmps - (#[yv l] ++ vals.toArray).size) undef,defers:=[] } w:=by
    refine⟨by simp,by simp,by simp,by simp,by simp,?_,by simp,fun _ _ _=>rfl,Nat.le_refl _,rfl,rfl,rfl,by simp; omega,rfl⟩
    intro i v hiv
    obtain⟨j,y,h1,h2,rfl⟩:=lk_initE hiv
    have hv2:RpL w I (.val (yv l) :: args) (yv l :: vals) []:=by
      simp only [RpL]
      exact⟨yv l,vals,[],[],rfl,rfl,by simp [Rp],hv⟩
    obtain⟨x,e1,e2⟩:=hv2.get0 h2
    have hj:j < (yv l :: vals).length:=(List.getElem?_eq_some_iff.1 e1).1
    have hj' : j < vals.length + 1:=by simpa using hj
    refine⟨x,?_,?_⟩
    · simp only [slot,h1,Nat.zero_add,show Nat.blt j n = true by simp; omega,cond_true]
      rw [Array.getElem?_append_left (by simp; omega)]
      have:(#[yv l] ++ vals.toArray) = (yv l :: vals).toArray:=by simp
      rw [this]; simpa using e1
    · simp only [VRp]
      exact Rp.frame (fun b hb=>⟨.inl hb,hI b hb,by simp⟩) (fun _ _=>rfl) _ _ _ (by simp) e2
  have zo:Zo w.heap.size ⟨w,fun _=>False,I,fun _=>none,[]⟩ Z:=⟨fun b hb=>⟨(hZ b hb).1,fun h=>h,(hZ b hb).2⟩,Nat.le_refl _,fun _ h=>h.elim,rfl⟩
  have yc:Yc P l w.heap.size xs J Jx:=⟨aJ,aJx,hY⟩
  refine wpIn_mono ((h l _ J Jx ⟨w,fun _=>False,I,fun _=>none,[]⟩ Z yc).out _ _ _ _ hr ⟨Z,zo,hJ,LeZ.refl _ Z⟩) fun e a' w' ⟨γ',G',D',st',⟨hq1,hq2⟩,hr',⟨Z',hz,hj,hle⟩⟩=>?_
  have fin:bodyPostM (Fw none) 0 P fn (fun e W'=>(∃ v,e = .returned v)/\((∃ Z',J xs.length W' Z')\/∃ Z',Jx W' Z')) .ret a' w':=by
    simp only [bodyPostM]
    rw [hr'.defers,hz.df]
    obtain⟨v,hv⟩ : ∃ v,(results fn a'.tmps).run P w' = .ok v w':=⟨.tuple #[],by simp [results,hrs]⟩
    have hj':=JG.abide yc hj (hz.abd hr')
    refine⟨v,hv,⟨v,rfl⟩,?_⟩
    rcases hq2 with rfl | rfl
    · exact .inl ⟨Z',hj'⟩
    · exact .inr ⟨Z',hj'⟩
  rcases hq1 with rfl | rfl
  · exact fin
  · exact fin
section
variable {P:Program} {fn:Func} {Q:C->Prop} {e:Exit} {st st' : St}
def RetAG (P:Program) (fn:Func) (Q:C->Prop) (e:Exit) (st:St):Prop:=∀ (D:Data) (G:Glob) (a:Act) (w:World),Rep D G st a w->∃ D' st',Rep D' G st' a w/\RetAF P fn Q e st'
theorem retAG_of (h:RetAF P fn Q e st):RetAG P fn Q e st:=fun D _ _ _ hr=>⟨D,st,hr,h⟩
theorem retAG_gh {Y:List Nat} (hg:Gh Y st st') (h:RetAG P fn Q e st'):RetAG P fn Q e st:=fun D G a w hr=>
  let ⟨D',h1,_⟩:=hg D G a w hr
  h D' G a w h1
end
theorem af_enterG {P : Program} {f : Nat} {fn : Func} {c : Code} {args : List C} {Q : C -> Prop} (hf : P.funcs[f]? = some fn) (hb : fn.body = some c) (he : (fn.name == "runtime.NumGoroutine") = false) {n : Nat} (hn : fn.ntmps = n) (hl : args.length <= n)
    (h:AR P c (RetAG P fn Q) ⟨[],initE 0 args,n⟩):AF P f args Q:=
  af_enterK hf hb he hn hl ⟨fun G0 G D a w hr hl hm=>wpIn_mono (h.out G0 G D a w hr hl hm) fun _ a' w' ⟨G',D',st',hq,h2,h3,h4⟩=>
    let ⟨D2,st2,r2,hq2⟩:=hq D' G' a' w' h2
    ⟨G',D2,st2,hq2,r2,h3,h4⟩⟩
end Go.Proofs.YtjolbldlhjfciaaGreatDoor