/- The value layer: a list that is owned and read while its holder is turned; no condition. -/
import Derived.Test.YtjolbldlhjfciaaGreatDoorWm
namespace Go.Proofs.YtjolbldlhjfciaaGreatDoor
theorem am_coreN {P:Program} {f:Nat} {fn:Func} {c:Code} {args:List C} {Q:C->List C->Prop} (hf:P.funcs[f]? = some fn) (hb:fn.body = some c) {n m:Nat} (hn:fn.ntmps = n) (hm:args.length = m) (hl:m<=n) (ids:List Nat) (hid:nodupB ids = true)
    {w:World} {I:Nat->Prop} {vals:List Value} {fp:List Nat} (hI : ∀ b,I b->b < w.heap.size) (hdj : ∀ b ∈ fp,¬ I b) (hnd:fp.Nodup) (hv:RpL w I args vals fp)
    (h : ∀ D a,Rep D ⟨w,fun b=>b ∈ fp,I,fun i=>vals[i - n]?,[]⟩ ⟨(opnL args ids).2.1,apE (initV 0 (opnL args ids).1) (initV n (opnL args ids).1),n⟩ a w->c.wpIn (Fw none) 0 P (fun e a' w'=>∃ D' st',RetAM P fn Q n m e st'/\Rep D' ⟨w,fun b=>b ∈ fp,I,fun i=>vals[i - n]?,[]⟩ st' a' w') a w):Calls P f vals.toArray w fun e w'=>∃ r outs x fz,e = .returned x/\Q r outs/\RpL w' (fun b=>I b\/((b ∈ fp\/w.heap.size<=b)/\b < w'.heap.size/\b ∉ fz)) (r :: outs) (x :: vals) fz/\fz.Nodup/\(∀ b ∈ fz,b ∈ fp\/w.heap.size<=b)/\
      w.heap.size<=w'.heap.size/\(∀ b,b < w.heap.size->b ∉ fp->w'.heap[b]? = w.heap[b]?)/\w'.os = w.os/\w'.tape = w.tape/\w'.output = w.output:=by
  refine calls_of_wp hf hb ?_
  have hvl:=hv.length
  obtain⟨L,e1,e2,e3,e4⟩:=opnL_spec args ids vals fp hv hnd
  have hkeys:((opnL args ids).2.1.map (·.1)).Nodup:=by have:=nodupB_spec hid; rw [e4] at this; exact (List.nodup_append.1 this).1
  obtain⟨Mn,fpn,f1,f2,f3⟩:=e1.find hkeys
  generalize hopn:opnL args ids = o at *
  obtain⟨vs,os,rest⟩:=o
  simp only at *
  let D:Data:=⟨fun k=>if k ∈ os.map (·.1) then Mn k else none,fun k=>if k ∈ os.map (·.1) then fpn k else []⟩
  have hin : ∀ p ∈ os,p.1 ∈ os.map (·.1):=fun p hp=>List.mem_map.2 ⟨p,hp,rfl⟩
  have hDM : ∀ p ∈ os,D.M p.1 = Mn p.1:=fun p hp=>if_pos (hin p hp)
  have hDF : ∀ p ∈ os,D.fp p.1 = fpn p.1:=fun p hp=>if_pos (hin p hp)
  have hsub : ∀ p ∈ os,∀ b ∈ fpn p.1,b ∈ fp:=fun p hp b hb=>by obtain⟨_,_,_,_,g⟩:=f2 p hp; exact e2.subset (g.subset hb)
  let G:Glob:=⟨w,fun b=>b ∈ fp,I,fun i=>vals[i - n]?,[]⟩
  have hImm : ∀ b,I b->Imm G os D.fp w b:=fun b hb=>⟨.inl hb,hI b hb,fun p hp hbp=>by rw [hDF p hp] at hbp; exact hdj b (hsub p hp b hbp) hb⟩
  have hlen : ∀ (vs:List V) (xs:List Value) (M:Nat->Option Loc),VRpL w I M vs xs->vs.length = xs.length:=by
    intro vs
    induction vs with
    | nil=>intro xs M h; simp only [VRpL] at h; simp [h]
    | cons v vs ih=>intro xs M h; simp only [VRpL] at h; obtain⟨x,xs',rfl,_,h3⟩:=h; simp [ih _ _ h3]
  have hvals:VRpL w I D.M vs vals:=e3 D.M fun q hq=>by
    have : ∀ (os:List (Nat × Ob)) (L:List (Loc × List Nat)),∀ q ∈ locs os L,q.1 ∈ os.map (·.1):=by
      intro os
      induction os with
      | nil=>intro L q hq; simp [locs] at hq
      | cons p r ih=>
        intro L q hq
        cases L with
        | nil=>simp [locs] at hq
        | cons s L=>
          simp only [locs] at hq
          rcases List.mem_cons.1 hq with rfl | hq
          · simp
          · rw [List.map_cons]; exact List.mem_cons_of_mem _ (ih L q hq)
    show (if q.1 ∈ os.map (·.1) then Mn q.1 else none) = _
    rw [if_pos (this os L q hq)]; exact f1 q hq
  have hvsl:=hlen vs vals _ hvals
  have hvals' : VRpL w (Imm G os D.fp w) D.M vs vals:=VRpL.frame hImm (fun _ _=>rfl) (fun _ _ h=>h) _ _ hvals
  have hr:Rep D G ⟨os,apE (initV 0 vs) (initV n vs),n⟩ { tmps:=vals.toArray ++ Array.replicate (fn.ntmps - vals.toArray.size) undef,defers:=[] } w:=by
    refine⟨?_,?_,hkeys,?_,?_,?_,?_,fun _ _ _=>rfl,Nat.le_refl _,rfl,rfl,rfl,by simp; omega,rfl⟩
    · intro p hp
      obtain⟨l,g1,g2,g3,_⟩:=f2 p hp
      refine⟨l,by rw [hDM p hp]; exact g1,?_⟩
      rw [hDF p hp]
      exact g3.frame hImm (fun _ _=>rfl) (fun _ _ h=>by cases h) (fun _ _=>rfl)
    · intro i hi
      have:i ∉ os.map (·.1):=fun hm=>by obtain⟨p,hp,e⟩:=List.mem_map.1 hm; exact hi p hp e
      exact⟨if_neg this,if_neg this⟩
    · intro p hp; rw [hDF p hp]; obtain⟨_,_,_,_,g⟩:=f2 p hp; exact (g.trans e2).nodup hnd
    · intro p hp q hq hne b hb hb2
      rw [hDF p hp] at hb; rw [hDF q hq] at hb2
      exact f3 (e2.nodup hnd) p hp q hq hne b hb hb2
    · intro i v hiv
      rcases lk_apE hiv with h7 | h7
      · obtain⟨j,h1,h2⟩:=lk_initV h7
        obtain⟨x,k1,k2⟩:=VRpL.get hvals' h2
        have hj:j < vals.length:=(List.getElem?_eq_some_iff.1 k1).1
        refine⟨x,?_,k2⟩
        simp only [slot,h1,Nat.zero_add,show Nat.blt j n = true by simp; omega,cond_true]
        rw [Array.getElem?_append_left (by simpa using hj)]
        simpa using k1
      · obtain⟨j,h1,h2⟩:=lk_initV h7
        obtain⟨x,k1,k2⟩:=VRpL.get hvals' h2
        refine⟨x,?_,k2⟩
        have hge:Nat.blt (n + j) n = false:=Bool.eq_false_iff.2 (by simp)
        simp only [slot,h1,hge,cond_false,G]
        rw [Nat.add_sub_cancel_left]; exact k1
    · intro p hp b hb; rw [hDF p hp] at hb; exact .inl (hsub p hp b hb)
  refine wp_mono (wpIn_wide.1 (h D _ hr)) fun e a' w' ⟨D',st',hq,hr'⟩=>?_
  have fin : ∀ v r outs ids,RetV P fn st' v->hvL st'.σ (v :: gl st'.env n m) = some (r :: outs,ids)->nodupB ids = true->Q r outs->st'.n = n->a'.defers = []/\∃ x,(results fn a'.tmps).run P w' = .ok x w'/\
      (∃ r outs y fz,Ending.returned x = .returned y/\Q r outs/\RpL w' (fun b=>I b\/((b ∈ fp\/w.heap.size<=b)/\b < w'.heap.size/\b ∉ fz)) (r :: outs) (y :: vals) fz/\fz.Nodup/\(∀ b ∈ fz,b ∈ fp\/w.heap.size<=b)/\
      w.heap.size<=w'.heap.size/\(∀ b,b < w.heap.size->b ∉ fp->w'.heap[b]? = w.heap[b]?)/\w'.os = w.os/\w'.tape = w.tape/\w'.output = w.output):=by
    intro v r outs ids h1 h2 h3 h4 h5
    obtain⟨x,k1,k2⟩:=h1 D' _ a' w' hr'
    have hgl : ∀ (m i:Nat),n<=i->(i - n) + m = vals.length->VRpL w' (Imm G st'.σ D'.fp w') D'.M (gl st'.env i m) (vals.drop (i - n)):=by
      intro m
      induction m with
      | zero=>intro i hi hm; simp only [gl,VRpL]; exact List.drop_eq_nil_of_le (by omega)
      | succ m ih=>
        intro i hi hm
        have hlt:i - n < vals.length:=by omega
        simp only [gl,VRpL]
        refine⟨vals[i - n],vals.drop (i - n + 1),List.drop_eq_getElem_cons hlt,?_,?_⟩
        · cases hk:lk i st'.env with
          | none=>simp [VRp,Rp]
          | some u=>
            obtain⟨y,y1,y2⟩:=hr'.env i u hk
            have hge:Nat.blt i st'.n = false:=by rw [h5]; exact Bool.eq_false_iff.2 (by simp; omega)
            simp only [slot,hge,cond_false,G] at y1
            rw [List.getElem?_eq_getElem hlt] at y1
            simp only [Option.some.injEq] at y1
            subst y1; exact y2
        · have:=ih (i + 1) (by omega) (by omega)
          rwa [show i + 1 - n = i - n + 1 by omega] at this
    have hgl0:=hgl m n (Nat.le_refl n) (by omega)
    rw [Nat.sub_self,List.drop_zero] at hgl0
    obtain⟨g1,g2⟩:=hvL_spec hr' (v :: gl st'.env n m) (x :: vals) _ ids h2 (by simp only [VRpL]; exact⟨x,vals,rfl,k2,hgl0⟩)
    have hnd2:=nodupB_spec h3
    refine⟨hr'.defers,x,k1,r,outs,x,ids.flatMap D'.fp,rfl,h4,?_,?_,?_,hr'.size,fun b hb hbf=>hr'.frame b hb hbf,hr'.os,hr'.tape,hr'.output⟩
    · refine RpL.frame (fun b hb=>?_) (fun _ _=>rfl) _ _ _ (fun _ _=>rfl) g1
      obtain⟨h5,h6,h7⟩:=hb
      have h8:b ∉ ids.flatMap D'.fp:=fun hm=>by
        obtain⟨i,hi,hbi⟩:=List.mem_flatMap.1 hm
        obtain⟨p,hp,rfl⟩:=g2 i hi
        exact h7 p hp hbi
      rcases h5 with h5 | h5 | h5
      · exact .inl h5
      · exact .inr ⟨.inl h5,h6,h8⟩
      · exact .inr ⟨.inr h5,h6,h8⟩
    · refine flat_nodup hnd2 (fun i hi=>?_) (fun i hi j hj hij b hbi=>?_)
      · obtain⟨p,hp,rfl⟩:=g2 i hi; exact hr'.disj1 p hp
      · obtain⟨p,hp,rfl⟩:=g2 i hi
        obtain⟨q,hq',rfl⟩:=g2 j hj
        exact hr'.disj2 p hp q hq' hij b hbi
    · intro b hm
      obtain⟨i,hi,hbi⟩:=List.mem_flatMap.1 hm
      obtain⟨p,hp,rfl⟩:=g2 i hi
      exact hr'.own p hp b hbi
  cases e with
  | normal=>obtain⟨v,r,outs,ids,h1,h2,h3,h4,h5⟩:=hq; exact fin v r outs ids h1 h2 h3 h4 h5
  | ret=>obtain⟨v,r,outs,ids,h1,h2,h3,h4,h5⟩:=hq; exact fin v r outs ids h1 h2 h3 h4 h5
  | _=>exact hq.elim
section
variable {P:Program} {st:St}
theorem ss_slX {X:Option (List Nat)} {ty:TypeId} {T:TypeId} [hT:SlT P T] {x o:Operand} {a:Option Addr} {len cap:Nat} {k:IntKind} {h:Int} (hx:st.ev x = some (.c (.val (.slice a len cap)))) (hh:st.ev o = some (.c (.val (.int k h)))) (hb:0<=h/\h<=(cap:Int)) (ha:a = none\/∃ b off,a = some ⟨b,off,none⟩) :
    SS P X (.slice T x none (some o) none) ty st (.c (.val (.slice a h.toNat cap))):=fun D G a0 w hr=>by
  refine⟨_,?_,fun w' _ dst pos after guard=>exec_slice (l:=0) (h:=h.toNat) (hr.evVal hx) (by simp) (fun _=>rfl) (fun o2 ho=>?_) (by simp) (by omega) (by omega) w' dst pos after guard⟩
  · simp only [VRp,Rp,Nat.sub_zero,and_true]
    split
    · rfl
    · rcases ha with rfl | ⟨b,off,rfl⟩
      · rfl
      · simp [Addr.add_lit]
  · cases ho
    exact⟨k,by rw [hr.evVal hh]; congr 1; omega⟩
theorem rz_view {ops:Array Oper} {K:Unit->St->Prop} {l:List Oper} {G0:Glob} {x:Value} {S:List C} (i:Nat) (hV : ∃ I',Rp G0.w0 I' (.lst S) x []/\∀ b,I' b->G0.I0 b/\¬ G0.F0 b/\b < G0.w0.heap.size) (hi:lk i st.env = some (.c (.val x)))
    (h:RunZ P (fun (_:Unit) G=>G = G0) ops K l () ⟨st.σ,(i,.c (.lst S)) :: st.env,st.n⟩):RunZ P (fun (_:Unit) G=>G = G0) ops K l () st:=⟨fun G D a w hr hp Q hQ=>by
  subst hp
  refine h.out G D a w ⟨hr.obs,hr.dom,hr.nodup,hr.disj1,hr.disj2,fun j v hj=>?_,hr.own,hr.frame,hr.size,hr.os,hr.tape,hr.output,hr.ntmps,hr.defers⟩ rfl Q hQ
  simp only [lk] at hj
  cases hb:Nat.beq i j with
  | false=>rw [hb] at hj; exact hr.env j v hj
  | true=>
    rw [hb] at hj
    simp only [cond_true,Option.some.injEq] at hj
    subst hj
    have:=Nat.eq_of_beq_eq_true hb
    subst this
    obtain⟨y,h1,h2⟩:=hr.env i _ hi
    simp only [VRp,Rp] at h2
    obtain⟨rfl,_⟩:=h2
    obtain⟨I',g1,g2⟩:=hV
    refine⟨y,h1,?_⟩
    simp only [VRp]
    exact Rp.frame (fun b hb=>⟨.inl (g2 b hb).1,Nat.lt_of_lt_of_le (g2 b hb).2.2 hr.size,fun p hp hbp=>by
      rcases hr.own p hp b hbp with k | k
      · exact (g2 b hb).2.1 k
      · have:=(g2 b hb).2.2; omega⟩) (fun b hb=>hr.frame b (g2 b hb).2.2 (g2 b hb).2.1) _ _ _ (by simp) g1⟩
end
theorem am_view {P : Program} {f : Nat} {fn : Func} {c : Code} (hf : P.funcs[f]? = some fn) (hb : fn.body = some c) (he : (fn.name == "runtime.NumGoroutine") = false) {n : Nat} (hn : fn.ntmps = n) (hl : 2 <= n) {A B X Y : List C} {s : List Int} {y : Value} {Q : C -> List C -> Prop}
    (h : ∀ (v0 v1:Value) (a:Option Addr) (cap:Nat) (G0:Glob),(a = none\/∃ b off,a = some ⟨b,off,none⟩)->s.length<=cap->(∃ I',Rp G0.w0 I' (.lst (ints s)) (.slice a s.length cap) []/\∀ b,I' b->G0.I0 b/\¬ G0.F0 b/\b < G0.w0.heap.size)->
      AZ P (fun (_:Unit) G=>G = G0) c (fun e _ st=>RetAM P fn (fun r outs=>∃ X' Y' k,outs = [.obox [.val v0,.val v1,.own X',.own Y',.val (.slice a k cap)],.val y]/\k<=s.length/\r.slf = true/\slfL X' = true/\slfL Y' = true/\Q r [.obox [.lst A,.lst B,.own X',.own Y',.own (ints (s.take k))],.val y]) n 2 e st) ()
        ⟨(opnL [.obox [.val v0,.val v1,.own X,.own Y,.val (.slice a s.length cap)],.val y] [800]).2.1,apE (initV 0 (opnL [.obox [.val v0,.val v1,.own X,.own Y,.val (.slice a s.length cap)],.val y] [800]).1) (initV n (opnL [.obox [.val v0,.val v1,.own X,.own Y,.val (.slice a s.length cap)],.val y] [800]).1),n⟩) :
    AM P f [.obox [.lst A,.lst B,.own X,.own Y,.own (ints s)],.val y] Q:=by
  refine⟨by simp [EntB,hf,hb,he],fun w I vals fp hI hdj hnd hv=>?_⟩
  simp only [RpL] at hv
  obtain⟨pv,r1,f1,f2,rfl,rfl,hbox,yv,r2,f3,f4,rfl,rfl,hy,rfl,rfl⟩:=hv
  simp only [Rp] at hy hbox
  obtain⟨rfl,rfl⟩:=hy
  obtain⟨b,off,cap0,vs,g,rfl,rfl,hcells,hown⟩:=hbox
  simp only [RpL] at hcells
  obtain⟨v0,s0,g0,h0,rfl,rfl,k0,v1,s1,g1,h1,rfl,rfl,k1,v2,s2,g2,h2,rfl,rfl,k2,v3,s3,g3,h3,rfl,rfl,k3,v4,s4,g4,h4,rfl,rfl,k4,rfl,rfl⟩:=hcells
  have e0:g0 = []:=by simp only [Rp] at k0; exact k0.1
  have e1:g1 = []:=by simp only [Rp] at k1; exact k1.1
  subst e0 e1
  simp only [List.append_nil,List.nil_append] at hnd hdj ⊢
  -- the list
  obtain⟨a,cap,rfl,ha,hcap,hlst,hg4,hback⟩ : ∃ a cap,v4 = .slice a s.length cap/\(a = none\/∃ b off,a = some ⟨b,off,none⟩)/\s.length<=cap/\Rp w (fun c=>c ∈ g4) (.lst (ints s)) v4 []/\(∀ c ∈ g4,c < w.heap.size)/\
      ∀ (w' : World) (I' : Nat->Prop) k,k<=s.length->(∀ c ∈ g4,w'.heap[c]? = w.heap[c]?)->Rp w' I' (.own (ints (s.take k))) (.slice a k cap) g4:=by
    have hlt:=Rp.lt _ _ _ k4
    simp only [Rp] at k4
    rcases k4 with ⟨e1,rfl,rfl⟩ | ⟨b4,off4,cap4,vs4,f',rfl,rfl,q1,q2⟩
    · have:s = []:=by simpa [ints] using e1
      subst this
      refine⟨none,0,rfl,.inl rfl,Nat.le_refl _,?_,by simp,fun w' I' k hk _=>?_⟩
      · simp only [Rp,ints,List.map_nil]
        exact⟨trivial,none,0,[],by simp,by simp,by simp [RpL],fun i v hv=>by simp at hv⟩
      · have:k = 0:=by simpa using hk
        subst this
        simp only [Rp]; left; exact⟨by simp [ints],by simp⟩
    · obtain⟨rfl,rfl⟩:=rpL_ints (l:=s) q1
      have hb4:=q2
      obtain⟨cur,e,c1,c2,c3,c4,c5⟩:=q2
      rw [List.length_map] at c2
      refine⟨some ⟨b4,off4,none⟩,cap4,by simp [ints],.inr ⟨b4,off4,rfl⟩,c2,?_,hlt,fun w' I' k hk hh=>?_⟩
      · simp only [Rp]
        exact⟨trivial,_,cap4,s.map (Value.int .i64),by simp [ints],by simpa [ints] using c2,rpL_ints' s,hb4.row List.mem_cons_self⟩
      · simp only [Rp]; right
        have hkl:(s.take k).length = k:=by simp; omega
        refine⟨b4,off4,cap4,(s.take k).map (Value.int .i64),[],by rw [show (ints (s.take k)).length = k by simp [ints]; omega],rfl,rpL_ints' _,cur,e,(hh b4 List.mem_cons_self).trans c1,by simp; omega,c3,c4,fun i v hv=>c5 i v ?_⟩
        rw [List.map_take,List.getElem?_take] at hv
        split at hv
        · exact hv
        · cases hv
  have hblt:b < w.heap.size:=hown.lt
  have n1:=List.nodup_cons.1 hnd
  have n2:=List.nodup_append.1 n1.2
  have n3:=List.nodup_append.1 n2.2.1
  have hfp1 : ∀ c ∈ b :: (g2 ++ g3),c ∈ b :: (g2 ++ (g3 ++ g4)):=fun c hc=>by
    rcases List.mem_cons.1 hc with rfl | hc
    · exact List.mem_cons_self
    · refine List.mem_cons_of_mem _ ?_; simp only [List.mem_append] at hc ⊢; rcases hc with hc | hc <;> simp [hc]
  have hg4n : ∀ c ∈ g4,c ∉ b :: (g2 ++ g3):=fun c hc hm=>by
    rcases List.mem_cons.1 hm with rfl | hm
    · exact n1.1 (by simp [hc])
    · rcases List.mem_append.1 hm with hm | hm
      · exact n2.2.2 c hm c (by simp [hc]) rfl
      · exact n3.2.2 c hm c hc rfl
  have hnd1:(b :: (g2 ++ g3)).Nodup:=List.nodup_cons.2 ⟨fun hm=>n1.1 (by simp only [List.mem_append] at hm ⊢; rcases hm with hm | hm <;> simp [hm]),List.nodup_append.2 ⟨n2.1,n3.1,fun c hc d hd=>n2.2.2 c hc d (by simp [hd])⟩⟩
  have hin : ∀ c ∈ g4,c ∈ b :: (g2 ++ (g3 ++ g4)):=fun c hc=>by simp [hc]
  have hv1:RpL w (fun c=>I c\/c ∈ g4) [.obox [.val v0,.val v1,.own X,.own Y,.val (.slice a s.length cap)],.val yv] [.pointer (some ⟨b,off,none⟩),yv] (b :: (g2 ++ g3)):=by
    simp only [RpL]
    refine⟨_,_,b :: (g2 ++ g3),[],rfl,by simp,?_,_,_,[],[],rfl,rfl,by simp [Rp],rfl,rfl⟩
    simp only [Rp]
    refine⟨b,off,cap0,_,g2 ++ g3,rfl,rfl,?_,hown⟩
    simp only [RpL]
    refine⟨_,_,[],g2 ++ g3,rfl,by simp,by simp [Rp],_,_,[],g2 ++ g3,rfl,by simp,by simp [Rp],_,_,g2,g3,rfl,rfl,?_,_,_,g3,[],rfl,by simp,?_,_,_,[],[],rfl,rfl,by simp [Rp],rfl,rfl⟩
    · exact Rp.frame (fun _ h=>.inl h) (fun _ _=>rfl) _ _ _ (fun _ _=>rfl) k2
    · exact Rp.frame (fun _ h=>.inl h) (fun _ _=>rfl) _ _ _ (fun _ _=>rfl) k3
  refine (am_coreN hf hb hn (m:=2) rfl hl [800] rfl (I:=fun c=>I c\/c ∈ g4) (fun c hc=>hc.elim (hI c) (hg4 c)) (fun c hc hm=>hm.elim (hdj c (hfp1 c hc)) fun hm=>hg4n c hm hc) hnd1 hv1
    (Q:=fun r outs=>∃ X' Y' k,outs = [.obox [.val v0,.val v1,.own X',.own Y',.val (.slice a k cap)],.val yv]/\k<=s.length/\r.slf = true/\slfL X' = true/\slfL Y' = true/\Q r [.obox [.lst A,.lst B,.own X',.own Y',.own (ints (s.take k))],.val yv])
    fun D0 a0 hr0=>wpIn_mono ((h v0 v1 a cap ⟨w,fun c=>c ∈ b :: (g2 ++ g3),fun c=>I c\/c ∈ g4,_,[]⟩ ha hcap ⟨fun c=>c ∈ g4,hlst,fun c hc=>⟨.inr hc,hg4n c hc,hg4 c hc⟩⟩).out _ _ _ _ hr0 rfl) fun e a' w' ⟨_,G',D',st',q1,q2,q3⟩=>by subst q3; exact⟨D',st',q1,q2⟩).mono ?_
  rintro e w' ⟨r,outs,x,fz,rfl,⟨X',Y',k,rfl,hk,sr,sX,sY,hq⟩,hR,hz1,hz2,hsz,hkeep,ho,ht,hu⟩
  simp only [RpL] at hR
  obtain⟨x',t1,fr,fz1,e1,rfl,hr,pv,t2,fb,fz2,e2,rfl,hbx,yv,t3,fy,fz3,e3,rfl,hy,rfl,rfl⟩:=hR
  obtain⟨rfl,rfl⟩:=List.cons.inj e1
  obtain⟨rfl,rfl⟩:=List.cons.inj e2
  obtain⟨rfl,_⟩:=List.cons.inj e3
  simp only [Rp] at hy hbx
  obtain⟨_,rfl⟩:=hy
  obtain⟨b',off',cap',vs',g,e4,rfl,hcells,hown'⟩:=hbx
  simp only [Value.pointer.injEq,Option.some.injEq,Addr.mk.injEq,and_true] at e4
  obtain⟨rfl,rfl⟩:=e4
  simp only [RpL] at hcells
  obtain⟨u0,s0,p0,h0,rfl,rfl,c0,u1,s1,p1,h1,rfl,rfl,c1,u2,s2,p2,h2,rfl,rfl,c2,u3,s3,p3,h3,rfl,rfl,c3,u4,s4,p4,h4,rfl,rfl,c4,rfl,rfl⟩:=hcells
  simp only [Rp] at c0 c1 c4
  obtain⟨rfl,rfl⟩:=c0
  obtain⟨rfl,rfl⟩:=c1
  obtain⟨rfl,rfl⟩:=c4
  simp only [List.append_nil,List.nil_append] at hz1 hz2
  have hk4 : ∀ c ∈ g4,w'.heap[c]? = w.heap[c]?:=fun c hc=>hkeep c (hg4 c hc) (hg4n c hc)
  have hIk : ∀ c,I c->w'.heap[c]? = w.heap[c]?:=fun c hc=>hkeep c (hI c hc) fun hm=>hdj c (hfp1 c hm) hc
  refine⟨r,_,x,fr ++ (b :: (p2 ++ (p3 ++ g4))),rfl,hq,?_,?_,fun c hc=>?_,hsz,fun c hc hn=>hkeep c hc fun hm=>hn (hfp1 c hm),ho,ht,hu⟩
  · simp only [RpL]
    refine⟨_,_,fr,b :: (p2 ++ (p3 ++ g4)),rfl,rfl,Rp.slf _ _ _ sr hr,_,_,b :: (p2 ++ (p3 ++ g4)),[],rfl,by simp,?_,_,_,[],[],rfl,rfl,by simp [Rp],rfl,rfl⟩
    simp only [Rp]
    refine⟨b,off,cap',_,p2 ++ (p3 ++ g4),rfl,rfl,?_,hown'⟩
    simp only [RpL]
    refine⟨_,_,[],p2 ++ (p3 ++ g4),rfl,rfl,?_,_,_,[],p2 ++ (p3 ++ g4),rfl,rfl,?_,_,_,p2,p3 ++ g4,rfl,rfl,?_,_,_,p3,g4,rfl,rfl,?_,_,_,g4,[],rfl,by simp,hback w' _ k hk hk4,rfl,rfl⟩
    · exact Rp.frame (fun c hc=>.inl hc) hIk _ _ _ (by simp) k0
    · exact Rp.frame (fun c hc=>.inl hc) hIk _ _ _ (by simp) k1
    · exact Rp.slf _ _ _ (by simp only [C.slf]; exact sX) c2
    · exact Rp.slf _ _ _ (by simp only [C.slf]; exact sY) c3
  · have m1:=List.nodup_append.1 hz1
    have hnew : ∀ c ∈ g4,c ∉ fr ++ (b :: (p2 ++ p3)):=fun c hc hm=>by
      rcases hz2 c (by simpa using hm) with h | h
      · exact hg4n c hc h
      · have:=hg4 c hc; omega
    have e:fr ++ (b :: (p2 ++ (p3 ++ g4))) = (fr ++ (b :: (p2 ++ p3))) ++ g4:=by simp
    rw [e]
    exact List.nodup_append.2 ⟨by simpa using hz1,n3.2.1,fun c hc d hd e=>hnew d hd (e ▸ hc)⟩
  · have hc' : c ∈ fr ++ (b :: (p2 ++ p3))\/c ∈ g4:=by simp only [List.mem_append,List.mem_cons] at hc ⊢; rcases hc with hc | hc | hc | hc | hc <;> simp [hc]
    rcases hc' with hc' | hc'
    · rcases hz2 c (by simpa using hc') with h | h
      · exact .inl (by simpa using hfp1 c h)
      · exact .inr h
    · exact .inl (by simpa using hin c hc')
end Go.Proofs.YtjolbldlhjfciaaGreatDoor