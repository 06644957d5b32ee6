/- The value layer: an iterator whose loop yields what an object of its own holds; no condition. -/
import Derived.Test.YtjolbldlhjfciaaGreatDoorWi
namespace Go.Proofs.YtjolbldlhjfciaaGreatDoor
structure Zo (n0:Nat) (G:Glob) (Z:Nat->Prop):Prop where
  z : ∀ b,Z b->b < G.w0.heap.size/\¬ G.F0 b/\¬ G.I0 b
  nn:n0<=G.w0.heap.size
  f0 : ∀ b,G.F0 b->n0<=b
  df:G.df = []
theorem Zo.abd {n0:Nat} {G:Glob} {Z:Nat->Prop} (h:Zo n0 G Z) {D:Data} {st:St} {a:Act} {w:World} (hr:Rep D G st a w):Abd n0 Z G.w0 w:=
  ⟨hr.size,fun b hb hlt=>hr.frame b hlt fun g=>by
    rcases hb with hb | hb
    · exact (h.z b hb).2.1 g
    · have:=h.f0 b g; omega,hr.os,hr.tape,hr.output⟩
theorem Zo.step {n0:Nat} {G:Glob} {Z Z' : Nat->Prop} (h:Zo n0 G Z) {D:Data} {st:St} {a:Act} {w w' : World} (hr:Rep D G st a w) (hg:Grw Z w Z' w') :
    ∃ G',Rep D G' st a w'/\Zo n0 G' Z'/\G'.w0 = w':=by
  obtain⟨g1,g2,g3,g4,g5,g6⟩:=hg
  have hsz:=hr.size
  have hnI : ∀ b,Imm G st.σ D.fp w b->¬ Z b:=fun b hb hz=>by
    have:=h.z b hz
    rcases hb.1 with k | k | k
    · exact this.2.2 k
    · exact this.2.1 k
    · omega
  have hnF : ∀ p ∈ st.σ,∀ b ∈ D.fp p.1,¬ Z b:=fun p hp b hb hz=>by
    have:=h.z b hz
    rcases hr.own p hp b hb with k | k
    · exact this.2.1 k
    · omega
  refine⟨_,hr.rebase (w':=w') (Imm G st.σ D.fp w) (fun _ h=>h) (fun _ h=>h.2.1) (fun b hb=>g2 b hb.2.1 (hnI b hb)) (fun p hp b hb=>g2 b (hr.lt hp hb) (hnF p hp b hb)) g1,⟨fun b hb=>?_,?_,fun b hb=>?_,?_⟩,rfl⟩
  · obtain⟨k1,k2⟩:=g3 b hb
    refine⟨k1,fun⟨p,hp,k⟩=>?_,fun k=>?_⟩
    · rcases k2 with k2 | k2
      · exact hnF p hp b k k2
      · have:=hr.lt hp k; omega
    · rcases k2 with k2 | k2
      · exact hnI b k k2
      · have:=k.2.1; omega
  · have:=h.nn
    show n0<=w'.heap.size
    omega
  · obtain⟨p,hp,k⟩:=hb
    rcases hr.own p hp b k with k | k
    · exact h.f0 b k
    · have:=h.nn; omega
  · show G.df = []
    exact h.df
def yv (l:Nat):Value:=.func (.yield l) #[] #[]
theorem yield_run {P:Program} {l:Nat} {ρ:Operand->Value} {x y:Operand} {at_:Array TypeId} {dst:Option Nat} {ty:TypeId} {pos:String} {after:Array Edge} {w:World} {r:Result Next} (hx:ρ x = yv l)
    (hy:(Instr.yield l #[ρ y]).run P w = r):(execOp ρ ⟨dst,.call { callee:=.value x,args:=#[y],argTypes:=at_ },ty,pos,after,none⟩).run P w = r:=by
  subst hy
  simp [execOp,resolve,hx,yv,invoke,go_sem]
def sqT (S:Nat->St) (b0 N k:Nat):Exit->St->Prop
  | .normal,s=>k + 1 < N/\∃ Y,Gh Y s (S (k + 1))
  | .ret,_=>k + 1 = N
  | .exit id,_=>id = b0/\k + 1 = N
  | _,_=>False
def sqF (b0:Nat):Exit->St->Prop
  | .ret,_=>True
  | .exit id,_=>id = b0
  | _,_=>False
def S3 (s:St) (t6 t7 t8 id l:Nat) (b:Bool):St:=((s.put (some t6) (.c (.val (yv l)))).put (some t7) (.ref id)).put (some t8) (.c (.val (.bool b)))
theorem seq_loop {P:Program} {f:Nat} {fn:Func} {R0 r1 r2:Code} {b0 rid t0 t3 t6 t7 t8 id n:Nat} {at_:Array TypeId} {ty6 ty7 ty8:TypeId} {ps6 ps7 ps8:String} {af6 af7 af8:Array Edge} {args xs:List C} {N:Nat}
    (S:Nat->Nat->St) (o:Nat->List C) (hf:P.funcs[f]? = some fn)
    (hb:fn.body = some (.seq R0 (.block b0 (.loop (.seq (.seq (.region rid [⟨some t6,.move (.tmp t0),ty6,ps6,af6,none⟩,⟨some t7,.move (.tmp t3),ty7,ps7,af7,none⟩,⟨some t8,.call { callee:=.value (.tmp t6),args:=#[.tmp t7],argTypes:=at_ },ty8,ps8,af8,none⟩].toArray false) r1) r2)))))
    (he : (fn.name == "runtime.NumGoroutine") = false) (hn : fn.ntmps = n) (hla : args.length + 1 <= n) (hrs : fn.results = #[])
    (hN:0 < N) (hxl:xs.length = N) (hSn : ∀ l k,(S l k).n = n) (h68:t6 < n/\t7 < n/\t8 < n)
    (hx0 : ∀ l k,(S l k).ev (.tmp t0) = some (.c (.val (yv l)))) (hx3 : ∀ l k,((S l k).put (some t6) (.c (.val (yv l)))).ev (.tmp t3) = some (.ref id))
    (hx6 : ∀ l k,(((S l k).put (some t6) (.c (.val (yv l)))).put (some t7) (.ref id)).ev (.tmp t6) = some (.c (.val (yv l)))) (hx7 : ∀ l k,(((S l k).put (some t6) (.c (.val (yv l)))).put (some t7) (.ref id)).ev (.tmp t7) = some (.ref id)) (ho : ∀ l k,k < N->lko id (S l k).σ = some ⟨o k,[]⟩) (hxs : ∀ k,k < N->xs[k]? = some (.lst (frzL (o k))))
    (h0 : ∀ l,AW P R0 (fun e s=>match e with | .normal=>∃ Y,Gh Y s (S l 0) | _=>False) ⟨[],initE 0 (.val (yv l) :: args),n⟩)
    (hT : ∀ l k,k < N->AW P r1 (thn (AW P r2 (sqT (S l) b0 N k)) (sqT (S l) b0 N k)) (S3 (S l k) t6 t7 t8 id l true)) (hF : ∀ l k,k < N->AW P r1 (thn (AW P r2 (sqF b0)) (sqF b0)) (S3 (S l k) t6 t7 t8 id l false)):SeqA P f args xs:=by
  refine⟨by simp [EntB,hf,hb,he],fun l w I vals J Jx hI hv aJ aJx hY Z hJ hZ=>?_⟩
  refine callsIn_of_wp_marks (F:=Fw none) hf hb trivial ?_ rfl
  have hvl:=hv.length
  have hr:Rep ⟨fun _=>none,fun _=>[]⟩ ⟨w,fun _=>False,I,fun _=>none,[]⟩ ⟨[],initE 0 (.val (yv l) :: args),n⟩ { tmps:=(#[yv l] ++ vals.toArray) ++ Array.replicate (fn.ntmps - (#[yv l] ++ vals.toArray).size) undef,defers:=[] } w:=by
    refine⟨by simp,by simp,by simp,by simp,by simp,?_,by simp,fun _ _ _=>rfl,Nat.le_refl _,rfl,rfl,rfl,by simp; omega,rfl⟩
    intro i v hiv
    obtain⟨j,y,h1,h2,rfl⟩:=lk_initE hiv
    have hv2:RpL w I (.val (yv l) :: args) (yv l :: vals) []:=by
      simp only [RpL]
      exact⟨yv l,vals,[],[],rfl,rfl,by simp [Rp],hv⟩
    obtain⟨x,e1,e2⟩:=hv2.get0 h2
    have hj:j < (yv l :: vals).length:=(List.getElem?_eq_some_iff.1 e1).1
    have hj' : j < vals.length + 1:=by simpa using hj
    refine⟨x,?_,?_⟩
    · simp only [slot,h1,Nat.zero_add,show Nat.blt j n = true by simp; omega,cond_true]
      rw [Array.getElem?_append_left (by simp; omega)]
      have:(#[yv l] ++ vals.toArray) = (yv l :: vals).toArray:=by simp
      rw [this]; simpa using e1
    · simp only [VRp]
      exact Rp.frame (fun b hb=>⟨.inl hb,hI b hb,by simp⟩) (fun _ _=>rfl) _ _ _ (by simp) e2
  have zo:Zo w.heap.size ⟨w,fun _=>False,I,fun _=>none,[]⟩ Z:=⟨fun b hb=>⟨(hZ b hb).1,fun h=>h,(hZ b hb).2⟩,Nat.le_refl _,fun _ h=>h.elim,rfl⟩
  -- the end
  have fin : ∀ (st' : St) (G:Glob) (D:Data) (a:Act) (w' : World),Rep D G st' a w'->G.df = []->((∃ Z',J xs.length w' Z')\/∃ Z',Jx w' Z')->
      LeavesInM (Fw none) 0 P fn a.tmps (fun e W'=>(∃ v,e = .returned v)/\((∃ Z',J xs.length W' Z')\/∃ Z',Jx W' Z')) a.defers .returning w':=fun st' G D a w' hr' hd hj=>by
    rw [hr'.defers,hd]
    obtain⟨v,hv⟩ : ∃ v,(results fn a.tmps).run P w' = .ok v w':=⟨.tuple #[],by simp [results,hrs]⟩
    exact⟨v,hv,⟨v,rfl⟩,hj⟩
  let Qe:Exit->Act->World->Prop:=fun e a w'=>(e = .ret\/e = .exit b0)/\∃ (st' : St) (G:Glob) (D:Data),Rep D G st' a w'/\G.df = []/\((∃ Z',J xs.length w' Z')\/∃ Z',Jx w' Z')
  have conv : ∀ (T:Exit->St->Prop) (E:Exit->Act->World->Prop) (G:Glob) (D:Data) (s:St) (a:Act) (w' : World),AW P r1 (thn (AW P r2 T) T) s->Rep D G s a w'->(∀ e s D a w',T e s->Rep D G s a w'->E e a w')->
      r1.wpIn (Fw none) 0 P (Exit.then (r2.wpIn (Fw none) 0 P E) E) a w':=fun T E G D s a w' h hr hE=>
    wpIn_mono (h.out G D a w' hr none) fun e a1 w1 ⟨D1,s1,h1,h2⟩=>by
      cases e with
      | normal=>exact wpIn_mono (AW.out h1 G D1 a1 w1 h2 none) fun e a2 w2 ⟨D2,s2,h3,h4⟩=>hE e s2 D2 a2 w2 h3 h4
      | _=>exact hE _ s1 D1 a1 w1 h1 h2
  have loop : ∀ m k G D Z a w',N - k < m->k < N->Rep D G (S l k) a w'->Zo w.heap.size G Z->J k G.w0 Z->
      Code.roundsIn (Fw none) 0 P (.seq (.seq (.region rid [⟨some t6,.move (.tmp t0),ty6,ps6,af6,none⟩,⟨some t7,.move (.tmp t3),ty7,ps7,af7,none⟩,⟨some t8,.call { callee:=.value (.tmp t6),args:=#[.tmp t7],argTypes:=at_ },ty8,ps8,af8,none⟩].toArray false) r1) r2) Qe m a w':=by
    intro m
    induction m with
    | zero=>intro k G D Z a w' h; omega
    | succ m ih=>
      intro k G D Z a w' hm hk hr hz hj
      rw [roundsIn_succ]
      refine wpIn_seq (wpIn_seq (wpIn_region_lit ?_))
      have e0:=hr.ev (hx0 l k)
      simp only [VRp,Rp] at e0
      refine wpListIn_plain rfl fun K1 hK1=>wpIn_of_ok (v:=a.eval (.tmp t0)) (by simp [execOp]) (hK1 _ _ ?_)
      have hr6:=hr.put (d:=some t6) (v:=.c (.val (yv l))) (x:=a.eval (.tmp t0)) (fun j hj=>by cases hj; rw [hSn]; exact h68.1) (by simp only [VRp,Rp]; exact e0)
      have e3:=hr6.ev (hx3 l k)
      refine wpListIn_plain rfl fun K2 hK2=>wpIn_of_ok (v:=(a.put (some t6) (a.eval (.tmp t0))).eval (.tmp t3)) (by simp [execOp]) (hK2 _ _ ?_)
      have hr7:=hr6.put (d:=some t7) (v:=.ref id) (x:=(a.put (some t6) (a.eval (.tmp t0))).eval (.tmp t3)) (fun j hj=>by cases hj; show t7 < (S l k).n; rw [hSn]; exact h68.2.1) e3
      have e6:=hr7.ev (hx6 l k)
      have e7:=hr7.ev (hx7 l k)
      simp only [VRp,Rp] at e6
      generalize ha7:(a.put (some t6) (a.eval (.tmp t0))).put (some t7) ((a.put (some t6) (a.eval (.tmp t0))).eval (.tmp t3)) = a7 at *
      have hsz:=hr7.size
      have hnI : ∀ b,Imm G (S l k).σ D.fp w' b->¬ Z b:=fun b hb hzb=>by
        have:=hz.z b hzb
        rcases hb.1 with g | g | g
        · exact this.2.2 g
        · exact this.2.1 g
        · omega
      have hnF : ∀ p ∈ (S l k).σ,∀ b ∈ D.fp p.1,¬ Z b:=fun p hp b hb hzb=>by
        have:=hz.z b hzb
        rcases hr.own p hp b hb with g | g
        · exact this.2.1 g
        · omega
      have hel:=(hv_spec hr7 (.ref id) _ (.own (o k)) [id] (by
        show Go.Proofs.YtjolbldlhjfciaaGreatDoor.hv (S l k).σ (.ref id) = _
        simp [Go.Proofs.YtjolbldlhjfciaaGreatDoor.hv,ho l k hk]) e7).1
      have hel2:=Rp.frz (I':=fun b=>Imm G (S l k).σ D.fp w' b\/∃ p ∈ (S l k).σ,b ∈ D.fp p.1) (fun b hb=>.inl hb) _ _ _ (fun b hb=>by
        simp only [List.flatMap_cons,List.flatMap_nil,List.append_nil] at hb
        obtain⟨p,hp,rfl⟩:=hr.fpkey hb
        exact .inr ⟨p,hp,hb⟩) hel
      obtain⟨fn',tm',as',bd',hyr,hR⟩:=hY k w' Z _ _ _ (hxs k hk) (aJ _ _ _ _ hj (hz.abd hr)) (by have:=hz.nn; omega) (fun b hb=>by
        rcases hb with hb | ⟨p,hp,hb⟩
        · exact⟨hb.2.1,hnI b hb⟩
        · exact⟨hr.lt hp hb,hnF p hp b hb⟩) hel2
      refine wpListIn_plain rfl fun K3 hK3=>⟨fun _ _=>trivial,?_⟩
      rw [Oper.semAt_eq _ _ _ (fun c h=>by cases h),yield_run e6.1 hyr]
      refine⟨fun g=>by simp [Fw,Fence.wide] at g,hR.mono ?_⟩
      rintro e W' (⟨rfl,Z',hj',hg⟩ | ⟨rfl,Z',hjx,hg⟩)
      · obtain⟨G',hr',hz',hw0⟩:=hz.step hr7 hg
        refine hK3 _ _ ?_
        have hr8:=hr'.put (d:=some t8) (v:=.c (.val (.bool true))) (x:=.bool true) (fun j hj=>by cases hj; show t8 < (S l k).n; rw [hSn]; exact h68.2.2) (by simp [VRp,Rp])
        refine conv _ _ G' D _ _ W' (hT l k hk) hr8 ?_
        intro e s9 D9 a9 w9 hq hr9
        have hjw:J (k + 1) w9 Z':=aJ _ _ _ _ (by rw [hw0]; exact hj') (hz'.abd hr9)
        cases e with
        | normal=>
          obtain⟨hlt,Y,hgh⟩:=hq
          obtain⟨D10,hr10,_⟩:=hgh D9 G' a9 w9 hr9
          exact ih (k + 1) G' D10 Z' a9 w9 (by omega) hlt hr10 hz' (by rw [hw0]; exact hj')
        | ret=>
          have hq:k + 1 = N:=hq
          exact⟨.inl rfl,s9,G',D9,hr9,hz'.df,.inl ⟨Z',by rw [hxl,<- hq]; exact hjw⟩⟩
        | exit id'=>
          obtain⟨rfl,hq⟩:=hq
          exact⟨.inr rfl,s9,G',D9,hr9,hz'.df,.inl ⟨Z',by rw [hxl,<- hq]; exact hjw⟩⟩
        | _=>exact hq.elim
      · obtain⟨G',hr',hz',hw0⟩:=hz.step hr7 hg
        refine hK3 _ _ ?_
        have hr8:=hr'.put (d:=some t8) (v:=.c (.val (.bool false))) (x:=.bool false) (fun j hj=>by cases hj; show t8 < (S l k).n; rw [hSn]; exact h68.2.2) (by simp [VRp,Rp])
        refine conv _ _ G' D _ _ W' (hF l k hk) hr8 ?_
        intro e s9 D9 a9 w9 hq hr9
        have hjw:Jx w9 Z':=aJx _ _ _ (by rw [hw0]; exact hjx) (hz'.abd hr9)
        cases e with
        | ret=>exact⟨.inl rfl,s9,G',D9,hr9,hz'.df,.inr ⟨Z',hjw⟩⟩
        | exit id'=>
          have hq:id' = b0:=hq
          subst hq
          exact⟨.inr rfl,s9,G',D9,hr9,hz'.df,.inr ⟨Z',hjw⟩⟩
        | _=>exact hq.elim
  refine wpIn_seq (wpIn_mono ((h0 l).out _ _ _ _ hr none) ?_)
  rintro e a1 w1 ⟨D1,s1,hq,hr1⟩
  cases e with
  | normal=>
    obtain⟨Y,hgh⟩:=hq
    obtain⟨D2,hr2,_⟩:=hgh D1 _ a1 w1 hr1
    refine wpIn_block (wpIn_loop_rounds (N + 1) ?_)
    have hlp:=loop (N + 1) 0 _ D2 Z a1 w1 (by omega) hN hr2 zo hJ
    have mono : ∀ m a w,Code.roundsIn (Fw none) 0 P (.seq (.seq (.region rid [⟨some t6,.move (.tmp t0),ty6,ps6,af6,none⟩,⟨some t7,.move (.tmp t3),ty7,ps7,af7,none⟩,⟨some t8,.call { callee:=.value (.tmp t6),args:=#[.tmp t7],argTypes:=at_ },ty8,ps8,af8,none⟩].toArray false) r1) r2) Qe m a w->
        Code.roundsIn (Fw none) 0 P (.seq (.seq (.region rid [⟨some t6,.move (.tmp t0),ty6,ps6,af6,none⟩,⟨some t7,.move (.tmp t3),ty7,ps7,af7,none⟩,⟨some t8,.call { callee:=.value (.tmp t6),args:=#[.tmp t7],argTypes:=at_ },ty8,ps8,af8,none⟩].toArray false) r1) r2)
          (Exit.inBlock b0 (bodyPostM (Fw none) 0 P fn (fun e W'=>(∃ v,e = .returned v)/\((∃ Z',J xs.length W' Z')\/∃ Z',Jx W' Z')))) m a w:=by
      intro m
      induction m with
      | zero=>intro a w h; exact h
      | succ m ih=>
        intro a w h
        rw [roundsIn_succ] at h ⊢
        refine wpIn_mono h fun e a w hq=>?_
        have ends:Qe e a w->Exit.inBlock b0 (bodyPostM (Fw none) 0 P fn (fun e W'=>(∃ v,e = .returned v)/\((∃ Z',J xs.length W' Z')\/∃ Z',Jx W' Z'))) e a w:=fun⟨h1,st',G,D,h2,h3,h4⟩=>by
          rcases h1 with rfl | rfl
          · exact fin st' G D a w h2 h3 h4
          · simp only [Exit.inBlock,if_true]; exact fin st' G D a w h2 h3 h4
        cases e with
        | normal=>exact ih a w hq
        | _=>exact ends hq
    exact mono _ _ _ hlp
  | _=>exact hq.elim
end Go.Proofs.YtjolbldlhjfciaaGreatDoor
