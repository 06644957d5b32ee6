/- The operations of the value layer that make or write memory, and the walk over a region that does not draw its order; no condition. -/
import Derived.Test.YtjolbldlhjfciaaGreatDoorVb
import Derived.Deep.OwnRows
import Derived.RangeFuncNested
import Derived.OrdersIn
import Derived.TacticsIn
import Derived.OwnWalkIn
import Derived.LoopNIn
namespace Go.Proofs.YtjolbldlhjfciaaGreatDoor
def valsR (P:Program) (R:Value->World->Prop):Result Next->Prop
  | .ok (.value v) w'=>R v w'
  | .ok .skip w'=>R undef w'
  | .ok (.enter f args) w'=>Calls P f args w' (fun e w''=>∃ v,e = .returned v/\R v w'')
  | _=>False
def Fw (r:Option Nat):Fence:={ Fence.wide with round:=r }
theorem callsFw {P:Program} {r:Option Nat} {n f:Nat} {args:Array Value} {w:World} {R:Ending->World->Prop} (h:Calls P f args w R):CallsIn (Fw r) n P f args w R:=(callsIn_wide (n:=n)).2 h
theorem nd_of_vals {P:Program} {o:Oper} {ρ:Operand->Value} {w:World} {R:Value->World->Prop} (h:valsR P R ((execOp ρ o).run P w)) : ∀ c,o.op≠.defer c:=fun c hc=>by
  unfold execOp at h
  rw [hc] at h
  simp only [Sem.run_bind] at h
  cases hr:(resolve ρ c o.type).run P w with
  | ok d w'=>rw [hr] at h; simp [Result.andThen,valsR] at h
  | halt x w'=>rw [hr] at h; simp [Result.andThen,valsR] at h
theorem wpIn_of_vals {P:Program} {r:Option Nat} {o:Oper} {a:Act} {w:World} {R:Value->World->Prop} {next:Act->World->Prop} {Q:Exit->Act->World->Prop}
    (h:valsR P R ((execOp a.eval o).run P w)) (hn : ∀ v w',R v w'->next (a.put o.dst v) w'):o.wpIn (Fw r) 0 P a w next Q:=by
  refine⟨fun _ _=>trivial,?_⟩
  rw [Oper.semAt_eq _ _ _ (nd_of_vals h)]
  generalize (execOp a.eval o).run P w = r at *
  cases r with
  | ok n w'=>
    cases n <;> simp only [valsR] at h <;> simp only [Oper.uponIn]
    case value v=>exact hn _ _ h
    case skip=>exact hn _ _ h
    case enter f args=>exact⟨fun g=>by simp [Fw,Fence.wide] at g,(callsFw h).mono fun e w'' ⟨v,he,hr⟩=>by subst he; exact hn _ _ hr⟩
  | halt x w'=>simp only [valsR] at h
theorem wpIn_of_ok {P:Program} {r:Option Nat} {o:Oper} {a:Act} {w:World} {v:Value} {next:Act->World->Prop} {Q:Exit->Act->World->Prop}
    (h:(execOp a.eval o).run P w = .ok (.value v) w) (hn:next (a.put o.dst v) w):o.wpIn (Fw r) 0 P a w next Q:=
  wpIn_of_vals (R:=fun x w'=>x = v/\w' = w) (by rw [h]; exact⟨rfl,rfl⟩) fun x w' ⟨e1,e2⟩=>by subst e1; subst e2; exact hn
structure Upd (X Y:List Nat) (D:Data) (w:World) (D' : Data) (st' : St) (w' : World):Prop where
  size:w.heap.size<=w'.heap.size
  keep : ∀ b,b < w.heap.size->(∀ id ∈ X,b ∉ D.fp id)->w'.heap[b]? = w.heap[b]?
  own : ∀ p ∈ st'.σ,∀ b ∈ D'.fp p.1,b < w.heap.size->b ∈ D.fp p.1\/∃ id ∈ Y,b ∈ D.fp id
def WS (P:Program) (X Y:List Nat) (op:Op) (ty:TypeId) (st:St) (K:V->St->Prop):Prop:=
  ∀ (D:Data) (G:Glob) (a:Act) (w:World),Rep D G st a w->∀ dst pos after guard,
    valsR P (fun x w'=>∃ D' v st',K v st'/\Rep D' G st' a w'/\VRp w' (Imm G st'.σ D'.fp w') D'.M v x/\Upd X Y D w D' st' w') ((execOp a.eval ⟨dst,op,ty,pos,after,guard⟩).run P w)
theorem WS.mono {P:Program} {X Y:List Nat} {op:Op} {ty:TypeId} {st:St} {K K' : V->St->Prop} (h:WS P X Y op ty st K) (hk : ∀ v s,K v s->K' v s):WS P X Y op ty st K':=by
  intro D G a w hr dst pos after guard
  have h1:=h D G a w hr dst pos after guard
  generalize (execOp a.eval ⟨dst,op,ty,pos,after,guard⟩).run P w = r at *
  cases r with
  | ok n w'=>
    cases n <;> simp only [valsR] at h1 ⊢
    case value v=>obtain⟨D',v,s,h2,h3⟩:=h1; exact⟨D',v,s,hk _ _ h2,h3⟩
    case skip=>obtain⟨D',v,s,h2,h3⟩:=h1; exact⟨D',v,s,hk _ _ h2,h3⟩
    case enter f args=>exact h1.mono fun e w'' ⟨v,he,D',u,s,h2,h3⟩=>⟨v,he,D',u,s,hk _ _ h2,h3⟩
  | halt x w'=>simp only [valsR] at h1
def fresh (id:Nat):List (Nat × Ob)->Bool
  | []=>true
  | p :: r=>!Nat.beq p.1 id && fresh id r
theorem fresh_spec {id:Nat} : ∀ {σ:List (Nat × Ob)},fresh id σ = true->∀ p ∈ σ,p.1≠id
  | [],_,p,hp=>by cases hp
  | q :: r,h,p,hp=>by
    simp only [fresh,Bool.and_eq_true,Bool.not_eq_true'] at h
    rcases List.mem_cons.1 hp with rfl | hp
    · exact Nat.ne_of_beq_eq_false h.1
    · exact fresh_spec h.2 p hp
def upd {α:Type} (f:Nat->α) (id:Nat) (v:α):Nat->α:=fun i=>if i = id then v else f i
@[simp] theorem upd_same {α:Type} (f:Nat->α) (id:Nat) (v:α):upd f id v id = v:=by simp [upd]
theorem upd_other {α:Type} (f:Nat->α) {id i:Nat} (v:α) (h:i≠id):upd f id v i = f i:=by simp [upd,h]
section
variable {D:Data} {G:Glob} {st:St} {a:Act} {w:World}
theorem Rep.lt (h:Rep D G st a w) {p:Nat × Ob} (hp:p ∈ st.σ) {b:Nat} (hb:b ∈ D.fp p.1):b < w.heap.size:=by
  obtain⟨l,_,hob⟩:=h.obs p hp
  rcases hob with ⟨_,_,_,h0⟩ | ⟨_,_,vs,f,h1,h2,h3,_⟩
  · rw [h0] at hb; cases hb
  · rw [h1] at hb
    rcases List.mem_cons.1 hb with rfl | hb
    · exact h3.lt
    · exact RpL.lt _ _ _ h2 b hb
theorem ObRp.frame {w w' : World} {I I' : Nat->Prop} {M M' : Nat->Option Loc} (hI : ∀ b,I b->I' b) (hk : ∀ b,I b->w'.heap[b]? = w.heap[b]?) (hM : ∀ id l,M id = some l->M' id = some l)
    {l:Loc} {ob:Ob} {fp:List Nat} (hf : ∀ b ∈ fp,w'.heap[b]? = w.heap[b]?) (h:ObRp w I M l ob fp):ObRp w' I' M' l ob fp:=by
  rcases h with h | ⟨h1,h2,vs,f,h3,h4,h5,h6⟩
  · exact .inl h
  · subst h3
    exact .inr ⟨h1,h2,vs,f,rfl,RpL.frame hI hk _ _ _ (fun b hb=>hf b (List.mem_cons_of_mem _ hb)) h4,h5.frame (hf _ List.mem_cons_self),
      fun x hx=>let ⟨v,e1,e2⟩:=h6 x hx; ⟨v,e1,VRp.frame hI hk hM _ _ e2⟩⟩
theorem Rep.new (h:Rep D G st a w) {id:Nat} (hid:fresh id st.σ = true) {cur:Array Value} {e:TypeId} {xs:List C} {holes:List (Nat × V)} {vs:List Value} {cap:Nat}
    (hx:RpL w (Imm G st.σ D.fp w) xs vs []) (hh:HolesRp w (Imm G st.σ D.fp w) D.M holes vs) (hc:vs.length<=cap) (hcs:cap<=cur.size) (hm:cap<=maxLen) (hcur : ∀ (i:Nat) (v:Value),vs[i]? = some v->cur[i]? = some v/\v.oneCell' = true) :
    ∃ D' : Data,Rep D' G ⟨(id,⟨xs,holes⟩) :: st.σ,st.env,st.n⟩ a (w.alloc (.cells cur e))/\D'.M id = some ⟨w.heap.size,0,xs.length,cap,false⟩/\
      Upd [] [] D w D' ⟨(id,⟨xs,holes⟩) :: st.σ,st.env,st.n⟩ (w.alloc (.cells cur e))/\(∀ i l,D.M i = some l->D'.M i = some l):=by
  have hfr:=fresh_spec hid
  have hM0:=(h.dom id hfr).1
  let D' : Data:=⟨upd D.M id (some ⟨w.heap.size,0,xs.length,cap,false⟩),upd D.fp id [w.heap.size]⟩
  have hkeep : ∀ b,b < w.heap.size->(w.alloc (.cells cur e)).heap[b]? = w.heap[b]?:=fun b hb=>heap_alloc_old w _ hb
  have hM : ∀ i l,D.M i = some l->D'.M i = some l:=fun i l hi=>by
    show upd D.M id _ i = some l
    rw [upd_other _ _ (fun e=>by subst e; rw [hM0] at hi; cases hi)]; exact hi
  have hfp : ∀ p ∈ st.σ,D'.fp p.1 = D.fp p.1:=fun p hp=>upd_other _ _ (hfr p hp)
  have hI : ∀ b,Imm G st.σ D.fp w b->Imm G ((id,⟨xs,holes⟩) :: st.σ) D'.fp (w.alloc (.cells cur e)) b:=fun b ⟨h1,h2,h3⟩=>
    ⟨h1,by simp; omega,fun p hp=>by
      rcases List.mem_cons.1 hp with rfl | hp
      · show b ∉ upd D.fp id [w.heap.size] id
        rw [upd_same]; simp; omega
      · rw [hfp p hp]; exact h3 p hp⟩
  have hIk : ∀ b,Imm G st.σ D.fp w b->(w.alloc (.cells cur e)).heap[b]? = w.heap[b]?:=fun b hb=>hkeep b hb.2.1
  refine⟨D',⟨?_,?_,?_,?_,?_,?_,?_,?_,?_,h.os,h.tape,h.output,h.ntmps,h.defers⟩,upd_same _ _ _,⟨by simp,fun b hb _=>hkeep b hb,?_⟩,hM⟩
  · intro p hp
    rcases List.mem_cons.1 hp with rfl | hp
    · refine⟨_,upd_same _ _ _,.inr ⟨rfl,rfl,vs,[],upd_same _ _ _,RpL.frame hI hIk _ _ _ (by simp) hx,⟨cur,e,heap_alloc_new w _,hc,by simpa using hcs,hm,fun i v hv=>by simpa using hcur i v hv⟩,?_⟩⟩
      exact fun x hx=>let ⟨v,e1,e2⟩:=hh x hx; ⟨v,e1,VRp.frame hI hIk hM _ _ e2⟩
    · obtain⟨l,h1,h2⟩:=h.obs p hp
      exact⟨l,hM _ _ h1,by rw [hfp p hp]; exact h2.frame hI hIk hM (fun b hb=>hkeep b (h.lt hp hb))⟩
  · intro i hi
    have h1:i≠id:=fun e=>hi _ List.mem_cons_self e.symm
    have h2:=h.dom i fun p hp=>hi p (List.mem_cons_of_mem _ hp)
    exact⟨by show upd D.M id _ i = none; rw [upd_other _ _ h1]; exact h2.1,by show upd D.fp id _ i = []; rw [upd_other _ _ h1]; exact h2.2⟩
  · simp only [List.map_cons,List.nodup_cons]
    refine⟨fun hm=>?_,h.nodup⟩
    obtain⟨p,hp,e⟩:=List.mem_map.1 hm
    exact hfr p hp e
  · intro p hp
    rcases List.mem_cons.1 hp with rfl | hp
    · show (upd D.fp id [w.heap.size] id).Nodup; rw [upd_same]; simp
    · rw [hfp p hp]; exact h.disj1 p hp
  · have hnew : ∀ b,b ∈ D'.fp id->b = w.heap.size:=fun b hb=>by
      have hb' : b ∈ upd D.fp id [w.heap.size] id:=hb
      rw [upd_same] at hb'
      simpa using hb'
    intro p hp q hq hne b hb hb2
    rcases List.mem_cons.1 hp with rfl | hp
    · rcases List.mem_cons.1 hq with rfl | hq
      · exact hne rfl
      · rw [hfp q hq] at hb2
        have:=h.lt hq hb2
        have:=hnew b hb
        omega
    · rw [hfp p hp] at hb
      rcases List.mem_cons.1 hq with rfl | hq
      · have:=h.lt hp hb
        have:=hnew b hb2
        omega
      · rw [hfp q hq] at hb2
        exact h.disj2 p hp q hq hne b hb hb2
  · intro i v hv
    obtain⟨x,h1,h2⟩:=h.env i v hv
    exact⟨x,h1,VRp.frame hI hIk hM _ _ h2⟩
  · intro p hp b hb
    rcases List.mem_cons.1 hp with rfl | hp
    · have hb' : b ∈ upd D.fp id [w.heap.size] id:=hb
      rw [upd_same] at hb'
      simp at hb'
      exact .inr (by have:=h.size; omega)
    · rw [hfp p hp] at hb; exact h.own p hp b hb
  · intro b hb hF
    rw [hkeep b (by have:=h.size; omega)]; exact h.frame b hb hF
  · have:=h.size; simp; omega
  · intro p hp b hb hlt
    rcases List.mem_cons.1 hp with rfl | hp
    · have hb' : b ∈ upd D.fp id [w.heap.size] id:=hb
      rw [upd_same] at hb'
      simp at hb'
      omega
    · rw [hfp p hp] at hb; exact .inl hb
end
section
variable {P:Program} {st:St} {ty:TypeId}
class ZeT (P:Program) (T:Nat) (zs:outParam (List Value)):Prop where
  z:(P.info? T).map (fun i=>i.zero.map (fun z=>z.cells.toList)) = some (some zs)
  o:zs.all (·.oneCell') = true
theorem zeroValue_run {T:Nat} {zs:List Value} [hT:ZeT P T zs] (w:World) : ∃ z,(zeroValue T).run P w = .ok z w/\z.cells = zs.toArray:=by
  obtain⟨i,hi,hz⟩:=Option.map_eq_some_iff.1 hT.z
  obtain⟨z,hz1,hz2⟩:=Option.map_eq_some_iff.1 hz
  exact⟨z,by simp [zeroValue,typeInfo,hi,hz1],by rw [<- hz2]⟩
theorem ws_alloc {T:TypeId} {zs:List Value} [hT:ZeT P T zs] {id:Nat} (hid:fresh id st.σ = true) (hl:zs.length<=1000) {K:V->St->Prop}
    (h:K (.cell id 0) ⟨(id,⟨zs.map C.val,[]⟩) :: st.σ,st.env,st.n⟩):WS P [] [] (.alloc T) ty st K:=by
  intro D G a w hr dst pos after guard
  obtain⟨z,hz1,hz2⟩:=zeroValue_run (P:=P) (T:=T) w
  obtain⟨D',h1,h2,h3,_⟩:=hr.new hid (cur:=zs.toArray) (e:=T) (xs:=zs.map C.val) (holes:=[]) (vs:=zs) (cap:=zs.length) (RpL.ofVals zs) (by intro x hx; cases hx) (Nat.le_refl _) (by simp) (by simp only [maxLen]; omega) (fun i v hv=>⟨by simpa using hv,List.all_eq_true.1 hT.o v (List.mem_of_getElem? hv)⟩)
  have hrun:(execOp a.eval ⟨dst,.alloc T,ty,pos,after,guard⟩).run P w = .ok (.value (.pointer (some ⟨w.heap.size,0,none⟩))) (w.alloc (.cells zs.toArray T)):=by
    simp [execOp,Instr.alloc,hz1,newVar,newRow,hz2]
  rw [hrun]
  refine⟨D',_,_,h,h1,?_,h3⟩
  simp only [VRp]
  exact⟨_,h2,rfl,rfl⟩
theorem oneCell_of_vrp {w:World} {I:Nat->Prop} {M:Nat->Option Loc} : ∀ {v:V} {x:Value},VRp w I M v x->(match v with | .c (.agg _) | .c (.val _) | .c .hole | .c (.tup _) | .agg _ | .tup _=>False | _=>True)->x.cells = #[x]/\x.oneCell' = true:=by
  intro v x h hv
  cases v with
  | c c=>
    cases c with
    | val y=>exact hv.elim
    | hole=>exact hv.elim
    | agg ys=>exact hv.elim
    | tup ys=>exact hv.elim
    | lst ys=>simp only [VRp,Rp] at h; obtain⟨_,_,_,_,rfl,_⟩:=h; exact⟨rfl,rfl⟩
    | ptr ys=>simp only [VRp,Rp] at h; obtain⟨_,_,_,_,rfl,_⟩:=h; exact⟨rfl,rfl⟩
    | clo f ys=>simp only [VRp,Rp] at h; obtain⟨_,rfl,_⟩:=h; exact⟨rfl,rfl⟩
    | own ys=>simp only [VRp,Rp] at h; rcases h with ⟨_,rfl,_⟩ | ⟨_,_,_,_,_,rfl,_⟩ <;> exact⟨rfl,rfl⟩
    | obox ys=>simp only [VRp,Rp] at h; obtain⟨_,_,_,_,_,rfl,_⟩:=h; exact⟨rfl,rfl⟩
  | ref id=>simp only [VRp] at h; obtain⟨l,_,rfl⟩:=h; unfold Loc.slice; split <;> exact⟨rfl,rfl⟩
  | cell id off=>simp only [VRp] at h; obtain⟨l,_,_,rfl⟩:=h; exact⟨rfl,rfl⟩
  | agg vs=>exact hv.elim
  | tup vs=>exact hv.elim
  | clo f vs=>simp only [VRp] at h; obtain⟨_,rfl,_⟩:=h; exact⟨rfl,rfl⟩
def V.one:V->Bool
  | .c (.val x)=>x.oneCell'
  | .c (.agg _) | .c .hole | .c (.tup _) | .agg _ | .tup _=>false
  | _=>true
theorem one_spec {w:World} {I:Nat->Prop} {M:Nat->Option Loc} {v:V} {x:Value} (h:VRp w I M v x) (h1:v.one = true):x.cells = #[x]/\x.oneCell' = true:=by
  cases v with
  | c c=>
    cases c with
    | val y=>
      simp only [VRp,Rp] at h
      obtain⟨rfl,_⟩:=h
      refine⟨?_,h1⟩
      cases x <;> first | rfl | (simp [V.one,Value.oneCell'] at h1)
    | hole=>cases h1
    | agg ys=>cases h1
    | tup ys=>cases h1
    | lst ys=>exact oneCell_of_vrp h trivial
    | ptr ys=>exact oneCell_of_vrp h trivial
    | clo f ys=>exact oneCell_of_vrp h trivial
    | own ys=>exact oneCell_of_vrp h trivial
    | obox ys=>exact oneCell_of_vrp h trivial
  | ref id=>exact oneCell_of_vrp h trivial
  | cell id off=>exact oneCell_of_vrp h trivial
  | agg vs=>cases h1
  | tup vs=>cases h1
  | clo f vs=>exact oneCell_of_vrp h trivial
def V.closed:V->C
  | .c x=>x
  | _=>.hole
def V.holeAt (j:Nat):V->List (Nat × V)
  | .c _=>[]
  | v=>[(j,v)]
theorem closed_spec {w:World} {I:Nat->Prop} {M:Nat->Option Loc} {v:V} {x:Value} (h:VRp w I M v x):Rp w I v.closed x []:=by
  cases v with
  | c c=>simpa only [VRp,V.closed] using h
  | _=>simp [V.closed,Rp]
theorem holeAt_spec {w:World} {I:Nat->Prop} {M:Nat->Option Loc} {v:V} {x:Value} {j:Nat} {vs:List Value} (hj:vs[j]? = some x) (h:VRp w I M v x):HolesRp w I M (v.holeAt j) vs:=by
  cases v with
  | c c=>intro y hy; cases hy
  | _=>intro y hy; simp only [V.holeAt,List.mem_singleton] at hy; subst hy; exact⟨x,hj,h⟩
theorem ws_boxR {T:TypeId} {x:Operand} {c:C} {cs:List C} (hx:st.ev x = some (.c c)) (hc:c = .agg cs\/cs = [c]) (h1:(cs.all fun c=>(V.c c).one) = true) {K:V->St->Prop}
    (h:K (.c (.ptr cs)) st):WS P [] [] (.box T x) ty st K:=by
  intro D G a w hr dst pos after guard
  have hv:=hr.ev hx
  have hcell : ∃ vs:List Value,(a.eval x).cells = vs.toArray/\RpL w (Imm G st.σ D.fp w) cs vs []:=by
    rcases hc with rfl | rfl
    · simp only [VRp,Rp] at hv
      obtain⟨vs,h1,h2⟩:=hv
      exact⟨vs,by rw [h1]; rfl,h2⟩
    · simp only [List.all_cons,List.all_nil,Bool.and_true] at h1
      refine⟨[a.eval x],(one_spec hv h1).1,?_⟩
      simp only [RpL]
      exact⟨_,[],[],[],rfl,rfl,by simpa only [VRp] using hv,rfl,rfl⟩
  obtain⟨vs,e1,e2⟩:=hcell
  have hone : ∀ (i:Nat) (v:Value),vs[i]? = some v->v.oneCell' = true:=fun i v hvi=>by
    have hi:i < cs.length:=by rw [<- e2.length]; exact (List.getElem?_eq_some_iff.1 hvi).1
    obtain⟨v',g1,g2⟩:=e2.get0 (List.getElem?_eq_getElem hi)
    have:v' = v:=Option.some.inj (g1.symm.trans hvi)
    subst this
    exact (one_spec (v:=.c cs[i]) (M:=D.M) (by simpa only [VRp] using g2) (List.all_eq_true.1 h1 _ (List.getElem_mem hi))).2
  have hkeep : ∀ b,b < w.heap.size->(w.alloc (.cells vs.toArray T)).heap[b]? = w.heap[b]?:=fun b hb=>heap_alloc_old w _ hb
  have hI : ∀ b,Imm G st.σ D.fp w b->Imm G st.σ D.fp (w.alloc (.cells vs.toArray T)) b:=fun b ⟨h1,h2,h3⟩=>⟨h1,by simp; omega,h3⟩
  have hIk : ∀ b,Imm G st.σ D.fp w b->(w.alloc (.cells vs.toArray T)).heap[b]? = w.heap[b]?:=fun b hb=>hkeep b hb.2.1
  have hrep:Rep D G st a (w.alloc (.cells vs.toArray T)):=by
    refine⟨fun p hp=>?_,hr.dom,hr.nodup,hr.disj1,hr.disj2,fun i v hv=>?_,hr.own,fun b hb hF=>?_,?_,hr.os,hr.tape,hr.output,hr.ntmps,hr.defers⟩
    · obtain⟨l,h1,h2⟩:=hr.obs p hp
      exact⟨l,h1,h2.frame hI hIk (fun _ _ h=>h) (fun b hb=>hkeep b (hr.lt hp hb))⟩
    · obtain⟨y,h1,h2⟩:=hr.env i v hv
      exact⟨y,h1,VRp.frame hI hIk (fun _ _ h=>h) _ _ h2⟩
    · rw [hkeep b (by have:=hr.size; omega)]; exact hr.frame b hb hF
    · have:=hr.size; simp; omega
  have hrun:(execOp a.eval ⟨dst,.box T x,ty,pos,after,guard⟩).run P w = .ok (.value (.pointer (some ⟨w.heap.size,0,none⟩))) (w.alloc (.cells vs.toArray T)):=by
    simp [execOp,Instr.box,newVar,newRow,e1]
  rw [hrun]
  refine⟨D,_,_,h,hrep,?_,⟨by simp,fun b hb _=>hkeep b hb,fun p hp b hb _=>.inl hb⟩⟩
  simp only [VRp,Rp]
  refine⟨trivial,w.heap.size,0,vs,rfl,RpL.frame hI hIk _ _ _ (by simp) e2,?_⟩
  intro i v hvi
  refine⟨w.heap.size,0,rfl,⟨.inr (.inr hr.size),by simp,fun p hp hb=>?_⟩,?_,hone i v hvi⟩
  · have:=hr.lt hp hb; omega
  · rw [cell_of_row _ w.heap.size (0 + i) vs.toArray T (0,0) (heap_alloc_new w _)]
    simpa using hvi
theorem ws_makeSlice {T:TypeId} {x y:Operand} {n:Int} {k:IntKind} [hT:SlT P T] {z:Value} {bytes:Nat} [hE:ElT P (P.elem T) z bytes] (hx:st.ev x = some (.c (.val (.int k n)))) (hy:st.ev y = some (.c (.val (.int k n))))
    (hn:0<=n/\n<=1000000000) (hb:bytes<=1000) {id:Nat} (hid:fresh id st.σ = true) {K:V->St->Prop}
    (h:K (.ref id) ⟨(id,⟨List.replicate n.toNat (.val z),[]⟩) :: st.σ,st.env,st.n⟩):WS P [] [] (.makeSlice T x y) ty st K:=by
  intro D G a w hr dst pos after guard
  obtain⟨m,rfl⟩:=Int.eq_ofNat_of_zero_le hn.1
  have hm:m<=1000000000:=by have:=hn.2; omega
  have hbb:bytes * m<=281474976710656:=Nat.le_trans (Nat.mul_le_mul hb hm) (by omega)
  have hrun0:=run_make_row' (P:=P) T (P.elem T) z bytes hT.u hE.i hE.z1 k k m hbb (by omega) w
  have hsz:(madeCells #[z] m).size = m:=size_madeCells _ _
  obtain⟨D',g1,g2,g3,_⟩:=hr.new hid (cur:=madeCells #[z] m) (e:=P.elem T) (xs:=List.replicate m (.val z)) (holes:=[]) (vs:=List.replicate m z) (cap:=m)
    (by have:=RpL.ofVals (w:=w) (I:=Imm G st.σ D.fp w) (List.replicate m z); rwa [List.map_replicate] at this) (by intro x hx; cases hx) (by simp) (by rw [hsz]; exact Nat.le_refl _) (by simp only [maxLen]; omega)
    (by
      intro i v hv
      rw [List.getElem?_replicate] at hv
      split at hv
      · rename_i hi
        simp only [Option.some.injEq] at hv
        subst hv
        exact⟨by simp [madeCells,hi,Nat.mod_one],hE.o⟩
      · cases hv)
  have hrun:(execOp a.eval ⟨dst,.makeSlice T x y,ty,pos,after,guard⟩).run P w = .ok (.value (.slice (some ⟨w.heap.size,0,none⟩) m m)) (w.alloc (.cells (madeCells #[z] m) (P.elem T))):=by
    simp only [execOp,hr.evVal hx,hr.evVal hy,Sem.run_bind,hrun0,Result.andThen_ok,Sem.run_pure]
  rw [hrun]
  refine⟨D',_,_,h,g1,?_,g3⟩
  simp only [VRp]
  exact⟨_,g2,by simp [Loc.slice]⟩
def partsOk (st:St):Nat->List (Nat × Operand)->Option (List V)
  | _,[]=>some []
  | k,(i,o) :: r=>bif Nat.beq i k then (match st.ev o,partsOk st (k + 1) r with
    | some v,some vs=>bif v.one then some (v :: vs) else none
    | _,_=>none) else none
theorem partsOk_sound {D:Data} {G:Glob} {a:Act} {w:World} (hr:Rep D G st a w) : ∀ (ps:List (Nat × Operand)) (k:Nat) (vs:List V),partsOk st k ps = some vs->
    VRpL w (Imm G st.σ D.fp w) D.M vs (ps.map fun p=>a.eval p.2)/\(∀ j p,ps[j]? = some p->p.1 = k + j/\(a.eval p.2).cells = #[a.eval p.2]/\(a.eval p.2).oneCell' = true)/\vs.length = ps.length
  | [],k,vs,h=>by simp only [partsOk,Option.some.injEq] at h; subst h; simp [VRpL]
  | (i,o) :: r,k,vs,h=>by
    unfold partsOk at h
    cases hb:Nat.beq i k with
    | false=>rw [hb] at h; cases h
    | true=>
      rw [hb] at h
      simp only [cond_true] at h
      split at h
      · rename_i v vs' h1 h2
        cases h3:v.one with
        | false=>rw [h3] at h; cases h
        | true=>
          rw [h3] at h
          simp only [cond_true,Option.some.injEq] at h
          subst h
          obtain⟨e1,e2,e3⟩:=partsOk_sound hr r (k + 1) vs' h2
          refine⟨by simp only [VRpL,List.map_cons]; exact⟨_,_,rfl,hr.ev h1,e1⟩,?_,by simp [e3]⟩
          intro j p hp
          cases j with
          | zero=>
            simp only [List.getElem?_cons_zero,Option.some.injEq] at hp
            subst hp
            exact⟨Nat.eq_of_beq_eq_true hb,one_spec (hr.ev h1) h3⟩
          | succ j=>
            rw [List.getElem?_cons_succ] at hp
            obtain⟨f1,f2⟩:=e2 j p hp
            exact⟨by omega,f2⟩
      · cases h
theorem fill_all (place:Nat->Option (Nat × Nat)) (hp : ∀ i,place i = some (i,1)) : ∀ (vs:List Value) (k:Nat) (pre:List Value) (post:List Value),pre.length = k->post.length = vs.length->(∀ v ∈ vs,v.cells = #[v])->
    Instr.fill place (pre ++ post).toArray (vs.zipIdx k |>.map fun p=>(p.2,p.1)) = some (pre ++ vs).toArray
  | [],k,pre,post,h1,h2,_=>by simp at h2; subst h2; simp [Instr.fill]
  | v :: vs,k,pre,post,h1,h2,h3=>by
    cases post with
    | nil=>simp at h2
    | cons p post=>
      have hv:=h3 v List.mem_cons_self
      have:=fill_all place hp vs (k + 1) (pre ++ [v]) post (by simp [h1]) (by simpa using h2) (fun u hu=>h3 u (List.mem_cons_of_mem _ hu))
      simp only [List.zipIdx_cons,List.map_cons,Instr.fill,hp,hv]
      rw [if_neg (by simp; omega)]
      have e:((#[v] : Array Value).zipIdx.foldl (fun cs (c,j)=>cs.setIfInBounds (k + j) c) (pre ++ p :: post).toArray) = (pre ++ [v] ++ post).toArray:=by
        subst h1
        simp
      simp only [e]
      rw [this]; simp
def closedL (vs:List V):List C:=vs.map V.closed
def holesL:Nat->List V->List (Nat × V)
  | _,[]=>[]
  | k,v :: vs=>v.holeAt k ++ holesL (k + 1) vs
theorem closedL_spec {w:World} {I:Nat->Prop} {M:Nat->Option Loc} : ∀ {vs:List V} {xs:List Value},VRpL w I M vs xs->RpL w I (closedL vs) xs []
  | [],xs,h=>by simp only [VRpL] at h; subst h; simp [closedL,RpL]
  | v :: vs,xs,h=>by
    simp only [VRpL] at h
    obtain⟨x,xs',rfl,h2,h3⟩:=h
    simp only [closedL,List.map_cons,RpL]
    exact⟨x,xs',[],[],rfl,rfl,closed_spec h2,closedL_spec h3⟩
theorem holesL_spec {w:World} {I:Nat->Prop} {M:Nat->Option Loc} : ∀ {vs:List V} {xs:List Value} (_:VRpL w I M vs xs) (pre:List Value),HolesRp w I M (holesL pre.length vs) (pre ++ xs)
  | [],xs,_,pre=>by intro x hx; cases hx
  | v :: vs,xs,h,pre=>by
    simp only [VRpL] at h
    obtain⟨x,xs',rfl,h2,h3⟩:=h
    intro y hy
    rcases List.mem_append.1 hy with hy | hy
    · exact holeAt_spec (by simp) h2 y hy
    · have:=holesL_spec h3 (pre ++ [x]) y (by simpa using hy)
      simpa using this
theorem parts_zipIdx {ρ:Operand->Value} : ∀ (ps:List (Nat × Operand)) (k:Nat),(∀ j p,ps[j]? = some p->p.1 = k + j)->ps.map (fun p=>(p.1,ρ p.2)) = ((ps.map fun p=>ρ p.2).zipIdx k).map fun p=>(p.2,p.1)
  | [],_,_=>rfl
  | p :: ps,k,h=>by
    have h0:=h 0 p rfl
    rw [List.map_cons,List.map_cons,List.zipIdx_cons,List.map_cons,parts_zipIdx ps (k + 1) fun j q hq=>by have:=h (j + 1) q (by simpa using hq); omega]
    simp at h0
    rw [h0]
theorem ws_buildSlice {T:TypeId} {n:Nat} {ps:List (Nat × Operand)} {vs:List V} [hT:SlT P T] {z:Value} {bytes:Nat} [hE:ElT P (P.elem T) z bytes] (hp:partsOk st 0 ps = some vs) (hn:n = ps.length) (hn2:n<=1000) {id:Nat} (hid:fresh id st.σ = true) {K:V->St->Prop}
    (h:K (.ref id) ⟨(id,⟨closedL vs,holesL 0 vs⟩) :: st.σ,st.env,st.n⟩):WS P [] [] (.buildSlice T n ps.toArray) ty st K:=by
  intro D G a w hr dst pos after guard
  obtain⟨e1,e2,e3⟩:=partsOk_sound hr ps 0 vs hp
  have hs:(P.info? (P.elem T)).map (·.size) = some 1:=hT.s
  obtain⟨i,hi,hz⟩:=Option.map_eq_some_iff.1 hE.i
  simp only [Prod.mk.injEq] at hz
  have hxl:(ps.map fun p=>a.eval p.2).length = n:=by simp [hn]
  have hfill:=fill_all (fun i=>some (i * 1,1)) (by simp) (ps.map fun p=>a.eval p.2) 0 [] (List.replicate n z) rfl (by simp [hn]) (fun v hv=>by
    obtain⟨p,hp1,rfl⟩:=List.mem_map.1 hv
    obtain⟨j,hj,hj2⟩:=List.getElem_of_mem hp1
    exact (e2 j p (by rw [List.getElem?_eq_getElem hj,hj2])).2.1)
  obtain⟨D',g1,g2,g3,_⟩:=hr.new hid (cur:=(ps.map fun p=>a.eval p.2).toArray) (e:=P.elem T) (xs:=closedL vs) (holes:=holesL 0 vs) (vs:=ps.map fun p=>a.eval p.2) (cap:=n)
    (closedL_spec e1) (by have:=holesL_spec e1 []; simpa using this) (by rw [hxl]; exact Nat.le_refl _) (by simp [hn]) (by simp only [maxLen]; omega) (fun i v hv=>⟨by simpa using hv,by
      rw [List.getElem?_map] at hv
      obtain⟨p,hp1,rfl⟩:=Option.map_eq_some_iff.1 hv
      exact (e2 i p hp1).2.2⟩)
  have hcl:(closedL vs).length = n:=by simp [closedL,e3,hn]
  have hrun:(execOp a.eval ⟨dst,.buildSlice T n ps.toArray,ty,pos,after,guard⟩).run P w = .ok (.value (.slice (some ⟨w.heap.size,0,none⟩) n n)) (w.alloc (.cells (ps.map fun p=>a.eval p.2).toArray (P.elem T))):=by
    have hmap:(ps.toArray.map fun x=>(x.1,a.eval x.2)).toList = ((ps.map fun p=>a.eval p.2).zipIdx 0).map fun p=>(p.2,p.1):=by
      rw [Array.toList_map,parts_zipIdx ps 0 fun j p hj=>by have:=(e2 j p hj).1; omega]
    by_cases h0:n = 0
    · have hps:ps = []:=List.eq_nil_of_length_eq_zero (by omega)
      subst hps
      subst h0
      simp [execOp,Instr.buildSlice,run_underlying hT.u,sizeOf_run hs,Instr.fill,newRow,Array.range_zero']
    · have harr:((Array.range (n * 1)).map ((#[z] : Array Value)[· % (#[z] : Array Value).size]!)) = ([] ++ List.replicate n z).toArray:=by
        apply Array.ext'
        apply List.ext_getElem?
        intro j
        simp [Nat.mod_one,List.getElem?_replicate]
        by_cases hj:j < n <;> simp [hj]
      simp only [execOp,Instr.buildSlice,Sem.run_bind,run_underlying hT.u,Result.andThen_ok,sizeOf_run hs]
      rw [if_neg (by omega),if_neg (by omega)]
      simp only [Sem.run_bind,zeroValue,typeInfo,run_program,hi,hz.1,Result.andThen_ok,Sem.run_pure,hE.z1,harr,hmap,hfill]
      simp [newRow]
  rw [hrun]
  refine⟨D',_,_,h,g1,?_,g3⟩
  simp only [VRp]
  exact⟨_,g2,by simp [Loc.slice,hcl]⟩
end
end Go.Proofs.YtjolbldlhjfciaaGreatDoor
