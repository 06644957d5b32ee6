/- The value layer: the walk over regions and code, how a contract is entered and left; no condition. -/
import Derived.Test.YtjolbldlhjfciaaGreatDoorVg
namespace Go.Proofs.YtjolbldlhjfciaaGreatDoor
def dOk (d:Option Nat) (n:Nat):Bool:=match d with | some k=>Nat.blt k n | none=>true
theorem dOk_spec {d:Option Nat} {n:Nat} (h:dOk d n = true) : ∀ k,d = some k->k < n:=by
  intro k hk
  subst hk
  simpa [dOk] using h
structure Run (P:Program) (ops:Array Oper) (K:St->Prop) (l:List Oper) (st:St):Prop where
  out : ∀ (G:Glob) (D:Data) (a:Act) (w:World),Rep D G st a w->∀ Q:Exit->Act->World->Prop,(∀ D' st' a' w',K st'->Rep D' G st' a' w'->Q .normal a' w')->∀ r:Option Nat,wpListIn (Fw r) 0 P ops Q l a w
structure AW (P:Program) (c:Code) (Q:Exit->St->Prop) (st:St):Prop where
  out : ∀ (G:Glob) (D:Data) (a:Act) (w:World),Rep D G st a w->∀ r:Option Nat,c.wpIn (Fw r) 0 P (fun e a' w'=>∃ D' st',Q e st'/\Rep D' G st' a' w') a w
section
variable {P:Program} {ops:Array Oper} {K:St->Prop} {st:St} {rest:List Oper}
theorem run_nil (h:K st):Run P ops K [] st:=⟨fun _ _ _ _ hr _ hQ _=>hQ _ _ _ _ h hr⟩
theorem run_s {op:Op} {ty:TypeId} {dst:Option Nat} {pos:String} {after:Array Edge} {v:V} (hs:SS P (some []) op ty st v) (hd:dOk dst st.n = true) (h:Run P ops K rest (st.put dst v)) :
    Run P ops K (⟨dst,op,ty,pos,after,none⟩ :: rest) st:=⟨fun G D a w hr Q hQ r=>by
  obtain⟨x,hx,hrun⟩:=hs D G a w hr
  exact wpListIn_plain rfl fun K' hK'=>wpIn_of_ok (hrun w (AgreeO.refl _ _ _) dst pos after none) (hK' _ _ (h.out G D _ w (hr.put (dOk_spec hd) hx) Q hQ r))⟩
theorem run_w {op:Op} {ty:TypeId} {dst:Option Nat} {pos:String} {after:Array Edge} {X Y:List Nat} (hw:WS P X Y op ty st (fun v st'=>dOk dst st'.n = true/\Run P ops K rest (st'.put dst v))) :
    Run P ops K (⟨dst,op,ty,pos,after,none⟩ :: rest) st:=⟨fun G D a w hr Q hQ r=>by
  have h1:=hw D G a w hr dst pos after none
  exact wpListIn_plain rfl fun K' hK'=>wpIn_of_vals (o:=⟨dst,op,ty,pos,after,none⟩) h1 fun x w' ⟨D',v,st',⟨hd,hk⟩,hr',hx,_⟩=>hK' _ _ (hk.out G D' _ w' (hr'.put (dOk_spec hd) hx) Q hQ r)⟩
theorem yielded_spec {D:Data} {G:Glob} {a:Act} {w:World} (hr:Rep D G st a w) {g s:Nat} {b:Bool} (hg:(ops[g]?).bind (·.dst) = some s) (hv:st.ev (.tmp s) = some (.c (.val (.bool b)))):yielded ops a.tmps g = some b:=by
  simp only [St.ev] at hv
  cases hb:Nat.blt s st.n with
  | false=>rw [hb] at hv; cases hv
  | true=>
  rw [hb] at hv
  obtain⟨x,h1,h2⟩:=hr.env s _ hv
  rw [slot,hb] at h1
  simp only [cond_true] at h1
  simp only [VRp,Rp] at h2
  rw [h2.1] at h1
  unfold yielded
  simp [hg,h1]
theorem run_split {s:Nat} {b:Bool} {l:List Oper} (_hv:st.ev (.tmp s) = some (.c (.val (.bool b)))) (ht:b = true->Run P ops K l st) (hf:b = false->Run P ops K l st):Run P ops K l st:=by
  cases b
  · exact hf rfl
  · exact ht rfl
theorem run_gt {op:Op} {ty:TypeId} {dst:Option Nat} {pos:String} {after:Array Edge} {g s:Nat} {b c:Bool} (hg:(ops[g]?).bind (·.dst) = some s) (hv:st.ev (.tmp s) = some (.c (.val (.bool c)))) (hb:c = b)
    (h:Run P ops K (⟨dst,op,ty,pos,after,none⟩ :: rest) st):Run P ops K (⟨dst,op,ty,pos,after,some (g,b)⟩ :: rest) st:=⟨fun G D a w hr Q hQ r=>by
  subst hb
  have hy:=yielded_spec hr hg hv
  have h1:=h.out G D a w hr Q hQ r
  unfold wpListIn at h1 ⊢
  rw [if_pos (by simp [Region.wanted])] at h1
  rw [if_pos (by simp [Region.wanted,hy])]
  exact h1⟩
theorem run_gf {op:Op} {ty:TypeId} {dst:Option Nat} {pos:String} {after:Array Edge} {g s:Nat} {b c:Bool} (hg:(ops[g]?).bind (·.dst) = some s) (hv:st.ev (.tmp s) = some (.c (.val (.bool c)))) (hb:c = !b)
    (hd:dOk dst st.n = true) (h:Run P ops K rest (st.put dst (.c .hole))):Run P ops K (⟨dst,op,ty,pos,after,some (g,b)⟩ :: rest) st:=⟨fun G D a w hr Q hQ r=>by
  subst hb
  have hy:=yielded_spec hr hg hv
  unfold wpListIn
  rw [if_neg (by simp [Region.wanted,hy])]
  exact⟨fun _ _=>trivial,h.out G D _ w (hr.put (dOk_spec hd) (by simp [VRp,Rp])) Q hQ r⟩⟩
theorem ss_pickT {X:Option (List Nat)} {ty:TypeId} {x y z:Operand} {b:Bool} {u:V} (hx:st.ev x = some (.c (.val (.bool b)))) (hb:b = true) (hy:st.ev y = some u):SS P X (.pick x y z) ty st u:=fun D G a w hr=>
  ⟨a.eval y,hr.ev hy,fun w' _ dst pos after guard=>by subst hb; simp [execOp,hr.evVal hx,asBool]⟩
theorem ss_pickF {X:Option (List Nat)} {ty:TypeId} {x y z:Operand} {b:Bool} {v:V} (hx:st.ev x = some (.c (.val (.bool b)))) (hb:b = false) (hz:st.ev z = some v):SS P X (.pick x y z) ty st v:=fun D G a w hr=>
  ⟨a.eval z,hr.ev hz,fun w' _ dst pos after guard=>by subst hb; simp [execOp,hr.evVal hx,asBool]⟩
theorem run_gh {Y:List Nat} {st' : St} {l:List Oper} (hg:Gh Y st st') (h:Run P ops K l st'):Run P ops K l st:=⟨fun G D a w hr Q hQ r=>by
  obtain⟨D',h1,_⟩:=hg D G a w hr
  exact h.out G D' a w h1 Q hQ r⟩
end
section
variable {P:Program} {Q:Exit->St->Prop} {st:St}
def thn (K:St->Prop) (Q:Exit->St->Prop):Exit->St->Prop
  | .normal,st=>K st
  | e,st=>Q e st
def inBlk (id:Nat) (Q:Exit->St->Prop):Exit->St->Prop
  | .exit id',st=>if id' = id then Q .normal st else Q (.exit id') st
  | e,st=>Q e st
theorem aw_skip (h:Q .normal st):AW P .skip Q st:=⟨fun _ D _ _ hr _=>wpIn_skip ⟨D,st,h,hr⟩⟩
theorem aw_ret (h:Q .ret st):AW P .ret Q st:=⟨fun _ D _ _ hr _=>wpIn_ret ⟨D,st,h,hr⟩⟩
theorem aw_exit {id:Nat} (h:Q (.exit id) st):AW P (.exit id) Q st:=⟨fun _ D _ _ hr _=>wpIn_exit ⟨D,st,h,hr⟩⟩
theorem aw_region {id:Nat} {l:List Oper} (h:Run P l.toArray (Q .normal) l st):AW P (.region id l.toArray false) Q st:=
  ⟨fun G D a w hr r=>wpIn_region_lit (h.out G D a w hr _ (fun D' st' _ _ hk hr'=>⟨D',st',hk,hr'⟩) r)⟩
theorem aw_seq {x y:Code} (h:AW P x (thn (AW P y Q) Q) st):AW P (.seq x y) Q st:=⟨fun G D a w hr r=>
  wpIn_seq (wpIn_mono (h.out G D a w hr r) fun e a' w' ⟨D',st',h1,h2⟩=>by
    cases e with
    | normal=>exact AW.out h1 G D' a' w' h2 r
    | _=>exact⟨D',st',h1,h2⟩)⟩
theorem aw_cond {c:Operand} {x y:Code} {b:Bool} (hc:st.ev c = some (.c (.val (.bool b)))) (ht:b = true->AW P x Q st) (hf:b = false->AW P y Q st):AW P (.cond c x y) Q st:=⟨fun G D a w hr r=>
  wpIn_cond_split (t:=b) (hr.evVal hc) (fun h=>(ht h).out G D a w hr r) (fun h=>(hf h).out G D a w hr r)⟩
theorem aw_block {id:Nat} {c:Code} (h:AW P c (inBlk id Q) st):AW P (.block id c) Q st:=⟨fun G D a w hr r=>
  wpIn_block (wpIn_mono (h.out G D a w hr r) fun e a' w' ⟨D',st',h1,h2⟩=>by
    cases e with
    | exit id'=>
      simp only [inBlk] at h1
      simp only [Exit.inBlock]
      split
      · rename_i he; rw [if_pos he] at h1; exact⟨D',st',h1,h2⟩
      · rename_i he; rw [if_neg he] at h1; exact⟨D',st',h1,h2⟩
    | _=>exact⟨D',st',h1,h2⟩)⟩
theorem aw_gh {Y:List Nat} {st' : St} {c:Code} (hg:Gh Y st st') (h:AW P c Q st'):AW P c Q st:=⟨fun G D a w hr r=>
  let ⟨D',h1,_⟩:=hg D G a w hr
  h.out G D' a w h1 r⟩
theorem aw_mono {Q' : Exit->St->Prop} {c:Code} (h:AW P c Q st) (hq : ∀ e s,Q e s->Q' e s):AW P c Q' st:=⟨fun G D a w hr r=>
  wpIn_mono (h.out G D a w hr r) fun e _ _ ⟨D',st',h1,h2⟩=>⟨D',st',hq e st' h1,h2⟩⟩
theorem aw_loop {X:Type} (S:X->St) (H:X->Prop) (μ:X->Nat) {c:Code} (h0 : ∃ x Y,Gh Y st (S x)/\H x)
    (round : ∀ x,H x->AW P c (thn (fun st'=>∃ x' Y,Gh Y st' (S x')/\H x'/\μ x' < μ x) Q) (S x)):AW P (.loop c) Q st:=⟨fun G D a w hr r=>by
  obtain⟨x0,Y0,hg0,hx0⟩:=h0
  obtain⟨D0,hr0,_⟩:=hg0 D G a w hr
  have key : ∀ n x a w,μ x < n->H x->(∃ D,Rep D G (S x) a w)->Code.roundsIn (Fw r) 0 P c (fun e a' w'=>∃ D' st',Q e st'/\Rep D' G st' a' w') n a w:=by
    intro n
    induction n with
    | zero=>intro x a w hn; omega
    | succ n ih=>
      intro x a w hn hx ⟨D,hr⟩
      rw [roundsIn_succ]
      refine wpIn_mono ((round x hx).out G D a w hr r) ?_
      rintro e a1 w1 ⟨D1,st1,hq,hr1⟩
      cases e with
      | normal=>
        obtain⟨x',Y,hg,hx',hlt⟩:=hq
        obtain⟨D2,hr2,_⟩:=hg D1 G a1 w1 hr1
        exact ih x' a1 w1 (by omega) hx' ⟨D2,hr2⟩
      | _=>exact⟨D1,st1,hq,hr1⟩
  exact wpIn_loop_rounds (μ x0 + 1) (key _ x0 a w (Nat.lt_succ_self _) hx0 ⟨D0,hr0⟩)⟩
def RvRun (P:Program) (r:ResultVar) (a:Act) (w:World):Result Value:=
  ((match r with | .tmp t=>pure (a.tmps.getD t undef) | .cell b t=>do loadVar t (<- asAddr (a.tmps.getD b undef)):Sem Value)).run P w
def Rv (P:Program) (st:St) (r:ResultVar) (v:V):Prop:=∀ (D:Data) (G:Glob) (a:Act) (w:World),Rep D G st a w->∃ x,RvRun P r a w = .ok x w/\VRp w (Imm G st.σ D.fp w) D.M v x
theorem rv_tmp {t:Nat} {v:V} (h:st.ev (.tmp t) = some v):Rv P st (.tmp t) v:=fun _D _G _a _w hr=>
  ⟨_,rfl,hr.ev (o:=.tmp t) h⟩
theorem evTmp (a:Act) (t:Nat):a.eval (.tmp t) = a.tmps.getD t undef:=rfl
theorem rv_cell {t T:Nat} [hT:PlT P T] {id off:Nat} {ob:Ob} {v:V} (h:st.ev (.tmp t) = some (.cell id off)) (ho:lko id st.σ = some ob) (hv:cellV ob off = some v):Rv P st (.cell t T) v:=fun D G a w hr=>by
  obtain⟨l,vs,f,h1,h2,h3,h4,h5,h6,h7,h8⟩:=hr.cell (x:=.tmp t) h ho
  obtain⟨x,e1,e2⟩:=cellV_sound h6 h8 hv
  refine⟨x,?_,e2⟩
  rw [evTmp] at h3
  simp [RvRun,h3,asAddr,loadVar,isAgg_plain hT.p,h7.cell e1]
theorem rv_struct {t T n:Nat} [hT:StT P T n] {id off:Nat} {ob:Ob} {us:List V} (h:st.ev (.tmp t) = some (.cell id off)) (ho:lko id st.σ = some ob) (hv:cellsV ob off n = some us):Rv P st (.cell t T) (.agg us):=fun D G a w hr=>by
  obtain⟨l,vs,f,h1,h2,h3,h4,h5,h6,h7,h8⟩:=hr.cell (x:=.tmp t) h ho
  obtain⟨xs,e1,e2,e3⟩:=cellsV_sound h6 h8 n off us hv
  refine⟨.agg xs.toArray,?_,by simp only [VRp]; exact⟨xs,rfl,e2⟩⟩
  rw [evTmp] at h3
  have hu:=hT.u
  split at hu
  · rename_i fs hfs
    subst e1
    have:=run_loadCells_list (P:=P) (w:=w) ⟨l.b,l.off + off,none⟩ xs (fun j v hv=>by rw [Addr.add_lit,Nat.add_assoc]; exact h7.cell (e3 j v hv))
    simp [RvRun,h3,asAddr,loadVar,isAgg,run_underlying hfs,sizeOf_run hT.s,this]
  · cases hu
def RetV (P:Program) (fn:Func) (st:St) (v:V):Prop:=∀ (D:Data) (G:Glob) (a:Act) (w:World),Rep D G st a w->∃ x,(results fn a.tmps).run P w = .ok x w/\VRp w (Imm G st.σ D.fp w) D.M v x
theorem retv0 {fn:Func} (h:fn.results = #[]):RetV P fn st (.tup []):=fun D G a w hr=>⟨.tuple #[],by simp [results,h],by simp [VRp,VRpL]⟩
theorem andThen_id {α:Type} (x:Result α):(x.andThen fun a w=>.ok a w) = x:=by cases x <;> rfl
theorem retv1 {fn:Func} {r:ResultVar} {v:V} (h:fn.results = #[r]) (hr:Rv P st r v):RetV P fn st v:=fun D G a w hrep=>by
  obtain⟨x,h1,h2⟩:=hr D G a w hrep
  have e:(results fn a.tmps).run P w = (RvRun P r a w).andThen fun x w=>.ok x w:=by
    rw [andThen_id]; unfold RvRun; cases r <;> simp [results,h]
  exact⟨x,by rw [e,h1]; rfl,h2⟩
theorem andThen_assoc {α β γ:Type} (x:Result α) (f:α->World->Result β) (g:β->World->Result γ):(x.andThen f).andThen g = x.andThen fun a w=>(f a w).andThen g:=by cases x <;> rfl
theorem retv2 {fn:Func} {r1 r2:ResultVar} {v1 v2:V} (h:fn.results = #[r1,r2]) (hr1:Rv P st r1 v1) (hr2:Rv P st r2 v2):RetV P fn st (.tup [v1,v2]):=fun D G a w hrep=>by
  obtain⟨x1,h1,h2⟩:=hr1 D G a w hrep
  obtain⟨x2,h3,h4⟩:=hr2 D G a w hrep
  refine⟨.tuple #[x1,x2],?_,by simp only [VRp]; exact⟨[x1,x2],rfl,by simp only [VRpL]; exact⟨_,_,rfl,h2,_,_,rfl,h4,rfl⟩⟩⟩
  have e:(results fn a.tmps).run P w = (RvRun P r1 a w).andThen fun x1 w=>(RvRun P r2 a w).andThen fun x2 w=>.ok (.tuple #[x1,x2]) w:=by
    unfold RvRun; cases r1 <;> cases r2 <;> simp [results,h,andThen_assoc]
  rw [e,h1,Result.andThen_ok,h3]; rfl
theorem retv3 {fn:Func} {r1 r2 r3:ResultVar} {v1 v2 v3:V} (h:fn.results = #[r1,r2,r3]) (hr1:Rv P st r1 v1) (hr2:Rv P st r2 v2) (hr3:Rv P st r3 v3):RetV P fn st (.tup [v1,v2,v3]):=fun D G a w hrep=>by
  obtain⟨x1,h1,h2⟩:=hr1 D G a w hrep
  obtain⟨x2,h3,h4⟩:=hr2 D G a w hrep
  obtain⟨x3,h5,h6⟩:=hr3 D G a w hrep
  refine⟨.tuple #[x1,x2,x3],?_,by simp only [VRp]; exact⟨[x1,x2,x3],rfl,by simp only [VRpL]; exact⟨_,_,rfl,h2,_,_,rfl,h4,_,_,rfl,h6,rfl⟩⟩⟩
  have e:(results fn a.tmps).run P w = (RvRun P r1 a w).andThen fun x1 w=>(RvRun P r2 a w).andThen fun x2 w=>(RvRun P r3 a w).andThen fun x3 w=>.ok (.tuple #[x1,x2,x3]) w:=by
    unfold RvRun; cases r1 <;> cases r2 <;> cases r3 <;> simp [results,h,andThen_assoc]
  rw [e,h1,Result.andThen_ok,h3,Result.andThen_ok,h5]; rfl
mutual
def hv (σ:List (Nat × Ob)):V->Option (C × List Nat)
  | .c x=>some (x,[])
  | .ref id=>match lko id σ with
    | some ob=>match ob.holes with
      | []=>some (.own ob.xs,[id])
      | _=>none
    | none=>none
  | .agg vs=>match hvL σ vs with | some (xs,ids)=>some (.agg xs,ids) | none=>none
  | .tup vs=>match hvL σ vs with | some (xs,ids)=>some (.tup xs,ids) | none=>none
  | .clo f vs=>match hvL σ vs with | some (xs,ids)=>some (.clo f xs,ids) | none=>none
  | .cell id off=>match lko id σ with
    | some ob=>match ob.holes with
      | []=>bif Nat.beq off 0 then some (.obox ob.xs,[id]) else none
      | _=>none
    | none=>none
def hvL (σ:List (Nat × Ob)):List V->Option (List C × List Nat)
  | []=>some ([],[])
  | v :: vs=>match hv σ v,hvL σ vs with | some (x,i),some (xs,j)=>some (x :: xs,i ++ j) | _,_=>none
end
mutual
theorem hv_spec {D:Data} {G:Glob} {a:Act} {w:World} (hr:Rep D G st a w) : ∀ (v:V) (x:Value) (c:C) (ids:List Nat),hv st.σ v = some (c,ids)->VRp w (Imm G st.σ D.fp w) D.M v x->
    Rp w (Imm G st.σ D.fp w) c x (ids.flatMap D.fp)/\∀ i ∈ ids,∃ p ∈ st.σ,p.1 = i
  | .c y,x,c,ids,h,hvx=>by
    simp only [hv,Option.some.injEq,Prod.mk.injEq] at h
    obtain⟨rfl,rfl⟩:=h
    simp only [VRp] at hvx
    exact⟨hvx,by simp⟩
  | .cell id off,x,c,ids,h,hvx=>by
    simp only [hv] at h
    split at h
    · rename_i ob ho
      split at h
      · rename_i hh
        cases hz:Nat.beq off 0 with
        | false=>rw [hz] at h; cases h
        | true=>
        rw [hz] at h
        have hoff:off = 0:=Nat.eq_of_beq_eq_true hz
        subst hoff
        simp only [cond_true,Option.some.injEq,Prod.mk.injEq] at h
        obtain⟨rfl,rfl⟩:=h
        simp only [VRp] at hvx
        obtain⟨l,hl,hn,rfl⟩:=hvx
        obtain⟨l',hl',hob⟩:=hr.obs _ (mem_of_lko ho)
        have:l' = l:=Option.some.inj (hl'.symm.trans hl)
        subst this
        refine⟨?_,fun i hi=>by simp at hi; subst hi; exact⟨_,mem_of_lko ho,rfl⟩⟩
        simp only [Rp,List.flatMap_cons,List.flatMap_nil,List.append_nil]
        rcases hob with ⟨k1,k2,_,k4⟩ | ⟨k1,k2,vs2,f2,k3,k4,k5,_⟩
        · rw [hn] at k1; cases k1
        · exact⟨l'.b,l'.off,l'.cap,vs2,f2,rfl,k3,k4,k5⟩
      · cases h
    · cases h
  | .ref id,x,c,ids,h,hvx=>by
    simp only [hv] at h
    split at h
    · rename_i ob ho
      split at h
      · rename_i hh
        simp only [Option.some.injEq,Prod.mk.injEq] at h
        obtain⟨rfl,rfl⟩:=h
        simp only [VRp] at hvx
        obtain⟨l,hl,rfl⟩:=hvx
        obtain⟨l',hl',hob⟩:=hr.obs _ (mem_of_lko ho)
        have:l' = l:=Option.some.inj (hl'.symm.trans hl)
        subst this
        refine⟨?_,fun i hi=>by simp at hi; subst hi; exact⟨_,mem_of_lko ho,rfl⟩⟩
        simp only [Rp,List.flatMap_cons,List.flatMap_nil,List.append_nil]
        rcases hob with ⟨k1,k2,_,k4⟩ | ⟨k1,k2,vs2,f2,k3,k4,k5,_⟩
        · exact .inl ⟨k2,by rw [Loc.slice,k1]; rfl,k4⟩
        · exact .inr ⟨l'.b,l'.off,l'.cap,vs2,f2,by rw [Loc.slice,k1,k2]; rfl,k3,k4,k5⟩
      · cases h
    · cases h
  | .agg vs,x,c,ids,h,hvx=>by
    simp only [hv] at h
    split at h
    · rename_i xs ids' hx
      simp only [Option.some.injEq,Prod.mk.injEq] at h
      obtain⟨rfl,rfl⟩:=h
      simp only [VRp] at hvx
      obtain⟨ys,h1,h2⟩:=hvx
      obtain⟨g1,g2⟩:=hvL_spec hr vs ys xs _ hx h2
      exact⟨by simp only [Rp]; exact⟨ys,h1,g1⟩,g2⟩
    · cases h
  | .tup vs,x,c,ids,h,hvx=>by
    simp only [hv] at h
    split at h
    · rename_i xs ids' hx
      simp only [Option.some.injEq,Prod.mk.injEq] at h
      obtain⟨rfl,rfl⟩:=h
      simp only [VRp] at hvx
      obtain⟨ys,h1,h2⟩:=hvx
      obtain⟨g1,g2⟩:=hvL_spec hr vs ys xs _ hx h2
      exact⟨by simp only [Rp]; exact⟨ys,h1,g1⟩,g2⟩
    · cases h
  | .clo f vs,x,c,ids,h,hvx=>by
    simp only [hv] at h
    split at h
    · rename_i xs ids' hx
      simp only [Option.some.injEq,Prod.mk.injEq] at h
      obtain⟨rfl,rfl⟩:=h
      simp only [VRp] at hvx
      obtain⟨ys,h1,h2⟩:=hvx
      obtain⟨g1,g2⟩:=hvL_spec hr vs ys xs _ hx h2
      exact⟨by simp only [Rp]; exact⟨ys,h1,g1⟩,g2⟩
    · cases h
theorem hvL_spec {D:Data} {G:Glob} {a:Act} {w:World} (hr:Rep D G st a w) : ∀ (vs:List V) (xs:List Value) (cs:List C) (ids:List Nat),hvL st.σ vs = some (cs,ids)->VRpL w (Imm G st.σ D.fp w) D.M vs xs->
    RpL w (Imm G st.σ D.fp w) cs xs (ids.flatMap D.fp)/\∀ i ∈ ids,∃ p ∈ st.σ,p.1 = i
  | [],xs,cs,ids,h,hvx=>by
    simp only [hvL,Option.some.injEq,Prod.mk.injEq] at h
    obtain⟨rfl,rfl⟩:=h
    simp only [VRpL] at hvx
    subst hvx
    exact⟨by simp [RpL],by simp⟩
  | v :: vs,xs,cs,ids,h,hvx=>by
    simp only [hvL] at h
    split at h
    · rename_i y i ys j h1 h2
      simp only [Option.some.injEq,Prod.mk.injEq] at h
      obtain⟨rfl,rfl⟩:=h
      simp only [VRpL] at hvx
      obtain⟨x,xs',rfl,e2,e3⟩:=hvx
      obtain⟨g1,g2⟩:=hv_spec hr v x y i h1 e2
      obtain⟨g3,g4⟩:=hvL_spec hr vs xs' ys j h2 e3
      refine⟨by simp only [RpL,List.flatMap_append]; exact⟨x,xs',_,_,rfl,rfl,g1,g3⟩,fun k hk=>?_⟩
      rcases List.mem_append.1 hk with hk | hk
      · exact g2 k hk
      · exact g4 k hk
    · cases h
end
def nodupB:List Nat->Bool
  | []=>true
  | i :: r=>!memN i r && nodupB r
theorem nodupB_spec : ∀ {l:List Nat},nodupB l = true->l.Nodup
  | [],_=>by simp
  | i :: r,h=>by
    simp only [nodupB,Bool.and_eq_true,Bool.not_eq_true'] at h
    exact List.nodup_cons.2 ⟨fun hm=>(by rw [memN_spec.2 hm] at h; cases h.1),nodupB_spec h.2⟩
theorem flat_nodup {f:Nat->List Nat} : ∀ {ids:List Nat},ids.Nodup->(∀ i ∈ ids,(f i).Nodup)->(∀ i ∈ ids,∀ j ∈ ids,i≠j->∀ b ∈ f i,b ∉ f j)->(ids.flatMap f).Nodup
  | [],_,_,_=>by simp
  | i :: r,h,h1,h2=>by
    rw [List.flatMap_cons]
    have h':=List.nodup_cons.1 h
    refine List.nodup_append.2 ⟨h1 i List.mem_cons_self,flat_nodup h'.2 (fun j hj=>h1 j (List.mem_cons_of_mem _ hj)) (fun j hj k hk=>h2 j (List.mem_cons_of_mem _ hj) k (List.mem_cons_of_mem _ hk)),?_⟩
    intro x hx y hy e
    obtain⟨j,hj,hyj⟩:=List.mem_flatMap.1 hy
    exact h2 i List.mem_cons_self j (List.mem_cons_of_mem _ hj) (fun e2=>h'.1 (e2 ▸ hj)) x hx (e ▸ hyj)
def RetAF (P:Program) (fn:Func) (Q:C->Prop):Exit->St->Prop
  | .normal,st | .ret,st=>∃ v c ids,RetV P fn st v/\hv st.σ v = some (c,ids)/\nodupB ids = true/\Q c
  | _,_=>False
theorem retAF_mk {fn:Func} {Q:C->Prop} {v:V} {c:C} {ids:List Nat} (h1:RetV P fn st v) (h2:hv st.σ v = some (c,ids)) (h3:nodupB ids = true) (h4:Q c):RetAF P fn Q .ret st:=⟨v,c,ids,h1,h2,h3,h4⟩
def initE:Nat->List C->List (Nat × V)
  | _,[]=>[]
  | k,c :: cs=>(k,.c c) :: initE (k + 1) cs
theorem lk_initE {i:Nat} {v:V} : ∀ {cs:List C} {k:Nat},lk i (initE k cs) = some v->∃ j c,i = k + j/\cs[j]? = some c/\v = .c c
  | [],k,h=>by simp [initE,lk] at h
  | c :: cs,k,h=>by
    simp only [initE,lk] at h
    cases hb:Nat.beq k i with
    | true=>
      rw [hb] at h
      simp only [cond_true,Option.some.injEq] at h
      exact⟨0,c,(Nat.eq_of_beq_eq_true hb).symm,rfl,h.symm⟩
    | false=>
      rw [hb] at h
      obtain⟨j,c',h1,h2,h3⟩:=lk_initE (cs:=cs) (k:=k + 1) h
      exact⟨j + 1,c',by omega,by simpa using h2,h3⟩
theorem af_enter {f : Nat} {fn : Func} {c : Code} {args : List C} {Q : C -> Prop} (hf : P.funcs[f]? = some fn) (hb : fn.body = some c) (he : (fn.name == "runtime.NumGoroutine") = false) {n : Nat} (hn : fn.ntmps = n) (hl : args.length <= n)
    (h:AW P c (RetAF P fn Q) ⟨[],initE 0 args,n⟩):AF P f args Q:=by
  refine⟨by simp [EntB,hf,hb,he],fun w I vals hI hv=>?_⟩
  refine calls_of_wp hf hb ?_
  have hvl:=hv.length
  have hr:Rep ⟨fun _=>none,fun _=>[]⟩ ⟨w,fun _=>False,I,fun _=>none,[]⟩ ⟨[],initE 0 args,n⟩ { tmps:=vals.toArray ++ Array.replicate (fn.ntmps - vals.toArray.size) undef,defers:=[] } w:=by
    refine⟨by simp,by simp,by simp,by simp,by simp,?_,by simp,fun _ _ _=>rfl,Nat.le_refl _,rfl,rfl,rfl,by simp; omega,rfl⟩
    intro i v hiv
    obtain⟨j,y,h1,h2,rfl⟩:=lk_initE hiv
    obtain⟨x,e1,e2⟩:=hv.get0 h2
    have hj:j < vals.length:=(List.getElem?_eq_some_iff.1 e1).1
    refine⟨x,?_,?_⟩
    · simp only [slot,h1,Nat.zero_add,show Nat.blt j n = true by simp; omega,cond_true]
      rw [Array.getElem?_append_left (by simpa using hj)]
      simpa using e1
    · simp only [VRp]
      exact Rp.frame (fun b hb=>⟨.inl hb,hI b hb,by simp⟩) (fun _ _=>rfl) _ _ _ (by simp) e2
  refine wp_mono (wpIn_wide.1 (h.out _ _ _ _ hr none)) fun e a' w' ⟨D',st',hq,hr'⟩=>?_
  have fin : ∀ v c ids,RetV P fn st' v->Go.Proofs.YtjolbldlhjfciaaGreatDoor.hv st'.σ v = some (c,ids)->nodupB ids = true->Q c->a'.defers = []/\∃ x,(results fn a'.tmps).run P w' = .ok x w'/\
      (∃ r y fr,Ending.returned x = .returned y/\Q r/\Rp w' (fun b=>I b\/(w.heap.size<=b/\b < w'.heap.size/\b ∉ fr)) r y fr/\fr.Nodup/\(∀ b ∈ fr,w.heap.size<=b)/\
      w.heap.size<=w'.heap.size/\(∀ b,b < w.heap.size->w'.heap[b]? = w.heap[b]?)/\w'.os = w.os/\w'.tape = w.tape/\w'.output = w.output):=by
    intro v c ids h1 h2 h3 h4
    obtain⟨x,e1,e2⟩:=h1 D' _ a' w' hr'
    obtain⟨g1,g2⟩:=hv_spec hr' v x c ids h2 e2
    have hnd:=nodupB_spec h3
    refine⟨hr'.defers,x,e1,c,x,ids.flatMap D'.fp,rfl,h4,?_,?_,?_,hr'.size,fun b hb=>hr'.frame b hb (fun hf=>hf),hr'.os,hr'.tape,hr'.output⟩
    · refine Rp.frame (fun b hb=>?_) (fun _ _=>rfl) _ _ _ (fun _ _=>rfl) g1
      rcases hb with ⟨h5 | h5 | h5,h6,h7⟩
      · exact .inl h5
      · exact h5.elim
      · exact .inr ⟨h5,h6,fun hm=>by
          obtain⟨i,hi,hbi⟩:=List.mem_flatMap.1 hm
          obtain⟨p,hp,rfl⟩:=g2 i hi
          exact h7 p hp hbi⟩
    · refine flat_nodup hnd (fun i hi=>?_) (fun i hi j hj hij b hbi=>?_)
      · obtain⟨p,hp,rfl⟩:=g2 i hi; exact hr'.disj1 p hp
      · obtain⟨p,hp,rfl⟩:=g2 i hi
        obtain⟨q,hq',rfl⟩:=g2 j hj
        exact hr'.disj2 p hp q hq' hij b hbi
    · intro b hm
      obtain⟨i,hi,hbi⟩:=List.mem_flatMap.1 hm
      obtain⟨p,hp,rfl⟩:=g2 i hi
      rcases hr'.own p hp b hbi with h5 | h5
      · exact h5.elim
      · exact h5
  cases e with
  | normal=>obtain⟨v,c,ids,h1,h2,h3,h4⟩:=hq; exact fin v c ids h1 h2 h3 h4
  | ret=>obtain⟨v,c,ids,h1,h2,h3,h4⟩:=hq; exact fin v c ids h1 h2 h3 h4
  | _=>exact hq.elim
end
end Go.Proofs.YtjolbldlhjfciaaGreatDoor
