/- Regions that draw their order, some of whose operations change the world: one walk serves all orders; no condition. -/
import Derived.Test.YtjolbldlhjfciaaGreatDoorVj
namespace Go.Proofs.YtjolbldlhjfciaaGreatDoor
def Agr (Z:Nat->Prop) (w w' : World):Prop:=∀ b,b < w.heap.size->¬ Z b->w'.heap[b]? = w.heap[b]?
structure Step (Z:Nat->Prop) (w:World) (Z' : Nat->Prop) (w' : World):Prop where
  size:w.heap.size<=w'.heap.size
  keep:Agr Z w w'
  sub : ∀ b,b < w.heap.size->Z' b->Z b
theorem Step.agr {Z Z' : Nat->Prop} {w w' w'' : World} (h:Step Z w Z' w') (h' : Agr Z' w' w''):Agr Z w w'':=fun b hb hz=>
  (h' b (Nat.lt_of_lt_of_le hb h.size) fun hz'=>hz (h.sub b hb hz')).trans (h.keep b hb hz)
section
variable {P:Program} {md:Region.Mode} {ops:Array Oper} {kd:Nat->Nat} {Q:Exit->Act->World->Prop}
def FO (P:Program) (k:Nat) (o:Oper) (Z:Nat->Prop) (K:(Nat->Prop)->Act->World->Prop) (a:Act) (w:World):Prop:=
  match k with
  | 0=>∃ v,(∀ w',(execOp a.eval o).run P w' = .ok (.value v) w')/\K Z (a.put o.dst v) w
  | 1=>∃ v,(∀ w',Agr Z w w'->(execOp a.eval o).run P w' = .ok (.value v) w')/\K Z (a.put o.dst v) w
  | 2=>valsR P (fun v w'=>∃ Z',Step Z w Z' w'/\K Z' (a.put o.dst v) w') ((execOp a.eval o).run P w)
  | _=>valsR P (fun v w'=>∃ Z',K Z' (a.put o.dst v) w') ((execOp a.eval o).run P w)
def FOp (P:Program) (ops:Array Oper) (kd:Nat->Nat) (Z:Nat->Prop) (i:Nat) (K:(Nat->Prop)->Act->World->Prop) (a:Act) (w:World):Prop:=
  match ops[i]? with
  | none=>K Z a w
  | some o=>if Region.wanted o (yielded ops a.tmps) then FO P (kd i) o Z K a w else K Z (a.put o.dst undef) w
def FC (P:Program) (md:Region.Mode) (ops:Array Oper) (kd:Nat->Nat) (Q:Exit->Act->World->Prop):Nat->(Nat->Prop)->Array Bool->Act->World->Prop
  | 0,_,listed,a,w=>Region.ready md ops listed = []/\Q .normal a w
  | fuel + 1,Z,listed,a,w=>(Region.ready md ops listed = []->Q .normal a w)/\
    ∀ i ∈ Region.ready md ops listed,FOp P ops kd Z i (fun Z'=>FC P md ops kd Q fuel Z' (listed.setIfInBounds i true)) a w
theorem valsR_mono {R R' : Value->World->Prop} {r:Result Next} (h:valsR P R r) (hk : ∀ v w,R v w->R' v w):valsR P R' r:=by
  cases r with
  | ok n w'=>
    cases n <;> simp only [valsR] at h ⊢
    case value v=>exact hk _ _ h
    case skip=>exact hk _ _ h
    case enter f args=>exact h.mono fun e w'' ⟨v,he,h2⟩=>⟨v,he,hk _ _ h2⟩
  | halt x w'=>simp only [valsR] at h
theorem valsR_inst {R:Value->World->Prop} {r:Result Next} (h:valsR P R r) : ∃ v w,R v w:=by
  cases r with
  | ok n w'=>
    cases n <;> simp only [valsR] at h
    case value v=>exact⟨_,_,h⟩
    case skip=>exact⟨_,_,h⟩
    case enter f args=>obtain⟨e,w',fr,⟨v,_,h2⟩,_⟩:=h []; exact⟨_,_,h2⟩
  | halt x w'=>simp only [valsR] at h
theorem FO_mono {k:Nat} {o:Oper} {Z:Nat->Prop} {K K' : (Nat->Prop)->Act->World->Prop} {a:Act} {w:World} (h:FO P k o Z K a w) (hk : ∀ Z a w,K Z a w->K' Z a w):FO P k o Z K' a w:=by
  unfold FO at *
  split at h
  · obtain⟨v,h1,h2⟩:=h; exact⟨v,h1,hk _ _ _ h2⟩
  · obtain⟨v,h1,h2⟩:=h; exact⟨v,h1,hk _ _ _ h2⟩
  · exact valsR_mono h fun v w' ⟨Z',h1,h2⟩=>⟨Z',h1,hk _ _ _ h2⟩
  · exact valsR_mono h fun v w' ⟨Z',h2⟩=>⟨Z',hk _ _ _ h2⟩
theorem FOp_mono {i:Nat} {Z:Nat->Prop} {K K' : (Nat->Prop)->Act->World->Prop} {a:Act} {w:World} (h:FOp P ops kd Z i K a w) (hk : ∀ Z a w,K Z a w->K' Z a w):FOp P ops kd Z i K' a w:=by
  unfold FOp at *
  split
  · rename_i h0; simp only [h0] at h; exact hk _ _ _ h
  · rename_i o h0
    simp only [h0] at h
    split
    · rename_i hw; simp only [hw,if_true] at h; exact FO_mono h hk
    · rename_i hw; simp only [hw] at h; exact hk _ _ _ h
theorem FO_wp {k:Nat} {o:Oper} {Z:Nat->Prop} {K:(Nat->Prop)->Act->World->Prop} {K' : Act->World->Prop} {a:Act} {w:World} (h:FO P k o Z K a w) (hk : ∀ Z a w,K Z a w->K' a w) (r:Option Nat):o.wpIn (Fw r) 0 P a w K' Q:=by
  unfold FO at h
  split at h
  · obtain⟨v,h1,h2⟩:=h
    exact wpIn_of_ok (h1 w) (hk _ _ _ h2)
  · obtain⟨v,h1,h2⟩:=h
    exact wpIn_of_ok (h1 w (fun _ _ _=>rfl)) (hk _ _ _ h2)
  · exact wpIn_of_vals h fun v w' ⟨Z',_,h2⟩=>hk _ _ _ h2
  · exact wpIn_of_vals h fun v w' ⟨Z',h2⟩=>hk _ _ _ h2
theorem FC_any (r:Option Nat) : ∀ (fuel:Nat) (Z:Nat->Prop) (listed:Array Bool) (a:Act) (w:World),FC P md ops kd Q fuel Z listed a w->wpAnyIn (Fw r) 0 P md ops Q fuel listed a w
  | 0,_,_,_,_,h=>h
  | fuel + 1,Z,listed,a,w,h=>⟨h.1,fun i hi=>by
    have h1:=h.2 i hi
    unfold FOp at h1
    unfold wpOpIn
    split
    · rename_i h0; simp only [h0] at h1; exact FC_any r _ _ _ _ _ h1
    · rename_i o h0
      simp only [h0] at h1
      split
      · rename_i hw; simp only [hw,if_true] at h1; exact FO_wp h1 (fun Z' a' w' h2=>FC_any r _ _ _ _ _ h2) r
      · rename_i hw; simp only [hw] at h1; exact⟨fun _ _=>trivial,FC_any r _ _ _ _ _ h1⟩⟩
def Unl (listed:Array Bool) (D:List Nat) (i:Nat):Prop:=listed.getD i true = false/\∀ j ∈ D,listed.getD j true = false
def Wait (md:Region.Mode) (ops:Array Oper) (D:List Nat) (i:Nat):Prop:=∀ j ∈ D,∀ o,ops[j]? = some o->∃ e ∈ o.after,Region.binds md e = true/\(e.on = i\/e.on ∈ D)
theorem getD_falsetrue {listed:Array Bool} {k:Nat} (h0:listed.getD k true = false) (h1:listed.getD k false = true):False:=by
  rcases Nat.lt_or_ge k listed.size with h' | h'
  · simp [h'] at h0 h1; rw [h0] at h1; cases h1
  · simp [Array.getElem?_eq_none h'] at h1
theorem not_waiting {listed:Array Bool} {D:List Nat} {i j:Nat} (hu:Unl listed D i) (hw:Wait md ops D i) (hj:j ∈ Region.ready md ops listed):j ∉ D:=fun hd=>by
  obtain⟨_,o,ho,hall⟩:=mem_ready.1 hj
  obtain⟨e,he,hb,h⟩:=hw j hd o ho
  have h1:=hall e he hb
  rcases h with h | h
  · rw [h] at h1; exact getD_falsetrue hu.1 h1
  · exact getD_falsetrue (hu.2 _ h) h1
theorem Unl.set {listed:Array Bool} {D:List Nat} {i j:Nat} (hu:Unl listed D i) (hi:j≠i) (hd:j ∉ D):Unl (listed.setIfInBounds j true) D i:=
  ⟨by rw [getD_set_ne true hi]; exact hu.1,fun k hk=>by rw [getD_set_ne true (fun e:j = k=>hd (e.symm ▸ hk))]; exact hu.2 k hk⟩
theorem unl_back {listed:Array Bool} {j k:Nat} (h:(listed.setIfInBounds j true).getD k true = false):listed.getD k true = false:=by
  by_cases hjk:j = k
  · subst hjk
    rcases Nat.lt_or_ge j listed.size with h' | h'
    · simp [h'] at h
    · simp at h
  · rw [getD_set_ne true hjk] at h; exact h
theorem FC_firstS {i:Nat} {oi:Oper} {v:Value} {D:List Nat} {b:Bool} (hi:ops[i]? = some oi) (hsel : ∀ (j:Nat) (o:Oper) cs b,ops[j]? = some o->o.op≠.select cs b) (hD:Wait md ops D i) 
    :
    ∀ (fuel:Nat) (listed:Array Bool) (Z:Nat->Prop) (a:Act) (w:World),(∀ j oj,ops[j]? = some oj->j≠i->j ∉ D->listed.getD j true = false->(b = true->kd j<=2)/\oi.apart ops oj = true)->Unl listed D i->i ∈ Region.ready md ops listed->
      ((Region.wanted oi (yielded ops a.tmps) = true/\(kd i = 0\/(kd i = 1/\b = true))/\∀ w',(b = true->Agr Z w w')->(execOp a.eval oi).run P w' = .ok (.value v) w')\/(Region.wanted oi (yielded ops a.tmps) = false/\v = undef))->
      FC P md ops kd Q fuel Z (listed.setIfInBounds i true) (a.put oi.dst v) w->(kd i = 0->b = false)->FC P md ops kd Q (fuel + 1) Z listed a w:=by
  have now : ∀ {listed:Array Bool} {Z:Nat->Prop} {a:Act} {w:World} {K:(Nat->Prop)->Act->World->Prop},(kd i = 0->b = false)->
      ((Region.wanted oi (yielded ops a.tmps) = true/\(kd i = 0\/(kd i = 1/\b = true))/\∀ w',(b = true->Agr Z w w')->(execOp a.eval oi).run P w' = .ok (.value v) w')\/(Region.wanted oi (yielded ops a.tmps) = false/\v = undef))->
      K Z (a.put oi.dst v) w->FOp P ops kd Z i K a w:=by
    intro listed Z a w K hb0 hy H
    unfold FOp
    simp only [hi]
    rcases hy with ⟨hw,hk,hv⟩ | ⟨hw,rfl⟩
    · simp only [hw,if_true]
      rcases hk with hk | ⟨hk,hb⟩
      · have hb:=hb0 hk
        simp only [FO,hk]; exact⟨v,fun w'=>hv w' (by rw [hb]; intro h; cases h),H⟩
      · simp only [FO,hk]; exact⟨v,fun w' hw'=>hv w' fun _=>hw',H⟩
    · simp only [hw]; exact H
  intro fuel
  induction fuel with
  | zero=>
    intro listed Z a w hfree hu hr hy H hb0
    refine⟨fun h=>(by rw [h] at hr; cases hr),fun j hj=>?_⟩
    by_cases hji:j = i
    · subst hji; exact now (listed:=listed) hb0 hy H
    · have:=ready_mono hj hji
      rw [H.1] at this
      cases this
  | succ fuel ih=>
    intro listed Z a w hfree hu hr hy H hb0
    refine⟨fun h=>(by rw [h] at hr; cases hr),fun j hj=>?_⟩
    by_cases hji:j = i
    · subst hji; exact now (listed:=listed) hb0 hy H
    · have h1:=H.2 j (ready_mono hj hji)
      have hjD:=not_waiting hu hD hj
      obtain⟨hjun,oj,hoj,_⟩:=mem_ready.1 hj
      obtain⟨hkj,hap⟩:=hfree j oj hoj hji hjD hjun
      obtain⟨p1,p2,p3⟩:=Oper.apart_spec hap
      have hu':=hu.set hji hjD
      have hfree':=fun k ok hk hki hkd (hun:(listed.setIfInBounds j true).getD k true = false)=>hfree k ok hk hki hkd (unl_back hun)
      have hr':=ready_mono hr (Ne.symm hji)
      rw [Array.setIfInBounds_comm _ _ (Ne.symm hji)] at h1
      have fin : ∀ (Z' : Nat->Prop) (u:Value) (w' : World),(b = true->∀ w'',Agr Z' w' w''->Agr Z w w'')->FC P md ops kd Q fuel Z' ((listed.setIfInBounds j true).setIfInBounds i true) ((a.put oi.dst v).put oj.dst u) w'->
          FC P md ops kd Q (fuel + 1) Z' (listed.setIfInBounds j true) (a.put oj.dst u) w':=by
        intro Z' u w' hZ h
        refine ih _ _ _ _ hfree' hu' hr' ?_ (by rw [<- Act.put_comm a v u p2]; exact h) hb0
        have e1:Region.wanted oi (yielded ops (a.put oj.dst u).tmps) = Region.wanted oi (yielded ops a.tmps):=wanted_put oi a oj.dst u p3
        have e2:execOp (a.put oj.dst u).eval oi = execOp a.eval oi:=execOp_put oi (fun cs b=>hsel i oi cs b hi) a oj.dst u p3
        rw [e1,e2]
        rcases hy with ⟨g1,g2,g3⟩ | ⟨g1,g2⟩
        · exact .inl ⟨g1,g2,fun w'' hw''=>g3 w'' fun hb=>hZ hb w'' (hw'' hb)⟩
        · exact .inr ⟨g1,g2⟩
      unfold FOp at h1 ⊢
      simp only [hoj] at h1 ⊢
      rw [wanted_put oj a oi.dst v p1] at h1
      split
      · rename_i hw
        simp only [hw,if_true] at h1
        unfold FO at h1 ⊢
        rw [execOp_put oj (fun cs b=>hsel j oj cs b hoj) a oi.dst v p1] at h1
        split
        · rename_i hk; simp only [hk] at h1
          obtain⟨u,h2,h3⟩:=h1
          exact⟨u,h2,fin Z u w (fun _ _ h=>h) h3⟩
        · rename_i hk; simp only [hk] at h1
          obtain⟨u,h2,h3⟩:=h1
          exact⟨u,h2,fin Z u w (fun _ _ h=>h) h3⟩
        · rename_i hk; simp only [hk] at h1
          exact valsR_mono h1 fun u w' ⟨Z',h2,h3⟩=>⟨Z',h2,fin Z' u w' (fun _ _ h=>h2.agr h) h3⟩
        · rename_i k0 k1 k2
          have hk : ¬ kd j<=2:=fun h=>by
            rcases Nat.lt_or_ge (kd j) 1 with h' | h'
            · exact k0 (by omega)
            · rcases Nat.lt_or_ge (kd j) 2 with h'' | h''
              · exact k1 (by omega)
              · exact k2 (by omega)
          have hb:b = false:=by cases b; rfl; exact absurd (hkj rfl) hk
          split at h1
          · rename_i e; exact absurd e k0
          · rename_i e; exact absurd e k1
          · rename_i e; exact absurd e k2
          · exact valsR_mono h1 fun u w' ⟨Z',h3⟩=>⟨Z',fin Z' u w' (fun h=>by rw [hb] at h; cases h) h3⟩
      · rename_i hw
        simp only [hw] at h1
        exact fin Z undef w (fun _ _ h=>h) h1
theorem FC_firstW {i:Nat} {oi:Oper} {D:List Nat} (hi:ops[i]? = some oi) (hsel : ∀ (j:Nat) (o:Oper) cs b,ops[j]? = some o->o.op≠.select cs b) (hD:Wait md ops D i) (hki:2<=kd i)
    :
    ∀ (fuel:Nat) (listed:Array Bool) (Z:Nat->Prop) (a:Act) (w:World),(∀ j oj,ops[j]? = some oj->j≠i->j ∉ D->listed.getD j true = false->kd j = 0/\oi.apart ops oj = true)->Unl listed D i->i ∈ Region.ready md ops listed->Region.wanted oi (yielded ops a.tmps) = true->
      FO P (kd i) oi Z (fun Z'=>FC P md ops kd Q fuel Z' (listed.setIfInBounds i true)) a w->FC P md ops kd Q (fuel + 1) Z listed a w:=by
  have vals : ∀ {Z:Nat->Prop} {K:(Nat->Prop)->Act->World->Prop} {a:Act} {w:World},FO P (kd i) oi Z K a w↔valsR P (fun v w'=>∃ Z',(kd i = 2->Step Z w Z' w')/\K Z' (a.put oi.dst v) w') ((execOp a.eval oi).run P w):=by
    intro Z K a w
    unfold FO
    split
    · omega
    · omega
    · rename_i hk; simp [hk]
    · rename_i k0 k1 k2
      have hk:kd i≠2:=k2
      simp [hk]
  intro fuel
  induction fuel with
  | zero=>
    intro listed Z a w hfree hu hr hy H
    refine⟨fun h=>(by rw [h] at hr; cases hr),fun j hj=>?_⟩
    by_cases hji:j = i
    · subst hji; unfold FOp; simp only [hi,hy,if_true]; exact H
    · have:=ready_mono hj hji
      obtain⟨v,w',Z',_,h⟩:=valsR_inst (vals.1 H)
      rw [h.1] at this
      cases this
  | succ fuel ih=>
    intro listed Z a w hfree hu hr hy H
    refine⟨fun h=>(by rw [h] at hr; cases hr),fun j hj=>?_⟩
    by_cases hji:j = i
    · subst hji; unfold FOp; simp only [hi,hy,if_true]; exact H
    · have hjD:=not_waiting hu hD hj
      obtain⟨hjun,oj,hoj,_⟩:=mem_ready.1 hj
      obtain⟨hkj,hap⟩:=hfree j oj hoj hji hjD hjun
      obtain⟨p1,p2,p3⟩:=Oper.apart_spec hap
      have hu':=hu.set hji hjD
      have hfree':=fun k ok hk hki hkd (hun:(listed.setIfInBounds j true).getD k true = false)=>hfree k ok hk hki hkd (unl_back hun)
      have hr':=ready_mono hr (Ne.symm hji)
      have hrj:=ready_mono hj hji
      -- the value of 'j', which no world turns
      have hu0 : ∃ u,((Region.wanted oj (yielded ops a.tmps) = true/\∀ w',(execOp a.eval oj).run P w' = .ok (.value u) w')\/(Region.wanted oj (yielded ops a.tmps) = false/\u = undef)):=by
        obtain⟨v,w',Z',_,h⟩:=valsR_inst (vals.1 H)
        have h1:=h.2 j hrj
        unfold FOp at h1
        simp only [hoj] at h1
        rw [wanted_put oj a oi.dst v p1] at h1
        by_cases hw:Region.wanted oj (yielded ops a.tmps) = true
        · simp only [hw,if_true,FO,hkj] at h1
          rw [execOp_put oj (fun cs b=>hsel j oj cs b hoj) a oi.dst v p1] at h1
          obtain⟨u,h2,_⟩:=h1
          exact⟨u,.inl ⟨hw,h2⟩⟩
        · exact⟨undef,.inr ⟨by simpa using hw,rfl⟩⟩
      obtain⟨u,hju⟩:=hu0
      have hnext:FC P md ops kd Q (fuel + 1) Z (listed.setIfInBounds j true) (a.put oj.dst u) w:=by
        have e1:Region.wanted oi (yielded ops (a.put oj.dst u).tmps) = Region.wanted oi (yielded ops a.tmps):=wanted_put oi a oj.dst u p3
        have e2:execOp (a.put oj.dst u).eval oi = execOp a.eval oi:=execOp_put oi (fun cs b=>hsel i oi cs b hi) a oj.dst u p3
        refine ih _ _ _ _ hfree' hu' hr' (by rw [e1]; exact hy) (vals.2 ?_)
        rw [e2]
        refine valsR_mono (vals.1 H) fun v w' ⟨Z',h1,h⟩=>⟨Z',h1,?_⟩
        have h2:=h.2 j hrj
        unfold FOp at h2
        simp only [hoj] at h2
        rw [wanted_put oj a oi.dst v p1] at h2
        rw [Array.setIfInBounds_comm _ _ hji,<- Act.put_comm a v u p2]
        rcases hju with ⟨hw,hv⟩ | ⟨hw,rfl⟩
        · simp only [hw,if_true,FO,hkj] at h2
          rw [execOp_put oj (fun cs b=>hsel j oj cs b hoj) a oi.dst v p1] at h2
          obtain⟨u',h3,h4⟩:=h2
          have:u' = u:=by have:=(h3 w).symm.trans (hv w); simpa using this
          subst this
          exact h4
        · simp only [hw] at h2; exact h2
      unfold FOp
      simp only [hoj]
      rcases hju with ⟨hw,hv⟩ | ⟨hw,rfl⟩
      · simp only [hw,if_true,FO,hkj]; exact⟨u,hv,hnext⟩
      · simp only [hw]; exact hnext
def FL (P:Program) (ops:Array Oper) (kd:Nat->Nat) (Q:Exit->Act->World->Prop):List Nat->(Nat->Prop)->Act->World->Prop
  | [],_,a,w=>Q .normal a w
  | i :: r,Z,a,w=>FOp P ops kd Z i (FL P ops kd Q r) a w
def desc (md:Region.Mode) (ops:Array Oper) (i:Nat):Nat->List Nat
  | 0=>[]
  | n + 1=>match ops[n]? with
    | some o=>if (o.after.any fun e=>Region.binds md e && (Nat.beq e.on i || (desc md ops i n).contains e.on)) = true then n :: desc md ops i n else desc md ops i n
    | none=>desc md ops i n
theorem desc_wait {md:Region.Mode} {ops:Array Oper} {i:Nat} : ∀ n,Wait md ops (desc md ops i n) i
  | 0=>by intro j hj; cases hj
  | n + 1=>by
    have ih:=desc_wait (md:=md) (ops:=ops) (i:=i) n
    have lift : ∀ j ∈ desc md ops i n,∀ o,ops[j]? = some o->∀ D:List Nat,(∀ k ∈ desc md ops i n,k ∈ D)->∃ e ∈ o.after,Region.binds md e = true/\(e.on = i\/e.on ∈ D):=fun j hj o ho D hD=>by
      obtain⟨e,h1,h2,h3⟩:=ih j hj o ho
      exact⟨e,h1,h2,h3.imp id (hD _)⟩
    simp only [desc]
    split
    · rename_i o ho
      split
      · rename_i hc
        intro j hj o' ho'
        rcases List.mem_cons.1 hj with rfl | hj
        · rw [ho] at ho'
          obtain rfl:=Option.some.inj ho'
          obtain⟨e,he,h1⟩:=Array.any_eq_true'.1 hc
          simp only [Bool.and_eq_true,Bool.or_eq_true,List.contains_iff_mem] at h1
          refine⟨e,he,h1.1,?_⟩
          rcases h1.2 with h2 | h2
          · exact .inl (Nat.eq_of_beq_eq_true h2)
          · exact .inr (List.mem_cons_of_mem _ h2)
        · exact lift j hj o' ho' _ fun k hk=>List.mem_cons_of_mem _ hk
      · exact ih
    · exact ih
def okPair (ki kj:Nat):Bool:=
  match ki with
  | 0=>true
  | 1=>Nat.ble kj 2
  | _=>Nat.beq kj 0
def okStep (md:Region.Mode) (ops:Array Oper) (kd:Nat->Nat) (listed:Array Bool) (i:Nat):Bool:=
  (Region.ready md ops listed).contains i && (desc md ops i ops.size).all (fun j=>!listed.getD j true) &&
  match ops[i]? with
  | none=>false
  | some oi=>(List.range ops.size).all fun j=>Nat.beq j i || (desc md ops i ops.size).contains j || match ops[j]? with
    | some oj=>okPair (kd i) (kd j) && oi.apart ops oj || listed.getD j true
    | none=>true
def ordOk (md:Region.Mode) (ops:Array Oper) (kd:Nat->Nat):List Nat->Array Bool->Bool
  | [],listed=>(Region.ready md ops listed).isEmpty
  | i :: r,listed=>okStep md ops kd listed i && ordOk md ops kd r (listed.setIfInBounds i true)
theorem okStep_first {i:Nat} {listed:Array Bool} (hs:Region.noSelect ops = true) (h:okStep md ops kd listed i = true) {fuel:Nat} {Z:Nat->Prop} {a:Act} {w:World}
    (H:FOp P ops kd Z i (fun Z'=>FC P md ops kd Q fuel Z' (listed.setIfInBounds i true)) a w):FC P md ops kd Q (fuel + 1) Z listed a w:=by
  have hsel:=Region.noSelect_spec hs
  unfold okStep at h
  simp only [Bool.and_eq_true] at h
  obtain⟨⟨h1,h2⟩,h3⟩:=h
  rw [List.all_eq_true] at h2
  have hr:i ∈ Region.ready md ops listed:=by simpa using h1
  obtain⟨hun,oi,hoi,_⟩:=mem_ready.1 hr
  have hD:=desc_wait (md:=md) (ops:=ops) (i:=i) ops.size
  have hu:Unl listed (desc md ops i ops.size) i:=⟨hun,fun j hj=>by simpa using h2 j hj⟩
  simp only [hoi] at h3
  rw [List.all_eq_true] at h3
  have hfree : ∀ j oj,ops[j]? = some oj->j≠i->j ∉ desc md ops i ops.size->listed.getD j true = false->okPair (kd i) (kd j) = true/\oi.apart ops oj = true:=fun j oj hoj hji hjD hjun=>by
    have:=h3 j (List.mem_range.2 (Array.getElem?_eq_some_iff.1 hoj).1)
    simp only [hoj,hjun,Bool.or_false,Bool.or_eq_true,Bool.and_eq_true,List.contains_iff_mem] at this
    rcases this with (h | h) | h
    · exact absurd (Nat.eq_of_beq_eq_true h) hji
    · exact absurd h hjD
    · exact h
  unfold FOp at H
  simp only [hoi] at H
  by_cases hw:Region.wanted oi (yielded ops a.tmps) = true
  · simp only [hw,if_true] at H
    match hk:kd i with
    | 0=>
      simp only [FO,hk] at H
      obtain⟨v,g1,g2⟩:=H
      exact FC_firstS (b:=false) hoi hsel hD fuel listed Z a w (fun j oj a1 a2 a3 a4=>⟨(by intro h; cases h),(hfree j oj a1 a2 a3 a4).2⟩) hu hr (.inl ⟨hw,.inl hk,fun w' _=>g1 w'⟩) g2 (fun _=>rfl)
    | 1=>
      simp only [FO,hk] at H
      obtain⟨v,g1,g2⟩:=H
      exact FC_firstS (b:=true) hoi hsel hD fuel listed Z a w (fun j oj a1 a2 a3 a4=>by
        obtain⟨b1,b2⟩:=hfree j oj a1 a2 a3 a4
        exact⟨fun _=>by simpa [okPair,hk] using b1,b2⟩) hu hr (.inl ⟨hw,.inr ⟨hk,rfl⟩,fun w' hw'=>g1 w' (hw' rfl)⟩) g2 (by omega)
    | k + 2=>
      exact FC_firstW hoi hsel hD (by omega) fuel listed Z a w (fun j oj a1 a2 a3 a4=>by
        obtain⟨b1,b2⟩:=hfree j oj a1 a2 a3 a4
        exact⟨by simpa [okPair,hk] using b1,b2⟩) hu hr hw H
  · simp only [hw] at H
    have hw' : Region.wanted oi (yielded ops a.tmps) = false:=by simpa using hw
    by_cases hk:kd i = 1
    · exact FC_firstS (b:=true) (v:=undef) hoi hsel hD fuel listed Z a w (fun j oj a1 a2 a3 a4=>by
        obtain⟨b1,b2⟩:=hfree j oj a1 a2 a3 a4
        exact⟨fun _=>by simpa [okPair,hk] using b1,b2⟩) hu hr (.inr ⟨hw',rfl⟩) H (by omega)
    · exact FC_firstS (b:=false) (v:=undef) hoi hsel hD fuel listed Z a w (fun j oj a1 a2 a3 a4=>⟨(by intro h; cases h),(hfree j oj a1 a2 a3 a4).2⟩) hu hr (.inr ⟨hw',rfl⟩) H (fun _=>rfl)
theorem FC_of_order (hs:Region.noSelect ops = true) : ∀ (ord:List Nat) (listed:Array Bool) (Z:Nat->Prop) (a:Act) (w:World),ordOk md ops kd ord listed = true->FL P ops kd Q ord Z a w->FC P md ops kd Q ord.length Z listed a w
  | [],listed,Z,a,w,h,H=>⟨by simpa [ordOk] using h,H⟩
  | i :: r,listed,Z,a,w,h,H=>by
    simp only [ordOk,Bool.and_eq_true] at h
    exact okStep_first hs h.1 (FOp_mono H fun Z' a' w' H'=>FC_of_order hs r _ Z' a' w' h.2 H')
def ordAll (ops:Array Oper) (kd:Nat->Nat) (ord:List Nat):Bool:=Region.noSelect ops && Nat.beq ord.length ops.size && ordOk .any ops kd ord (Array.replicate ops.size false)
theorem wp_drawn {id:Nat} {a:Act} {w:World} {ord:List Nat} (hm:P.follows .mixedOrders = true) (ho:ordAll ops kd ord = true) (Z:Nat->Prop) (H:FL P ops kd Q ord Z a { w with drawn:=w.drawn + 1 }) (r:Option Nat):(Code.region id ops true).wpIn (Fw r) 0 P Q a w:=by
  simp only [ordAll,Bool.and_eq_true] at ho
  have hl:=Nat.eq_of_beq_eq_true ho.1.2
  have h1:=FC_of_order (P:=P) (Q:=Q) ho.1.1 ord _ Z a _ ho.2 H
  rw [hl] at h1
  exact wpIn_region_any hm (FC_any r _ Z _ _ _ h1)
end
theorem Rep.same {D:Data} {G:Glob} {st:St} {a:Act} {w w' : World} (h:Rep D G st a w) (hh:w'.heap = w.heap) (ho:w'.os = w.os) (ht:w'.tape = w.tape) (hu:w'.output = w.output):Rep D G st a w':=by
  have hI : ∀ b,Imm G st.σ D.fp w b->Imm G st.σ D.fp w' b:=fun b hb=>⟨hb.1,by rw [hh]; exact hb.2.1,hb.2.2⟩
  have hk : ∀ b:Nat,w'.heap[b]? = w.heap[b]?:=fun b=>by rw [hh]
  exact⟨fun p hp=>let ⟨l,h1,h2⟩:=h.obs p hp; ⟨l,h1,h2.frame hI (fun b _=>hk b) (fun _ _ h=>h) (fun b _=>hk b)⟩,h.dom,h.nodup,h.disj1,h.disj2,
    fun i v hv=>let ⟨x,h1,h2⟩:=h.env i v hv; ⟨x,h1,VRp.frame hI (fun b _=>hk b) (fun _ _ h=>h) _ _ h2⟩,h.own,fun b hb hF=>by rw [hk]; exact h.frame b hb hF,by rw [hh]; exact h.size,ho.trans h.os,ht.trans h.tape,hu.trans h.output,h.ntmps,h.defers⟩
def ZX (X:List Nat) (D:Data):Nat->Prop:=fun b=>∃ id ∈ X,b ∈ D.fp id
structure RunD (P:Program) (ops:Array Oper) (kd:Nat->Nat) (X:List Nat) (K:St->Prop) (ord:List Nat) (st:St):Prop where
  out : ∀ (G:Glob) (D:Data) (a:Act) (w:World),Rep D G st a w->∀ Q:Exit->Act->World->Prop,(∀ D' st' a' w',K st'->Rep D' G st' a' w'->Q .normal a' w')->FL P ops kd Q ord (ZX X D) a w
def GOk (ops:Array Oper) (st:St):Option (Nat × Bool)->Prop
  | none=>True
  | some (g,b)=>∃ s c,(ops[g]?).bind (·.dst) = some s/\st.ev (.tmp s) = some (.c (.val (.bool c)))/\c = b
section
variable {P:Program} {ops:Array Oper} {kd:Nat->Nat} {X:List Nat} {K:St->Prop} {r:List Nat} {st:St}
theorem GOk.wanted {D:Data} {G:Glob} {a:Act} {w:World} (hr:Rep D G st a w) {o:Oper} (h:GOk ops st o.guard):Region.wanted o (yielded ops a.tmps) = true:=by
  unfold Region.wanted
  cases hg:o.guard with
  | none=>rfl
  | some gb=>
    obtain⟨g,b⟩:=gb
    rw [hg] at h
    obtain⟨s,c,h1,h2,h3⟩:=h
    subst h3
    simp [yielded_spec hr h1 h2]
theorem rd_nil (h:K st):RunD P ops kd X K [] st:=⟨fun _ _ _ _ hr _ hQ=>hQ _ _ _ _ h hr⟩
theorem rd_s {i:Nat} {op:Op} {ty:TypeId} {dst:Option Nat} {pos:String} {after:Array Edge} {gd:Option (Nat × Bool)} {v:V} (ho:ops[i]? = some ⟨dst,op,ty,pos,after,gd⟩) (hk:kd i = 0) (hg:GOk ops st gd)
    (hs:SS P none op ty st v) (hd:dOk dst st.n = true) (h:RunD P ops kd X K r (st.put dst v)):RunD P ops kd X K (i :: r) st:=⟨fun G D a w hr Q hQ=>by
  obtain⟨x,hx,hrun⟩:=hs D G a w hr
  simp only [FL,FOp,ho,GOk.wanted (o:=⟨dst,op,ty,pos,after,gd⟩) hr hg,if_true,FO,hk]
  exact⟨x,fun w'=>hrun w' (fun Y h=>by cases h) dst pos after gd,h.out G D _ w (hr.put (dOk_spec hd) hx) Q hQ⟩⟩
theorem rd_l {i:Nat} {op:Op} {ty:TypeId} {dst:Option Nat} {pos:String} {after:Array Edge} {gd:Option (Nat × Bool)} {v:V} (ho:ops[i]? = some ⟨dst,op,ty,pos,after,gd⟩) (hk:kd i = 1) (hg:GOk ops st gd)
    (hs:SS P (some X) op ty st v) (hd:dOk dst st.n = true) (h:RunD P ops kd X K r (st.put dst v)):RunD P ops kd X K (i :: r) st:=⟨fun G D a w hr Q hQ=>by
  obtain⟨x,hx,hrun⟩:=hs D G a w hr
  simp only [FL,FOp,ho,GOk.wanted (o:=⟨dst,op,ty,pos,after,gd⟩) hr hg,if_true,FO,hk]
  exact⟨x,fun w' hw'=>hrun w' (fun Y h b hb hn=>by
    obtain rfl:=Option.some.inj h
    exact hw' b hb fun⟨id,h1,h2⟩=>hn id h1 h2) dst pos after gd,h.out G D _ w (hr.put (dOk_spec hd) hx) Q hQ⟩⟩
def subN:List Nat->List Nat->Bool
  | [],_=>true
  | i :: r,l=>memN i l && subN r l
theorem subN_spec : ∀ {l m:List Nat},subN l m = true->∀ i ∈ l,i ∈ m
  | [],_,_,i,hi=>by cases hi
  | j :: r,m,h,i,hi=>by
    simp only [subN,Bool.and_eq_true] at h
    rcases List.mem_cons.1 hi with rfl | hi
    · exact memN_spec.1 h.1
    · exact subN_spec h.2 i hi
theorem rd_w {i:Nat} {op:Op} {ty:TypeId} {dst:Option Nat} {pos:String} {after:Array Edge} {gd:Option (Nat × Bool)} {X' Y:List Nat} (ho:ops[i]? = some ⟨dst,op,ty,pos,after,gd⟩) (hk:kd i = 2) (hg:GOk ops st gd)
    (hX:subN X' X = true) (hY:subN Y X = true) (hw:WS P X' Y op ty st (fun v st'=>dOk dst st'.n = true/\RunD P ops kd X K r (st'.put dst v))):RunD P ops kd X K (i :: r) st:=⟨fun G D a w hr Q hQ=>by
  simp only [FL,FOp,ho,GOk.wanted (o:=⟨dst,op,ty,pos,after,gd⟩) hr hg,if_true,FO,hk]
  refine valsR_mono (hw D G a w hr dst pos after gd) fun x w' ⟨D',v,st',⟨hd,hk⟩,hr',hx,hu⟩=>⟨ZX X D',⟨hu.size,fun b hb hn=>hu.keep b hb fun id hid hbid=>hn ⟨id,subN_spec hX id hid,hbid⟩,fun b hb ⟨id,h1,h2⟩=>?_⟩,hk.out G D' _ w' (hr'.put (dOk_spec hd) hx) Q hQ⟩
  obtain⟨q,hq,rfl⟩:=hr'.fpkey h2
  rcases hu.own q hq b h2 hb with h3 | ⟨k,h3,h4⟩
  · exact⟨_,h1,h3⟩
  · exact⟨k,subN_spec hY k h3,h4⟩⟩
theorem rd_f {i:Nat} {op:Op} {ty:TypeId} {dst:Option Nat} {pos:String} {after:Array Edge} {gd:Option (Nat × Bool)} {X' Y:List Nat} (ho:ops[i]? = some ⟨dst,op,ty,pos,after,gd⟩) (hk:kd i = 3) (hg:GOk ops st gd)
    (hw:WS P X' Y op ty st (fun v st'=>dOk dst st'.n = true/\RunD P ops kd X K r (st'.put dst v))):RunD P ops kd X K (i :: r) st:=⟨fun G D a w hr Q hQ=>by
  simp only [FL,FOp,ho,GOk.wanted (o:=⟨dst,op,ty,pos,after,gd⟩) hr hg,if_true,FO,hk]
  exact valsR_mono (hw D G a w hr dst pos after gd) fun x w' ⟨D',v,st',⟨hd,hk⟩,hr',hx,hu⟩=>⟨ZX X D',hk.out G D' _ w' (hr'.put (dOk_spec hd) hx) Q hQ⟩⟩
theorem rd_no {i:Nat} {op:Op} {ty:TypeId} {dst:Option Nat} {pos:String} {after:Array Edge} {g s:Nat} {b c:Bool} (ho:ops[i]? = some ⟨dst,op,ty,pos,after,some (g,b)⟩) (hg:(ops[g]?).bind (·.dst) = some s) (hv:st.ev (.tmp s) = some (.c (.val (.bool c)))) (hb:c = !b)
    (hd:dOk dst st.n = true) (h:RunD P ops kd X K r (st.put dst (.c .hole))):RunD P ops kd X K (i :: r) st:=⟨fun G D a w hr Q hQ=>by
  subst hb
  have hy:=yielded_spec hr hg hv
  have hw:Region.wanted (⟨dst,op,ty,pos,after,some (g,b)⟩ : Oper) (yielded ops a.tmps) = false:=by simp [Region.wanted,hy]
  simp only [FL,FOp,ho,hw]
  exact h.out G D _ w (hr.put (dOk_spec hd) (by simp [VRp,Rp])) Q hQ⟩
theorem rd_split {s:Nat} {b:Bool} {l:List Nat} (_hv:st.ev (.tmp s) = some (.c (.val (.bool b)))) (ht:b = true->RunD P ops kd X K l st) (hf:b = false->RunD P ops kd X K l st):RunD P ops kd X K l st:=by
  cases b
  · exact hf rfl
  · exact ht rfl
theorem rd_gh {st' : St} {l:List Nat} (hg : ∀ (D:Data) (G:Glob) (a:Act) (w:World),Rep D G st a w->∃ D',Rep D' G st' a w/\∀ id ∈ X,D'.fp id = D.fp id) (h:RunD P ops kd X K l st'):RunD P ops kd X K l st:=⟨fun G D a w hr Q hQ=>by
  obtain⟨D',h1,h2⟩:=hg D G a w hr
  have h3:=h.out G D' a w h1 Q hQ
  have:ZX X D' = ZX X D:=funext fun b=>propext ⟨fun⟨id,g1,g2⟩=>⟨id,g1,by rw [<- h2 id g1]; exact g2⟩,fun⟨id,g1,g2⟩=>⟨id,g1,by rw [h2 id g1]; exact g2⟩⟩
  rw [<- this]; exact h3⟩
theorem aw_regionD {id:Nat} {Q:Exit->St->Prop} {l:List Oper} {ord:List Nat} (X:List Nat) (hm:P.follows .mixedOrders = true) (ho:ordAll l.toArray kd ord = true) (h:RunD P l.toArray kd X (Q .normal) ord st):AW P (.region id l.toArray true) Q st:=
  ⟨fun G D a w hr r=>wp_drawn hm ho (ZX X D) (h.out G D a { w with drawn:=w.drawn + 1 } (hr.same rfl rfl rfl rfl) (fun e a' w'=>∃ D' st',Q e st'/\Rep D' G st' a' w') fun D' st' _ _ hk hr'=>⟨D',st',hk,hr'⟩) r⟩
end
end Go.Proofs.YtjolbldlhjfciaaGreatDoor
