/- The value layer: contracts of functions that turn what they are handed, their calls, parts of objects opened; no condition. -/
import Derived.Test.YtjolbldlhjfciaaGreatDoorVk
namespace Go.Proofs.YtjolbldlhjfciaaGreatDoor
structure AM (P:Program) (f:Nat) (args:List C) (Q:C->List C->Prop):Prop where
  ent:EntB P f = true
  out : ∀ (w:World) (I:Nat->Prop) (vals:List Value) (fp:List Nat),(∀ b,I b->b < w.heap.size)->(∀ b ∈ fp,¬ I b)->fp.Nodup->RpL w I args vals fp->
    Calls P f vals.toArray w fun e w'=>∃ r outs x fz,e = .returned x/\Q r outs/\RpL w' (fun b=>I b\/((b ∈ fp\/w.heap.size<=b)/\b < w'.heap.size/\b ∉ fz)) (r :: outs) (x :: vals) fz/\fz.Nodup/\(∀ b ∈ fz,b ∈ fp\/w.heap.size<=b)/\
      w.heap.size<=w'.heap.size/\(∀ b,b < w.heap.size->b ∉ fp->w'.heap[b]? = w.heap[b]?)/\w'.os = w.os/\w'.tape = w.tape/\w'.output = w.output
theorem AM.mono {P:Program} {f:Nat} {args:List C} {Q Q' : C->List C->Prop} (h:AM P f args Q) (hq : ∀ r o,Q r o->Q' r o):AM P f args Q':=
  ⟨h.ent,fun w I vals fp a b c d=>(h.out w I vals fp a b c d).mono fun _ _ ⟨r,outs,x,fz,e1,e2,e3⟩=>⟨r,outs,x,fz,e1,hq _ _ e2,e3⟩⟩
mutual
def cup:V->C->List (Nat × Ob)
  | .ref id,.own xs=>[(id,⟨xs,[]⟩)]
  | .cell id _,.obox xs=>[(id,⟨xs,[]⟩)]
  | .agg vs,.agg os=>cupL vs os
  | .tup vs,.tup os=>cupL vs os
  | .clo _ vs,.clo _ os=>cupL vs os
  | _,_=>[]
def cupL:List V->List C->List (Nat × Ob)
  | v :: vs,o :: os=>cup v o ++ cupL vs os
  | _,_=>[]
end
mutual
def okC (σ:List (Nat × Ob)):V->C->Bool
  | .c _,_=>true
  | .ref _,.own _=>true
  | .cell id off,.obox xs=>Nat.beq off 0 && (match lko id σ with | some ob=>Nat.beq xs.length ob.xs.length | none=>false)
  | .agg vs,.agg os=>okCL σ vs os
  | .tup vs,.tup os=>okCL σ vs os
  | .clo _ vs,.clo _ os=>okCL σ vs os
  | _,_=>false
def okCL (σ:List (Nat × Ob)):List V->List C->Bool
  | [],[]=>true
  | v :: vs,o :: os=>okC σ v o && okCL σ vs os
  | _,_=>false
end
mutual
def cids:V->List Nat
  | .cell id _=>[id]
  | .agg vs | .tup vs | .clo _ vs=>cidsL vs
  | .c _ | .ref _=>[]
def cidsL:List V->List Nat
  | []=>[]
  | v :: vs=>cids v ++ cidsL vs
end
mutual
def rids:V->List Nat
  | .ref id=>[id]
  | .agg vs | .tup vs | .clo _ vs=>ridsL vs
  | .c _ | .cell _ _=>[]
def ridsL:List V->List Nat
  | []=>[]
  | v :: vs=>rids v ++ ridsL vs
end
mutual
theorem VRp.tight {w:World} {I:Nat->Prop} {M M1:Nat->Option Loc} {bx:List Nat} (hM : ∀ id l,id ∉ bx->M id = some l->M1 id = some l) (hC : ∀ id l,M id = some l->∃ l1,M1 id = some l1/\l1.b = l.b/\l1.off = l.off/\l1.nil = l.nil) :
    ∀ (v:V) (x:Value),(∀ id ∈ rids v,id ∉ bx)->VRp w I M v x->VRp w I M1 v x
  | .c c,x,_,h=>by simpa only [VRp] using h
  | .ref id,x,hr,h=>by simp only [VRp] at h ⊢; obtain⟨l,h1,h2⟩:=h; exact⟨l,hM id l (hr id (by simp [rids])) h1,h2⟩
  | .cell id off,x,_,h=>by simp only [VRp] at h ⊢; obtain⟨l,h1,h2,h3⟩:=h; obtain⟨l1,a,b,c,d⟩:=hC id l h1; exact⟨l1,a,d.trans h2,by rw [b,c]; exact h3⟩
  | .agg vs,x,hr,h=>by simp only [VRp] at h ⊢; obtain⟨xs,h1,h2⟩:=h; exact⟨xs,h1,VRpL.tight hM hC vs xs (by simpa only [rids] using hr) h2⟩
  | .tup vs,x,hr,h=>by simp only [VRp] at h ⊢; obtain⟨xs,h1,h2⟩:=h; exact⟨xs,h1,VRpL.tight hM hC vs xs (by simpa only [rids] using hr) h2⟩
  | .clo f vs,x,hr,h=>by simp only [VRp] at h ⊢; obtain⟨xs,h1,h2⟩:=h; exact⟨xs,h1,VRpL.tight hM hC vs xs (by simpa only [rids] using hr) h2⟩
theorem VRpL.tight {w:World} {I:Nat->Prop} {M M1:Nat->Option Loc} {bx:List Nat} (hM : ∀ id l,id ∉ bx->M id = some l->M1 id = some l) (hC : ∀ id l,M id = some l->∃ l1,M1 id = some l1/\l1.b = l.b/\l1.off = l.off/\l1.nil = l.nil) :
    ∀ (vs:List V) (xs:List Value),(∀ id ∈ ridsL vs,id ∉ bx)->VRpL w I M vs xs->VRpL w I M1 vs xs
  | [],xs,_,h=>by simpa only [VRpL] using h
  | v :: vs,xs,hr,h=>by
    simp only [VRpL] at h ⊢
    obtain⟨x,xs',h1,h2,h3⟩:=h
    exact⟨x,xs',h1,VRp.tight hM hC v x (fun id hi=>hr id (by simp only [ridsL]; exact List.mem_append_left _ hi)) h2,VRpL.tight hM hC vs xs' (fun id hi=>hr id (by simp only [ridsL]; exact List.mem_append_right _ hi)) h3⟩
end
def bxOk:List Nat->St->Bool
  | [],_=>true
  | b :: bx,st=>st.env.all (fun p=>(rids p.2).all fun i=>!memN i (b :: bx)) && st.σ.all fun p=>p.2.holes.all (fun h=>(rids h.2).all fun i=>!memN i (b :: bx))
theorem bxOk_spec {bx:List Nat} {st:St} (h:bxOk bx st = true) (hne:bx≠[]):(∀ p ∈ st.env,∀ i ∈ rids p.2,i ∉ bx)/\∀ p ∈ st.σ,∀ q ∈ p.2.holes,∀ i ∈ rids q.2,i ∉ bx:=by
  cases bx with
  | nil=>exact absurd rfl hne
  | cons b bx=>
    simp only [bxOk,Bool.and_eq_true,List.all_eq_true] at h
    have hm : ∀ i,(!memN i (b :: bx)) = true->i ∉ b :: bx:=fun i hi hin=>by rw [memN_spec.2 hin] at hi; cases hi
    exact⟨fun p hp i hi=>hm i (h.1 p hp i hi),fun p hp q hq i hi=>hm i (h.2 p hp q hq i hi)⟩
theorem Rep.tight {D:Data} {G:Glob} {st:St} {a:Act} {w:World} (h:Rep D G st a w) {bx:List Nat} (hb:bxOk bx st = true) : ∃ D1,Rep D1 G st a w/\D1.fp = D.fp/\∀ id ∈ bx,∀ l,D1.M id = some l->l.nil = false->l.cap = l.len:=by
  by_cases hne:bx = []
  · subst hne; exact⟨D,h,rfl,fun id hi=>by cases hi⟩
  obtain⟨he,hs⟩:=bxOk_spec hb hne
  let M1:Nat->Option Loc:=fun id=>if id ∈ bx then (D.M id).map (fun l=>{ l with cap:=l.len }) else D.M id
  have hM : ∀ id l,id ∉ bx->D.M id = some l->M1 id = some l:=fun id l hi hl=>by simp only [M1,if_neg hi]; exact hl
  have hC : ∀ id l,D.M id = some l->∃ l1,M1 id = some l1/\l1.b = l.b/\l1.off = l.off/\l1.nil = l.nil:=fun id l hl=>by
    by_cases hi:id ∈ bx
    · exact⟨{ l with cap:=l.len },by simp only [M1,if_pos hi,hl,Option.map_some],rfl,rfl,rfl⟩
    · exact⟨l,hM id l hi hl,rfl,rfl,rfl⟩
  have hole : ∀ p ∈ st.σ,∀ vs,HolesRp w (Imm G st.σ D.fp w) D.M p.2.holes vs->HolesRp w (Imm G st.σ D.fp w) M1 p.2.holes vs:=fun p hp vs hh q hq=>by
    obtain⟨v,h1,h2⟩:=hh q hq
    exact⟨v,h1,VRp.tight hM hC _ _ (hs p hp q hq) h2⟩
  refine⟨⟨M1,D.fp⟩,⟨fun p hp=>?_,fun id hi=>⟨?_,(h.dom id hi).2⟩,h.nodup,h.disj1,h.disj2,fun i v hv=>?_,h.own,h.frame,h.size,h.os,h.tape,h.output,h.ntmps,h.defers⟩,rfl,fun id hi l hl hn=>?_⟩
  · obtain⟨l,hl,ho⟩:=h.obs p hp
    by_cases hi:p.1 ∈ bx
    · refine⟨{ l with cap:=l.len },by simp only [M1,if_pos hi,hl,Option.map_some],?_⟩
      rcases ho with ⟨h1,h2,h3,h4⟩ | ⟨h1,h2,vs,f,h3,h4,h5,h6⟩
      · exact .inl ⟨h1,h2,h3,h4⟩
      · refine .inr ⟨h1,h2,vs,f,h3,h4,?_,hole p hp vs h6⟩
        obtain⟨cur,e,g1,g2,g3,g4,g5⟩:=h5
        have hvl:=h4.length
        exact⟨cur,e,g1,by show vs.length<=l.len; omega,by show l.off + l.len<=cur.size; omega,by show l.len<=maxLen; omega,g5⟩
    · refine⟨l,hM _ _ hi hl,?_⟩
      rcases ho with ⟨h1,h2,h3,h4⟩ | ⟨h1,h2,vs,f,h3,h4,h5,h6⟩
      · exact .inl ⟨h1,h2,h3,h4⟩
      · exact .inr ⟨h1,h2,vs,f,h3,h4,h5,hole p hp vs h6⟩
  · show M1 id = none
    have:=(h.dom id hi).1
    simp only [M1,this]
    split <;> rfl
  · obtain⟨x,h1,h2⟩:=h.env i v hv
    exact⟨x,h1,VRp.tight hM hC _ _ (he _ (mem_of_lk hv)) h2⟩
  · simp only [M1,if_pos hi] at hl
    cases hd:D.M id with
    | none=>rw [hd] at hl; cases hl
    | some l0=>
      rw [hd] at hl
      simp only [Option.map_some,Option.some.injEq] at hl
      subst hl
      rfl
mutual
theorem cup_spec {D:Data} {G:Glob} {st:St} {a:Act} {w w' : World} {J:Nat->Prop} (hr:Rep D G st a w) : ∀ (v:V) (o:C) (x:Value) (c:C) (ids fo:List Nat),hv st.σ v = some (c,ids)->VRp w (Imm G st.σ D.fp w) D.M v x->okC st.σ v o = true->(∀ id ∈ cids v,∀ l,D.M id = some l->l.nil = false->l.cap = l.len)->Rp w' J o x fo->
    ∃ L,Laid w' J (cup v o) L/\(L.flatMap (·.2)).Sublist fo/\(∀ q ∈ locs (cup v o) L,D.M q.1 = some q.2)/\(cup v o).map (·.1) = ids
  | .c y,o,x,c,ids,fo,h,hvx,hok,HB,ho=>by
    simp only [hv,Option.some.injEq,Prod.mk.injEq] at h
    obtain⟨rfl,rfl⟩:=h
    exact⟨[],by simp [cup,Laid],by simp,by simp [cup,locs],by simp [cup]⟩
  | .ref id,o,x,c,ids,fo,h,hvx,hok,HB,ho=>by
    simp only [hv] at h
    split at h
    · rename_i ob hob0
      split at h
      · rename_i hh
        simp only [Option.some.injEq,Prod.mk.injEq] at h
        obtain⟨rfl,rfl⟩:=h
        cases o <;> simp only [okC] at hok <;> try (cases hok; done)
        rename_i xs
        simp only [VRp] at hvx
        obtain⟨l,hl,rfl⟩:=hvx
        simp only [Rp] at ho
        refine⟨[(l,fo)],?_,by simp,fun q hq=>?_,rfl⟩
        · simp only [cup,Laid]
          refine⟨l,fo,[],rfl,by trivial,?_,rfl⟩
          rcases ho with ⟨e1,e2,e3⟩ | ⟨b,off,cap,vs,f,e1,e2,e3,e4⟩
          · cases hn:l.nil with
            | true=>exact .inl ⟨hn,e1,rfl,e3⟩
            | false=>simp [Loc.slice,hn] at e2
          · cases hn:l.nil with
            | true=>simp [Loc.slice,hn] at e1
            | false=>
              simp only [Loc.slice,hn,Bool.false_eq_true,if_false,Value.slice.injEq,Option.some.injEq,Addr.mk.injEq,and_true] at e1
              obtain⟨⟨rfl,rfl⟩,h1,rfl⟩:=e1
              exact .inr ⟨hn,h1,vs,f,e2,e3,e4,by intro q hq; cases hq⟩
        · simp only [cup,locs,List.mem_singleton] at hq
          subst hq; exact hl
      · cases h
    · cases h
  | .cell id off,o,x,c,ids,fo,h,hvx,hok,HB,ho=>by
    cases o <;> simp only [okC] at hok <;> try (cases hok; done)
    rename_i xs
    simp only [hv] at h
    split at h
    · rename_i ob hob0
      rw [hob0] at hok
      simp only [Bool.and_eq_true] at hok
      have hz:=Nat.eq_of_beq_eq_true hok.1
      have hx1:=Nat.eq_of_beq_eq_true hok.2
      subst hz
      split at h
      · simp only [Nat.beq_refl,cond_true,Option.some.injEq,Prod.mk.injEq] at h
        obtain⟨rfl,rfl⟩:=h
        simp only [VRp] at hvx
        obtain⟨l,hl,hn,rfl⟩:=hvx
        simp only [Rp] at ho
        obtain⟨b,off,cap,vs,f,e1,e2,e3,e4⟩:=ho
        simp only [Value.pointer.injEq,Option.some.injEq,Addr.mk.injEq,and_true] at e1
        obtain⟨rfl,rfl⟩:=e1
        have c2:=HB id (by simp [cids]) l hl hn
        have c1:l.len = ob.xs.length:=by
          obtain⟨l2,hl2,ho2⟩:=hr.obs _ (mem_of_lko hob0)
          rw [hl] at hl2
          obtain rfl:=Option.some.inj hl2
          rcases ho2 with ⟨g1,_⟩ | ⟨_,g2,_⟩
          · rw [g1] at hn; cases hn
          · exact g2
        have hvl:=e3.length
        refine⟨[(l,fo)],?_,by simp,fun q hq=>?_,rfl⟩
        · simp only [cup,Laid]
          refine⟨l,fo,[],rfl,by trivial,.inr ⟨hn,by rw [c1,hx1],vs,f,e2,e3,?_,by intro q hq; cases hq⟩,rfl⟩
          obtain⟨cur,e,g1,g2,g3,g4,g5⟩:=e4
          exact⟨cur,e,g1,by omega,by omega,by omega,g5⟩
        · simp only [cup,locs,List.mem_singleton] at hq
          subst hq; exact hl
      · cases h
    · cases h
  | .agg vs,o,x,c,ids,fo,h,hvx,hok,HB,ho=>by
    simp only [hv] at h
    split at h
    · rename_i xs ids' hx
      simp only [Option.some.injEq,Prod.mk.injEq] at h
      obtain⟨rfl,rfl⟩:=h
      cases o <;> simp only [okC] at hok <;> try (cases hok; done)
      simp only [VRp] at hvx
      obtain⟨ys,h1,h2⟩:=hvx
      simp only [Rp] at ho
      obtain⟨zs,h3,h4⟩:=ho
      have:zs = ys:=by rw [h1] at h3; simpa using h3.symm
      subst this
      simp only [cup]
      exact cupL_spec hr vs _ zs xs _ fo hx h2 hok (by simpa only [cids] using HB) h4
    · cases h
  | .tup vs,o,x,c,ids,fo,h,hvx,hok,HB,ho=>by
    simp only [hv] at h
    split at h
    · rename_i xs ids' hx
      simp only [Option.some.injEq,Prod.mk.injEq] at h
      obtain⟨rfl,rfl⟩:=h
      cases o <;> simp only [okC] at hok <;> try (cases hok; done)
      simp only [VRp] at hvx
      obtain⟨ys,h1,h2⟩:=hvx
      simp only [Rp] at ho
      obtain⟨zs,h3,h4⟩:=ho
      have:zs = ys:=by rw [h1] at h3; simpa using h3.symm
      subst this
      simp only [cup]
      exact cupL_spec hr vs _ zs xs _ fo hx h2 hok (by simpa only [cids] using HB) h4
    · cases h
  | .clo g vs,o,x,c,ids,fo,h,hvx,hok,HB,ho=>by
    simp only [hv] at h
    split at h
    · rename_i xs ids' hx
      simp only [Option.some.injEq,Prod.mk.injEq] at h
      obtain⟨rfl,rfl⟩:=h
      cases o <;> simp only [okC] at hok <;> try (cases hok; done)
      simp only [VRp] at hvx
      obtain⟨ys,h1,h2⟩:=hvx
      simp only [Rp] at ho
      obtain⟨zs,h3,h4⟩:=ho
      have:zs = ys:=by rw [h1] at h3; simp only [Value.func.injEq] at h3; simpa using h3.2.2.symm
      subst this
      simp only [cup]
      exact cupL_spec hr vs _ zs xs _ fo hx h2 hok (by simpa only [cids] using HB) h4
    · cases h
theorem cupL_spec {D:Data} {G:Glob} {st:St} {a:Act} {w w' : World} {J:Nat->Prop} (hr:Rep D G st a w) : ∀ (vs:List V) (os:List C) (xs:List Value) (cs:List C) (ids fo:List Nat),hvL st.σ vs = some (cs,ids)->VRpL w (Imm G st.σ D.fp w) D.M vs xs->okCL st.σ vs os = true->(∀ id ∈ cidsL vs,∀ l,D.M id = some l->l.nil = false->l.cap = l.len)->RpL w' J os xs fo->
    ∃ L,Laid w' J (cupL vs os) L/\(L.flatMap (·.2)).Sublist fo/\(∀ q ∈ locs (cupL vs os) L,D.M q.1 = some q.2)/\(cupL vs os).map (·.1) = ids
  | [],os,xs,cs,ids,fo,h,hvx,hok,HB,ho=>by
    simp only [hvL,Option.some.injEq,Prod.mk.injEq] at h
    obtain⟨rfl,rfl⟩:=h
    exact⟨[],by simp [cupL,Laid],by simp,by simp [cupL,locs],by simp [cupL]⟩
  | v :: vs,[],xs,cs,ids,fo,h,hvx,hok,HB,ho=>by simp [okCL] at hok
  | v :: vs,o :: os,xs,cs,ids,fo,h,hvx,hok,HB,ho=>by
    simp only [hvL] at h
    split at h
    · rename_i y i ys j h1 h2
      simp only [Option.some.injEq,Prod.mk.injEq] at h
      obtain⟨rfl,rfl⟩:=h
      simp only [okCL,Bool.and_eq_true] at hok
      simp only [VRpL] at hvx
      obtain⟨x,xs',rfl,e2,e3⟩:=hvx
      simp only [RpL] at ho
      obtain⟨x2,xs2,f,f',h4,rfl,h5,h6⟩:=ho
      obtain⟨rfl,rfl⟩:=List.cons.inj h4
      obtain⟨L1,a1,a2,a3,a4⟩:=cup_spec hr v o x y i f h1 e2 hok.1 (fun id hi=>HB id (by simp only [cidsL]; exact List.mem_append_left _ hi)) h5
      obtain⟨L2,b1,b2,b3,b4⟩:=cupL_spec hr vs os xs' ys j f' h2 e3 hok.2 (fun id hi=>HB id (by simp only [cidsL]; exact List.mem_append_right _ hi)) h6
      obtain⟨g1,g2⟩:=a1.append b1
      refine⟨L1 ++ L2,g1,by rw [List.flatMap_append]; exact a2.append b2,fun q hq=>?_,by simp only [cupL,List.map_append,a4,b4]⟩
      simp only [cupL] at hq
      rw [g2] at hq
      rcases List.mem_append.1 hq with hq | hq
      · exact a3 q hq
      · exact b3 q hq
    · cases h
end
def upσ (us:List (Nat × Ob)):List (Nat × Ob)->List (Nat × Ob)
  | []=>[]
  | p :: r=>(p.1,match lko p.1 us with | some ob=>ob | none=>p.2) :: upσ us r
theorem keys_upσ {us:List (Nat × Ob)} : ∀ {σ:List (Nat × Ob)},(upσ us σ).map (·.1) = σ.map (·.1)
  | []=>rfl
  | p :: r=>by simp [upσ,keys_upσ (σ:=r)]
theorem mem_upσ {us:List (Nat × Ob)} {p:Nat × Ob} : ∀ {σ:List (Nat × Ob)},p ∈ upσ us σ->p ∈ us\/(p ∈ σ/\p.1 ∉ us.map (·.1))
  | [],h=>by cases h
  | q :: r,h=>by
    simp only [upσ] at h
    rcases List.mem_cons.1 h with rfl | h
    · cases hl:lko q.1 us with
      | some ob=>exact .inl (mem_of_lko hl)
      | none=>
        refine .inr ⟨by simp,fun hm=>?_⟩
        have : ∀ (us:List (Nat × Ob)),q.1 ∈ us.map (·.1)->lko q.1 us≠none:=by
          intro us
          induction us with
          | nil=>intro h; cases h
          | cons u us ih=>
            intro h
            simp only [lko]
            cases hb:Nat.beq u.1 q.1 with
            | true=>simp
            | false=>
              simp only [List.map_cons] at h
              rcases List.mem_cons.1 h with h | h
              · exact absurd h.symm (Nat.ne_of_beq_eq_false hb)
              · exact ih h
        exact this us hm hl
    · rcases mem_upσ h with h | h
      · exact .inl h
      · exact .inr ⟨List.mem_cons_of_mem _ h.1,h.2⟩
section
variable {P:Program} {st:St} {ty:TypeId}
theorem Rep.growM {D:Data} {G:Glob} {a:Act} {w w' : World} (h:Rep D G st a w) {vs:List V} {cs outs:List C} {vals:List Value} {ids0 ids:List Nat} {x:Value} {r:C} {fz:List Nat} (hcl:hvL st.σ vs = some (cs,ids0)) (hnd0:ids0.Nodup) (hvals:VRpL w (Imm G st.σ D.fp w) D.M vs vals)
    (hok:okCL st.σ vs outs = true) (HB : ∀ id ∈ cidsL vs,∀ l,D.M id = some l->l.nil = false->l.cap = l.len) (hid:freshL st.σ ids = true) (hsz:w.heap.size<=w'.heap.size) (hkeep : ∀ b,b < w.heap.size->(∀ id ∈ ids0,b ∉ D.fp id)->w'.heap[b]? = w.heap[b]?) (hos:w'.os = w.os) (hta:w'.tape = w.tape) (hou:w'.output = w.output)
    (hc:RpL w' (fun b=>Imm G st.σ D.fp w b\/((b ∈ ids0.flatMap D.fp\/w.heap.size<=b)/\b < w'.heap.size/\b ∉ fz)) (r :: outs) (x :: vals) fz) (hfz:fz.Nodup) (hsub : ∀ b ∈ fz,b ∈ ids0.flatMap D.fp\/w.heap.size<=b) :
    ∃ D',Rep D' G ⟨(opn r ids).2.1 ++ upσ (cupL vs outs) st.σ,st.env,st.n⟩ a w'/\VRp w' (Imm G ((opn r ids).2.1 ++ upσ (cupL vs outs) st.σ) D'.fp w') D'.M (opn r ids).1 x/\
      Upd ids0 ids0 D w D' ⟨(opn r ids).2.1 ++ upσ (cupL vs outs) st.σ,st.env,st.n⟩ w':=by
  simp only [RpL] at hc
  obtain⟨x',vals',fr,fo,hx',rfl,hr,ho⟩:=hc
  obtain⟨rfl,rfl⟩:=List.cons.inj hx'
  obtain⟨hn1,hn2,hn3⟩:=List.nodup_append.1 hfz
  obtain⟨L1,e1,e2,e3,e4⟩:=opn_spec r ids x fr hr hn1
  obtain⟨L2,c1,c2,c3,c4⟩:=cupL_spec h vs outs vals cs ids0 fo hcl hvals hok HB ho
  obtain⟨g1,g2⟩:=e1.append c1
  obtain⟨hnd,hfresh⟩:=freshL_spec hid
  obtain⟨_,hin0⟩:=hvL_spec h vs vals cs ids0 hcl hvals
  have hkeys1:((opn r ids).2.1.map (·.1)).Nodup:=by rw [e4] at hnd; exact (List.nodup_append.1 hnd).1
  have hkf1 : ∀ p ∈ (opn r ids).2.1,∀ q ∈ st.σ,q.1≠p.1:=fun p hp q hq=>hfresh p.1 (by rw [e4]; exact List.mem_append_left _ (List.mem_map.2 ⟨p,hp,rfl⟩)) q hq
  have hup : ∀ p ∈ upσ (cupL vs outs) st.σ,p ∈ cupL vs outs\/(p ∈ st.σ/\p.1 ∉ ids0):=fun p hp=>by
    rcases mem_upσ hp with h1 | h1
    · exact .inl h1
    · exact .inr ⟨h1.1,by rw [<- c4]; exact h1.2⟩
  generalize hopn:(opn r ids).2.1 = os1 at *
  generalize hcup:cupL vs outs = os2 at *
  have hcupin : ∀ p ∈ os2,∃ q ∈ st.σ,q.1 = p.1:=fun p hp=>hin0 p.1 (by rw [<- c4]; exact List.mem_map.2 ⟨p,hp,rfl⟩)
  have hkeys:((os1 ++ os2).map (·.1)).Nodup:=by
    rw [List.map_append]
    refine List.nodup_append.2 ⟨hkeys1,by rw [c4]; exact hnd0,fun i hi j hj e=>?_⟩
    obtain⟨p,hp,rfl⟩:=List.mem_map.1 hi
    obtain⟨q,hq,rfl⟩:=List.mem_map.1 hj
    obtain⟨q',h1,h2⟩:=hcupin q hq
    exact hkf1 p hp q' h1 (h2.trans e.symm)
  obtain⟨Mn,fpn,f1,f2,f3⟩:=g1.find hkeys
  have hflat:((L1 ++ L2).flatMap (·.2)).Sublist (fr ++ fo):=by rw [List.flatMap_append]; exact e2.append c2
  have hLn:((L1 ++ L2).flatMap (·.2)).Nodup:=hflat.nodup hfz
  have hsubF : ∀ p ∈ os1 ++ os2,∀ b ∈ fpn p.1,b ∈ fr ++ fo:=fun p hp b hb=>by obtain⟨_,_,_,_,g⟩:=f2 p hp; exact hflat.subset (g.subset hb)
  let D' : Data:=⟨fun k=>if k ∈ (os1 ++ os2).map (·.1) then Mn k else D.M k,fun k=>if k ∈ (os1 ++ os2).map (·.1) then fpn k else D.fp k⟩
  have hin : ∀ p ∈ os1 ++ os2,p.1 ∈ (os1 ++ os2).map (·.1):=fun p hp=>List.mem_map.2 ⟨p,hp,rfl⟩
  have hMn : ∀ k,k ∈ (os1 ++ os2).map (·.1)->D'.M k = Mn k:=fun k hk=>if_pos hk
  have hMo : ∀ k,k ∉ (os1 ++ os2).map (·.1)->D'.M k = D.M k:=fun k hk=>if_neg hk
  have hFn : ∀ p ∈ os1 ++ os2,D'.fp p.1 = fpn p.1:=fun p hp=>if_pos (hin p hp)
  have hout : ∀ q ∈ st.σ,q.1 ∉ ids0->q.1 ∉ (os1 ++ os2).map (·.1):=fun q hq hq0 hm=>by
    rw [List.map_append,c4] at hm
    rcases List.mem_append.1 hm with hm | hm
    · obtain⟨p,hp,e⟩:=List.mem_map.1 hm; exact hkf1 p hp q hq e.symm
    · exact hq0 hm
  have hFo : ∀ q ∈ st.σ,q.1 ∉ ids0->D'.fp q.1 = D.fp q.1:=fun q hq hq0=>if_neg (hout q hq hq0)
  have hM : ∀ i l,D.M i = some l->D'.M i = some l:=fun i l hi=>by
    obtain⟨q,hq,rfl⟩:=h.key hi
    by_cases hq0:q.1 ∈ ids0
    · obtain⟨p,hp,hpe⟩:=List.mem_map.1 (by rw [c4]; exact hq0:q.1 ∈ os2.map (·.1))
      have hk:q.1 ∈ (os1 ++ os2).map (·.1):=by rw [List.map_append]; exact List.mem_append_right _ (List.mem_map.2 ⟨p,hp,hpe⟩)
      rw [hMn _ hk]
      obtain⟨l',d1,_⟩:=f2 p (List.mem_append_right _ hp)
      -- the place is that of before
      have : ∀ (os:List (Nat × Ob)) (L:List (Loc × List Nat)),Laid w' (fun b=>Imm G st.σ D.fp w b\/((b ∈ ids0.flatMap D.fp\/w.heap.size<=b)/\b < w'.heap.size/\b ∉ fr ++ fo)) os L->∀ p ∈ os,∃ l,(p.1,l) ∈ locs os L:=by
        intro os
        induction os with
        | nil=>intro L _ p hp; cases hp
        | cons o os ih=>
          intro L hL p hp
          simp only [Laid] at hL
          obtain⟨l0,f0,L',rfl,_,_,hL'⟩:=hL
          simp only [locs]
          rcases List.mem_cons.1 hp with rfl | hp
          · exact⟨l0,List.mem_cons_self⟩
          · obtain⟨l1,h1⟩:=ih L' hL' p hp; exact⟨l1,List.mem_cons_of_mem _ h1⟩
      obtain⟨l2,hl2⟩:=this os2 L2 c1 p hp
      have h4:=c3 _ hl2
      simp only at h4
      have h5:=f1 (p.1,l2) (by rw [g2]; exact List.mem_append_right _ hl2)
      simp only at h5
      rw [hpe] at h4 h5
      rw [h5,<- h4,hi]
    · rw [hMo _ (hout q hq hq0)]; exact hi
  have hI : ∀ b,Imm G st.σ D.fp w b->Imm G (os1 ++ upσ os2 st.σ) D'.fp w' b:=fun b hb=>⟨hb.1,by have:=hb.2.1; omega,fun p hp hbp=>by
    have hnew:p ∈ os1 ++ os2->False:=fun hp=>by
      rw [hFn p hp] at hbp
      rcases hsub b (hsubF p hp b hbp) with h1 | h1
      · obtain⟨i,hi,hbi⟩:=List.mem_flatMap.1 h1
        obtain⟨q,hq,rfl⟩:=hin0 i hi
        exact hb.2.2 q hq hbi
      · have:=hb.2.1; omega
    rcases List.mem_append.1 hp with hp | hp
    · exact hnew (List.mem_append_left _ hp)
    · rcases hup p hp with hp | ⟨hp,hp0⟩
      · exact hnew (List.mem_append_right _ hp)
      · rw [hFo p hp hp0] at hbp; exact hb.2.2 p hp hbp⟩
  have hIk : ∀ b,Imm G st.σ D.fp w b->w'.heap[b]? = w.heap[b]?:=fun b hb=>hkeep b hb.2.1 fun id hid hbid=>by
    obtain⟨q,hq,rfl⟩:=hin0 id hid
    exact hb.2.2 q hq hbid
  have hI2 : ∀ b,(Imm G st.σ D.fp w b\/((b ∈ ids0.flatMap D.fp\/w.heap.size<=b)/\b < w'.heap.size/\b ∉ fr ++ fo))->Imm G (os1 ++ upσ os2 st.σ) D'.fp w' b:=fun b hb=>by
    rcases hb with hb | ⟨h1,h2,h3⟩
    · exact hI b hb
    · refine⟨?_,h2,fun p hp hbp=>?_⟩
      · rcases h1 with h1 | h1
        · obtain⟨i,hi,hbi⟩:=List.mem_flatMap.1 h1
          obtain⟨q,hq,rfl⟩:=hin0 i hi
          exact .inr (h.own q hq b hbi)
        · exact .inr (.inr (by have:=h.size; omega))
      · have hnew:p ∈ os1 ++ os2->False:=fun hp=>by
          rw [hFn p hp] at hbp
          exact h3 (hsubF p hp b hbp)
        rcases List.mem_append.1 hp with hp | hp
        · exact hnew (List.mem_append_left _ hp)
        · rcases hup p hp with hp | ⟨hp,hp0⟩
          · exact hnew (List.mem_append_right _ hp)
          · rw [hFo p hp hp0] at hbp
            rcases h1 with h1 | h1
            · obtain⟨i,hi,hbi⟩:=List.mem_flatMap.1 h1
              obtain⟨q,hq,rfl⟩:=hin0 i hi
              exact h.disj2 q hq p hp (fun e=>hp0 (e ▸ hi)) b hbi hbp
            · have:=h.lt hp hbp; omega
  have hsubO : ∀ p ∈ os1 ++ os2,∀ b ∈ D'.fp p.1,b ∈ ids0.flatMap D.fp\/w.heap.size<=b:=fun p hp b hb=>by rw [hFn p hp] at hb; exact hsub b (hsubF p hp b hb)
  have hob : ∀ p ∈ os1 ++ os2,∃ l,D'.M p.1 = some l/\ObRp w' (Imm G (os1 ++ upσ os2 st.σ) D'.fp w') D'.M l p.2 (D'.fp p.1):=fun p hp=>by
    obtain⟨l,g1,g2,g3,_⟩:=f2 p hp
    refine⟨l,by rw [hMn _ (hin p hp)]; exact g1,?_⟩
    rw [hFn p hp]
    rcases g3 with g3 | ⟨k1,k2,vs,f,k3,k4,k5,k6⟩
    · exact .inl g3
    · exact .inr ⟨k1,k2,vs,f,k3,RpL.frame hI2 (fun _ _=>rfl) _ _ _ (fun _ _=>rfl) k4,k5,by rw [g2]; intro q hq; cases hq⟩
  have hmem : ∀ p ∈ os1 ++ upσ os2 st.σ,p ∈ os1 ++ os2\/(p ∈ st.σ/\p.1 ∉ ids0):=fun p hp=>by
    rcases List.mem_append.1 hp with hp | hp
    · exact .inl (List.mem_append_left _ hp)
    · rcases hup p hp with hp | hp
      · exact .inl (List.mem_append_right _ hp)
      · exact .inr hp
  have hdis : ∀ p ∈ os1 ++ os2,∀ q ∈ st.σ,q.1 ∉ ids0->∀ b ∈ D'.fp p.1,b ∉ D'.fp q.1:=fun p hp q hq hq0 b hb hb2=>by
    rw [hFo q hq hq0] at hb2
    rcases hsubO p hp b hb with h1 | h1
    · obtain⟨i,hi,hbi⟩:=List.mem_flatMap.1 h1
      obtain⟨q',hq',rfl⟩:=hin0 i hi
      exact h.disj2 q' hq' q hq (fun e=>hq0 (e ▸ hi)) b hbi hb2
    · have:=h.lt hq hb2; omega
  refine⟨D',⟨?_,?_,?_,?_,?_,?_,?_,?_,?_,hos.trans h.os,hta.trans h.tape,hou.trans h.output,h.ntmps,h.defers⟩,VRp.frame hI2 (fun _ _=>rfl) (fun _ _ h=>h) _ _ (e3 D'.M fun q hq=>by
      have hq':=f1 q (by rw [g2]; exact List.mem_append_left _ hq)
      have : ∀ (os:List (Nat × Ob)) (L:List (Loc × List Nat)),∀ q ∈ locs os L,q.1 ∈ os.map (·.1):=by
          intro os
          induction os with
          | nil=>intro L q hq; simp [locs] at hq
          | cons p r ih=>
            intro L q hq
            cases L with
            | nil=>simp [locs] at hq
            | cons s L=>
              simp only [locs] at hq
              rcases List.mem_cons.1 hq with rfl | hq
              · simp
              · rw [List.map_cons]; exact List.mem_cons_of_mem _ (ih L q hq)
      rw [hMn _ (by rw [List.map_append]; exact List.mem_append_left _ (this os1 L1 q hq))]; exact hq'),⟨hsz,fun b hb hn=>hkeep b hb hn,?_⟩⟩
  · intro p hp
    rcases hmem p hp with hp | ⟨hp,hp0⟩
    · exact hob p hp
    · obtain⟨l,g1,g2⟩:=h.obs p hp
      refine⟨l,hM _ _ g1,?_⟩
      rw [hFo p hp hp0]
      exact g2.frame hI hIk hM fun b hb=>hkeep b (h.lt hp hb) fun id hid hbid=>by
        obtain⟨q,hq,rfl⟩:=hin0 id hid
        exact h.disj2 p hp q hq (fun e=>hp0 (e.symm ▸ hid)) b hb hbid
  · intro i hi
    have h1 : ∀ p ∈ st.σ,p.1≠i:=fun p hp e=>by
      have:i ∈ (upσ os2 st.σ).map (·.1):=by rw [keys_upσ]; exact List.mem_map.2 ⟨p,hp,e⟩
      obtain⟨q,hq,e2⟩:=List.mem_map.1 this
      exact hi q (List.mem_append_right _ hq) e2
    have h2:i ∉ (os1 ++ os2).map (·.1):=fun hm=>by
      rw [List.map_append] at hm
      rcases List.mem_append.1 hm with hm | hm
      · obtain⟨p,hp,e⟩:=List.mem_map.1 hm; exact hi p (List.mem_append_left _ hp) e
      · obtain⟨p,hp,e⟩:=List.mem_map.1 hm
        obtain⟨q,hq,e2⟩:=hcupin p hp
        exact h1 q hq (e2.trans e)
    have h3:=h.dom i h1
    exact⟨by rw [hMo i h2]; exact h3.1,(if_neg h2).trans h3.2⟩
  · simp only [List.map_append]
    rw [keys_upσ]
    exact List.nodup_append.2 ⟨hkeys1,h.nodup,fun i hi j hj e=>by
      obtain⟨p,hp,rfl⟩:=List.mem_map.1 hi
      obtain⟨q,hq,e2⟩:=List.mem_map.1 hj
      exact hkf1 p hp q hq (e2.trans e.symm)⟩
  · intro p hp
    rcases hmem p hp with hp | ⟨hp,hp0⟩
    · rw [hFn p hp]; obtain⟨_,_,_,_,g⟩:=f2 p hp; exact (g.trans hflat).nodup hfz
    · rw [hFo p hp hp0]; exact h.disj1 p hp
  · intro p hp q hq hne b hb hb2
    rcases hmem p hp with hp | ⟨hp,hp0⟩
    · rcases hmem q hq with hq | ⟨hq,hq0⟩
      · rw [hFn p hp] at hb
        rw [hFn q hq] at hb2
        exact f3 hLn p hp q hq hne b hb hb2
      · exact hdis p hp q hq hq0 b hb hb2
    · rcases hmem q hq with hq | ⟨hq,hq0⟩
      · exact hdis q hq p hp hp0 b hb2 hb
      · rw [hFo p hp hp0] at hb
        rw [hFo q hq hq0] at hb2
        exact h.disj2 p hp q hq hne b hb hb2
  · intro i v hv
    obtain⟨y,g1,g2⟩:=h.env i v hv
    exact⟨y,g1,VRp.frame hI hIk hM _ _ g2⟩
  · intro p hp b hb
    rcases hmem p hp with hp | ⟨hp,hp0⟩
    · rcases hsubO p hp b hb with h1 | h1
      · obtain⟨i,hi,hbi⟩:=List.mem_flatMap.1 h1
        obtain⟨q,hq,rfl⟩:=hin0 i hi
        exact h.own q hq b hbi
      · exact .inr (by have:=h.size; omega)
    · rw [hFo p hp hp0] at hb; exact h.own p hp b hb
  · intro b hb hF
    rw [hkeep b (by have:=h.size; omega) fun id hid hbid=>by
      obtain⟨q,hq,rfl⟩:=hin0 id hid
      rcases h.own q hq b hbid with h1 | h1
      · exact hF h1
      · omega]
    exact h.frame b hb hF
  · have:=h.size; omega
  · intro p hp b hb hlt
    rcases hmem p hp with hp | ⟨hp,hp0⟩
    · rcases hsubO p hp b hb with h1 | h1
      · obtain⟨i,hi,hbi⟩:=List.mem_flatMap.1 h1
        exact .inr ⟨i,hi,hbi⟩
      · omega
    · rw [hFo p hp hp0] at hb; exact .inl hb
theorem ws_callM {fo:Operand} {xs:List Operand} {ats:Array TypeId} {fv:V} {f:Nat} {caps:List V} {vs:List V} {cs:List C} {Q:C->List C->Prop} {ids0 ids:List Nat} (hf:st.ev fo = some fv) (hfv:fv = .clo f caps\/(caps = []/\fv = .c (.clo f []))) (hx:evs st xs = some vs) (ha:hvL st.σ (vs ++ caps) = some (cs,ids0)) (hnd:nodupB ids0 = true)
    (hc:AM P f cs Q) (hbx:bxOk (cidsL (vs ++ caps)) st = true) (hid:freshL st.σ ids = true) {K:V->St->Prop} (h : ∀ r outs,Q r outs->okCL st.σ (vs ++ caps) outs = true/\K (opn r ids).1 ⟨(opn r ids).2.1 ++ upσ (cupL (vs ++ caps) outs) st.σ,st.env,st.n⟩):WS P ids0 ids0 (.call ⟨.value fo,xs.toArray,ats⟩) ty st K:=by
  intro D0 G a w hr0 dst pos after guard
  obtain⟨D,hr,hfp,HB⟩:=hr0.tight hbx
  have h1:=evs_sound hr xs vs hx
  have h2 : ∃ cv,a.eval fo = .func (.func f) #[] cv.toArray/\VRpL w (Imm G st.σ D.fp w) D.M caps cv:=by
    have h3:=hr.ev hf
    rcases hfv with rfl | ⟨rfl,rfl⟩
    · simp only [VRp] at h3; exact h3
    · simp only [VRp,Rp] at h3; obtain⟨cv,e1,e2⟩:=h3; simp only [RpL] at e2; obtain⟨rfl,_⟩:=e2; exact⟨[],e1,by simp [VRpL]⟩
  obtain⟨cv,h3,h4⟩:=h2
  have hrun:(execOp a.eval ⟨dst,.call ⟨.value fo,xs.toArray,ats⟩,ty,pos,after,guard⟩).run P w = .ok (.enter f (xs.map a.eval ++ cv).toArray) w:=by
    simp only [execOp,resolve,h3,Deferred.ofValue,Sem.run_bind,Sem.run_pure,Result.andThen_ok,invoke]
    rw [callFunc_run hc.ent]
    simp
  rw [hrun]
  have h5:VRpL w (Imm G st.σ D.fp w) D.M (vs ++ caps) (xs.map a.eval ++ cv):=by
    have : ∀ (vs:List V) (xs:List Value),VRpL w (Imm G st.σ D.fp w) D.M vs xs->VRpL w (Imm G st.σ D.fp w) D.M (vs ++ caps) (xs ++ cv):=by
      intro vs
      induction vs with
      | nil=>intro xs h; simp only [VRpL] at h; subst h; exact h4
      | cons v vs ih=>
        intro xs h
        simp only [VRpL,List.cons_append] at h ⊢
        obtain⟨x,xs',rfl,e2,e3⟩:=h
        exact⟨x,xs' ++ cv,rfl,e2,ih xs' e3⟩
    exact this _ _ h1
  obtain⟨h6,h7⟩:=hvL_spec hr _ _ cs ids0 ha h5
  have hnd0:=nodupB_spec hnd
  have hfn:(ids0.flatMap D.fp).Nodup:=flat_nodup hnd0 (fun i hi=>by obtain⟨p,hp,rfl⟩:=h7 i hi; exact hr.disj1 p hp) fun i hi j hj hij b hb=>by
    obtain⟨p,hp,rfl⟩:=h7 i hi
    obtain⟨q,hq,rfl⟩:=h7 j hj
    exact hr.disj2 p hp q hq hij b hb
  refine (hc.out w (Imm G st.σ D.fp w) _ (ids0.flatMap D.fp) (fun b hb=>hb.2.1) (fun b hb hI=>?_) hfn h6).mono fun e w' ⟨r,outs,x,fz,e1,e2,e3,e4,e5,e6,e7,e8,e9,e10⟩=>?_
  · obtain⟨i,hi,hbi⟩:=List.mem_flatMap.1 hb
    obtain⟨p,hp,rfl⟩:=h7 i hi
    exact hI.2.2 p hp hbi
  · obtain⟨k1,k2⟩:=h r outs e2
    obtain⟨D',g1,g2,g3⟩:=hr.growM ha hnd0 h5 k1 HB hid e6 (fun b hb hn=>e7 b hb fun hm=>by obtain⟨i,hi,hbi⟩:=List.mem_flatMap.1 hm; exact hn i hi hbi) e8 e9 e10 e3 e4 e5
    exact⟨x,e1,D',_,_,k2,g1,g2,⟨g3.size,by rw [<- hfp]; exact g3.keep,by rw [<- hfp]; exact g3.own⟩⟩
end
end Go.Proofs.YtjolbldlhjfciaaGreatDoor
