/- The value layer: values of array types with elements of one cell; no condition. -/
import Derived.Test.YtjolbldlhjfciaaGreatDoorWd
namespace Go.Proofs.YtjolbldlhjfciaaGreatDoor
section
variable {P:Program} {X:Option (List Nat)} {st:St} {ty:TypeId}
end
theorem rpL_ints {w:World} {I:Nat->Prop} : ∀ {l:List Int} {vs:List Value} {fp:List Nat},RpL w I (l.map ci) vs fp->vs = l.map (Value.int .i64)/\fp = []
  | [],vs,fp,h=>by simpa only [RpL,List.map_nil] using h
  | x :: l,vs,fp,h=>by
    simp only [RpL,List.map_cons,ci,Rp] at h
    obtain⟨v,vs',f,f',h1,h2,⟨h3,h4⟩,h5⟩:=h
    obtain⟨a,b⟩:=rpL_ints h5
    subst h1 h2 h3 h4 a b
    exact⟨rfl,rfl⟩
theorem rpL_ints' {w:World} {I:Nat->Prop} : ∀ (l:List Int),RpL w I (l.map ci) (l.map (Value.int .i64)) []
  | []=>by simp [RpL]
  | x :: l=>by
    simp only [RpL,List.map_cons,ci,Rp]
    exact⟨_,_,[],[],rfl,rfl,⟨rfl,rfl⟩,rpL_ints' l⟩
def IntsAt (w:World) (l:Loc) (x:List Int) (fp:List Nat):Prop:=
  (l.nil = true/\x = []/\fp = [])\/(l.nil = false/\l.len = x.length/\fp = [l.b]/\OwnAt w l.b l.off l.cap (x.map (Value.int .i64)))
theorem intsAt_ob {w:World} {I:Nat->Prop} {M:Nat->Option Loc} {l:Loc} {x:List Int} {fp:List Nat} : ObRp w I M l ⟨x.map ci,[]⟩ fp↔IntsAt w l x fp:=by
  constructor
  · rintro (⟨h1,h2,_,h4⟩ | ⟨h1,h2,vs,f,h3,h4,h5,_⟩)
    · exact .inl ⟨h1,by simpa using h2,h4⟩
    · obtain⟨rfl,rfl⟩:=rpL_ints h4
      exact .inr ⟨h1,by simpa using h2,h3,h5⟩
  · rintro (⟨h1,h2,h4⟩ | ⟨h1,h2,h3,h5⟩)
    · exact .inl ⟨h1,by simp [h2],rfl,h4⟩
    · exact .inr ⟨h1,by simpa using h2,_,[],h3,rpL_ints' x,h5,by intro q hq; cases hq⟩
def cu (x:Int):C:=.val (.int .u64 x)
def w64 (n:Int):Int:=IntKind.u64.wrap n
theorem w64_in (n:Int):0<=w64 n/\w64 n<=18446744073709551615:=by unfold w64; rw [IntKind.wrap_u64]; omega
section
variable {P:Program} {X:Option (List Nat)} {st:St} {ty:TypeId}
theorem ss_addU {T T' : TypeId} {x y:Operand} {u v:Int} (hx:st.ev x = some (.c (cu u))) (hy:st.ev y = some (.c (cu v))):SS P X (.binOp .add T x y T') ty st (.c (cu (w64 (u + v)))):=
  ss_bin (u:=.int .u64 u) (v:=.int .u64 v) (z:=.int .u64 (w64 (u + v))) hx hy (fun _ _=>eqGuard_add ..) fun w=>by rw [binOp_add]; simp [Op.intArith,w64]
theorem ss_mulU {T T' : TypeId} {x y:Operand} {u v:Int} (hx:st.ev x = some (.c (cu u))) (hy:st.ev y = some (.c (cu v))):SS P X (.binOp .mul T x y T') ty st (.c (cu (w64 (u * v)))):=
  ss_bin (u:=.int .u64 u) (v:=.int .u64 v) (z:=.int .u64 (w64 (u * v))) hx hy (fun _ _=>eqGuard_mul ..) fun w=>by rw [binOp_mul]; simp [Op.intArith,w64]
theorem ss_shrU {T T' : TypeId} {x y:Operand} {yk:IntKind} {u v:Int} (hx:st.ev x = some (.c (cu u))) (hy:st.ev y = some (.c (.val (.int yk v)))) (h:0<=u/\0<=v/\v<=62) :
    SS P X (.binOp .shr T x y T') ty st (.c (cu (u / (2:Int) ^ v.toNat))):=
  ss_bin (u:=.int .u64 u) (z:=.int .u64 (u / (2:Int) ^ v.toNat)) hx hy (fun _ _=>rfl) fun w=>by
    have e:min v.toNat IntKind.u64.bits = v.toNat:=by show min v.toNat 64 = v.toNat; omega
    simp only [binOp,Op.shift]
    rw [if_neg (by omega)]
    simp only [e,Int.fdiv_eq_ediv_of_nonneg u (Int.pow_nonneg (show (0:Int)<=2 by omega))]
    rfl
theorem bits_natU {u:Int} (h:0<=u/\u<=18446744073709551615):(BitVec.ofInt 64 u).toNat = u.toNat:=by
  rw [BitVec.toNat_ofInt]
  congr 1
  have:((2 ^ 64:Nat):Int) = 18446744073709551616:=by decide
  rw [this]; exact Int.emod_eq_of_lt h.1 (by omega)
theorem ss_andU {T T' : TypeId} {x y:Operand} {u v:Int} (hx:st.ev x = some (.c (cu u))) (hy:st.ev y = some (.c (cu v))) (h:(0<=u/\u<=18446744073709551615)/\0<=v/\v<=18446744073709551615) :
    SS P X (.binOp .and T x y T') ty st (.c (cu ((u.toNat &&& v.toNat:Nat):Int))):=
  ss_bin (u:=.int .u64 u) (v:=.int .u64 v) (z:=.int .u64 ((u.toNat &&& v.toNat:Nat):Int)) hx hy (fun _ _=>rfl) fun w=>by
    have hl:u.toNat &&& v.toNat<=u.toNat:=Nat.and_le_left
    have e2:(BitVec.ofInt IntKind.u64.bits u &&& BitVec.ofInt IntKind.u64.bits v).toNat = u.toNat &&& v.toNat:=by
      show (BitVec.ofInt 64 u &&& BitVec.ofInt 64 v).toNat = u.toNat &&& v.toNat
      rw [BitVec.toNat_and,bits_natU h.1,bits_natU h.2]
    have e3:IntKind.u64.wrap ((u.toNat &&& v.toNat:Nat):Int) = ((u.toNat &&& v.toNat:Nat):Int):=IntWalk.u64_in _ ⟨by omega,by omega⟩
    simp only [binOp,Op.intBits,e2,e3]
    rfl
end
def plugs (st:St):List V->List (Nat × Operand)->Option (List V)
  | l,[]=>some l
  | l,(i,o) :: r=>match st.ev o with
    | some v=>bif Nat.blt i l.length && v.one then plugs st (l.set i v) r else none
    | none=>none
def plugV (ev:Operand->Value):List Value->List (Nat × Operand)->List Value
  | l,[]=>l
  | l,(i,o) :: r=>plugV ev (l.set i (ev o)) r
section
variable {P:Program} {X:Option (List Nat)} {st:St} {ty:TypeId}
theorem vrpL_len {w:World} {I:Nat->Prop} {M:Nat->Option Loc} : ∀ {l:List V} {xs:List Value},VRpL w I M l xs->xs.length = l.length
  | [],xs,h=>by simp only [VRpL] at h; simp [h]
  | v :: l,xs,h=>by
    simp only [VRpL] at h
    obtain⟨x,xs',rfl,_,h3⟩:=h
    simp [vrpL_len h3]
theorem vrpL_set {w:World} {I:Nat->Prop} {M:Nat->Option Loc} {v:V} {x:Value} (hv:VRp w I M v x) : ∀ {l:List V} {xs:List Value} (i:Nat),VRpL w I M l xs->VRpL w I M (l.set i v) (xs.set i x)
  | [],xs,i,h=>by simp only [VRpL] at h; subst h; simp [VRpL]
  | u :: l,xs,0,h=>by
    simp only [VRpL] at h
    obtain⟨y,xs',rfl,h2,h3⟩:=h
    simp only [List.set_cons_zero,VRpL]
    exact⟨x,xs',rfl,hv,h3⟩
  | u :: l,xs,i + 1,h=>by
    simp only [VRpL] at h
    obtain⟨y,xs',rfl,h2,h3⟩:=h
    simp only [List.set_cons_succ,VRpL]
    exact⟨y,_,rfl,h2,vrpL_set hv i h3⟩
theorem plugs_sound {D:Data} {G:Glob} {a:Act} {w:World} (hr:Rep D G st a w) (n:Nat) : ∀ (ps:List (Nat × Operand)) (l vs:List V) (xs:List Value),plugs st l ps = some vs->VRpL w (Imm G st.σ D.fp w) D.M l xs->l.length = n->
    VRpL w (Imm G st.σ D.fp w) D.M vs (plugV a.eval xs ps)/\Instr.fill (fun i=>(((List.range n).map fun i=>(i,1)).toArray)[i]?) xs.toArray (ps.map fun p=>(p.1,a.eval p.2)) = some (plugV a.eval xs ps).toArray
  | [],l,vs,xs,h,hx,hn=>by
    simp only [plugs,Option.some.injEq] at h; subst h
    exact⟨hx,by simp [Instr.fill,plugV]⟩
  | (i,o) :: r,l,vs,xs,h,hx,hn=>by
    simp only [plugs] at h
    split at h
    · rename_i v hv
      cases hb:(Nat.blt i l.length && v.one) with
      | false=>rw [hb] at h; cases h
      | true=>
        rw [hb] at h
        simp only [cond_true] at h
        simp only [Bool.and_eq_true] at hb
        have hi:i < l.length:=Nat.le_of_ble_eq_true hb.1
        have hev:=hr.ev hv
        have hc:(a.eval o).cells = #[a.eval o]:=(one_spec hev hb.2).1
        obtain⟨q1,q2⟩:=plugs_sound hr n r (l.set i v) vs (xs.set i (a.eval o)) h (vrpL_set hev i hx) (by simp [hn])
        refine⟨q1,?_⟩
        have hl:=vrpL_len hx
        have hp:(((List.range n).map fun i=>(i,1)).toArray)[i]? = some (i,1):=by
          have:i < n:=by omega
          simp [this]
        simp only [List.map_cons,Instr.fill,hp,hc]
        rw [if_neg (by simp; omega)]
        have e:((#[a.eval o] : Array Value).zipIdx.foldl (fun cs (c,j)=>cs.setIfInBounds (i + j) c) xs.toArray) = (xs.set i (a.eval o)).toArray:=by simp
        simp only [e]
        exact q2
    · cases h
theorem ss_buildG {T:TypeId} {zs:List Value} [hT:BuT P T zs] {ps:List (Nat × Operand)} {vs:List V} (hp:plugs st (zs.map fun z=>V.c (.val z)) ps = some vs):SS P X (.build T ps.toArray) ty st (.agg vs):=fun D G a w hr=>by
  have hz:VRpL w (Imm G st.σ D.fp w) D.M (zs.map fun z=>V.c (.val z)) zs:=VRpL.vals zs
  obtain⟨q1,q2⟩:=plugs_sound hr zs.length ps _ vs zs hp hz (by simp)
  refine⟨.agg (plugV a.eval zs ps).toArray,by simp only [VRp]; exact⟨_,rfl,q1⟩,fun w' _ dst pos after guard=>?_⟩
  obtain⟨fs,h1,h2⟩:=build_places (P:=P) (T:=T) w'
  simp only [execOp,Instr.build,Sem.run_bind,build_zero (P:=P) (T:=T),Result.andThen_ok,run_underlying h1]
  rw [h2]
  simp only [Result.andThen_ok,Array.toList_map,Value.cells]
  rw [q2]
  rfl
end
def ren1 (a b i:Nat):Nat:=bif Nat.beq i a then b else i
mutual
def renV (a b:Nat):V->V
  | .c x=>.c x
  | .ref i=>.ref (ren1 a b i)
  | .cell i o=>.cell (ren1 a b i) o
  | .agg vs=>.agg (renVL a b vs)
  | .tup vs=>.tup (renVL a b vs)
  | .clo f vs=>.clo f (renVL a b vs)
def renVL (a b:Nat):List V->List V
  | []=>[]
  | v :: vs=>renV a b v :: renVL a b vs
end
def renOb (a b:Nat) (ob:Ob):Ob:=⟨ob.xs,ob.holes.map fun h=>(h.1,renV a b h.2)⟩
def renσ (a b:Nat) (σ:List (Nat × Ob)):List (Nat × Ob):=σ.map fun p=>(ren1 a b p.1,renOb a b p.2)
def renE (a b:Nat) (env:List (Nat × V)):List (Nat × V):=env.map fun p=>(p.1,renV a b p.2)
section
variable {st:St}
mutual
theorem VRp.ren {w:World} {I:Nat->Prop} {M M' : Nat->Option Loc} {a b:Nat} (hM : ∀ i l,M i = some l->M' (ren1 a b i) = some l) : ∀ (v:V) (x:Value),VRp w I M v x->VRp w I M' (renV a b v) x
  | .c c,x,h=>by simpa only [VRp,renV] using h
  | .ref i,x,h=>by simp only [VRp,renV] at h ⊢; obtain⟨l,h1,h2⟩:=h; exact⟨l,hM i l h1,h2⟩
  | .cell i o,x,h=>by simp only [VRp,renV] at h ⊢; obtain⟨l,h1,h2⟩:=h; exact⟨l,hM i l h1,h2⟩
  | .agg vs,x,h=>by simp only [VRp,renV] at h ⊢; obtain⟨xs,h1,h2⟩:=h; exact⟨xs,h1,VRpL.ren hM vs xs h2⟩
  | .tup vs,x,h=>by simp only [VRp,renV] at h ⊢; obtain⟨xs,h1,h2⟩:=h; exact⟨xs,h1,VRpL.ren hM vs xs h2⟩
  | .clo f vs,x,h=>by simp only [VRp,renV] at h ⊢; obtain⟨xs,h1,h2⟩:=h; exact⟨xs,h1,VRpL.ren hM vs xs h2⟩
theorem VRpL.ren {w:World} {I:Nat->Prop} {M M' : Nat->Option Loc} {a b:Nat} (hM : ∀ i l,M i = some l->M' (ren1 a b i) = some l) : ∀ (vs:List V) (xs:List Value),VRpL w I M vs xs->VRpL w I M' (renVL a b vs) xs
  | [],xs,h=>by simpa only [VRpL,renVL] using h
  | v :: vs,xs,h=>by
    simp only [VRpL,renVL] at h ⊢
    obtain⟨x,xs',h1,h2,h3⟩:=h
    exact⟨x,xs',h1,VRp.ren hM v x h2,VRpL.ren hM vs xs' h3⟩
end
theorem lk_renE {a b i:Nat} {v' : V} : ∀ {env:List (Nat × V)},lk i (renE a b env) = some v'->∃ v,lk i env = some v/\v' = renV a b v
  | [],h=>by cases h
  | (j,v) :: r,h=>by
    simp only [renE,List.map_cons,lk] at h ⊢
    cases hb:Nat.beq j i with
    | true=>rw [hb] at h; simp only [cond_true,Option.some.injEq] at h ⊢; exact⟨v,rfl,h.symm⟩
    | false=>rw [hb] at h; simp only [cond_false] at h ⊢; exact lk_renE h
theorem gh_ren {a b:Nat} (hb:fresh b st.σ = true) (hab:Nat.beq a b = false):Gh [a] st ⟨renσ a b st.σ,renE a b st.env,st.n⟩:=fun D G ac w hr=>by
  have hf:=fresh_spec hb
  have hne:a≠b:=fun h=>by subst h; simp at hab
  have hDb:=hr.dom b hf
  let D' : Data:=⟨fun i=>if i = b then D.M a else if i = a then none else D.M i,fun i=>if i = b then D.fp a else if i = a then [] else D.fp i⟩
  have hren : ∀ i,i≠b->D'.M (ren1 a b i) = D.M i/\D'.fp (ren1 a b i) = D.fp i:=fun i hi=>by
    by_cases h:i = a
    · subst h
      have:ren1 i b i = b:=by simp [ren1]
      rw [this]
      exact⟨if_pos rfl,if_pos rfl⟩
    · have:ren1 a b i = i:=by
        unfold ren1
        cases hh:Nat.beq i a with
        | true=>exact absurd (Nat.eq_of_beq_eq_true hh) h
        | false=>rfl
      rw [this]
      exact⟨by show (if i = b then _ else if i = a then none else D.M i) = _; rw [if_neg hi,if_neg h],by show (if i = b then _ else if i = a then [] else D.fp i) = _; rw [if_neg hi,if_neg h]⟩
  have hM : ∀ i l,D.M i = some l->D'.M (ren1 a b i) = some l:=fun i l hl=>by
    have hi:i≠b:=fun h=>by subst h; rw [hDb.1] at hl; cases hl
    rw [(hren i hi).1]; exact hl
  have hmem : ∀ {q:Nat × Ob},q ∈ renσ a b st.σ->∃ p ∈ st.σ,q = (ren1 a b p.1,renOb a b p.2):=fun h=>by
    obtain⟨p,hp,e⟩:=List.mem_map.1 h; exact⟨p,hp,e.symm⟩
  have hinj : ∀ p ∈ st.σ,∀ q ∈ st.σ,ren1 a b p.1 = ren1 a b q.1->p.1 = q.1:=fun p hp q hq e=>by
    have h1:=hf p hp; have h2:=hf q hq
    unfold ren1 at e
    cases c1:Nat.beq p.1 a <;> cases c2:Nat.beq q.1 a <;> rw [c1,c2] at e <;> simp only [cond_true,cond_false] at e
    · exact e
    · exact absurd e h1
    · exact absurd e.symm h2
    · rw [Nat.eq_of_beq_eq_true c1,Nat.eq_of_beq_eq_true c2]
  have hI:Imm G (renσ a b st.σ) D'.fp w = Imm G st.σ D.fp w:=by
    funext k
    unfold Imm
    have:(∀ p ∈ renσ a b st.σ,k ∉ D'.fp p.1)↔∀ p ∈ st.σ,k ∉ D.fp p.1:=⟨fun h p hp=>by
      have:=h _ (List.mem_map.2 ⟨p,hp,rfl⟩)
      rwa [(hren p.1 (hf p hp)).2] at this,fun h q hq=>by
      obtain⟨p,hp,rfl⟩:=hmem hq
      simp only
      rw [(hren p.1 (hf p hp)).2]; exact h p hp⟩
    rw [this]
  refine⟨D',⟨fun q hq=>?_,fun id hid=>?_,?_,fun q hq=>?_,fun q hq q2 hq2 hn=>?_,fun i v hv=>?_,fun q hq=>?_,hr.frame,hr.size,hr.os,hr.tape,hr.output,hr.ntmps,hr.defers⟩,fun q hq k hk=>?_⟩
  · obtain⟨p,hp,rfl⟩:=hmem hq
    obtain⟨l,hl,ho⟩:=hr.obs p hp
    simp only
    refine⟨l,hM _ _ hl,?_⟩
    rw [hI,(hren p.1 (hf p hp)).2]
    rcases ho with ⟨h1,h2,h3,h4⟩ | ⟨h1,h2,vs,f,h3,h4,h5,h6⟩
    · exact .inl ⟨h1,h2,by simp [renOb,h3],h4⟩
    · refine .inr ⟨h1,h2,vs,f,h3,h4,h5,fun g hg=>?_⟩
      obtain⟨g0,hg0,rfl⟩:=List.mem_map.1 hg
      obtain⟨x,e1,e2⟩:=h6 g0 hg0
      exact⟨x,e1,VRp.ren hM _ _ e2⟩
  · by_cases h1:id = b
    · subst h1
      have ha:=hr.dom a fun p hp e=>hid _ (List.mem_map.2 ⟨p,hp,rfl⟩) (by simp [ren1,e])
      exact⟨by show (if id = id then D.M a else _) = none; rw [if_pos rfl]; exact ha.1,by show (if id = id then D.fp a else _) = []; rw [if_pos rfl]; exact ha.2⟩
    · by_cases h2:id = a
      · exact⟨by show (if id = b then _ else if id = a then none else D.M id) = none; rw [if_neg h1,if_pos h2],by show (if id = b then _ else if id = a then [] else D.fp id) = []; rw [if_neg h1,if_pos h2]⟩
      · have hd:=hr.dom id fun p hp e=>hid _ (List.mem_map.2 ⟨p,hp,rfl⟩) (by
          show ren1 a b p.1 = id
          rw [e]; unfold ren1
          cases hh:Nat.beq id a with
          | true=>exact absurd (Nat.eq_of_beq_eq_true hh) h2
          | false=>rfl)
        exact⟨by show (if id = b then _ else if id = a then none else D.M id) = none; rw [if_neg h1,if_neg h2]; exact hd.1,by show (if id = b then _ else if id = a then [] else D.fp id) = []; rw [if_neg h1,if_neg h2]; exact hd.2⟩
  · show ((renσ a b st.σ).map (·.1)).Nodup
    unfold renσ
    rw [List.map_map]
    have:=hr.nodup
    unfold List.Nodup at this ⊢
    rw [List.pairwise_map] at this ⊢
    exact this.imp_of_mem fun hp hq hn e=>hn (hinj _ hp _ hq e)
  · obtain⟨p,hp,rfl⟩:=hmem hq
    simp only
    rw [(hren p.1 (hf p hp)).2]; exact hr.disj1 p hp
  · obtain⟨p,hp,rfl⟩:=hmem hq
    obtain⟨p2,hp2,rfl⟩:=hmem hq2
    simp only at hn ⊢
    rw [(hren p.1 (hf p hp)).2,(hren p2.1 (hf p2 hp2)).2]
    exact hr.disj2 p hp p2 hp2 fun e=>hn (by rw [e])
  · obtain⟨v0,h1,rfl⟩:=lk_renE hv
    obtain⟨x,h2,h3⟩:=hr.env i v0 h1
    rw [hI]
    exact⟨x,h2,VRp.ren hM _ _ h3⟩
  · obtain⟨p,hp,rfl⟩:=hmem hq
    simp only
    rw [(hren p.1 (hf p hp)).2]; exact hr.own p hp
  · obtain⟨p,hp,rfl⟩:=hmem hq
    simp only at hk ⊢
    rw [(hren p.1 (hf p hp)).2] at hk
    by_cases h:p.1 = a
    · exact .inr ⟨a,by simp,by rw [<- h]; exact hk⟩
    · have:ren1 a b p.1 = p.1:=by
        unfold ren1
        cases hh:Nat.beq p.1 a with
        | true=>exact absurd (Nat.eq_of_beq_eq_true hh) h
        | false=>rfl
      rw [this]; exact .inl hk
end
end Go.Proofs.YtjolbldlhjfciaaGreatDoor
