/- The abstract state of the value layer, what it says of a frame and a world, and the operations that leave the world alone; no condition. -/
import Derived.Test.YtjolbldlhjfciaaGreatDoorVa
namespace Go.Proofs.YtjolbldlhjfciaaGreatDoor
inductive V where
  | c (x:C)
  | ref (id:Nat)
  | cell (id off:Nat)
  | agg (vs:List V)
  | tup (vs:List V)
  | clo (f:Nat) (vs:List V)
structure Loc where
  b:Nat
  off:Nat
  len:Nat
  cap:Nat
  nil:Bool
def Loc.slice (l:Loc):Value:=if l.nil then .slice none 0 0 else .slice (some ⟨l.b,l.off,none⟩) l.len l.cap
mutual
def VRp (w:World) (I:Nat->Prop) (M:Nat->Option Loc):V->Value->Prop
  | .c x,v=>Rp w I x v []
  | .ref id,v=>∃ l,M id = some l/\v = l.slice
  | .cell id off,v=>∃ l,M id = some l/\l.nil = false/\v = .pointer (some ⟨l.b,l.off + off,none⟩)
  | .agg vs,v=>∃ xs,v = .agg xs.toArray/\VRpL w I M vs xs
  | .tup vs,v=>∃ xs,v = .tuple xs.toArray/\VRpL w I M vs xs
  | .clo f vs,v=>∃ xs,v = .func (.func f) #[] xs.toArray/\VRpL w I M vs xs
def VRpL (w:World) (I:Nat->Prop) (M:Nat->Option Loc):List V->List Value->Prop
  | [],xs=>xs = []
  | v :: vs,xs=>∃ x xs',xs = x :: xs'/\VRp w I M v x/\VRpL w I M vs xs'
end
mutual
theorem VRp.frame {w w' : World} {I I' : Nat->Prop} {M M' : Nat->Option Loc} (hI : ∀ b,I b->I' b) (hk : ∀ b,I b->w'.heap[b]? = w.heap[b]?) (hM : ∀ id l,M id = some l->M' id = some l) :
    ∀ (v:V) (x:Value),VRp w I M v x->VRp w' I' M' v x
  | .c c,x,h=>by simp only [VRp] at h ⊢; exact Rp.frame hI hk c x [] (by simp) h
  | .ref id,x,h=>by simp only [VRp] at h ⊢; obtain⟨l,h1,h2⟩:=h; exact⟨l,hM id l h1,h2⟩
  | .cell id off,x,h=>by simp only [VRp] at h ⊢; obtain⟨l,h1,h2⟩:=h; exact⟨l,hM id l h1,h2⟩
  | .agg vs,x,h=>by simp only [VRp] at h ⊢; obtain⟨xs,h1,h2⟩:=h; exact⟨xs,h1,VRpL.frame hI hk hM vs xs h2⟩
  | .tup vs,x,h=>by simp only [VRp] at h ⊢; obtain⟨xs,h1,h2⟩:=h; exact⟨xs,h1,VRpL.frame hI hk hM vs xs h2⟩
  | .clo f vs,x,h=>by simp only [VRp] at h ⊢; obtain⟨xs,h1,h2⟩:=h; exact⟨xs,h1,VRpL.frame hI hk hM vs xs h2⟩
theorem VRpL.frame {w w' : World} {I I' : Nat->Prop} {M M' : Nat->Option Loc} (hI : ∀ b,I b->I' b) (hk : ∀ b,I b->w'.heap[b]? = w.heap[b]?) (hM : ∀ id l,M id = some l->M' id = some l) :
    ∀ (vs:List V) (xs:List Value),VRpL w I M vs xs->VRpL w' I' M' vs xs
  | [],xs,h=>by simpa only [VRpL] using h
  | v :: vs,xs,h=>by
    simp only [VRpL] at h ⊢
    obtain⟨x,xs',h1,h2,h3⟩:=h
    exact⟨x,xs',h1,VRp.frame hI hk hM v x h2,VRpL.frame hI hk hM vs xs' h3⟩
end
structure Ob where
  xs:List C
  holes:List (Nat × V)
def HolesRp (w:World) (I:Nat->Prop) (M:Nat->Option Loc) (hs:List (Nat × V)) (vs:List Value):Prop:=
  ∀ h ∈ hs,∃ v,vs[h.1]? = some v/\VRp w I M h.2 v
def ObRp (w:World) (I:Nat->Prop) (M:Nat->Option Loc) (l:Loc) (ob:Ob) (fp:List Nat):Prop:=
  (l.nil = true/\ob.xs = []/\ob.holes = []/\fp = [])\/
  (l.nil = false/\l.len = ob.xs.length/\∃ vs f,fp = l.b :: f/\RpL w I ob.xs vs f/\OwnAt w l.b l.off l.cap vs/\HolesRp w I M ob.holes vs)
structure St where
  σ:List (Nat × Ob)
  env:List (Nat × V)
  n:Nat
structure Data where
  M:Nat->Option Loc
  fp:Nat->List Nat
structure Glob where
  w0:World
  F0:Nat->Prop
  I0:Nat->Prop
  gv:Nat->Option Value
  df:List Deferred
def slot (G:Glob) (n:Nat) (a:Act) (i:Nat):Option Value:=bif Nat.blt i n then a.tmps[i]? else G.gv i
def Imm (G:Glob) (σ:List (Nat × Ob)) (fp:Nat->List Nat) (w:World) (b:Nat):Prop:=(G.I0 b\/G.F0 b\/G.w0.heap.size<=b)/\b < w.heap.size/\∀ p ∈ σ,b ∉ fp p.1
def lk (d:Nat):List (Nat × V)->Option V
  | []=>none
  | (i,v) :: r=>bif Nat.beq i d then some v else lk d r
def lko (id:Nat):List (Nat × Ob)->Option Ob
  | []=>none
  | (i,ob) :: r=>bif Nat.beq i id then some ob else lko id r
structure Rep (D:Data) (G:Glob) (st:St) (a:Act) (w:World):Prop where
  obs : ∀ p ∈ st.σ,∃ l,D.M p.1 = some l/\ObRp w (Imm G st.σ D.fp w) D.M l p.2 (D.fp p.1)
  dom : ∀ id,(∀ p ∈ st.σ,p.1≠id)->D.M id = none/\D.fp id = []
  nodup:(st.σ.map (·.1)).Nodup
  disj1 : ∀ p ∈ st.σ,(D.fp p.1).Nodup
  disj2 : ∀ p ∈ st.σ,∀ q ∈ st.σ,p.1≠q.1->∀ b ∈ D.fp p.1,b ∉ D.fp q.1
  env : ∀ i v,lk i st.env = some v->∃ x,slot G st.n a i = some x/\VRp w (Imm G st.σ D.fp w) D.M v x
  own : ∀ p ∈ st.σ,∀ b ∈ D.fp p.1,G.F0 b\/G.w0.heap.size<=b
  frame : ∀ b,b < G.w0.heap.size->¬ G.F0 b->w.heap[b]? = G.w0.heap[b]?
  size:G.w0.heap.size<=w.heap.size
  os:w.os = G.w0.os
  tape:w.tape = G.w0.tape
  output:w.output = G.w0.output
  ntmps:a.tmps.size = st.n
  defers:a.defers = G.df
theorem mem_of_lk {d:Nat} {v:V} : ∀ {env:List (Nat × V)},lk d env = some v->(d,v) ∈ env
  | [],h=>by cases h
  | (pi,pv) :: r,h=>by
    unfold lk at h
    cases hb:Nat.beq pi d with
    | true=>
      rw [hb] at h
      simp only [cond_true,Option.some.injEq] at h
      have:pi = d:=Nat.eq_of_beq_eq_true hb
      subst this; subst h
      exact List.mem_cons_self
    | false=>rw [hb] at h; exact List.mem_cons_of_mem _ (mem_of_lk h)
theorem mem_of_lko {d:Nat} {v:Ob} : ∀ {σ:List (Nat × Ob)},lko d σ = some v->(d,v) ∈ σ
  | [],h=>by cases h
  | (pi,pv) :: r,h=>by
    unfold lko at h
    cases hb:Nat.beq pi d with
    | true=>
      rw [hb] at h
      simp only [cond_true,Option.some.injEq] at h
      have:pi = d:=Nat.eq_of_beq_eq_true hb
      subst this; subst h
      exact List.mem_cons_self
    | false=>rw [hb] at h; exact List.mem_cons_of_mem _ (mem_of_lko h)
def St.put (st:St) (d:Option Nat) (v:V):St:=
  match d with
  | some d=>⟨st.σ,(d,v) :: st.env,st.n⟩
  | none=>st
def St.ev (st:St):Operand->Option V
  | .tmp t=>bif Nat.blt t st.n then lk t st.env else none
  | .const v=>some (.c (.val v))
  | .func f=>some (.c (.clo f []))
  | .global _=>none
section
variable {D:Data} {G:Glob} {st:St} {a:Act} {w:World}
theorem Rep.ev (h:Rep D G st a w) {o:Operand} {v:V} (he:st.ev o = some v):VRp w (Imm G st.σ D.fp w) D.M v (a.eval o):=by
  cases o with
  | tmp t=>
    simp only [St.ev] at he
    cases hb:Nat.blt t st.n with
    | false=>rw [hb] at he; cases he
    | true=>
    rw [hb] at he
    obtain⟨x,h1,h2⟩:=h.env t v he
    rw [slot,hb] at h1
    simp only [cond_true] at h1
    have:a.eval (.tmp t) = x:=by simp only [Act.eval,Array.getD_eq_getD_getElem?]; rw [show a.tmps[t]? = some x from h1]; rfl
    rw [this]; exact h2
  | const v=>
    simp only [St.ev,Option.some.injEq] at he
    subst he
    simp [VRp,Rp,Act.eval]
  | func f=>
    simp only [St.ev,Option.some.injEq] at he
    subst he
    simp only [VRp,Rp,Act.eval]
    exact⟨[],rfl,by simp [RpL]⟩
  | global g=>cases he
theorem Rep.put (h:Rep D G st a w) {d:Option Nat} {v:V} {x:Value} (hd : ∀ k,d = some k->k < st.n) (hv:VRp w (Imm G st.σ D.fp w) D.M v x):Rep D G (st.put d v) (a.put d x) w:=by
  cases d with
  | none=>exact h
  | some d=>
    refine⟨h.obs,h.dom,h.nodup,h.disj1,h.disj2,?_,h.own,h.frame,h.size,h.os,h.tape,h.output,by simp [Act.put,h.ntmps,St.put],h.defers⟩
    intro i u hu
    have hdn:=hd d rfl
    simp only [St.put,lk] at hu
    cases hb:Nat.beq d i with
    | true=>
      rw [hb] at hu
      simp only [cond_true,Option.some.injEq] at hu
      have:d = i:=Nat.eq_of_beq_eq_true hb
      subst this; subst hu
      exact⟨x,by simp [slot,St.put,Act.put,h.ntmps,hdn,show Nat.blt d st.n = true by simpa using hdn],hv⟩
    | false=>
      rw [hb] at hu
      simp only [cond_false] at hu
      obtain⟨y,hy,hy2⟩:=h.env i u hu
      exact⟨y,by simp only [slot,Act.put] at hy ⊢; rw [Array.getElem?_setIfInBounds,if_neg (Nat.ne_of_beq_eq_false hb)]; exact hy,hy2⟩
end
def Agree (X:List Nat) (fp:Nat->List Nat) (w w' : World):Prop:=∀ b,b < w.heap.size->(∀ id ∈ X,b ∉ fp id)->w'.heap[b]? = w.heap[b]?
theorem Agree.refl (X:List Nat) (fp:Nat->List Nat) (w:World):Agree X fp w w:=fun _ _ _=>rfl
def AgreeO (X:Option (List Nat)) (fp:Nat->List Nat) (w w' : World):Prop:=∀ Y,X = some Y->Agree Y fp w w'
theorem AgreeO.refl (X:Option (List Nat)) (fp:Nat->List Nat) (w:World):AgreeO X fp w w:=fun Y _=>Agree.refl Y fp w
def SS (P:Program) (X:Option (List Nat)) (op:Op) (ty:TypeId) (st:St) (v:V):Prop:=
  ∀ (D:Data) (G:Glob) (a:Act) (w:World),Rep D G st a w->∃ x,VRp w (Imm G st.σ D.fp w) D.M v x/\
    ∀ w',AgreeO X D.fp w w'->∀ dst pos after guard,(execOp a.eval ⟨dst,op,ty,pos,after,guard⟩).run P w' = .ok (.value x) w'
class SlT (P:Program) (T:Nat):Prop where
  u:P.underlying T = some (.slice (P.elem T))
  s:(P.info? (P.elem T)).map (·.size) = some 1
class ElT (P:Program) (e:Nat) (z:outParam Value) (bytes:outParam Nat):Prop where
  i:(P.info? e).map (fun i=>(i.zero,i.size,i.bytes)) = some (some z,1,bytes)
  z1:z.cells = #[z]
  o:z.oneCell' = true
def aggB (P:Program) (T:Nat):Bool:=match P.underlying T with | some (.struct _) | some (.array _ _) | none=>true | _=>false
class PlT (P:Program) (T:Nat):Prop where
  p:aggB P T = false
theorem sizeOf_run {P:Program} {T n:Nat} (h:(P.info? T).map (·.size) = some n) (w:World):(sizeOf T).run P w = .ok n w:=by
  obtain⟨i,hi,rfl⟩:=Option.map_eq_some_iff.1 h
  simp [sizeOf,typeInfo,hi]
theorem isAgg_plain {P:Program} {T:Nat} (h:aggB P T = false) (w:World):(isAgg T).run P w = .ok false w:=by
  unfold aggB at h
  cases hu:P.underlying T with
  | none=>rw [hu] at h; cases h
  | some d=>rw [hu] at h; cases d <;> first | (simp at h; done) | simp [isAgg,run_underlying hu]
section
variable {P:Program} {X:Option (List Nat)} {st:St} {ty:TypeId}
theorem ss_move {x:Operand} {v:V} (h:st.ev x = some v):SS P X (.move x) ty st v:=fun _D _G a _w hr=>
  ⟨a.eval x,hr.ev h,fun _w' _ _dst _pos _after _guard=>rfl⟩
theorem ss_assign {x:Operand} {v:V} (h:st.ev x = some v):SS P X (.assign x) ty st v:=fun _D _G a _w hr=>
  ⟨a.eval x,hr.ev h,fun _w' _ _dst _pos _after _guard=>rfl⟩
theorem Rep.evVal {D:Data} {G:Glob} {a:Act} {w:World} (hr:Rep D G st a w) {x:Operand} {u:Value} (h:st.ev x = some (.c (.val u))):a.eval x = u:=by
  have:=hr.ev h
  simp only [VRp,Rp] at this
  exact this.1
theorem vrp_val (w:World) (I:Nat->Prop) (M:Nat->Option Loc) (u:Value):VRp w I M (.c (.val u)) u:=by simp [VRp,Rp]
theorem ss_bin {op:BinOp} {T T' : TypeId} {x y:Operand} {u v z:Value} (hx:st.ev x = some (.c (.val u))) (hy:st.ev y = some (.c (.val v)))
    (hg : ∀ o t,eqGuard op T o t u v = pure ()) (h : ∀ w,(binOp op T u v).run P w = .ok z w):SS P X (.binOp op T x y T') ty st (.c (.val z)):=fun D G a w hr=>
  ⟨z,vrp_val _ _ _ _,fun w' _ dst pos after guard=>by
    simp only [execOp,hr.evVal hx,hr.evVal hy,hg,Sem.run_bind,Sem.run_pure,Result.andThen_ok,h]⟩
theorem wrap_in {n:Int} (h0 : -9223372036854775808<=n) (h1:n<=9223372036854775807):IntKind.i64.wrap n = n:=IntWalk.i64_in n ⟨h0,h1⟩
theorem ss_add {T T' : TypeId} {x y:Operand} {u v:Int} (hx:st.ev x = some (.c (.val (.int .i64 u)))) (hy:st.ev y = some (.c (.val (.int .i64 v))))
    (h : -9223372036854775808<=u + v/\u + v<=9223372036854775807):SS P X (.binOp .add T x y T') ty st (.c (.val (.int .i64 (u + v)))):=
  ss_bin hx hy (fun _ _=>eqGuard_add ..) fun w=>by rw [binOp_add]; simp [Op.intArith,wrap_in h.1 h.2]
theorem ss_sub {T T' : TypeId} {x y:Operand} {u v:Int} (hx:st.ev x = some (.c (.val (.int .i64 u)))) (hy:st.ev y = some (.c (.val (.int .i64 v))))
    (h : -9223372036854775808<=u - v/\u - v<=9223372036854775807):SS P X (.binOp .sub T x y T') ty st (.c (.val (.int .i64 (u - v)))):=
  ss_bin hx hy (fun _ _=>eqGuard_sub ..) fun w=>by rw [binOp_sub]; simp [Op.intArith,wrap_in h.1 h.2]
theorem ss_mul {T T' : TypeId} {x y:Operand} {u v:Int} (hx:st.ev x = some (.c (.val (.int .i64 u)))) (hy:st.ev y = some (.c (.val (.int .i64 v))))
    (h : -9223372036854775808<=u * v/\u * v<=9223372036854775807):SS P X (.binOp .mul T x y T') ty st (.c (.val (.int .i64 (u * v)))):=
  ss_bin hx hy (fun _ _=>eqGuard_mul ..) fun w=>by rw [binOp_mul]; simp [Op.intArith,wrap_in h.1 h.2]
theorem ss_rem {T T' : TypeId} {x y:Operand} {u v:Int} (hx:st.ev x = some (.c (.val (.int .i64 u)))) (hy:st.ev y = some (.c (.val (.int .i64 v))))
    (h:0<=u/\0 < v):SS P X (.binOp .rem T x y T') ty st (.c (.val (.int .i64 (u % v)))):=
  ss_bin hx hy (fun _ _=>eqGuard_rem ..) fun w=>by
    rw [binOp_rem]; simp only [Op.intDiv]; rw [if_neg (by omega)]; simp [Int.tmod_eq_emod_of_nonneg h.1]
section
variable {k:IntKind} {T T' : TypeId} {x y:Operand} {u v:Int} (hx:st.ev x = some (.c (.val (.int k u)))) (hy:st.ev y = some (.c (.val (.int k v))))
include hx hy
theorem ss_lss:SS P X (.binOp .lss T x y T') ty st (.c (.val (.bool (decide (u < v))))):=ss_bin hx hy (fun _ _=>eqGuard_lss ..) fun w=>by rw [binOp_lss]; rfl
theorem ss_leq:SS P X (.binOp .leq T x y T') ty st (.c (.val (.bool (decide (u<=v))))):=ss_bin hx hy (fun _ _=>eqGuard_leq ..) fun w=>by rw [binOp_leq]; rfl
theorem ss_gtr:SS P X (.binOp .gtr T x y T') ty st (.c (.val (.bool (decide (v < u))))):=ss_bin hx hy (fun _ _=>eqGuard_gtr ..) fun w=>by rw [binOp_gtr]; rfl
theorem ss_geq:SS P X (.binOp .geq T x y T') ty st (.c (.val (.bool (decide (v<=u))))):=ss_bin hx hy (fun _ _=>eqGuard_geq ..) fun w=>by rw [binOp_geq]; rfl
theorem ss_eql:SS P X (.binOp .eql T x y T') ty st (.c (.val (.bool (decide (u = v))))):=
  ss_bin hx hy (fun _ _=>eqGuard_at_int ..) fun w=>by rw [binOp_eql]; rfl
theorem ss_neq:SS P X (.binOp .neq T x y T') ty st (.c (.val (.bool (!decide (u = v))))):=
  ss_bin hx hy (fun _ _=>eqGuard_at_int ..) fun w=>by rw [binOp_neq]; rfl
end
theorem ss_not {T:TypeId} {x:Operand} {b:Bool} (hx:st.ev x = some (.c (.val (.bool b)))):SS P X (.unOp .not T x) ty st (.c (.val (.bool (!b)))):=fun D G a w hr=>
  ⟨.bool (!b),vrp_val _ _ _ _,fun w' _ dst pos after guard=>by simp [execOp,hr.evVal hx,Op.unary]⟩
theorem run_len_any {T:TypeId} [hT:SlT P T] (base:Option Addr) (n c:Nat) (t:TypeId) (w:World):(Builtin.len_ #[T] t #[.slice base n c]).run P w = .ok (.int .i64 n) w:=
  run_len_slice w T t base n c hT.u
theorem exec_len {T:TypeId} [hT:SlT P T] {x:Operand} {a:Act} {base:Option Addr} {n c:Nat} (h:a.eval x = .slice base n c) (w' : World) (dst:Option Tmp) (pos:String) (after:Array Edge) (guard:Option (Nat × Bool)) :
    (execOp a.eval ⟨dst,.call ⟨.builtin .len,#[x],#[T]⟩,ty,pos,after,guard⟩).run P w' = .ok (.value (.int .i64 n)) w':=by
  simp [execOp,resolve,invoke,builtin,h,run_len_any]
theorem ss_len_lst {T:TypeId} [hT:SlT P T] {x:Operand} {xs:List C} (hx:st.ev x = some (.c (.lst xs))) :
    SS P X (.call ⟨.builtin .len,#[x],#[T]⟩) ty st (.c (.val (.int .i64 xs.length))):=fun D G a w hr=>by
  have h:=hr.ev hx
  simp only [VRp,Rp] at h
  obtain⟨_,b,cap,vs,h1,_,_⟩:=h
  exact⟨_,vrp_val _ _ _ _,fun w' _ dst pos after guard=>exec_len h1 w' dst pos after guard⟩
theorem Rep.ref {D:Data} {G:Glob} {a:Act} {w:World} (hr:Rep D G st a w) {x:Operand} {id:Nat} {ob:Ob} (h:st.ev x = some (.ref id)) (ho:lko id st.σ = some ob) :
    ∃ l,D.M id = some l/\a.eval x = l.slice/\ObRp w (Imm G st.σ D.fp w) D.M l ob (D.fp id):=by
  have h1:=hr.ev h
  simp only [VRp] at h1
  obtain⟨l,hl,hv⟩:=h1
  obtain⟨l',hl',hob⟩:=hr.obs _ (mem_of_lko ho)
  have:l' = l:=Option.some.inj (hl'.symm.trans hl)
  subst this
  exact⟨l',hl,hv,hob⟩
theorem ss_len_ref {T:TypeId} [hT:SlT P T] {x:Operand} {id:Nat} {ob:Ob} (hx:st.ev x = some (.ref id)) (ho:lko id st.σ = some ob) :
    SS P X (.call ⟨.builtin .len,#[x],#[T]⟩) ty st (.c (.val (.int .i64 ob.xs.length))):=fun D G a w hr=>by
  obtain⟨l,hl,hv,hob⟩:=hr.ref hx ho
  refine⟨_,vrp_val _ _ _ _,fun w' _ dst pos after guard=>?_⟩
  rcases hob with ⟨h1,h2,_⟩ | ⟨h1,h2,_⟩
  · rw [h2]; exact exec_len (base:=none) (n:=0) (c:=0) (by rw [hv,Loc.slice,h1]; rfl) w' dst pos after guard
  · rw [<- h2]; exact exec_len (base:=some ⟨l.b,l.off,none⟩) (n:=l.len) (c:=l.cap) (by rw [hv,Loc.slice,h1]; rfl) w' dst pos after guard
theorem exec_indexAddr {T:TypeId} [hT:SlT P T] {x i:Operand} {a:Act} {b off n c:Nat} {k:IntKind} {z:Int} (h:a.eval x = .slice (some ⟨b,off,none⟩) n c) (hi:a.eval i = .int k z) (h0:0<=z) (h1:z < n)
    (w' : World) (dst:Option Tmp) (pos:String) (after:Array Edge) (guard:Option (Nat × Bool)) :
    (execOp a.eval ⟨dst,.indexAddr T x i,ty,pos,after,guard⟩).run P w' = .ok (.value (.pointer (some ⟨b,off + z.toNat,none⟩))) w':=by
  simp only [execOp,h,hi,Sem.run_bind]
  rw [run_indexAt_slice w' T _ n c k z hT.u,if_pos ⟨h0,h1⟩,sizeOf_run hT.s]
  simp [Addr.add_lit]
theorem ss_indexAddr_lst {T:TypeId} [hT:SlT P T] {x i:Operand} {xs:List C} {k:IntKind} {z:Int} (hx:st.ev x = some (.c (.lst xs))) (hi:st.ev i = some (.c (.val (.int k z))))
    (h:0<=z/\z < xs.length):SS P X (.indexAddr T x i) ty st (.c (.ptr (xs.drop z.toNat))):=fun D G a w hr=>by
  have h1:=hr.ev hx
  simp only [VRp,Rp] at h1
  obtain⟨_,ad,cap,vs,h2,_,h3,h4⟩:=h1
  have hlen:=h3.length
  have hz:z.toNat < vs.length:=by rw [hlen]; omega
  obtain⟨b,off,e1,e2,e3⟩:=h4 z.toNat _ (List.getElem?_eq_getElem hz)
  subst e1
  refine⟨.pointer (some ⟨b,off + z.toNat,none⟩),?_,fun w' _ dst pos after guard=>exec_indexAddr h2 (hr.evVal hi) h.1 h.2 w' dst pos after guard⟩
  simp only [VRp,Rp]
  refine⟨trivial,b,off + z.toNat,vs.drop z.toNat,rfl,h3.drop _,?_⟩
  intro j v hv
  rw [List.getElem?_drop] at hv
  obtain⟨b',off',f1,f2,f3⟩:=h4 _ v hv
  simp only [Option.some.injEq,Addr.mk.injEq,and_true] at f1
  obtain⟨f4,f5⟩:=f1
  subst f4 f5
  exact⟨b,off + z.toNat,rfl,f2,by rw [<- f3.1,Nat.add_assoc],f3.2⟩
theorem ss_indexAddr_ref {T:TypeId} [hT:SlT P T] {x i:Operand} {id:Nat} {ob:Ob} {k:IntKind} {z:Int} (hx:st.ev x = some (.ref id)) (ho:lko id st.σ = some ob) (hi:st.ev i = some (.c (.val (.int k z))))
    (h:0<=z/\z < ob.xs.length):SS P X (.indexAddr T x i) ty st (.cell id z.toNat):=fun D G a w hr=>by
  obtain⟨l,hl,hv,hob⟩:=hr.ref hx ho
  rcases hob with ⟨h1,h2,_⟩ | ⟨h1,h2,_⟩
  · rw [h2] at h; simp at h; omega
  · refine⟨.pointer (some ⟨l.b,l.off + z.toNat,none⟩),?_,fun w' _ dst pos after guard=>exec_indexAddr (c:=l.cap) (by rw [hv,Loc.slice,h1]; rfl) (hr.evVal hi) h.1 (by rw [h2]; exact h.2) w' dst pos after guard⟩
    simp only [VRp]
    exact⟨l,hl,h1,rfl⟩
theorem exec_load {T:TypeId} [hT:PlT P T] {x:Operand} {a:Act} {ad:Addr} {v:Value} (h:a.eval x = .pointer (some ad)) {w' : World} (hc:w'.cell? ad = some v)
    (dst:Option Tmp) (pos:String) (after:Array Edge) (guard:Option (Nat × Bool)):(execOp a.eval ⟨dst,.load T x,ty,pos,after,guard⟩).run P w' = .ok (.value v) w':=by
  simp [execOp,h,Instr.loadAt,Instr.sureAddr,loadVar,isAgg_plain hT.p,hc]
theorem Rep.imm {D:Data} {G:Glob} {a:Act} {w:World} (hr:Rep D G st a w) {b:Nat} (hb:Imm G st.σ D.fp w b) (X:List Nat) : ∀ id ∈ X,b ∉ D.fp id:=fun id _=>by
  by_cases hid : ∃ p ∈ st.σ,p.1 = id
  · obtain⟨p,hp,rfl⟩:=hid
    exact hb.2.2 p hp
  · rw [(hr.dom id fun p hp e=>hid ⟨p,hp,e⟩).2]; simp
theorem Rep.apart {D:Data} {G:Glob} {a:Act} {w:World} (hr:Rep D G st a w) {p q:Nat × Ob} (hp:p ∈ st.σ) (hq:q ∈ st.σ) (hne:p.1≠q.1) {b:Nat} (hb:b ∈ D.fp p.1):b ∉ D.fp q.1:=
  hr.disj2 p hp q hq hne b hb
theorem Rep.ownX {D:Data} {G:Glob} {a:Act} {w:World} (hr:Rep D G st a w) {p:Nat × Ob} (hp:p ∈ st.σ) {b:Nat} (hb:b ∈ D.fp p.1) {X:List Nat} (hX:p.1 ∉ X) : ∀ id ∈ X,b ∉ D.fp id:=fun id hid=>by
  by_cases he : ∃ q ∈ st.σ,q.1 = id
  · obtain⟨q,hq,rfl⟩:=he
    exact hr.apart hp hq (fun e=>hX (by rw [e]; exact hid)) hb
  · rw [(hr.dom id fun p hp e=>he ⟨p,hp,e⟩).2]; simp
theorem ss_load_ptr {X:List Nat} {T:TypeId} [hT:PlT P T] {x:Operand} {cs:List C} {c0:C} (hx:st.ev x = some (.c (.ptr cs))) (h:cs.head? = some c0):SS P (some X) (.load T x) ty st (.c c0):=fun D G a w hr=>by
  have h1:=hr.ev hx
  simp only [VRp,Rp] at h1
  obtain⟨_,b,off,vs,h2,h3,h4⟩:=h1
  obtain⟨v,e1,e2⟩:=h3.get0 (i:=0) (x:=c0) (by rw [<- List.head?_eq_getElem?]; exact h)
  obtain⟨b',off',f1,f2,f3⟩:=h4 0 v e1
  simp only [Option.some.injEq,Addr.mk.injEq,and_true] at f1
  obtain⟨f4,f5⟩:=f1
  subst f4 f5
  refine⟨v,by simp only [VRp]; exact e2,fun w' hag dst pos after guard=>exec_load h2 ?_ dst pos after guard⟩
  rw [World.cell?_of_block (w:=w) (hag X rfl b f2.2.1 (hr.imm f2 X))]
  simpa using f3.1
mutual
def C.plain:C->Bool
  | .val _=>true
  | .hole=>true
  | .lst _=>true
  | .ptr _=>true
  | .agg xs=>plainL xs
  | .tup xs=>plainL xs
  | .clo _ xs=>plainL xs
  | .own _=>false
  | .obox _=>false
def plainL:List C->Bool
  | []=>true
  | x :: xs=>x.plain && plainL xs
end
mutual
theorem Rp.plain {w:World} {I:Nat->Prop} : ∀ (c:C) (v:Value) (f:List Nat),c.plain = true->Rp w I c v f->f = []
  | .val x,v,f,_,h=>by simp only [Rp] at h; exact h.2
  | .hole,v,f,_,h=>by simpa only [Rp] using h
  | .lst xs,v,f,_,h=>by simp only [Rp] at h; exact h.1
  | .ptr xs,v,f,_,h=>by simp only [Rp] at h; exact h.1
  | .agg xs,v,f,hp,h=>by simp only [Rp] at h; obtain⟨vs,_,h2⟩:=h; exact RpL.plain xs vs f (by simpa only [C.plain] using hp) h2
  | .tup xs,v,f,hp,h=>by simp only [Rp] at h; obtain⟨vs,_,h2⟩:=h; exact RpL.plain xs vs f (by simpa only [C.plain] using hp) h2
  | .clo _ xs,v,f,hp,h=>by simp only [Rp] at h; obtain⟨vs,_,h2⟩:=h; exact RpL.plain xs vs f (by simpa only [C.plain] using hp) h2
  | .own xs,v,f,hp,_=>by simp [C.plain] at hp
  | .obox xs,v,f,hp,_=>by simp [C.plain] at hp
theorem RpL.plain {w:World} {I:Nat->Prop} : ∀ (xs:List C) (vs:List Value) (f:List Nat),plainL xs = true->RpL w I xs vs f->f = []
  | [],vs,f,_,h=>by simp only [RpL] at h; exact h.2
  | x :: xs,vs,f,hp,h=>by
    simp only [RpL] at h
    obtain⟨v,vs',f1,f2,h1,h2,h3,h4⟩:=h
    simp only [plainL,Bool.and_eq_true] at hp
    rw [h2,Rp.plain x v f1 hp.1 h3,RpL.plain xs vs' f2 hp.2 h4]; rfl
end
theorem Rep.cell {D:Data} {G:Glob} {a:Act} {w:World} (hr:Rep D G st a w) {x:Operand} {id off:Nat} {ob:Ob} (h:st.ev x = some (.cell id off)) (ho:lko id st.σ = some ob) :
    ∃ l vs f,D.M id = some l/\l.nil = false/\a.eval x = .pointer (some ⟨l.b,l.off + off,none⟩)/\l.len = ob.xs.length/\D.fp id = l.b :: f/\
      RpL w (Imm G st.σ D.fp w) ob.xs vs f/\OwnAt w l.b l.off l.cap vs/\HolesRp w (Imm G st.σ D.fp w) D.M ob.holes vs:=by
  have h1:=hr.ev h
  simp only [VRp] at h1
  obtain⟨l,hl,hn,hv⟩:=h1
  obtain⟨l',hl',hob⟩:=hr.obs _ (mem_of_lko ho)
  have:l' = l:=Option.some.inj (hl'.symm.trans hl)
  subst this
  rcases hob with ⟨e1,_⟩ | ⟨_,e2,vs,f,e3,e4,e5,e6⟩
  · rw [hn] at e1; cases e1
  · exact⟨l',vs,f,hl,hn,hv,e2,e3,e4,e5,e6⟩
theorem ss_load_cell {X:List Nat} {T:TypeId} [hT:PlT P T] {x:Operand} {id off:Nat} {ob:Ob} {c0:C} (hx:st.ev x = some (.cell id off)) (ho:lko id st.σ = some ob) (h:ob.xs[off]? = some c0) (hp:c0.plain = true) (hX:id ∉ X) :
    SS P (some X) (.load T x) ty st (.c c0):=fun D G a w hr=>by
  obtain⟨l,vs,f,h1,h2,h3,h4,h5,h6,h7,h8⟩:=hr.cell hx ho
  obtain⟨v,g,e1,e2,e3⟩:=h6.get h
  have:=Rp.plain _ _ _ hp e3
  subst this
  refine⟨v,by simp only [VRp]; exact e3,fun w' hag dst pos after guard=>exec_load h3 ?_ dst pos after guard⟩
  rw [World.cell?_of_block (w:=w) (hag X rfl l.b h7.lt (hr.ownX (mem_of_lko ho) (by rw [h5]; exact List.mem_cons_self) hX))]
  exact h7.cell e1
theorem ss_load_hole {X:List Nat} {T:TypeId} [hT:PlT P T] {x:Operand} {id off:Nat} {ob:Ob} {v0:V} (hx:st.ev x = some (.cell id off)) (ho:lko id st.σ = some ob) (h:lk off ob.holes = some v0) (hX:id ∉ X) :
    SS P (some X) (.load T x) ty st v0:=fun D G a w hr=>by
  obtain⟨l,vs,f,h1,h2,h3,h4,h5,h6,h7,h8⟩:=hr.cell hx ho
  obtain⟨v,e1,e2⟩:=h8 _ (mem_of_lk h)
  refine⟨v,e2,fun w' hag dst pos after guard=>exec_load h3 ?_ dst pos after guard⟩
  rw [World.cell?_of_block (w:=w) (hag X rfl l.b h7.lt (hr.ownX (mem_of_lko ho) (by rw [h5]; exact List.mem_cons_self) hX))]
  exact h7.cell e1
class FaT (P:Program) (T k:Nat) (off:outParam Nat):Prop where
  f:(match P.underlying T with | some (.struct fs)=>(fs[k]?).map (fun x=>(x.offset,(P.info? x.type).map (·.size))) | _=>none) = some (off,some 1)
theorem exec_fieldAddr {T k off:Nat} [hT:FaT P T k off] {x:Operand} {a:Act} {b o:Nat} (h:a.eval x = .pointer (some ⟨b,o,none⟩)) (w' : World) (dst:Option Tmp) (pos:String) (after:Array Edge) (guard:Option (Nat × Bool)) :
    (execOp a.eval ⟨dst,.fieldAddr T x k,ty,pos,after,guard⟩).run P w' = .ok (.value (.pointer (some ⟨b,o + off,none⟩))) w':=by
  have hf:=hT.f
  split at hf
  · rename_i fs hu
    obtain⟨x',hx',hy⟩:=Option.map_eq_some_iff.1 hf
    simp only [Prod.mk.injEq] at hy
    obtain⟨h1,h2⟩:=hy
    simp [execOp,Instr.fieldAt,run_underlying hu,hx',h,Instr.sureAddr,fieldPlace,sizeOf_run h2,h1,Addr.add_lit]
  · cases hf
theorem ss_field_ptr {T k off:Nat} [hT:FaT P T k off] {x:Operand} {cs:List C} (hx:st.ev x = some (.c (.ptr cs))):SS P X (.fieldAddr T x k) ty st (.c (.ptr (cs.drop off))):=fun D G a w hr=>by
  have h1:=hr.ev hx
  simp only [VRp,Rp] at h1
  obtain⟨_,b,o,vs,h2,h3,h4⟩:=h1
  refine⟨.pointer (some ⟨b,o + off,none⟩),?_,fun w' _ dst pos after guard=>exec_fieldAddr h2 w' dst pos after guard⟩
  simp only [VRp,Rp]
  refine⟨trivial,b,o + off,vs.drop off,rfl,h3.drop _,?_⟩
  intro j v hv
  rw [List.getElem?_drop] at hv
  obtain⟨b',off',f1,f2,f3⟩:=h4 _ v hv
  simp only [Option.some.injEq,Addr.mk.injEq,and_true] at f1
  obtain⟨f4,f5⟩:=f1
  subst f4 f5
  exact⟨b,o + off,rfl,f2,by rw [<- f3.1,Nat.add_assoc],f3.2⟩
theorem ss_field_cell {T k off:Nat} [hT:FaT P T k off] {x:Operand} {id o:Nat} (hx:st.ev x = some (.cell id o)):SS P X (.fieldAddr T x k) ty st (.cell id (o + off)):=fun D G a w hr=>by
  have h1:=hr.ev hx
  simp only [VRp] at h1
  obtain⟨l,hl,hn,hv⟩:=h1
  refine⟨.pointer (some ⟨l.b,l.off + o + off,none⟩),?_,fun w' _ dst pos after guard=>exec_fieldAddr hv w' dst pos after guard⟩
  simp only [VRp]
  exact⟨l,hl,hn,by rw [Nat.add_assoc]⟩
class StT (P:Program) (T:Nat) (n:outParam Nat):Prop where
  u:(match P.underlying T with | some (.struct _)=>true | _=>false) = true
  s:(P.info? T).map (·.size) = some n
theorem exec_loadStruct {T n:Nat} [hT:StT P T n] {x:Operand} {a:Act} {b o:Nat} (h:a.eval x = .pointer (some ⟨b,o,none⟩)) {vs:List Value} {w' : World} (hl:vs.length = n) (hc : ∀ j v,vs[j]? = some v->w'.cell? ⟨b,o + j,none⟩ = some v)
    (dst:Option Tmp) (pos:String) (after:Array Edge) (guard:Option (Nat × Bool)):(execOp a.eval ⟨dst,.load T x,ty,pos,after,guard⟩).run P w' = .ok (.value (.agg vs.toArray)) w':=by
  have hu:=hT.u
  split at hu
  · rename_i fs hfs
    subst hl
    have:=run_loadCells_list (P:=P) (w:=w') ⟨b,o,none⟩ vs (fun j v hv=>by rw [Addr.add_lit]; exact hc j v hv)
    simp [execOp,h,Instr.loadAt,Instr.sureAddr,loadVar,isAgg,run_underlying hfs,sizeOf_run hT.s,this]
  · cases hu
theorem ss_load_struct {X:List Nat} {T n:Nat} [hT:StT P T n] {x:Operand} {cs:List C} (hx:st.ev x = some (.c (.ptr cs))) (hn:n<=cs.length):SS P (some X) (.load T x) ty st (.c (.agg (cs.take n))):=fun D G a w hr=>by
  have h1:=hr.ev hx
  simp only [VRp,Rp] at h1
  obtain⟨_,b,o,vs,h2,h3,h4⟩:=h1
  refine⟨.agg (vs.take n).toArray,by simp only [VRp,Rp]; exact⟨_,rfl,h3.take n⟩,fun w' hag dst pos after guard=>exec_loadStruct h2 (by rw [List.length_take,h3.length]; omega) ?_ dst pos after guard⟩
  intro j v hv
  obtain⟨b',off',f1,f2,f3⟩:=h4 j v (by rw [List.getElem?_take] at hv; split at hv; exact hv; cases hv)
  simp only [Option.some.injEq,Addr.mk.injEq,and_true] at f1
  obtain⟨f4,f5⟩:=f1
  subst f4 f5
  rw [World.cell?_of_block (w:=w) (hag X rfl b f2.2.1 (hr.imm f2 X))]
  exact f3.1
def cellV (ob:Ob) (j:Nat):Option V:=
  match lk j ob.holes with
  | some v=>some v
  | none=>match ob.xs[j]? with
    | some c=>bif c.plain then some (.c c) else none
    | none=>none
def cellsV (ob:Ob) (off:Nat):Nat->Option (List V)
  | 0=>some []
  | n + 1=>match cellV ob off,cellsV ob (off + 1) n with
    | some v,some vs=>some (v :: vs)
    | _,_=>none
theorem cellV_sound {w:World} {I:Nat->Prop} {M:Nat->Option Loc} {ob:Ob} {vs:List Value} {f:List Nat} (h:RpL w I ob.xs vs f) (hh:HolesRp w I M ob.holes vs) {j:Nat} {v:V} (hv:cellV ob j = some v) :
    ∃ x,vs[j]? = some x/\VRp w I M v x:=by
  unfold cellV at hv
  split at hv
  · rename_i v' hl
    simp only [Option.some.injEq] at hv
    subst hv
    exact hh _ (mem_of_lk hl)
  · split at hv
    · rename_i c hc
      cases hp:c.plain with
      | false=>rw [hp] at hv; cases hv
      | true=>
        rw [hp] at hv
        simp only [cond_true,Option.some.injEq] at hv
        subst hv
        obtain⟨x,g,e1,e2,e3⟩:=h.get hc
        have:=Rp.plain _ _ _ hp e3
        subst this
        exact⟨x,e1,by simp only [VRp]; exact e3⟩
    · cases hv
theorem cellsV_sound {w:World} {I:Nat->Prop} {M:Nat->Option Loc} {ob:Ob} {vs:List Value} {f:List Nat} (h:RpL w I ob.xs vs f) (hh:HolesRp w I M ob.holes vs) :
    ∀ (n off:Nat) (us:List V),cellsV ob off n = some us->∃ xs,xs.length = n/\VRpL w I M us xs/\∀ j x,xs[j]? = some x->vs[off + j]? = some x
  | 0,off,us,hu=>by simp only [cellsV,Option.some.injEq] at hu; subst hu; exact⟨[],rfl,by simp [VRpL],by simp⟩
  | n + 1,off,us,hu=>by
    unfold cellsV at hu
    split at hu
    · rename_i v us' hv hus
      simp only [Option.some.injEq] at hu
      subst hu
      obtain⟨x,e1,e2⟩:=cellV_sound h hh hv
      obtain⟨xs,g1,g2,g3⟩:=cellsV_sound h hh n (off + 1) us' hus
      refine⟨x :: xs,by simp [g1],by simp only [VRpL]; exact⟨x,xs,rfl,e2,g2⟩,?_⟩
      intro j y hj
      cases j with
      | zero=>simp only [List.getElem?_cons_zero,Option.some.injEq] at hj; subst hj; simpa using e1
      | succ j=>rw [List.getElem?_cons_succ] at hj; rw [show off + (j + 1) = off + 1 + j by omega]; exact g3 j y hj
    · cases hu
theorem ss_load_structCell {X:List Nat} {T n:Nat} [hT:StT P T n] {x:Operand} {id off:Nat} {ob:Ob} {us:List V} (hx:st.ev x = some (.cell id off)) (ho:lko id st.σ = some ob) (h:cellsV ob off n = some us) (hX:id ∉ X) :
    SS P (some X) (.load T x) ty st (.agg us):=fun D G a w hr=>by
  obtain⟨l,vs,f,h1,h2,h3,h4,h5,h6,h7,h8⟩:=hr.cell hx ho
  obtain⟨xs,e1,e2,e3⟩:=cellsV_sound h6 h8 n off us h
  refine⟨.agg xs.toArray,by simp only [VRp]; exact⟨xs,rfl,e2⟩,fun w' hag dst pos after guard=>exec_loadStruct h3 e1 ?_ dst pos after guard⟩
  intro j v hv
  rw [World.cell?_of_block (w:=w) (hag X rfl l.b h7.lt (hr.ownX (mem_of_lko ho) (by rw [h5]; exact List.mem_cons_self) hX)),Nat.add_assoc]
  exact h7.cell (e3 j v hv)
theorem VRpL.get {w:World} {I:Nat->Prop} {M:Nat->Option Loc} : ∀ {vs:List V} {xs:List Value} (_:VRpL w I M vs xs) {k:Nat} {v:V},vs[k]? = some v->∃ x,xs[k]? = some x/\VRp w I M v x
  | [],xs,_,k,v,hv=>by simp at hv
  | u :: vs,xs,h,k,v,hv=>by
    simp only [VRpL] at h
    obtain⟨x,xs',h1,h2,h3⟩:=h
    subst h1
    cases k with
    | zero=>simp only [List.getElem?_cons_zero,Option.some.injEq] at hv; subst hv; exact⟨x,by simp,h2⟩
    | succ k=>obtain⟨y,e1,e2⟩:=VRpL.get h3 (k:=k) (by simpa using hv); exact⟨y,by simpa using e1,e2⟩
theorem ss_extract {x:Operand} {vs:List V} {k:Nat} {v:V} (hx:st.ev x = some (.tup vs)) (hk:vs[k]? = some v):SS P X (.extract x k) ty st v:=fun D G a w hr=>by
  have h1:=hr.ev hx
  simp only [VRp] at h1
  obtain⟨xs,h2,h3⟩:=h1
  obtain⟨y,e1,e2⟩:=h3.get hk
  exact⟨y,e2,fun w' _ dst pos after guard=>by simp [execOp,h2,Instr.extract,e1]⟩
theorem ss_eql_nil {T T' : TypeId} [hT:SlT P T] {x y:Operand} {b:Option Addr} {n c n' c' : Nat} (hx:st.ev x = some (.c (.val (.slice b n c)))) (hy:st.ev y = some (.c (.val (.slice none n' c')))) :
    SS P X (.binOp .eql T x y T') ty st (.c (.val (.bool b.isNone))):=
  ss_bin hx hy (fun _ _=>eqGuard_at_slice ..) fun w=>by
    simp only [binOp]
    simp [Op.equal,Op.maxDepth,Lib.run_equalIn_slice_nil w 9999 T _ b n c n' c' hT.u]
theorem ss_eql_refNil {T T' : TypeId} [hT:SlT P T] {x y:Operand} {id:Nat} {ob:Ob} {n' c' : Nat} (hx:st.ev x = some (.ref id)) (ho:lko id st.σ = some ob) (hne:ob.xs.isEmpty = false) (hy:st.ev y = some (.c (.val (.slice none n' c')))) :
    SS P X (.binOp .eql T x y T') ty st (.c (.val (.bool false))):=fun D G a w hr=>by
  obtain⟨l,hl,hv,hob⟩:=hr.ref hx ho
  rcases hob with ⟨h1,h2,_⟩ | ⟨h1,h2,_⟩
  · rw [h2] at hne; cases hne
  · refine⟨.bool false,vrp_val _ _ _ _,fun w' _ dst pos after guard=>?_⟩
    have hv' : a.eval x = .slice (some ⟨l.b,l.off,none⟩) l.len l.cap:=by rw [hv,Loc.slice,h1]; rfl
    have hb:(binOp .eql T (.slice (some ⟨l.b,l.off,none⟩) l.len l.cap) (.slice none n' c')).run P w' = .ok (.bool false) w':=by
      simp only [binOp]
      simp [Op.equal,Op.maxDepth,Lib.run_equalIn_slice_nil w' 9999 T _ (some ⟨l.b,l.off,none⟩) l.len l.cap n' c' hT.u]
    simp only [execOp,hv',hr.evVal hy,eqGuard_at_slice,Sem.run_bind,Sem.run_pure,Result.andThen_ok,hb]
theorem exec_slice {T:TypeId} [hT:SlT P T] {x:Operand} {lo hi:Option Operand} {a:Act} {ba:Option Addr} {n c l h:Nat} (hx:a.eval x = .slice ba n c) (hlo : ∀ o,lo = some o->∃ k,a.eval o = .int k l) (hlo0:lo = none->l = 0)
    (hhi : ∀ o,hi = some o->∃ k,a.eval o = .int k h) (hhi0:hi = none->h = n) (h1:l<=h) (h2:h<=c) (w' : World) (dst:Option Tmp) (pos:String) (after:Array Edge) (guard:Option (Nat × Bool)) :
    (execOp a.eval ⟨dst,.slice T x lo hi none,ty,pos,after,guard⟩).run P w' = .ok (.value (.slice (if c = l then ba else ba.map (·.add l)) (h - l) (c - l))) w':=by
  simp only [execOp,hx,Sem.run_bind,run_sliceAt_slice _ _ _ _ _ _ hT.u]
  cases lo with
  | none=>
    obtain rfl:=hlo0 rfl
    cases hi with
    | none=>
      obtain rfl:=hhi0 rfl
      simp only [Option.map_none]
      rw [run_slice_all w' T ba h c hT.u,sizeOf_run hT.s]
      simp [sliced]
    | some o=>
      obtain⟨k,hk⟩:=hhi o rfl
      simp only [Option.map_none,Option.map_some,hk]
      rw [run_slice_h w' T ba n c hT.u k h (by omega) (by omega),sizeOf_run hT.s]
      simp [sliced]
  | some o1=>
    obtain⟨k1,hk1⟩:=hlo o1 rfl
    cases hi with
    | none=>
      obtain rfl:=hhi0 rfl
      simp only [Option.map_none,Option.map_some,hk1]
      rw [run_slice_l w' T ba h c hT.u k1 l (by omega) (by omega),sizeOf_run hT.s]
      simp [sliced]
    | some o=>
      obtain⟨k,hk⟩:=hhi o rfl
      simp only [Option.map_none,Option.map_some,hk,hk1]
      rw [run_slice_lh w' T ba n c hT.u k1 k l h (by omega) (by omega) (by omega),sizeOf_run hT.s]
      simp [sliced]
def bndV (st:St) (o:Option Operand) (dflt z:Int):Prop:=
  match o with
  | none=>z = dflt
  | some o=>∃ k,st.ev o = some (.c (.val (.int k z)))
theorem ss_slice_lst {T:TypeId} [hT:SlT P T] {x:Operand} {lo hi:Option Operand} {xs:List C} {l h:Int} (hx:st.ev x = some (.c (.lst xs))) (hlo:bndV st lo 0 l) (hhi:bndV st hi xs.length h)
    (hb:0<=l/\l<=h/\h<=xs.length):SS P X (.slice T x lo hi none) ty st (.c (.lst ((xs.take h.toNat).drop l.toNat))):=fun D G a w hr=>by
  have h1:=hr.ev hx
  simp only [VRp,Rp] at h1
  obtain⟨_,ba,cap,vs,h2,hcap,h3,h4⟩:=h1
  refine⟨_,?_,fun w' _ dst pos after guard=>exec_slice (l:=l.toNat) (h:=h.toNat) h2 ?_ ?_ ?_ ?_ (by omega) (by omega) w' dst pos after guard⟩
  · simp only [VRp,Rp]
    have hlen:((xs.take h.toNat).drop l.toNat).length = h.toNat - l.toNat:=by rw [List.length_drop,List.length_take]; omega
    refine⟨trivial,_,cap - l.toNat,(vs.take h.toNat).drop l.toNat,by rw [hlen],by rw [hlen]; omega,(h3.take _).drop _,?_⟩
    intro j v hv
    rw [List.getElem?_drop,List.getElem?_take] at hv
    split at hv
    · rename_i hj
      obtain⟨b',off',f1,f2,f3⟩:=h4 _ v hv
      refine⟨b',off' + l.toNat,?_,f2,by rw [<- f3.1,Nat.add_assoc],f3.2⟩
      rw [if_neg (by omega),f1]
      simp [Addr.add_lit]
    · cases hv
  · intro o ho; subst ho
    obtain⟨k,hk⟩:=hlo
    exact⟨k,by rw [hr.evVal hk]; congr 1; omega⟩
  · intro ho; subst ho; simp only [bndV] at hlo; omega
  · intro o ho; subst ho
    obtain⟨k,hk⟩:=hhi
    exact⟨k,by rw [hr.evVal hk]; congr 1; omega⟩
  · intro ho; subst ho; simp only [bndV] at hhi; omega
class StrT (P:Program) (T:Nat):Prop where
  u:P.underlying T = some .string
theorem ss_len_str {T:TypeId} [hT:StrT P T] {x:Operand} {s:ByteArray} (hx:st.ev x = some (.c (.val (.string s)))) :
    SS P X (.call ⟨.builtin .len,#[x],#[T]⟩) ty st (.c (.val (.int .i64 s.size))):=fun D G a w hr=>
  ⟨_,vrp_val _ _ _ _,fun w' _ dst pos after guard=>by simp [execOp,resolve,invoke,builtin,hr.evVal hx,Builtin.len_,run_underlying hT.u,goInt]⟩
theorem ss_min {x y:Operand} {u v:Int} {ts:Array TypeId} (hx:st.ev x = some (.c (.val (.int .i64 u)))) (hy:st.ev y = some (.c (.val (.int .i64 v)))) :
    SS P X (.call ⟨.builtin .min,#[x,y],ts⟩) ty st (.c (.val (.int .i64 (if v < u then v else u)))):=fun D G a w hr=>
  ⟨_,vrp_val _ _ _ _,fun w' _ dst pos after guard=>by simp [execOp,resolve,invoke,builtin,hr.evVal hx,hr.evVal hy,run_min_int2]⟩
theorem ss_max {x y:Operand} {u v:Int} {ts:Array TypeId} (hx:st.ev x = some (.c (.val (.int .i64 u)))) (hy:st.ev y = some (.c (.val (.int .i64 v)))) :
    SS P X (.call ⟨.builtin .max,#[x,y],ts⟩) ty st (.c (.val (.int .i64 (if v > u then v else u)))):=fun D G a w hr=>
  ⟨_,vrp_val _ _ _ _,fun w' _ dst pos after guard=>by simp [execOp,resolve,invoke,builtin,hr.evVal hx,hr.evVal hy,run_max_int2]⟩
class IntT (P:Program) (T:Nat) (k:outParam IntKind):Prop where
  u:P.underlying T = some (.int k)
theorem ss_convert {S T:TypeId} {k k' : IntKind} [hS:IntT P S k'] [hT:IntT P T k] {x:Operand} {n:Int} (hx:st.ev x = some (.c (.val (.int k' n)))) (hw:k.wrap n = n) :
    SS P X (.convert S T x) ty st (.c (.val (.int k n))):=fun D G a w hr=>
  ⟨_,vrp_val _ _ _ _,fun w' _ dst pos after guard=>by
    simp [execOp,hr.evVal hx,convert,run_underlying hS.u,run_underlying hT.u,Conv.intToInt,hw]⟩
theorem ss_nilCheck_cell {x:Operand} {id off:Nat} (hx:st.ev x = some (.cell id off)):SS P X (.nilCheck x) ty st (.cell id off):=fun D G a w hr=>by
  have h1:=hr.ev hx
  have h0:=h1
  simp only [VRp] at h1
  obtain⟨l,hl,hn,hv⟩:=h1
  exact⟨a.eval x,h0,fun w' _ dst pos after guard=>by simp [execOp,hv]⟩
def evs (st:St):List Operand->Option (List V)
  | []=>some []
  | o :: os=>match st.ev o,evs st os with
    | some v,some vs=>some (v :: vs)
    | _,_=>none
theorem evs_sound {D:Data} {G:Glob} {a:Act} {w:World} (hr:Rep D G st a w) : ∀ (os:List Operand) (vs:List V),evs st os = some vs->VRpL w (Imm G st.σ D.fp w) D.M vs (os.map a.eval)
  | [],vs,h=>by simp only [evs,Option.some.injEq] at h; subst h; simp [VRpL]
  | o :: os,vs,h=>by
    unfold evs at h
    split at h
    · rename_i v vs' h1 h2
      simp only [Option.some.injEq] at h
      subst h
      simp only [VRpL,List.map_cons]
      exact⟨_,_,rfl,hr.ev h1,evs_sound hr os vs' h2⟩
    · cases h
theorem ss_makeFunc {f:Nat} {os:List Operand} {vs:List V} (h:evs st os = some vs):SS P X (.makeFunc (.func f) #[] os.toArray) ty st (.clo f vs):=fun D G a w hr=>
  ⟨_,by simp only [VRp]; exact⟨_,rfl,evs_sound hr os vs h⟩,fun w' _ dst pos after guard=>by simp [execOp,Instr.makeFunc]⟩
end
end Go.Proofs.YtjolbldlhjfciaaGreatDoor
