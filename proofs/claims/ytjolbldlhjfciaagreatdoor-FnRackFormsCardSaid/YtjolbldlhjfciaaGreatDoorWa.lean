/- The value layer, for walks printed by program: lists of one kind, weakening, calls that keep what they are handed, loops; no condition. -/
import Derived.Test.YtjolbldlhjfciaaGreatDoorVn
namespace Go.Proofs.YtjolbldlhjfciaaGreatDoor
def el {α:Type} [Inhabited α] (l:List α) (i:Int):α:=l.getD i.toNat default
def se {α:Type} (l:List α) (i:Int) (v:α):List α:=l.set i.toNat v
def sl {α:Type} (l:List α) (i j:Int):List α:=(l.take j.toNat).drop i.toNat
@[simp] theorem length_se {α:Type} (l:List α) (i:Int) (v:α):(se l i v).length = l.length:=by simp [se]
theorem bnot_t {b:Bool} (h:(!b) = true):b = false:=by simpa using h
theorem bnot_f {b:Bool} (h:(!b) = false):b = true:=by simpa using h
theorem el_get {α:Type} [Inhabited α] {l:List α} {i:Int} (h:0<=i/\i < (l.length:Int)):l[i.toNat]? = some (el l i):=by
  have:i.toNat < l.length:=by omega
  simp [el,List.getElem?_eq_getElem this,List.getD_eq_getElem?_getD]
theorem map_get {α:Type} [Inhabited α] {f:α->C} {l:List α} {i:Int} (h:0<=i/\i < (l.length:Int)):(l.map f)[i.toNat]? = some (f (el l i)):=by
  rw [List.getElem?_map,el_get h]; rfl
theorem map_hd {α:Type} [Inhabited α] {f:α->C} {l:List α} {i:Int} (h:0<=i/\i < (l.length:Int)):((l.map f).drop i.toNat).head? = some (f (el l i)):=by
  rw [List.head?_drop]; exact map_get h
theorem map_bd {α:Type} {f:α->C} {l:List α} {i:Int} (h:0<=i/\i < (l.length:Int)):0<=i/\i < ((l.map f).length:Int):=by simpa using h
theorem map_lt {α:Type} {f:α->C} {l:List α} {i:Int} (h:0<=i/\i < (l.length:Int)):i.toNat < (l.map f).length:=by simp; omega
theorem map_se {α:Type} {f:α->C} {l:List α} {i:Int} {v:α} : (l.map f).set i.toNat (f v) = (se l i v).map f:=by simp [se]
section
variable {P:Program} {X:Option (List Nat)} {st:St} {ty:TypeId}
theorem ss_idxL {α:Type} {T:TypeId} [hT:SlT P T] {x i:Operand} {f:α->C} {l:List α} {k:IntKind} {z:Int} (hx:st.ev x = some (.c (.lst (l.map f)))) (hi:st.ev i = some (.c (.val (.int k z))))
    (h:0<=z/\z < (l.length:Int)):SS P X (.indexAddr T x i) ty st (.c (.ptr ((l.map f).drop z.toNat))):=ss_indexAddr_lst hx hi (map_bd h)
theorem ss_idxR {α:Type} {T:TypeId} [hT:SlT P T] {x i:Operand} {id:Nat} {f:α->C} {l:List α} {hs:List (Nat × V)} {k:IntKind} {z:Int} (hx:st.ev x = some (.ref id)) (ho:lko id st.σ = some ⟨l.map f,hs⟩) (hi:st.ev i = some (.c (.val (.int k z))))
    (h:0<=z/\z < (l.length:Int)):SS P X (.indexAddr T x i) ty st (.cell id z.toNat):=ss_indexAddr_ref hx ho hi (map_bd h)
theorem ss_loadL {α:Type} [Inhabited α] {Y:List Nat} {T:TypeId} [hT:PlT P T] {x:Operand} {f:α->C} {l:List α} {z:Int} (hx:st.ev x = some (.c (.ptr ((l.map f).drop z.toNat)))) (h:0<=z/\z < (l.length:Int)) :
    SS P (some Y) (.load T x) ty st (.c (f (el l z))):=ss_load_ptr hx (map_hd h)
theorem ss_loadR {α:Type} [Inhabited α] {Y:List Nat} {T:TypeId} [hT:PlT P T] {x:Operand} {id:Nat} {f:α->C} {l:List α} {hs:List (Nat × V)} {z:Int} (hx:st.ev x = some (.cell id z.toNat)) (ho:lko id st.σ = some ⟨l.map f,hs⟩)
    (h:0<=z/\z < (l.length:Int)) (hp:(f (el l z)).plain = true) (hX:memN id Y = false):SS P (some Y) (.load T x) ty st (.c (f (el l z))):=
  ss_load_cell hx ho (map_get h) hp (fun hm=>by rw [memN_spec.2 hm] at hX; cases hX)
theorem ss_loadC {Y:List Nat} {T:TypeId} [hT:PlT P T] {x:Operand} {id off:Nat} {ob:Ob} {c0:C} (hx:st.ev x = some (.cell id off)) (ho:lko id st.σ = some ob) (h:ob.xs[off]? = some c0) (hp:c0.plain = true) (hX:memN id Y = false) :
    SS P (some Y) (.load T x) ty st (.c c0):=ss_load_cell hx ho h hp (fun hm=>by rw [memN_spec.2 hm] at hX; cases hX)
theorem ss_loadH {Y:List Nat} {T:TypeId} [hT:PlT P T] {x:Operand} {id off:Nat} {ob:Ob} {v0:V} (hx:st.ev x = some (.cell id off)) (ho:lko id st.σ = some ob) (h:lk off ob.holes = some v0) (hX:memN id Y = false) :
    SS P (some Y) (.load T x) ty st v0:=ss_load_hole hx ho h (fun hm=>by rw [memN_spec.2 hm] at hX; cases hX)
theorem ss_loadS {Y:List Nat} {T n:Nat} [hT:StT P T n] {x:Operand} {id off:Nat} {ob:Ob} {us:List V} (hx:st.ev x = some (.cell id off)) (ho:lko id st.σ = some ob) (h:cellsV ob off n = some us) (hX:memN id Y = false) :
    SS P (some Y) (.load T x) ty st (.agg us):=ss_load_structCell hx ho h (fun hm=>by rw [memN_spec.2 hm] at hX; cases hX)
theorem ss_lenL {α:Type} {T:TypeId} [hT:SlT P T] {x:Operand} {f:α->C} {l:List α} (hx:st.ev x = some (.c (.lst (l.map f)))) :
    SS P X (.call ⟨.builtin .len,#[x],#[T]⟩) ty st (.c (ci l.length)):=by
  have:=ss_len_lst (P:=P) (X:=X) (T:=T) (ty:=ty) hx
  rwa [List.length_map] at this
theorem ss_lenR {α:Type} {T:TypeId} [hT:SlT P T] {x:Operand} {id:Nat} {f:α->C} {l:List α} {hs:List (Nat × V)} (hx:st.ev x = some (.ref id)) (ho:lko id st.σ = some ⟨l.map f,hs⟩) :
    SS P X (.call ⟨.builtin .len,#[x],#[T]⟩) ty st (.c (ci l.length)):=by
  have:=ss_len_ref (P:=P) (X:=X) (T:=T) (ty:=ty) hx ho
  simp only [List.length_map] at this
  exact this
theorem ss_slL {α:Type} {T:TypeId} [hT:SlT P T] {x:Operand} {lo hi:Option Operand} {f:α->C} {l:List α} {a b:Int} (hx:st.ev x = some (.c (.lst (l.map f)))) (hlo:bndV st lo 0 a) (hhi:bndV st hi l.length b)
    (hb:0<=a/\a<=b/\b<=(l.length:Int)):SS P X (.slice T x lo hi none) ty st (.c (.lst ((sl l a b).map f))):=by
  have:=ss_slice_lst (P:=P) (X:=X) (T:=T) (ty:=ty) (l:=a) (h:=b) (lo:=lo) (hi:=hi) hx hlo (by rw [List.length_map]; exact hhi) (by rw [List.length_map]; exact hb)
  rw [<- List.map_take,<- List.map_drop] at this
  exact this
class BoT (P:Program) (T:Nat):Prop where
  u:P.underlying T = some .bool
theorem eqIn_bool {T:TypeId} [hT:BoT P T] (d:Nat) (u v:Bool) (w:World):(Op.equalIn (d + 1) T (.bool u) (.bool v)).run P w = .ok (u == v) w:=by
  simp [Op.equalIn,run_underlying hT.u]
theorem ss_neqB {T T' : TypeId} [hT:BoT P T] {x y:Operand} {u v:Bool} (hx:st.ev x = some (.c (.val (.bool u)))) (hy:st.ev y = some (.c (.val (.bool v)))) :
    SS P X (.binOp .neq T x y T') ty st (.c (cb (!(u == v)))):=
  ss_bin hx hy (fun _ _=>eqGuard_at_bool ..) fun w=>by simp only [binOp]; simp [Op.equal,Op.maxDepth,eqIn_bool 9999 u v w]
theorem ws_storeE {T:TypeId} {p x:Operand} {id off:Nat} {xs ys:List C} {hs hs' : List (Nat × V)} {c:C} [hS:SzT P T 1] (hp:st.ev p = some (.cell id off)) (ho:lko id st.σ = some ⟨xs,hs⟩) (hlt:off < xs.length) (hx:st.ev x = some (.c c)) (h1:(V.c c).one = true)
    (hy:xs.set off c = ys) (hh:rmH off hs = hs') {K:V->St->Prop} (h:K (.c .hole) ⟨so id ⟨ys,hs'⟩ st.σ,st.env,st.n⟩):WS P [id] [] (.store T p x) ty st K:=by
  subst hy; subst hh
  exact ws_store hp ho hlt hx h1 h
theorem ws_storeV {T:TypeId} {p x:Operand} {id off:Nat} {xs ys:List C} {hs hs' : List (Nat × V)} {v:V} [hS:SzT P T 1] (hp:st.ev p = some (.cell id off)) (ho:lko id st.σ = some ⟨xs,hs⟩) (hlt:off < xs.length) (hx:st.ev x = some v) (h1:v.one = true)
    (hy:xs.set off v.closed = ys) (hh:v.holeAt off ++ rmH off hs = hs') {K:V->St->Prop} (h:K (.c .hole) ⟨so id ⟨ys,hs'⟩ st.σ,st.env,st.n⟩):WS P [id] [] (.store T p x) ty st K:=by
  subst hy; subst hh
  exact ws_store hp ho hlt hx h1 h
theorem ws_app1 {α:Type} {T:TypeId} [hT:SlT P T] {z:Value} {bytes:Nat} [hE:ElT P (P.elem T) z bytes] {s x:Operand} {id id2:Nat} (f:α->C) {l m:List α}
    (hs:st.ev s = some (.ref id)) (ho:lko id st.σ = some ⟨l.map f,[]⟩) (hx:st.ev x = some (.ref id2)) (ho2:lko id2 st.σ = some ⟨m.map f,[]⟩) (hne:Nat.beq id2 id = false) (hb:bytes<=1000) (hlen:(l.length:Int) + m.length<=1000000000)
    {K:V->St->Prop} (h:K (.ref id) ⟨mo id ⟨(l ++ m).map f,[]⟩ [id,id2] [id2] st.σ,killE [id,id2] st.env,st.n⟩):WS P [id] [id2] (.call ⟨.builtin .append,#[s,x],#[T,T]⟩) ty st K:=
  ws_append_ref hs ho rfl hx ho2 rfl hne hb (by simp; omega) (by simp only []; rw [<- List.map_append]; exact h)
theorem ws_appL {α:Type} {T:TypeId} [hT:SlT P T] {z:Value} {bytes:Nat} [hE:ElT P (P.elem T) z bytes] {s x:Operand} {id:Nat} (f:α->C) {l m:List α}
    (hs:st.ev s = some (.ref id)) (ho:lko id st.σ = some ⟨l.map f,[]⟩) (hx:st.ev x = some (.c (.lst (m.map f)))) (hb:bytes<=1000) (hlen:(l.length:Int) + m.length<=1000000000)
    {K:V->St->Prop} (h:K (.ref id) ⟨mo id ⟨(l ++ m).map f,[]⟩ [id] [] st.σ,killE [id] st.env,st.n⟩):WS P [id] [] (.call ⟨.builtin .append,#[s,x],#[T,T]⟩) ty st K:=
  ws_append_lst hs ho rfl hx hb (by simp; omega) (by simp only []; rw [<- List.map_append]; exact h)
theorem ws_mk {α:Type} {T:TypeId} {x y:Operand} {n:Int} {k:IntKind} [hT:SlT P T] {z:Value} {bytes:Nat} [hE:ElT P (P.elem T) z bytes] (f:α->C) (d:α) (hx:st.ev x = some (.c (.val (.int k n)))) (hy:st.ev y = some (.c (.val (.int k n))))
    (hd:C.val z = f d) (hn:0<=n/\n<=1000000000) (hb:bytes<=1000) {id:Nat} (hid:fresh id st.σ = true) {K:V->St->Prop}
    (h:K (.ref id) ⟨(id,⟨(List.replicate n.toNat d).map f,[]⟩) :: st.σ,st.env,st.n⟩):WS P [] [] (.makeSlice T x y) ty st K:=
  ws_makeSlice hx hy hn hb hid (by rw [hd,<- List.map_replicate]; exact h)
end
def cle (c c' : C):Prop:=∀ (w:World) (I:Nat->Prop) (v:Value) (f:List Nat),Rp w I c v f->Rp w I c' v f
def cleL (cs cs' : List C):Prop:=cs.length = cs'.length/\∀ (w:World) (I:Nat->Prop) (vs:List Value) (f:List Nat),RpL w I cs vs f->RpL w I cs' vs f
theorem cle_refl (c:C):cle c c:=fun _ _ _ _ h=>h
theorem cleL_refl (cs:List C):cleL cs cs:=⟨rfl,fun _ _ _ _ h=>h⟩
theorem cle_nilO:cle cnil (.own []):=fun w I v f h=>by simp only [Rp] at h ⊢; exact .inl ⟨trivial,h.1,h.2⟩
theorem cle_nilL:cle cnil (.lst []):=fun w I v f h=>by
  simp only [Rp] at h ⊢
  exact⟨h.2,none,0,[],h.1,by simp,by simp [RpL],by intro i v hv; simp at hv⟩
theorem cleL_nil:cleL [] []:=cleL_refl _
theorem cleL_cons {c c' : C} {cs cs' : List C} (h:cle c c') (hs:cleL cs cs'):cleL (c :: cs) (c' :: cs'):=⟨by simp [hs.1],fun w I vs f h1=>by
  simp only [RpL] at h1 ⊢
  obtain⟨v,vs',f1,f2,e1,e2,e3,e4⟩:=h1
  exact⟨v,vs',f1,f2,e1,e2,h _ _ _ _ e3,hs.2 _ _ _ _ e4⟩⟩
theorem cle_agg {cs cs' : List C} (h:cleL cs cs'):cle (.agg cs) (.agg cs'):=fun w I v f h1=>by
  simp only [Rp] at h1 ⊢
  obtain⟨vs,e1,e2⟩:=h1
  exact⟨vs,e1,h.2 _ _ _ _ e2⟩
theorem cle_tup {cs cs' : List C} (h:cleL cs cs'):cle (.tup cs) (.tup cs'):=fun w I v f h1=>by
  simp only [Rp] at h1 ⊢
  obtain⟨vs,e1,e2⟩:=h1
  exact⟨vs,e1,h.2 _ _ _ _ e2⟩
theorem cleL_rep {c c' : C} (h:cle c c') : ∀ n:Nat,cleL (List.replicate n c) (List.replicate n c')
  | 0=>cleL_refl _
  | n + 1=>by rw [List.replicate_succ,List.replicate_succ]; exact cleL_cons h (cleL_rep h n)
theorem AF.weak {P:Program} {f:Nat} {args args' : List C} {Q:C->Prop} (h:AF P f args' Q) (hc:cleL args args'):AF P f args Q:=
  ⟨h.ent,fun w I vals hI hv=>h.out w I vals hI (hc.2 _ _ _ _ hv)⟩
theorem AF.le {P:Program} {f:Nat} {args:List C} {Q Q' : C->Prop} (h:AF P f args Q) (hq : ∀ r,Q r->∃ r',cle r r'/\Q' r'):AF P f args Q':=
  ⟨h.ent,fun w I vals hI hv=>(h.out w I vals hI hv).mono fun _ _ ⟨r,x,fr,h1,h2,h3,h4⟩=>let ⟨r',k1,k2⟩:=hq r h2; ⟨r',x,fr,h1,k2,k1 _ _ _ _ h3,h4⟩⟩
def WQ (Q:C->Prop) (r:C):Prop:=∃ r',cle r r'/\Q r'
theorem AF.ofWQ {P:Program} {f:Nat} {args:List C} {Q:C->Prop} (h:AF P f args (WQ Q)):AF P f args Q:=h.le fun _ h=>h
theorem WQ.mk {Q:C->Prop} {r:C} (h:Q r):WQ Q r:=⟨r,cle_refl r,h⟩
section
variable {st:St}
theorem gh_weak {id:Nat} {xs ys:List C} {hs hs' : List (Nat × V)} (ho:lko id st.σ = some ⟨xs,hs⟩) (hc:cleL xs ys) (hh : ∀ q ∈ hs',q ∈ hs):Gh [] st ⟨so id ⟨ys,hs'⟩ st.σ,st.env,st.n⟩:=fun D G a w hr=>by
  obtain⟨l,hl,hob⟩:=hr.obs _ (mem_of_lko ho)
  simp only at hl hob
  have hsz : ∀ b,b < w.heap.size->b ∉ D.fp id->w.heap[b]? = w.heap[b]?:=fun _ _ _=>rfl
  obtain⟨D',r1,r2,r3,r4,r5,r6⟩:=hr.mod (id:=id) (ob:=⟨xs,hs⟩) (ob':=⟨ys,hs'⟩) (l:=l) (l':=l) (w':=w) (F:=D.fp id) (ids:=[]) (drop:=[]) ho hl (by simp) (by simp) (.inl rfl)
    (Nat.le_refl _) rfl rfl rfl hsz (hr.disj1 _ (mem_of_lko ho)) (fun b hb=>.inl hb) (by
      intro I' hI' M' hM'
      rcases hob with ⟨h1,h2,h3,h4⟩ | ⟨h1,h2,vs,f,h3,h4,h5,h6⟩
      · simp only at h2 h3
        subst h2; subst h3
        refine .inl ⟨h1,List.eq_nil_of_length_eq_zero (by rw [<- hc.1]; rfl),?_,h4⟩
        cases hs' with
        | nil=>rfl
        | cons q r=>exact absurd (hh q List.mem_cons_self) (by simp)
      · refine .inr ⟨h1,by rw [h2]; exact hc.1,vs,f,h3,hc.2 _ _ _ _ (RpL.frame hI' (fun _ _=>rfl) _ _ _ (fun _ _=>rfl) h4),h5,fun q hq=>?_⟩
        obtain⟨v,g1,g2⟩:=h6 q (hh q hq)
        exact⟨v,g1,VRp.frameM hI' (fun _ _=>rfl) _ _ (fun i _ m hm=>hM' i m (by simp) hm) g2⟩)
  rw [mo_nil,killE_nil] at r1 r3
  refine⟨D',r1,fun p hp b hb=>?_⟩
  rcases r3.own p hp b hb (r1.lt hp hb) with h | ⟨i,hi,_⟩
  · exact .inl h
  · cases hi
end
mutual
def C.slf:C->Bool
  | .val _ | .hole=>true
  | .agg xs | .tup xs | .clo _ xs | .own xs | .obox xs=>slfL xs
  | .lst _ | .ptr _=>false
def slfL:List C->Bool
  | []=>true
  | x :: xs=>x.slf && slfL xs
end
theorem slfL_map {α:Type} {f:α->C} (h : ∀ x,(f x).slf = true) : ∀ l:List α,slfL (l.map f) = true
  | []=>rfl
  | x :: l=>by simp [slfL,h x,slfL_map h l]
mutual
theorem Rp.slf {w:World} {I I' : Nat->Prop} : ∀ (c:C) (v:Value) (f:List Nat),c.slf = true->Rp w I c v f->Rp w I' c v f
  | .val x,v,f,_,h=>by simpa only [Rp] using h
  | .hole,v,f,_,h=>by simpa only [Rp] using h
  | .lst xs,v,f,hp,_=>by simp [C.slf] at hp
  | .ptr xs,v,f,hp,_=>by simp [C.slf] at hp
  | .own xs,v,f,hp,h=>by
    simp only [Rp] at h ⊢
    rcases h with h | ⟨b,off,cap,vs,g,h1,h2,h3,h4⟩
    · exact .inl h
    · exact .inr ⟨b,off,cap,vs,g,h1,h2,RpL.slf xs vs g (by simpa only [C.slf] using hp) h3,h4⟩
  | .obox xs,v,f,hp,h=>by
    simp only [Rp] at h ⊢
    obtain⟨b,off,cap,vs,g,h1,h2,h3,h4⟩:=h
    exact⟨b,off,cap,vs,g,h1,h2,RpL.slf xs vs g (by simpa only [C.slf] using hp) h3,h4⟩
  | .agg xs,v,f,hp,h=>by simp only [Rp] at h ⊢; obtain⟨vs,h1,h2⟩:=h; exact⟨vs,h1,RpL.slf xs vs f (by simpa only [C.slf] using hp) h2⟩
  | .tup xs,v,f,hp,h=>by simp only [Rp] at h ⊢; obtain⟨vs,h1,h2⟩:=h; exact⟨vs,h1,RpL.slf xs vs f (by simpa only [C.slf] using hp) h2⟩
  | .clo _ xs,v,f,hp,h=>by simp only [Rp] at h ⊢; obtain⟨vs,h1,h2⟩:=h; exact⟨vs,h1,RpL.slf xs vs f (by simpa only [C.slf] using hp) h2⟩
theorem RpL.slf {w:World} {I I' : Nat->Prop} : ∀ (xs:List C) (vs:List Value) (f:List Nat),slfL xs = true->RpL w I xs vs f->RpL w I' xs vs f
  | [],vs,f,_,h=>by simpa only [RpL] using h
  | x :: xs,vs,f,hp,h=>by
    simp only [slfL,Bool.and_eq_true] at hp
    simp only [RpL] at h ⊢
    obtain⟨v,vs',f1,f2,e1,e2,h3,h4⟩:=h
    exact⟨v,vs',f1,f2,e1,e2,Rp.slf x v f1 hp.1 h3,RpL.slf xs vs' f2 hp.2 h4⟩
end
theorem fz_nil:frzL [] = []:=rfl
theorem fz_cons {x y:C} {xs ys:List C} (h:x.frz = y) (hs:frzL xs = ys):frzL (x :: xs) = y :: ys:=by simp [frzL,h,hs]
theorem fz_agg {xs ys:List C} (h:frzL xs = ys):(C.agg xs).frz = .agg ys:=by simp [C.frz,h]
theorem fz_own {xs ys:List C} (h:frzL xs = ys):(C.own xs).frz = .lst ys:=by simp [C.frz,h]
theorem fz_map {α:Type} {f g:α->C} (h : ∀ x,(f x).frz = g x) : ∀ l:List α,frzL (l.map f) = l.map g
  | []=>rfl
  | x :: l=>by simp [frzL,h x,fz_map h l]
end Go.Proofs.YtjolbldlhjfciaaGreatDoor
