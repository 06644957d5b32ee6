/- The value layer: calls that borrow what they read; small rules; tables; no condition. -/
import Derived.Test.YtjolbldlhjfciaaGreatDoorVm
namespace Go.Proofs.YtjolbldlhjfciaaGreatDoor
section
variable {P:Program} {st:St} {ty:TypeId}
theorem ws_boxS {T:TypeId} {x:Operand} {v:V} {us:List V} {id:Nat} (hx:st.ev x = some v) (hf:v.fields = some us) (h1:us.all (·.one) = true) (hl:us.length<=1000) (hid:fresh id st.σ = true) {K:V->St->Prop}
    (h:K (.cell id 0) ⟨(id,⟨closedL us,holesL 0 us⟩) :: st.σ,st.env,st.n⟩):WS P [] [] (.box T x) ty st K:=by
  intro D G a w hr dst pos after guard
  obtain⟨xs,hxe,hxs⟩:=fields_spec hf (hr.ev hx)
  have hlen:us.length = xs.length:=by
    have : ∀ (vs:List V) (xs:List Value),VRpL w (Imm G st.σ D.fp w) D.M vs xs->vs.length = xs.length:=by
      intro vs
      induction vs with
      | nil=>intro xs h; simp only [VRpL] at h; simp [h]
      | cons v vs ih=>intro xs h; simp only [VRpL] at h; obtain⟨x,xs',rfl,_,h3⟩:=h; simp [ih _ h3]
    exact this _ _ hxs
  have hone : ∀ (i:Nat) (u:Value),xs[i]? = some u->u.oneCell' = true:=fun i u hu=>by
    have hi:i < us.length:=by rw [hlen]; exact (List.getElem?_eq_some_iff.1 hu).1
    obtain⟨y,e1,e2⟩:=VRpL.get hxs (List.getElem?_eq_getElem hi)
    rw [hu] at e1
    obtain rfl:=Option.some.inj e1
    exact (one_spec e2 (List.all_eq_true.1 h1 _ (List.getElem_mem hi))).2
  obtain⟨D',g1,g2,g3,_⟩:=hr.new hid (cur:=xs.toArray) (e:=T) (xs:=closedL us) (holes:=holesL 0 us) (vs:=xs) (cap:=xs.length) (closedL_spec hxs)
    (by have:=holesL_spec hxs []; simpa using this) (Nat.le_refl _) (by simp) (by simp only [maxLen]; omega) (fun i u hu=>⟨by simpa using hu,hone i u hu⟩)
  have hrun:(execOp a.eval ⟨dst,.box T x,ty,pos,after,guard⟩).run P w = .ok (.value (.pointer (some ⟨w.heap.size,0,none⟩))) (w.alloc (.cells xs.toArray T)):=by
    simp [execOp,Instr.box,newVar,newRow,hxe,Value.cells]
  rw [hrun]
  refine⟨D',_,_,h,g1,?_,g3⟩
  simp only [VRp]
  exact⟨_,g2,rfl,rfl⟩
end
def kdl:List Nat->Nat->Nat
  | [],_=>0
  | k :: _,0=>k
  | _ :: r,i + 1=>kdl r i
theorem lk_self {i:Nat} {v:V} {r:List (Nat × V)} : lk i ((i,v) :: r) = some v:=by simp [lk]
theorem rm_self {i:Nat} {v:V} : rmH i [(i,v)] = []:=by simp [rmH]
theorem gh_trans {Y Z:List Nat} {a b c:St} (h:Gh Y a b) (k:Gh Z b c) : ∃ W,Gh W a c:=⟨Y ++ Z ++ Y,fun D G ac w hr=>by
  obtain⟨D1,h1,h2⟩:=h D G ac w hr
  obtain⟨D2,k1,k2⟩:=k D1 G ac w h1
  refine⟨D2,k1,fun p hp b hb=>?_⟩
  have up : ∀ i,b ∈ D1.fp i->b ∈ D.fp i\/∃ id ∈ Y,b ∈ D.fp id:=fun i hi=>by
    obtain⟨q,hq,rfl⟩:=h1.fpkey hi
    exact h2 q hq b hi
  rcases k2 p hp b hb with h3 | ⟨id,h3,h4⟩
  · rcases up _ h3 with h5 | ⟨i,h5,h6⟩
    · exact .inl h5
    · exact .inr ⟨i,by simp [h5],h6⟩
  · rcases up _ h4 with h5 | ⟨i,h5,h6⟩
    · exact .inr ⟨id,by simp [h3],h5⟩
    · exact .inr ⟨i,by simp [h5],h6⟩⟩
def ran {α:Type} (m:Int) (f:Int->α):List α:=(List.range m.toNat).map fun (j:Nat)=>f j
@[simp] theorem length_ran {α:Type} (m:Int) (f:Int->α):(ran m f).length = m.toNat:=by simp [ran]
theorem ran_succ {α:Type} {m:Int} (f:Int->α) (h:0<=m):ran (m + 1) f = ran m f ++ [f m]:=by
  have e:(m + 1).toNat = m.toNat + 1:=by omega
  unfold ran
  rw [e,List.range_succ,List.map_append,List.map_singleton,Int.toNat_of_nonneg h]
theorem ran_congr {α:Type} {m:Int} {f g:Int->α} (h : ∀ i,0<=i->i < m->f i = g i):ran m f = ran m g:=by
  unfold ran
  refine List.map_congr_left fun i hi=>?_
  have:=List.mem_range.1 hi
  exact h i (by omega) (by omega)
theorem get_ran {α:Type} {m:Int} (f:Int->α) {i:Nat} (h:(i:Int) < m):(ran m f)[i]? = some (f i):=by
  have:i < m.toNat:=by omega
  simp [ran,this]
def tab (n:Int) (f:Int->Int->Int):List (List Int):=ran n fun i=>ran n (f i)
@[simp] theorem length_tab (n:Int) (f:Int->Int->Int):(tab n f).length = n.toNat:=by simp [tab]
theorem tab_congr {n:Int} {f g:Int->Int->Int} (h : ∀ i j,0<=i->i < n->0<=j->j < n->f i j = g i j):tab n f = tab n g:=
  ran_congr fun i h0 h1=>ran_congr fun j h2 h3=>h i j h0 h1 h2 h3
def pre (n i:Int) (F:Int->C) (z:C):List C:=ran i F ++ List.replicate (n - i).toNat z
theorem mulB {a i A B:Int} (h:0<=a/\a<=A/\0<=i/\i<=B):0<=a * i/\a * i<=A * B:=by
  obtain⟨h1,h2,h3,h4⟩:=h
  exact⟨Int.mul_nonneg h1 h3,Int.mul_le_mul h2 h4 h3 (by omega)⟩
def mk1:Int->List Int->List Int
  | _,[]=>[]
  | k,_ :: l=>k :: mk1 (k + 1) l
def mkR:Int->List (List Int)->List (List Int)
  | _,[]=>[]
  | k,r :: rs=>mk1 k r :: mkR (k + r.length) rs
def tot:List (List Int)->Int
  | []=>0
  | r :: rs=>r.length + tot rs
@[simp] theorem length_mk1 : ∀ (k:Int) (l:List Int),(mk1 k l).length = l.length
  | _,[]=>rfl
  | k,_ :: l=>by simp [mk1,length_mk1 (k + 1) l]
@[simp] theorem length_mkR : ∀ (k:Int) (l:List (List Int)),(mkR k l).length = l.length
  | _,[]=>rfl
  | k,r :: l=>by simp [mkR,length_mkR _ l]
end Go.Proofs.YtjolbldlhjfciaaGreatDoor
