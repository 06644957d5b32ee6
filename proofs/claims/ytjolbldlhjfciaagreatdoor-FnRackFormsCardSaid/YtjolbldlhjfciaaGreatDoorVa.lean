/- The abstract values of the value layer and how they are read in memory; no condition. -/
import Derived.WalkKit
import Derived.WalkSpells
import Derived.WalkLawsBesides
import Derived.Deep.Quiet
namespace Go.Proofs.YtjolbldlhjfciaaGreatDoor
inductive C where
  | val (x:Value)
  | hole
  | lst (xs:List C)
  | ptr (xs:List C)
  | agg (xs:List C)
  | tup (xs:List C)
  | clo (f:Nat) (xs:List C)
  | own (xs:List C)
  | obox (xs:List C)
def RowAt (w:World) (I:Nat->Prop) (a:Option Addr) (vs:List Value):Prop:=
  ∀ i v,vs[i]? = some v->∃ b off,a = some ⟨b,off,none⟩/\I b/\w.cell? ⟨b,off + i,none⟩ = some v/\v.oneCell' = true
def OwnAt (w:World) (b off cap:Nat) (vs:List Value):Prop:=
  ∃ cur e,w.heap[b]? = some (.cells cur e (0,0))/\vs.length<=cap/\off + cap<=cur.size/\cap<=maxLen/\∀ i v,vs[i]? = some v->cur[off + i]? = some v/\v.oneCell' = true
mutual
def Rp (w:World) (I:Nat->Prop):C->Value->List Nat->Prop
  | .val x,v,fp=>v = x/\fp = []
  | .hole,_,fp=>fp = []
  | .lst xs,v,fp=>fp = []/\∃ a cap vs,v = .slice a xs.length cap/\xs.length<=cap/\RpL w I xs vs []/\RowAt w I a vs
  | .ptr xs,v,fp=>fp = []/\∃ b off vs,v = .pointer (some ⟨b,off,none⟩)/\RpL w I xs vs []/\RowAt w I (some ⟨b,off,none⟩) vs
  | .agg xs,v,fp=>∃ vs,v = .agg vs.toArray/\RpL w I xs vs fp
  | .tup xs,v,fp=>∃ vs,v = .tuple vs.toArray/\RpL w I xs vs fp
  | .clo f xs,v,fp=>∃ vs,v = .func (.func f) #[] vs.toArray/\RpL w I xs vs fp
  | .own xs,v,fp=>(xs = []/\v = .slice none 0 0/\fp = [])\/
      ∃ b off cap vs f,v = .slice (some ⟨b,off,none⟩) xs.length cap/\fp = b :: f/\RpL w I xs vs f/\OwnAt w b off cap vs
  | .obox xs,v,fp=>∃ b off cap vs f,v = .pointer (some ⟨b,off,none⟩)/\fp = b :: f/\RpL w I xs vs f/\OwnAt w b off cap vs
def RpL (w:World) (I:Nat->Prop):List C->List Value->List Nat->Prop
  | [],vs,fp=>vs = []/\fp = []
  | x :: xs,vs,fp=>∃ v vs' f f',vs = v :: vs'/\fp = f ++ f'/\Rp w I x v f/\RpL w I xs vs' f'
end
theorem RowAt.frame {w w' : World} {I I' : Nat->Prop} (hI : ∀ b,I b->I' b) (hk : ∀ b,I b->w'.heap[b]? = w.heap[b]?) {a:Option Addr} {vs:List Value}
    (h:RowAt w I a vs):RowAt w' I' a vs:=fun i v hv=>
  let ⟨b,off,ha,hb,hc⟩:=h i v hv
  ⟨b,off,ha,hI b hb,by rw [World.cell?_of_block (w:=w) (hk b hb)]; exact hc⟩
theorem OwnAt.frame {w w' : World} {b off cap:Nat} {vs:List Value} (hk:w'.heap[b]? = w.heap[b]?) (h:OwnAt w b off cap vs):OwnAt w' b off cap vs:=
  let ⟨cur,e,h1,h2⟩:=h
  ⟨cur,e,hk.trans h1,h2⟩
theorem OwnAt.lt {w:World} {b off cap:Nat} {vs:List Value} (h:OwnAt w b off cap vs):b < w.heap.size:=by
  obtain⟨cur,e,h1,_⟩:=h
  exact (Array.getElem?_eq_some_iff.1 h1).1
theorem OwnAt.cell {w:World} {b off cap:Nat} {vs:List Value} (h:OwnAt w b off cap vs) {i:Nat} {v:Value} (hv:vs[i]? = some v):w.cell? ⟨b,off + i,none⟩ = some v:=by
  obtain⟨cur,e,h1,_,_,_,h2⟩:=h
  simp [World.cell?,h1,(h2 i v hv).1]
theorem OwnAt.frozen {w:World} {b off cap:Nat} {vs:List Value} (h:OwnAt w b off cap vs) (i:Nat):w.frozen? ⟨b,i,none⟩ = false:=by
  obtain⟨cur,e,h1,_⟩:=h
  simp [World.frozen?,h1]
theorem OwnAt.one {w:World} {b off cap:Nat} {vs:List Value} (h:OwnAt w b off cap vs) {i:Nat} {v:Value} (hv:vs[i]? = some v):v.oneCell' = true:=by
  obtain⟨_,_,_,_,_,_,h2⟩:=h
  exact (h2 i v hv).2
theorem OwnAt.row {w:World} {b off cap:Nat} {vs:List Value} {I:Nat->Prop} (h:OwnAt w b off cap vs) (hI:I b):RowAt w I (some ⟨b,off,none⟩) vs:=
  fun _ _ hv=>⟨b,off,rfl,hI,h.cell hv,h.one hv⟩
mutual
theorem Rp.frame {w w' : World} {I I' : Nat->Prop} (hI : ∀ b,I b->I' b) (hk : ∀ b,I b->w'.heap[b]? = w.heap[b]?) :
    ∀ (c:C) (v:Value) (fp:List Nat),(∀ b ∈ fp,w'.heap[b]? = w.heap[b]?)->Rp w I c v fp->Rp w' I' c v fp
  | .val x,v,fp,_,h=>by simpa only [Rp] using h
  | .hole,v,fp,_,h=>by simpa only [Rp] using h
  | .lst xs,v,fp,_,h=>by
    simp only [Rp] at h ⊢
    obtain⟨h0,a,cap,vs,h1,hc,h2,h3⟩:=h
    exact⟨h0,a,cap,vs,h1,hc,RpL.frame hI hk xs vs [] (by simp) h2,h3.frame hI hk⟩
  | .ptr xs,v,fp,_,h=>by
    simp only [Rp] at h ⊢
    obtain⟨h0,b,off,vs,h1,h2,h3⟩:=h
    exact⟨h0,b,off,vs,h1,RpL.frame hI hk xs vs [] (by simp) h2,h3.frame hI hk⟩
  | .agg xs,v,fp,hf,h=>by
    simp only [Rp] at h ⊢
    obtain⟨vs,h1,h2⟩:=h
    exact⟨vs,h1,RpL.frame hI hk xs vs fp hf h2⟩
  | .tup xs,v,fp,hf,h=>by
    simp only [Rp] at h ⊢
    obtain⟨vs,h1,h2⟩:=h
    exact⟨vs,h1,RpL.frame hI hk xs vs fp hf h2⟩
  | .clo f xs,v,fp,hf,h=>by
    simp only [Rp] at h ⊢
    obtain⟨vs,h1,h2⟩:=h
    exact⟨vs,h1,RpL.frame hI hk xs vs fp hf h2⟩
  | .own xs,v,fp,hf,h=>by
    simp only [Rp] at h ⊢
    rcases h with h | ⟨b,off,cap,vs,f,h1,h2,h3,h4⟩
    · exact .inl h
    · subst h2
      exact .inr ⟨b,off,cap,vs,f,h1,rfl,RpL.frame hI hk xs vs f (fun b hb=>hf b (List.mem_cons_of_mem _ hb)) h3,h4.frame (hf b List.mem_cons_self)⟩
  | .obox xs,v,fp,hf,h=>by
    simp only [Rp] at h ⊢
    obtain⟨b,off,cap,vs,f,h1,h2,h3,h4⟩:=h
    subst h2
    exact⟨b,off,cap,vs,f,h1,rfl,RpL.frame hI hk xs vs f (fun b hb=>hf b (List.mem_cons_of_mem _ hb)) h3,h4.frame (hf b List.mem_cons_self)⟩
theorem RpL.frame {w w' : World} {I I' : Nat->Prop} (hI : ∀ b,I b->I' b) (hk : ∀ b,I b->w'.heap[b]? = w.heap[b]?) :
    ∀ (xs:List C) (vs:List Value) (fp:List Nat),(∀ b ∈ fp,w'.heap[b]? = w.heap[b]?)->RpL w I xs vs fp->RpL w' I' xs vs fp
  | [],vs,fp,_,h=>by simpa only [RpL] using h
  | x :: xs,vs,fp,hf,h=>by
    simp only [RpL] at h ⊢
    obtain⟨v,vs',f,f',h1,h2,h3,h4⟩:=h
    subst h2
    exact⟨v,vs',f,f',h1,rfl,Rp.frame hI hk x v f (fun b hb=>hf b (List.mem_append_left _ hb)) h3,RpL.frame hI hk xs vs' f' (fun b hb=>hf b (List.mem_append_right _ hb)) h4⟩
end
mutual
theorem Rp.lt {w:World} {I:Nat->Prop} : ∀ (c:C) (v:Value) (fp:List Nat),Rp w I c v fp->∀ b ∈ fp,b < w.heap.size
  | .val x,v,fp,h,b,hb=>by simp only [Rp] at h; rw [h.2] at hb; cases hb
  | .hole,v,fp,h,b,hb=>by simp only [Rp] at h; rw [h] at hb; cases hb
  | .lst xs,v,fp,h,b,hb=>by simp only [Rp] at h; rw [h.1] at hb; cases hb
  | .ptr xs,v,fp,h,b,hb=>by simp only [Rp] at h; rw [h.1] at hb; cases hb
  | .agg xs,v,fp,h,b,hb=>by simp only [Rp] at h; obtain⟨vs,_,h2⟩:=h; exact RpL.lt xs vs fp h2 b hb
  | .tup xs,v,fp,h,b,hb=>by simp only [Rp] at h; obtain⟨vs,_,h2⟩:=h; exact RpL.lt xs vs fp h2 b hb
  | .clo f xs,v,fp,h,b,hb=>by simp only [Rp] at h; obtain⟨vs,_,h2⟩:=h; exact RpL.lt xs vs fp h2 b hb
  | .own xs,v,fp,h,b,hb=>by
    simp only [Rp] at h
    rcases h with ⟨_,_,h⟩ | ⟨b',off,cap,vs,f,h1,h2,h3,h4⟩
    · rw [h] at hb; cases hb
    · subst h2
      rcases List.mem_cons.1 hb with rfl | hb
      · exact h4.lt
      · exact RpL.lt xs vs f h3 b hb
  | .obox xs,v,fp,h,b,hb=>by
    simp only [Rp] at h
    obtain⟨b',off,cap,vs,f,h1,h2,h3,h4⟩:=h
    subst h2
    rcases List.mem_cons.1 hb with rfl | hb
    · exact h4.lt
    · exact RpL.lt xs vs f h3 b hb
theorem RpL.lt {w:World} {I:Nat->Prop} : ∀ (xs:List C) (vs:List Value) (fp:List Nat),RpL w I xs vs fp->∀ b ∈ fp,b < w.heap.size
  | [],vs,fp,h,b,hb=>by simp only [RpL] at h; rw [h.2] at hb; cases hb
  | x :: xs,vs,fp,h,b,hb=>by
    simp only [RpL] at h
    obtain⟨v,vs',f,f',h1,h2,h3,h4⟩:=h
    subst h2
    rcases List.mem_append.1 hb with hb | hb
    · exact Rp.lt x v f h3 b hb
    · exact RpL.lt xs vs' f' h4 b hb
end
theorem RpL.length {w:World} {I:Nat->Prop} : ∀ {xs:List C} {vs:List Value} {fp:List Nat},RpL w I xs vs fp->vs.length = xs.length
  | [],vs,fp,h=>by simp only [RpL] at h; rw [h.1]; rfl
  | x :: xs,vs,fp,h=>by
    simp only [RpL] at h
    obtain⟨v,vs',f,f',h1,h2,h3,h4⟩:=h
    subst h1
    simp [RpL.length h4]
mutual
def C.frz:C->C
  | .val x=>.val x
  | .hole=>.hole
  | .lst xs=>.lst xs
  | .ptr xs=>.ptr xs
  | .agg xs=>.agg (frzL xs)
  | .tup xs=>.tup (frzL xs)
  | .clo f xs=>.clo f (frzL xs)
  | .own xs=>.lst (frzL xs)
  | .obox xs=>.ptr (frzL xs)
def frzL:List C->List C
  | []=>[]
  | x :: xs=>x.frz :: frzL xs
end
@[simp] theorem length_frzL : ∀ xs:List C,(frzL xs).length = xs.length
  | []=>rfl
  | _ :: xs=>by simp [frzL,length_frzL xs]
mutual
theorem Rp.frz {w:World} {I I' : Nat->Prop} (hI : ∀ b,I b->I' b) : ∀ (c:C) (v:Value) (fp:List Nat),(∀ b ∈ fp,I' b)->Rp w I c v fp->Rp w I' c.frz v []
  | .val x,v,fp,_,h=>by simp only [Rp,C.frz] at h ⊢; exact⟨h.1,trivial⟩
  | .hole,v,fp,_,h=>by simp only [Rp,C.frz]
  | .lst xs,v,fp,_,h=>by
    have h0:fp = []:=by simp only [Rp] at h; exact h.1
    subst h0
    exact Rp.frame hI (fun _ _=>rfl) _ _ _ (by simp) h
  | .ptr xs,v,fp,_,h=>by
    have h0:fp = []:=by simp only [Rp] at h; exact h.1
    subst h0
    exact Rp.frame hI (fun _ _=>rfl) _ _ _ (by simp) h
  | .agg xs,v,fp,hf,h=>by
    simp only [Rp,C.frz] at h ⊢
    obtain⟨vs,h1,h2⟩:=h
    exact⟨vs,h1,RpL.frz hI xs vs fp hf h2⟩
  | .tup xs,v,fp,hf,h=>by
    simp only [Rp,C.frz] at h ⊢
    obtain⟨vs,h1,h2⟩:=h
    exact⟨vs,h1,RpL.frz hI xs vs fp hf h2⟩
  | .clo f xs,v,fp,hf,h=>by
    simp only [Rp,C.frz] at h ⊢
    obtain⟨vs,h1,h2⟩:=h
    exact⟨vs,h1,RpL.frz hI xs vs fp hf h2⟩
  | .own xs,v,fp,hf,h=>by
    simp only [Rp,C.frz] at h ⊢
    rcases h with ⟨rfl,h1,_⟩ | ⟨b,off,cap,vs,f,h1,h2,h3,h4⟩
    · exact⟨trivial,none,0,[],h1,by simp [frzL],by simp [frzL,RpL],by intro i v hv; simp at hv⟩
    · subst h2
      exact⟨trivial,some ⟨b,off,none⟩,cap,vs,by rw [length_frzL]; exact h1,by obtain⟨_,_,_,hc,_⟩:=h4; rw [length_frzL,<- h3.length]; exact hc,RpL.frz hI xs vs f (fun b hb=>hf b (List.mem_cons_of_mem _ hb)) h3,h4.row (hf b List.mem_cons_self)⟩
  | .obox xs,v,fp,hf,h=>by
    simp only [Rp,C.frz] at h ⊢
    obtain⟨b,off,cap,vs,f,h1,h2,h3,h4⟩:=h
    subst h2
    exact⟨trivial,b,off,vs,h1,RpL.frz hI xs vs f (fun b hb=>hf b (List.mem_cons_of_mem _ hb)) h3,h4.row (hf b List.mem_cons_self)⟩
theorem RpL.frz {w:World} {I I' : Nat->Prop} (hI : ∀ b,I b->I' b) : ∀ (xs:List C) (vs:List Value) (fp:List Nat),(∀ b ∈ fp,I' b)->RpL w I xs vs fp->RpL w I' (frzL xs) vs []
  | [],vs,fp,_,h=>by simp only [RpL,frzL] at h ⊢; exact⟨h.1,trivial⟩
  | x :: xs,vs,fp,hf,h=>by
    simp only [RpL,frzL] at h ⊢
    obtain⟨v,vs',f,f',h1,h2,h3,h4⟩:=h
    subst h2
    exact⟨v,vs',[],[],h1,rfl,Rp.frz hI x v f (fun b hb=>hf b (List.mem_append_left _ hb)) h3,RpL.frz hI xs vs' f' (fun b hb=>hf b (List.mem_append_right _ hb)) h4⟩
end
theorem RpL.get {w:World} {I:Nat->Prop} : ∀ {xs:List C} {vs:List Value} {fp:List Nat} (_:RpL w I xs vs fp) {i:Nat} {x:C},xs[i]? = some x->
    ∃ v f,vs[i]? = some v/\(∀ b ∈ f,b ∈ fp)/\Rp w I x v f
  | [],vs,fp,_,i,x,hx=>by simp at hx
  | y :: xs,vs,fp,h,i,x,hx=>by
    simp only [RpL] at h
    obtain⟨v,vs',f,f',h1,h2,h3,h4⟩:=h
    subst h1 h2
    cases i with
    | zero=>simp at hx; subst hx; exact⟨v,f,by simp,fun b hb=>List.mem_append_left _ hb,h3⟩
    | succ i=>
      obtain⟨v',g,e1,e2,e3⟩:=RpL.get h4 (i:=i) (by simpa using hx)
      exact⟨v',g,by simpa using e1,fun b hb=>List.mem_append_right _ (e2 b hb),e3⟩
theorem RpL.get0 {w:World} {I:Nat->Prop} {xs:List C} {vs:List Value} (h:RpL w I xs vs []) {i:Nat} {x:C} (hx:xs[i]? = some x) : ∃ v,vs[i]? = some v/\Rp w I x v []:=by
  obtain⟨v,f,h1,h2,h3⟩:=h.get hx
  have:f = []:=List.eq_nil_iff_forall_not_mem.2 fun b hb=>absurd (h2 b hb) (by simp)
  subst this
  exact⟨v,h1,h3⟩
theorem RpL.append {w:World} {I:Nat->Prop} : ∀ {xs ys:List C} {vs us:List Value} {f g:List Nat},RpL w I xs vs f->RpL w I ys us g->RpL w I (xs ++ ys) (vs ++ us) (f ++ g)
  | [],ys,vs,us,f,g,h,k=>by simp only [RpL] at h; rw [h.1,h.2]; exact k
  | x :: xs,ys,vs,us,f,g,h,k=>by
    simp only [RpL,List.cons_append] at h ⊢
    obtain⟨v,vs',f1,f2,h1,h2,h3,h4⟩:=h
    subst h1 h2
    exact⟨v,vs' ++ us,f1,f2 ++ g,by simp,by simp,h3,RpL.append h4 k⟩
theorem RpL.split {w:World} {I:Nat->Prop} : ∀ {xs ys:List C} {us:List Value} {f:List Nat},RpL w I (xs ++ ys) us f->∃ vs1 vs2 f1 f2,us = vs1 ++ vs2/\f = f1 ++ f2/\RpL w I xs vs1 f1/\RpL w I ys vs2 f2
  | [],ys,us,f,h=>⟨[],us,[],f,rfl,rfl,by simp [RpL],h⟩
  | x :: xs,ys,us,f,h=>by
    simp only [RpL,List.cons_append] at h
    obtain⟨v,vs',f1,f2,h1,h2,h3,h4⟩:=h
    obtain⟨a1,a2,g1,g2,e1,e2,e3,e4⟩:=RpL.split h4
    exact⟨v :: a1,a2,f1 ++ g1,g2,by simp [h1,e1],by simp [h2,e2],by simp only [RpL]; exact⟨v,a1,f1,g1,rfl,rfl,h3,e3⟩,e4⟩
theorem RpL.exch {w:World} {I:Nat->Prop} : ∀ {xs:List C} {vs:List Value} {fp:List Nat} (_:RpL w I xs vs fp) {i:Nat} (_:i < xs.length) {x' : C} {v' : Value} {f' : List Nat} (_:Rp w I x' v' f'),
    ∃ g f1 f2,fp = f1 ++ g ++ f2/\RpL w I (xs.set i x') (vs.set i v') (f1 ++ f' ++ f2)
  | [],vs,fp,_,i,hi,_,_,_,_=>by simp at hi
  | y :: xs,vs,fp,h,i,hi,x',v',f',hx=>by
    simp only [RpL] at h
    obtain⟨v,vs',f1,f2,h1,h2,h3,h4⟩:=h
    subst h1 h2
    cases i with
    | zero=>exact⟨f1,[],f2,by simp,by simp only [RpL,List.set_cons_zero]; exact⟨v',vs',f',f2,rfl,by simp,hx,h4⟩⟩
    | succ i=>
      obtain⟨g,g1,g2,e1,e2⟩:=RpL.exch h4 (i:=i) (by simpa using hi) hx
      exact⟨g,f1 ++ g1,g2,by simp [e1],by simp only [RpL,List.set_cons_succ]; exact⟨v,vs'.set i v',f1,g1 ++ f' ++ g2,rfl,by simp,h3,e2⟩⟩
theorem RpL.drop {w:World} {I:Nat->Prop} {xs:List C} {vs:List Value} (h:RpL w I xs vs []) (n:Nat):RpL w I (xs.drop n) (vs.drop n) []:=by
  induction n generalizing xs vs with
  | zero=>exact h
  | succ n ih=>
    cases xs with
    | nil=>simp only [RpL] at h; rw [h.1]; simp [RpL]
    | cons x xs=>
      simp only [RpL] at h
      obtain⟨v,vs',f,f',h1,h2,h3,h4⟩:=h
      have h5:f' = []:=(List.append_eq_nil_iff.1 h2.symm).2
      subst h1 h5
      exact ih h4
theorem RpL.take {w:World} {I:Nat->Prop} {xs:List C} {vs:List Value} (h:RpL w I xs vs []) (n:Nat):RpL w I (xs.take n) (vs.take n) []:=by
  induction n generalizing xs vs with
  | zero=>simp [RpL]
  | succ n ih=>
    cases xs with
    | nil=>simp only [RpL] at h; rw [h.1]; simp [RpL]
    | cons x xs=>
      simp only [RpL] at h
      obtain⟨v,vs',f,f',h1,h2,h3,h4⟩:=h
      obtain⟨h6,h5⟩:=List.append_eq_nil_iff.1 h2.symm
      subst h1 h5 h6
      simp only [List.take_succ_cons,RpL]
      exact⟨v,vs'.take n,[],[],rfl,rfl,h3,ih h4⟩
theorem RpL.ofVals {w:World} {I:Nat->Prop} : ∀ (vs:List Value),RpL w I (vs.map C.val) vs []
  | []=>by simp [RpL]
  | v :: vs=>by simp only [RpL,List.map_cons]; exact⟨v,vs,[],[],rfl,rfl,by simp [Rp],RpL.ofVals vs⟩
end Go.Proofs.YtjolbldlhjfciaaGreatDoor
