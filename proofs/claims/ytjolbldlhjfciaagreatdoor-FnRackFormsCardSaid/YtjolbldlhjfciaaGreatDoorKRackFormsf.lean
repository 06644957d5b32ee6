/- Contracts of functions that the law FnRackForms reaches: conditions, plain proofs, walks; no condition. -/
import Derived.Test.YtjolbldlhjfciaaGreatDoorKRackFormse
import Derived.Test.YtjolbldlhjfciaaGreatDoorPP
namespace Go.Proofs.YtjolbldlhjfciaaGreatDoor
set_option maxRecDepth 100000
set_option maxHeartbeats 4000000

def wp___impl_mapping__undo (mw1:List (List (List Int))) (mw2:List (List (List Int))) (mw3:List Int) (mw4:List Bool) (mw5:List Int) (count:Int) (Q:List (List (List Int))->List (List (List Int))->List Int->List Bool->List Int->Prop):Prop:=
 (0<=count/\count<=(mw5.length:Int)/\(mw5.length:Int)<=(mw5.length:Int))/\
 ∃ (H1:Int->List Int->List Bool->Prop) (m1:Int->List Int->List Bool->Nat),
 H1 0 mw3 mw4/\
 ∀ (v13_1:Int) (f800_2_1:List Int) (f800_3_1:List Bool),H1 v13_1 f800_2_1 f800_3_1->
 (((v13_1 < ((sl mw5 count (mw5.length:Int)).length:Int)->
 (0<=v13_1/\v13_1 < ((sl mw5 count (mw5.length:Int)).length:Int))/\
 (0<=el (sl mw5 count (mw5.length:Int)) v13_1/\el (sl mw5 count (mw5.length:Int)) v13_1 < (f800_2_1.length:Int))/\
 (0<=el f800_2_1 (el (sl mw5 count (mw5.length:Int)) v13_1)/\el f800_2_1 (el (sl mw5 count (mw5.length:Int)) v13_1) < (f800_3_1.length:Int))/\
 (0<=el (sl mw5 count (mw5.length:Int)) v13_1/\el (sl mw5 count (mw5.length:Int)) v13_1 < (f800_2_1.length:Int))/\
 (InI (v13_1 + 1))/\
 (H1 (v13_1 + 1) (se f800_2_1 (el (sl mw5 count (mw5.length:Int)) v13_1) (-1)) (se f800_3_1 (el f800_2_1 (el (sl mw5 count (mw5.length:Int)) v13_1)) false)/\m1 (v13_1 + 1) (se f800_2_1 (el (sl mw5 count (mw5.length:Int)) v13_1) (-1)) (se f800_3_1 (el f800_2_1 (el (sl mw5 count (mw5.length:Int)) v13_1)) false) < m1 v13_1 f800_2_1 f800_3_1))/\
 (¬ (v13_1 < ((sl mw5 count (mw5.length:Int)).length:Int))->
 (0<=count/\count<=(mw5.length:Int))/\
 Q mw1 mw2 f800_2_1 f800_3_1 (mw5.take count.toNat))))
def wp___impl_mapping__assign (mw1:List (List (List Int))) (mw2:List (List (List Int))) (mw3:List Int) (mw4:List Bool) (mw5:List Int) (x:Int) (v:Int) (Q:Bool->List (List (List Int))->List (List (List Int))->List Int->List Bool->List Int->Prop):Prop:=
 (0<=x/\x < (mw3.length:Int))/\
 ((0<=el mw3 x->
 (0<=x/\x < (mw3.length:Int))/\
 Q (decide (el mw3 x = v)) mw1 mw2 mw3 mw4 mw5)/\
 (¬ (0<=el mw3 x)->
 (0<=v/\v < (mw4.length:Int))/\
 (((el mw4 v) = true->
 Q false mw1 mw2 mw3 mw4 mw5)/\
 ((el mw4 v) = false->
 (0<=x/\x < (mw3.length:Int))/\
 (0<=v/\v < (mw4.length:Int))/\
 ((mw5.length:Int) + (([x]).length:Int)<=1000000000)/\
 ∃ (H1:Int->List (List (List Int))->List (List (List Int))->List Int->List Bool->List Int->Prop) (m1:Int->List (List (List Int))->List (List (List Int))->List Int->List Bool->List Int->Nat),
 H1 0 mw1 mw2 (se mw3 x v) (se mw4 v true) (mw5 ++ ([x]))/\
 ∀ (v7_1:Int) (f800_0_1:List (List (List Int))) (f800_1_1:List (List (List Int))) (f800_2_1:List Int) (f800_3_1:List Bool) (f800_4_1:List Int),H1 v7_1 f800_0_1 f800_1_1 f800_2_1 f800_3_1 f800_4_1->
 (((v7_1 < (f800_4_1.length:Int)->
 (0<=v7_1/\v7_1 < (f800_4_1.length:Int))/\
 ∃ (H2:Int->List (List (List Int))->List (List (List Int))->List Int->List Bool->List Int->Prop) (m2:Int->List (List (List Int))->List (List (List Int))->List Int->List Bool->List Int->Nat),
 H2 0 f800_0_1 f800_1_1 f800_2_1 f800_3_1 f800_4_1/\
 ∀ (v79_2:Int) (f800_0_2:List (List (List Int))) (f800_1_2:List (List (List Int))) (f800_2_2:List Int) (f800_3_2:List Bool) (f800_4_2:List Int),H2 v79_2 f800_0_2 f800_1_2 f800_2_2 f800_3_2 f800_4_2->
 (((v79_2 < (f800_0_1.length:Int)->
 (0<=v79_2/\v79_2 < (f800_0_1.length:Int))/\
 (0<=x/\x < ((el f800_0_1 v79_2).length:Int))/\
 (0<=el f800_4_1 v7_1/\el f800_4_1 v7_1 < ((el (el f800_0_1 v79_2) x).length:Int))/\
 (0<=v79_2/\v79_2 < (f800_1_2.length:Int))/\
 (0<=v/\v < ((el f800_1_2 v79_2).length:Int))/\
 (0<=el f800_4_1 v7_1/\el f800_4_1 v7_1 < (f800_2_2.length:Int))/\
 (0<=el f800_2_2 (el f800_4_1 v7_1)/\el f800_2_2 (el f800_4_1 v7_1) < ((el (el f800_1_2 v79_2) v).length:Int))/\
 ((f800_2_2.length - f800_4_2.length) < (mw3.length - mw5.length))/\
 (OkM f800_0_2 f800_1_2 f800_2_2 f800_3_2 f800_4_2/\(0<=(el (el (el f800_0_1 v79_2) x) (el f800_4_1 v7_1))/\(el (el (el f800_0_1 v79_2) x) (el f800_4_1 v7_1)) < (f800_2_2.length:Int))/\0<=(el (el (el f800_1_2 v79_2) v) (el f800_2_2 (el f800_4_1 v7_1)))/\(el (el (el f800_1_2 v79_2) v) (el f800_2_2 (el f800_4_1 v7_1))) < (f800_2_2.length:Int))/\
 ∀ (r1_0:Bool) (o1_0:List (List (List Int))) (o1_1:List (List (List Int))) (o1_2:List Int) (o1_3:List Bool) (o1_4:List Int),(AsgP f800_0_2 f800_1_2 f800_2_2 f800_3_2 f800_4_2 (el (el (el f800_0_1 v79_2) x) (el f800_4_1 v7_1)) (el (el (el f800_1_2 v79_2) v) (el f800_2_2 (el f800_4_1 v7_1))) r1_0 o1_2 o1_3 o1_4/\o1_0 = f800_0_2/\o1_1 = f800_1_2)->
 ((r1_0 = false->
 Q false o1_0 o1_1 o1_2 o1_3 o1_4)/\
 (r1_0 = true->
 (0<=el f800_4_1 v7_1/\el f800_4_1 v7_1 < ((el f800_0_1 v79_2).length:Int))/\
 (0<=x/\x < ((el (el f800_0_1 v79_2) (el f800_4_1 v7_1)).length:Int))/\
 (0<=v79_2/\v79_2 < (o1_1.length:Int))/\
 (0<=el f800_4_1 v7_1/\el f800_4_1 v7_1 < (o1_2.length:Int))/\
 (0<=el o1_2 (el f800_4_1 v7_1)/\el o1_2 (el f800_4_1 v7_1) < ((el o1_1 v79_2).length:Int))/\
 (0<=v/\v < ((el (el o1_1 v79_2) (el o1_2 (el f800_4_1 v7_1))).length:Int))/\
 ((o1_2.length - o1_4.length) < (mw3.length - mw5.length))/\
 (OkM o1_0 o1_1 o1_2 o1_3 o1_4/\(0<=(el (el (el f800_0_1 v79_2) (el f800_4_1 v7_1)) x)/\(el (el (el f800_0_1 v79_2) (el f800_4_1 v7_1)) x) < (o1_2.length:Int))/\0<=(el (el (el o1_1 v79_2) (el o1_2 (el f800_4_1 v7_1))) v)/\(el (el (el o1_1 v79_2) (el o1_2 (el f800_4_1 v7_1))) v) < (o1_2.length:Int))/\
 ∀ (r2_0:Bool) (o2_0:List (List (List Int))) (o2_1:List (List (List Int))) (o2_2:List Int) (o2_3:List Bool) (o2_4:List Int),(AsgP o1_0 o1_1 o1_2 o1_3 o1_4 (el (el (el f800_0_1 v79_2) (el f800_4_1 v7_1)) x) (el (el (el o1_1 v79_2) (el o1_2 (el f800_4_1 v7_1))) v) r2_0 o2_2 o2_3 o2_4/\o2_0 = o1_0/\o2_1 = o1_1)->
 ((r2_0 = false->
 Q false o2_0 o2_1 o2_2 o2_3 o2_4)/\
 (r2_0 = true->
 (InI (v79_2 + 1))/\
 (H2 (v79_2 + 1) o2_0 o2_1 o2_2 o2_3 o2_4/\m2 (v79_2 + 1) o2_0 o2_1 o2_2 o2_3 o2_4 < m2 v79_2 f800_0_2 f800_1_2 f800_2_2 f800_3_2 f800_4_2))))))/\
 (¬ (v79_2 < (f800_0_1.length:Int))->
 (InI (v7_1 + 1))/\
 (H1 (v7_1 + 1) f800_0_2 f800_1_2 f800_2_2 f800_3_2 f800_4_2/\m1 (v7_1 + 1) f800_0_2 f800_1_2 f800_2_2 f800_3_2 f800_4_2 < m1 v7_1 f800_0_1 f800_1_1 f800_2_1 f800_3_1 f800_4_1)))))/\
 (¬ (v7_1 < (f800_4_1.length:Int))->
 Q true f800_0_1 f800_1_1 f800_2_1 f800_3_1 f800_4_1)))))))
theorem p___impl_mapping__undo (mw1 mw2:List (List (List Int))) (mw3:List Int) (mw4:List Bool) (mw5:List Int) (count:Int) (hp:OkM mw1 mw2 mw3 mw4 mw5/\0<=count/\count<=(mw5.length:Int)) :
    wp___impl_mapping__undo mw1 mw2 mw3 mw4 mw5 count (fun w0 w1 w2 w3 w4=>OkM w0 w1 w2 w3 w4/\w0 = mw1/\w1 = mw2/\w4 = mw5.take count.toNat/\w2.length = mw3.length/\∀ x_ ∈ w4,el w2 x_ = el mw3 x_):=by
  obtain⟨hM,c0,c1⟩:=hp
  unfold wp___impl_mapping__undo
  have hlen:=hM.len
  have h12:=hM.n12
  refine⟨⟨c0,c1,by omega⟩,?_⟩
  have hs:sl mw5 count (mw5.length:Int) = mw5.drop count.toNat:=by simp [sl]
  rw [hs]
  have hD:((mw5.drop count.toNat).length:Int) = (mw5.length:Int) - count:=by simp; omega
  have hTD:mw5.take count.toNat ++ mw5.drop count.toNat = mw5:=List.take_append_drop _ _
  generalize mw5.drop count.toNat = T at *
  generalize mw5.take count.toNat = A at *
  refine⟨fun i f u=>(0<=i/\i<=(T.length:Int))/\OkM mw1 mw2 f u (A ++ T.drop i.toNat)/\f.length = mw3.length/\∀ x ∈ A ++ T.drop i.toNat,el f x = el mw3 x,fun i _ _=>((T.length:Int) - i).toNat,⟨⟨by omega,by omega⟩,by simpa [hTD] using hM,rfl,fun _ _=>rfl⟩,?_⟩
  rintro i f u ⟨⟨i0,i1⟩,hM,hl,hag⟩
  dsimp only
  refine⟨fun ilt=>?_,fun ige=>⟨⟨c0,c1⟩,?_⟩⟩
  · have hd:=drop_el (l:=T) (i:=i) ⟨i0,ilt⟩
    rw [hd] at hM hag
    have hz:=hM.in_s (x:=el T i) (by simp)
    obtain⟨hM2,hag2⟩:=hM.del
    have e:T.drop (i + 1).toNat = T.drop (i.toNat + 1):=by rw [show (i + 1).toNat = i.toNat + 1 by omega]
    refine⟨⟨i0,ilt⟩,hz.1,⟨hz.2.1,by rw [hM.lu]; exact hz.2.2⟩,hz.1,⟨by omega,by omega⟩,⟨⟨by omega,by omega⟩,by rw [e]; exact hM2,by simp [hl],fun x hx=>?_⟩,by omega⟩
    rw [e] at hx
    rw [hag2 x hx]
    exact hag x (by simp only [List.mem_append,List.mem_cons] at hx ⊢; rcases hx with k | k <;> simp [k])
  · rw [List.drop_of_length_le (by omega),List.append_nil] at hM hag
    exact⟨hM,rfl,rfl,rfl,hl,hag⟩
structure AsI (a b:List (List (List Int))) (f:List Int) (s:List Int) (x v:Int) (f1:List Int) (u1:List Bool) (s1:List Int):Prop where
  ok:OkM a b f1 u1 s1
  len:f1.length = f.length
  pre : ∃ t,s1 = (s ++ [x]) ++ t
  ag : ∀ y ∈ s,el f1 y = el f y
  xv:el f1 x = v
  dn:Dn a b f1 s1 ((s.length:Int) + 1)
  ext : ∀ p,p.length = f.length->IsoP a b p->ExtI f p->el p x = v->ExtI f1 p
section
variable {a b:List (List (List Int))} {f f1 f2:List Int} {u1 u2:List Bool} {s s1 s2:List Int} {x v:Int}
theorem AsI.x_in (h:AsI a b f s x v f1 u1 s1):x ∈ s1:=by obtain⟨t,rfl⟩:=h.pre; simp
theorem AsI.sub (h:AsI a b f s x v f1 u1 s1) {y:Int} (hy:y ∈ s):y ∈ s1:=by obtain⟨t,rfl⟩:=h.pre; simp [hy]
theorem AsI.more (h:AsI a b f s x v f1 u1 s1):(s.length:Int) + 1<=(s1.length:Int):=by obtain⟨t,rfl⟩:=h.pre; simp; omega
theorem AsI.at_ (h:AsI a b f s x v f1 u1 s1):el s1 (s.length:Int) = x:=by
  obtain⟨t,rfl⟩:=h.pre
  rw [el_append_l ⟨by omega,by simp; omega⟩,el_append_last rfl]
theorem AsI.step (h:AsI a b f s x v f1 u1 s1) {x' v' : Int} (hr:AsgP a b f1 u1 s1 x' v' true f2 u2 s2) (hx : ∀ p,p.length = f.length->IsoP a b p->ExtI f p->el p x = v->el p x' = v'):AsI a b f s x v f2 u2 s2:=by
  obtain⟨g1,g2,⟨t2,g3⟩,g4,g5,g6⟩:=hr
  refine⟨g1,by rw [g2,h.len],?_,fun y hy=>by rw [g4 y (h.sub hy),h.ag y hy],by rw [g4 x h.x_in,h.xv],dn_mono h.ok g1 g2 g4 ⟨t2,g3⟩ (by omega) h.dn (g5 rfl).2,fun p p1 p2 p3 p4=>(g6 p (by rw [p1,h.len]) p2 (h.ext p p1 p2 p3 p4) (hx p p1 p2 p3 p4)).2⟩
  obtain⟨t,rfl⟩:=h.pre
  exact⟨t ++ t2,by rw [g3]; simp⟩
theorem AsI.fail (h:AsI a b f s x v f1 u1 s1) {x' v' : Int} (hr:AsgP a b f1 u1 s1 x' v' false f2 u2 s2) (hx : ∀ p,p.length = f.length->IsoP a b p->ExtI f p->el p x = v->el p x' = v') {u:List Bool} : AsgP a b f u s x v false f2 u2 s2:=by
  obtain⟨g1,g2,⟨t2,g3⟩,g4,g5,g6⟩:=hr
  obtain⟨t,ht⟩:=h.pre
  refine⟨g1,by rw [g2,h.len],⟨[x] ++ t ++ t2,by rw [g3,ht]; simp⟩,fun y hy=>by rw [g4 y (h.sub hy),h.ag y hy],fun k=>absurd k (by simp),fun p p1 p2 p3 p4=>?_⟩
  have:=(g6 p (by rw [p1,h.len]) p2 (h.ext p p1 p2 p3 p4) (hx p p1 p2 p3 p4)).1
  cases this
theorem AsI.iso1 (h:AsI a b f s x v f1 u1 s1) {k y:Int} (hk:0<=k/\k < (a.length:Int)) (hy:y ∈ s1) {p:List Int} (p1:p.length = f.length) (p2:IsoP a b p) (p3:ExtI f p) (p4:el p x = v) :
    el p (el3 a k x y) = el3 b k v (el f1 y)/\el p (el3 a k y x) = el3 b k (el f1 y) v:=by
  have hx:=(h.ok.in_s h.x_in).1
  have hy':=h.ok.in_s hy
  have hl:=h.len
  have e1:=h.ext p p1 p2 p3 p4 y hy'.1.1 hy'.1.2 hy'.2.1
  have h1:=p2.2 k hk.1 hk.2 x y ⟨hx.1,by omega⟩ ⟨hy'.1.1,by omega⟩
  have h2:=p2.2 k hk.1 hk.2 y x ⟨hy'.1.1,by omega⟩ ⟨hx.1,by omega⟩
  rw [p4,e1] at h1 h2
  exact⟨h1,h2⟩
end
theorem p___impl_mapping__assign (mw1 mw2:List (List (List Int))) (mw3:List Int) (mw4:List Bool) (mw5:List Int) (x v:Int) (hp:OkM mw1 mw2 mw3 mw4 mw5/\(0<=x/\x < (mw3.length:Int))/\0<=v/\v < (mw3.length:Int)) :
    wp___impl_mapping__assign mw1 mw2 mw3 mw4 mw5 x v (fun y0 w0 w1 w2 w3 w4=>AsgP mw1 mw2 mw3 mw4 mw5 x v y0 w2 w3 w4/\w0 = mw1/\w1 = mw2):=by
  obtain⟨hM,hx,hv⟩:=hp
  unfold wp___impl_mapping__assign
  refine⟨hx,fun h0=>⟨hx,⟨hM,rfl,⟨[],by simp⟩,fun _ _=>rfl,fun h=>⟨of_decide_eq_true h,fun j i h1 h2=>by omega⟩,fun p p1 p2 p3 p4=>⟨decide_eq_true (by rw [<- p3 x hx.1 hx.2 h0]; exact p4),p3⟩⟩,rfl,rfl⟩,fun h0=>?_⟩
  refine⟨⟨hv.1,by rw [hM.lu]; exact hv.2⟩,fun hu=>⟨⟨hM,rfl,⟨[],by simp⟩,fun _ _=>rfl,fun h=>absurd h (by simp),fun p p1 p2 p3 p4=>?_⟩,rfl,rfl⟩,fun hu=>?_⟩
  · obtain⟨y,hy,e⟩:=(hM.use v hv.1 hv.2).1 hu
    have gy:=hM.in_s hy
    have:=p3 y gy.1.1 gy.1.2 gy.2.1
    have hxy:=isPerm_inj p2.1 (i:=x) (j:=y) ⟨hx.1,by omega⟩ ⟨gy.1.1,by omega⟩ (by rw [p4,this,e])
    subst hxy
    exact absurd gy.2.1 h0
  have hA:=hM.add hx h0 hv hu
  have h12:=hM.n12
  have hroom:=hM.room hx h0
  have hxs:x ∉ mw5:=fun hm=>h0 (hM.in_s hm).2.1
  have hI0:AsI mw1 mw2 mw3 mw5 x v (se mw3 x v) (se mw4 v true) (mw5 ++ [x]):=⟨hA,by simp,⟨[],by simp⟩,fun y hy=>el_se_ne hx.1 (hM.in_s hy).1.1 fun e=>hxs (e ▸ hy),el_se_same hx,fun j i h1 h2=>by simp at h2; omega,fun p p1 p2 p3 p4 y y0 y1 y2=>by
    by_cases e:y = x
    · subst e; rw [el_se_same hx]; exact p4
    · rw [el_se_ne hx.1 y0 (Ne.symm e)] at y2 ⊢
      exact p3 y y0 (by simpa using y1) y2⟩
  have hsm:=hM.sm
  refine⟨hx,⟨hv.1,by rw [hM.lu]; exact hv.2⟩,by simp; omega,?_⟩
  refine⟨fun i a b f1 u1 s1=>(a = mw1/\b = mw2)/\(0<=i/\i<=(s1.length:Int))/\AsI mw1 mw2 mw3 mw5 x v f1 u1 s1/\∀ j,0<=j->j < i->Ck mw1 mw2 f1 x (el s1 j),fun i _ _ _ _ _=>(13 - i).toNat,
    ⟨⟨rfl,rfl⟩,⟨by omega,by omega⟩,hI0,fun j _ _=>by omega⟩,?_⟩
  rintro i a b f1 u1 s1 ⟨⟨ea,eb⟩,⟨i0,i1⟩,hI,hC⟩
  dsimp only
  have ea:=ea.symm; have eb:=eb.symm; subst ea eb
  have hl1:=hI.ok.len
  have hf1:=hI.len
  refine⟨fun ilt=>⟨⟨i0,ilt⟩,?_⟩,fun ige=>⟨⟨hI.ok,hI.len,?_,hI.ag,fun _=>⟨hI.xv,fun j m h1 h2 h3 h4=>?_⟩,fun p p1 p2 p3 p4=>⟨rfl,hI.ext p p1 p2 p3 p4⟩⟩,rfl,rfl⟩⟩
  · generalize hy:el s1 i = y
    refine⟨fun k a b f2 u2 s2=>(a = mw1/\b = mw2)/\(0<=k/\k<=(mw1.length:Int))/\AsI mw1 mw2 mw3 mw5 x v f2 u2 s2/\(∃ t,s2 = s1 ++ t)/\(∀ j,0<=j->j < i->Ck mw1 mw2 f2 x (el s2 j))/\∀ m,0<=m->m < k->Ck1 mw1 mw2 f2 m x y/\Ck1 mw1 mw2 f2 m y x,fun k _ _ _ _ _=>((mw1.length:Int) - k).toNat,
      ⟨⟨rfl,rfl⟩,⟨by omega,by omega⟩,hI,⟨[],by simp⟩,hC,fun m _ _=>by omega⟩,?_⟩
    rintro k a b f2 u2 s2 ⟨⟨ea,eb⟩,⟨k0,k1⟩,hJ,hpre,hC2,hK⟩
    dsimp only
    have ea:=ea.symm; have eb:=eb.symm; subst ea eb
    have hl2:=hJ.ok.len
    have hf2:=hJ.len
    have hle:(s1.length:Int)<=(s2.length:Int):=by obtain⟨t,rfl⟩:=hpre; rw [List.length_append]; omega
    have hys:y ∈ s2:=by obtain⟨t,rfl⟩:=hpre; rw [<- hy]; exact List.mem_append_left _ (el_mem ⟨i0,ilt⟩)
    have hat : ∀ j,0<=j->j < (s1.length:Int)->el s2 j = el s1 j:=fun j j0 j1=>by obtain⟨t,rfl⟩:=hpre; exact el_append_l ⟨j0,j1⟩
    refine⟨fun klt=>?_,fun kge=>⟨⟨by omega,by omega⟩,⟨⟨rfl,rfl⟩,⟨by omega,by omega⟩,hJ,fun j j0 j1=>?_⟩,by omega⟩⟩
    · have gx:=hJ.ok.in_s hJ.x_in
      have gy:=hJ.ok.in_s hys
      have ha:=hJ.ok.a_in ⟨k0,klt⟩ gx.1 gy.1
      have hb:=hJ.ok.b_in ⟨k0,klt⟩ gx.2 gy.2
      rw [hJ.xv] at hb
      have hm:=hJ.more
      refine⟨⟨k0,klt⟩,⟨hx.1,ha.1⟩,⟨gy.1.1,ha.2.1⟩,⟨k0,hb.1⟩,⟨hv.1,hb.2.1⟩,gy.1,⟨gy.2.1,hb.2.2.1⟩,by omega,⟨hJ.ok,ha.2.2,hb.2.2.2⟩,fun r o0 o1 f3 u3 s3 ⟨hr,e0,e1⟩=>?_⟩
      have e0:=e0.symm; have e1:=e1.symm; subst e0 e1
      refine⟨fun hr0=>?_,fun hr1=>?_⟩
      · subst hr0
        exact⟨hJ.fail hr fun p p1 p2 p3 p4=>(hJ.iso1 ⟨k0,klt⟩ hys p1 p2 p3 p4).1,rfl,rfl⟩
      · subst hr1
        have hL:=hJ.step hr fun p p1 p2 p3 p4=>(hJ.iso1 ⟨k0,klt⟩ hys p1 p2 p3 p4).1
        obtain⟨g1,g2,⟨t3,g3⟩,g4,g5,g6⟩:=hr
        have hys3:y ∈ s3:=by rw [g3]; exact List.mem_append_left _ hys
        have ey:el f3 y = el f2 y:=g4 y hys
        have gx3:=hL.ok.in_s hL.x_in
        have gy3:=hL.ok.in_s hys3
        have ha3:=hL.ok.a_in ⟨k0,klt⟩ gy3.1 gx3.1
        have hb3:=hL.ok.b_in ⟨k0,klt⟩ gy3.2 gx3.2
        rw [hL.xv] at hb3
        have hf3:=hL.len
        have hm3:=hL.more
        refine⟨⟨gy3.1.1,ha3.1⟩,⟨hx.1,ha3.2.1⟩,⟨k0,hb3.1⟩,gy3.1,⟨gy3.2.1,hb3.2.1⟩,⟨hv.1,hb3.2.2.1⟩,by omega,⟨hL.ok,ha3.2.2,hb3.2.2.2⟩,fun r o0 o1 f4 u4 s4 ⟨hr,e0,e1⟩=>?_⟩
        have e0:=e0.symm; have e1:=e1.symm; subst e0 e1
        refine⟨fun hr0=>?_,fun hr1=>?_⟩
        · subst hr0
          exact⟨hL.fail hr fun p p1 p2 p3 p4=>(hL.iso1 ⟨k0,klt⟩ hys3 p1 p2 p3 p4).2,rfl,rfl⟩
        · subst hr1
          have hN:=hL.step hr fun p p1 p2 p3 p4=>(hL.iso1 ⟨k0,klt⟩ hys3 p1 p2 p3 p4).2
          obtain⟨q1,q2,⟨t4,q3⟩,q4,q5,q6⟩:=hr
          have ag24 : ∀ z ∈ s2,el f4 z = el f2 z:=fun z hz=>by rw [q4 z (by rw [g3]; exact List.mem_append_left _ hz),g4 z hz]
          have hl24:f4.length = f2.length:=by rw [q2,g2]
          have hp24 : ∃ t,s4 = s2 ++ t:=⟨t3 ++ t4,by rw [q3,g3]; simp⟩
          refine⟨⟨by omega,by omega⟩,⟨⟨rfl,rfl⟩,⟨by omega,by omega⟩,hN,?_,fun j j0 j1=>?_,fun m m0 m1=>?_⟩,by omega⟩
          · obtain⟨t,ht⟩:=hpre
            obtain⟨t',ht'⟩:=hp24
            exact⟨t ++ t',by rw [ht',ht]; simp⟩
          · have e4:el s4 j = el s2 j:=by obtain⟨t',rfl⟩:=hp24; exact el_append_l ⟨j0,by omega⟩
            rw [e4]
            exact ck_mono hJ.ok hN.ok hl24 ag24 hJ.x_in (el_mem ⟨j0,by omega⟩) (hC2 j j0 j1)
          · by_cases e:m = k
            · subst e
              constructor
              · have c1:Ck1 mw1 mw2 f3 m x y:=by
                  unfold Ck1; rw [hL.xv,ey]; exact (g5 rfl).1
                exact ck1_mono hL.ok hN.ok q2 q4 ⟨k0,klt⟩ hL.x_in hys3 c1
              · unfold Ck1; rw [hN.xv,q4 y hys3]; exact (q5 rfl).1
            · have:=hK m m0 (by omega)
              exact⟨ck1_mono hJ.ok hN.ok hl24 ag24 ⟨m0,by omega⟩ hJ.x_in hys this.1,ck1_mono hJ.ok hN.ok hl24 ag24 ⟨m0,by omega⟩ hys hJ.x_in this.2⟩
    · by_cases e:j = i
      · subst e
        rw [hat j j0 ilt,hy]
        exact fun m m0 m1=>hK m m0 (by omega)
      · exact hC2 j j0 (by omega)
  · obtain⟨t,ht⟩:=hI.pre; exact⟨[x] ++ t,by rw [ht]; simp⟩
  · by_cases e:j = (mw5.length:Int)
    · subst e; rw [hI.at_]; exact hC m h3 (by omega)
    · exact hI.dn j m (by omega) h2 h3 h4
theorem w___impl_mapping__undo (mw1:List (List (List Int))) (mw2:List (List (List Int))) (mw3:List Int) (mw4:List Bool) (mw5:List Int) (count:Int) (Q:List (List (List Int))->List (List (List Int))->List Int->List Bool->List Int->Prop) (h:wp___impl_mapping__undo mw1 mw2 mw3 mw4 mw5 count Q):AM Tryz.prog 72 [.obox [.lst (tabs mw1),.lst (tabs mw2),.own (ints mw3),.own (bools mw4),.own (ints mw5)],ci count] (fun R_ O_=>∃ w0 w1 w2 w3 w4,Q w0 w1 w2 w3 w4/\R_ = .tup []/\O_ = [.obox [.lst (tabs w0),.lst (tabs w1),.own (ints w2),.own (bools w3),.own (ints w4)],ci count]):=by
  refine am_view (n:=45) Tryz.func72 U (by rfl) U (zb U) (fun v0_ v1_ a_ cap_ G0_ ha_ hc_ hV_=>?_)
  unfold wp___impl_mapping__undo at h
  refine yG<|yG<|yY (zl (n:=45) (σ':=[(800,⟨[.val v0_,.val v1_,.own (ints mw3),.own (bools mw4),.val (.slice a_ mw5.length cap_)],[]⟩)]) (env':=[(0,.cell 800 0),(1,.c (ci count)),(45,.cell 800 0),(46,.c (ci count))]) U U E4)<|yg<|yj (zc U) U<|yj (zK U) U<|yj (zD U) U<|yj (yB U U U U U) U<|yj (zc U) U<|rz_view 9 hV_ U ?_
  obtain⟨q1,h⟩:=h
  refine yj (xc (f:=ci) U ⟨_,U⟩ U q1) U<|yj (zJ (f:=ci) U) U<|yj (zc U) U<|yM<|az_block ?_
  obtain⟨H1,m1,q2,h⟩:=h
  refine az_loop3 (fun (v13_1:Int) (f800_2_1:List Int) (f800_3_1:List Bool)=>⟨[(800,⟨[.val v0_,.val v1_,.own (ints f800_2_1),.own (bools f800_3_1),.val (.slice a_ mw5.length cap_)],[]⟩)],[(0,.cell 800 0),(1,.c (ci count)),(11,.c (.lst (ints (sl mw5 count (mw5.length:Int))))),(12,.c (ci ((sl mw5 count (mw5.length:Int)).length:Int))),(13,.c (ci v13_1)),(45,.cell 800 0),(46,.c (ci count))],45⟩) (fun (v13_1:Int) (f800_2_1:List Int) (f800_3_1:List Bool)=>()) H1 m1 ⟨0,mw3,mw4,zv (n:=45) U U E7,U,q2⟩ ?_
  rintro v13_1 f800_2_1 f800_3_1 q2
  replace h:=h v13_1 f800_2_1 f800_3_1 q2
  refine yG<|yg<|yj (zO U U) U<|yM<|yG<|xu U (fun q3=>?_) (fun q3=>?_)
  ·replace h:=h.1 (zj q3)
   refine xt<|yG<|az_block<|yG<|yg ?_
   obtain⟨q4,h⟩:=h
   refine yj (zB U U q4) U<|yj (zx (f:=ci) U q4) U<|yj (ze U) U<|yM<|yG<|yY (zl (n:=45) (σ':=[(800,⟨[.val v0_,.val v1_,.own (ints f800_2_1),.own (bools f800_3_1),.val (.slice a_ mw5.length cap_)],[]⟩)]) (env':=[(0,.cell 800 0),(1,.c (ci count)),(5,.c (ci (el (sl mw5 count (mw5.length:Int)) v13_1))),(11,.c (.lst (ints (sl mw5 count (mw5.length:Int))))),(12,.c (ci ((sl mw5 count (mw5.length:Int)).length:Int))),(13,.c (ci v13_1)),(45,.cell 800 0),(46,.c (ci count))]) U U E8)<|az_aw<|zP (kd:=kdl [0,0,0,1,0,0,0,1,0,0,1,0,3]) (ord:=[0,1,2,4,5,6,8,3,7,9,10,11,12]) [] mixed (by kernel_rfl)<|zp U U trivial (zc U) U<|zp U U trivial (zK U) U<|zp U U trivial (zD U) U<|zp U U trivial (zc U) U<|zp U U trivial (zK U) U<|zp U U trivial (zD U) U<|zp U U trivial (zc U) U<|rd_open 1001 (id:=800) (j:=3) U U U U U<|zY U U trivial (yt U U U U) U<|rd_open 1002 (id:=800) (j:=2) U U U U U<|zY U U trivial (yt U U U U) U ?_
   obtain⟨q5,h⟩:=h
   refine zp U U trivial (zR (f:=ci) U U U q5) U<|zY U U trivial (yi (f:=ci) U U q5 U U) U ?_
   obtain⟨q6,h⟩:=h
   refine zp U U trivial (zR (f:=cb) U U U q6) U<|xq U U trivial (yo U U (yN q6) U U (yO (f:=cb)) U ⟨U,?_⟩)
   refine yh<|yY (zl (n:=45) (σ':=[(1002,⟨ints f800_2_1,[]⟩),(1001,⟨bools (se f800_3_1 (el f800_2_1 (el (sl mw5 count (mw5.length:Int)) v13_1)) false),[]⟩),(800,⟨[.val v0_,.val v1_,.hole,.hole,.val (.slice a_ mw5.length cap_)],[(2,.ref 1002),(3,.ref 1001)]⟩)]) (env':=[(0,.cell 800 0),(1,.c (ci count)),(5,.c (ci (el (sl mw5 count (mw5.length:Int)) v13_1))),(11,.c (.lst (ints (sl mw5 count (mw5.length:Int))))),(12,.c (ci ((sl mw5 count (mw5.length:Int)).length:Int))),(13,.c (ci v13_1)),(45,.cell 800 0),(46,.c (ci count))]) U U E8)<|yg<|yj (zc U) U<|yj (zK U) U<|yj (zD U) U<|yj (yt U U U U) U<|yj (zc U) U ?_
   obtain⟨q7,h⟩:=h
   refine yj (zR (f:=ci) U U U q7) U<|rz_w (yo U U (yN q7) U U (yO (f:=ci)) U ⟨U,?_⟩)
   refine yM<|yY (zl (n:=45) (σ':=[(1002,⟨ints (se f800_2_1 (el (sl mw5 count (mw5.length:Int)) v13_1) (-1)),[]⟩),(1001,⟨bools (se f800_3_1 (el f800_2_1 (el (sl mw5 count (mw5.length:Int)) v13_1)) false),[]⟩),(800,⟨[.val v0_,.val v1_,.hole,.hole,.val (.slice a_ mw5.length cap_)],[(2,.ref 1002),(3,.ref 1001)]⟩)]) (env':=[(0,.cell 800 0),(1,.c (ci count)),(11,.c (.lst (ints (sl mw5 count (mw5.length:Int))))),(12,.c (ci ((sl mw5 count (mw5.length:Int)).length:Int))),(13,.c (ci v13_1)),(45,.cell 800 0),(46,.c (ci count))]) U U E7)<|yg ?_
   obtain⟨q8,h⟩:=h
   exact yj (zG U U q8) U<|yj (zc U) U<|yM<|⟨v13_1 + 1,se f800_2_1 (el (sl mw5 count (mw5.length:Int)) v13_1) (-1),se f800_3_1 (el f800_2_1 (el (sl mw5 count (mw5.length:Int)) v13_1)) false,zQ (yu (id:=800) (id2:=1002) (j:=2) U U (zb U) U U U) (zQ (yu (id:=800) (id2:=1001) (j:=3) U U (zb U) U U U) (zv (n:=45) U U E7)),U,h.1,h.2⟩
  ·replace h:=h.2 (zh q3)
   refine az_exit<|yg<|yj (zc U) U<|yj (zc U) U<|yj (zK U) U<|yj (zD U) U<|yj (yB U U U U U) U<|yj (zc U) U ?_
   obtain⟨q9,h⟩:=h
   refine yj (ss_slX U U ⟨q9.1,by omega⟩ ha_) U<|yj (zK U) U<|yj (zD U) U<|rz_w (yV U U (zb U) U U ⟨U,?_⟩)
   exact yM<|retAM_mkN (retv0 U) U U U ⟨ints f800_2_1,bools f800_3_1,count.toNat,U,by omega,U,xg (fun _=>U) _,xg (fun _=>U) _,_,_,_,_,_,h,U,U⟩
theorem c___impl_mapping__undo (mw1:List (List (List Int))) (mw2:List (List (List Int))) (mw3:List Int) (mw4:List Bool) (mw5:List Int) (count:Int) (hp:OkM mw1 mw2 mw3 mw4 mw5/\0<=count/\count<=(mw5.length:Int)):AM Tryz.prog 72 [.obox [.lst (tabs mw1),.lst (tabs mw2),.own (ints mw3),.own (bools mw4),.own (ints mw5)],ci count] (fun R_ O_=>∃ w0 w1 w2 w3 w4,(OkM w0 w1 w2 w3 w4/\w0 = mw1/\w1 = mw2/\w4 = mw5.take count.toNat/\w2.length = mw3.length/\∀ x_ ∈ w4,el w2 x_ = el mw3 x_)/\R_ = .tup []/\O_ = [.obox [.lst (tabs w0),.lst (tabs w1),.own (ints w2),.own (bools w3),.own (ints w4)],ci count]):=
  w___impl_mapping__undo mw1 mw2 mw3 mw4 mw5 count (fun w0 w1 w2 w3 w4=>OkM w0 w1 w2 w3 w4/\w0 = mw1/\w1 = mw2/\w4 = mw5.take count.toNat/\w2.length = mw3.length/\∀ x_ ∈ w4,el w2 x_ = el mw3 x_) (p___impl_mapping__undo mw1 mw2 mw3 mw4 mw5 count hp)
theorem w___impl_mapping__assign (mw1:List (List (List Int))) (mw2:List (List (List Int))) (mw3:List Int) (mw4:List Bool) (mw5:List Int) (x:Int) (v:Int) (Q:Bool->List (List (List Int))->List (List (List Int))->List Int->List Bool->List Int->Prop) (hrec : ∀ (mw1' : List (List (List Int))) (mw2' : List (List (List Int))) (mw3' : List Int) (mw4' : List Bool) (mw5' : List Int) (x' : Int) (v' : Int),(mw3'.length - mw5'.length) < (mw3.length - mw5.length)->(OkM mw1' mw2' mw3' mw4' mw5'/\(0<=x'/\x' < (mw3'.length:Int))/\0<=v'/\v' < (mw3'.length:Int))->AM Tryz.prog 71 [.obox [.lst (tabs mw1'),.lst (tabs mw2'),.own (ints mw3'),.own (bools mw4'),.own (ints mw5')],ci x',ci v'] (fun R_ O_=>∃ y0 w0 w1 w2 w3 w4,(AsgP mw1' mw2' mw3' mw4' mw5' x' v' y0 w2 w3 w4/\w0 = mw1'/\w1 = mw2')/\R_ = cb y0/\O_ = [.obox [.lst (tabs w0),.lst (tabs w1),.own (ints w2),.own (bools w3),.own (ints w4)],ci x',ci v'])) (h:wp___impl_mapping__assign mw1 mw2 mw3 mw4 mw5 x v Q):AM Tryz.prog 71 [.obox [.lst (tabs mw1),.lst (tabs mw2),.own (ints mw3),.own (bools mw4),.own (ints mw5)],ci x,ci v] (fun R_ O_=>∃ y0 w0 w1 w2 w3 w4,Q y0 w0 w1 w2 w3 w4/\R_ = cb y0/\O_ = [.obox [.lst (tabs w0),.lst (tabs w1),.own (ints w2),.own (bools w3),.own (ints w4)],ci x,ci v]):=by
  refine xj (n:=145) (m:=3) Tryz.func71 U (by rfl) U U (zb U) [800] U ?_
  unfold wp___impl_mapping__assign at h
  refine zg<|zk (zl (n:=145) (σ':=[(800,⟨[.lst (tabs mw1),.lst (tabs mw2),.own (ints mw3),.own (bools mw4),.own (ints mw5)],[]⟩)]) (env':=[(0,.cell 800 0),(1,.c (ci x)),(2,.c (ci v)),(145,.cell 800 0),(146,.c (ci x)),(147,.c (ci v))]) U U E6)<|zd<|za (ze U) U<|zf<|zg<|zg<|zd<|za (zc U) U<|za (zK U) U<|za (zD U) U<|yF (xf 1001 (id:=800) (j:=2) U U U)<|za (yt U U U U) U<|za (zc U) U ?_
  obtain⟨q1,h⟩:=h
  refine za (zR (f:=ci) U U U q1) U<|za (yi (f:=ci) U U q1 U U) U<|za (xl U U) U<|zf<|zm U (fun q2=>?_) (fun q2=>?_)
  ·replace h:=h.1 (zj q2)
   refine zg<|zd<|za (zc U) U<|za (zK U) U<|za (zD U) U<|za (yt U U U U) U<|za (zc U) U ?_
   obtain⟨q3,h⟩:=h
   exact za (zR (f:=ci) U U U q3) U<|za (yi (f:=ci) U U q3 U U) U<|za (zc U) U<|za (yE U U) U<|za (ze U) U<|zf<|zk (yu (id:=800) (id2:=1001) (j:=2) U U (zb U) U U U)<|zA<|ym (zH U (zw U)) U U U ⟨_,_,_,_,_,_,h,U,U⟩
  ·replace h:=h.2 (zh q2)
   refine zu<|zg<|zg<|zd<|za (zc U) U<|za (zK U) U<|za (zD U) U<|yF (xf 1002 (id:=800) (j:=3) U U U)<|za (yt U U U U) U<|za (zc U) U ?_
   obtain⟨q4,h⟩:=h
   refine za (zR (f:=cb) U U U q4) U<|za (yi (f:=cb) U U q4 U U) U<|zf<|zm U (fun q5=>?_) (fun q5=>?_)
   ·replace h:=h.1 (q5)
    exact zg<|zk (zl (n:=145) (σ':=[(1002,⟨bools mw4,[]⟩),(1001,⟨ints mw3,[]⟩),(800,⟨[.lst (tabs mw1),.lst (tabs mw2),.hole,.hole,.own (ints mw5)],[(3,.ref 1002),(2,.ref 1001)]⟩)]) (env':=[(6,.c (cb false)),(145,.cell 800 0),(146,.c (ci x)),(147,.c (ci v))]) U U E4)<|zd<|za (ze U) U<|zf<|zk (yu (id:=800) (id2:=1001) (j:=2) U U (zb U) U U U)<|zk (yu (id:=800) (id2:=1002) (j:=3) U U (zb U) U U U)<|zA<|ym (zH U (zw U)) U U U ⟨_,_,_,_,_,_,h,U,U⟩
   ·replace h:=h.2 (q5)
    refine zu<|zg<|zk (zl (n:=145) (σ':=[(1002,⟨bools mw4,[]⟩),(1001,⟨ints mw3,[]⟩),(800,⟨[.lst (tabs mw1),.lst (tabs mw2),.hole,.hole,.own (ints mw5)],[(3,.ref 1002),(2,.ref 1001)]⟩)]) (env':=[(0,.cell 800 0),(1,.c (ci x)),(2,.c (ci v)),(145,.cell 800 0),(146,.c (ci x)),(147,.c (ci v))]) U U E6)<|zP (kd:=kdl [0,0,0,1,0,0,0,0,1,0,0,0,3,0,3]) (ord:=[0,1,2,4,5,6,7,9,10,3,8,11,12,13,14]) [] mixed (by kernel_rfl)<|zp U U trivial (zc U) U<|zp U U trivial (zK U) U<|zp U U trivial (zD U) U<|zp U U trivial (zc U) U<|zp U U trivial (zc U) U<|zp U U trivial (zK U) U<|zp U U trivial (zD U) U<|zp U U trivial (zc U) U<|zp U U trivial (zc U) U<|zY U U trivial (yt U U U U) U<|zY U U trivial (yt U U U U) U ?_
    obtain⟨q6,h⟩:=h
    refine zp U U trivial (zR (f:=ci) U U U q6) U<|xq U U trivial (yo U U (yN q6) U U (yO (f:=ci)) U ⟨U,?_⟩)
    obtain⟨q7,h⟩:=h
    refine zp U U trivial (zR (f:=cb) U U U q7) U<|xq U U trivial (yo U U (yN q7) U U (yO (f:=cb)) U ⟨U,?_⟩)
    refine yh<|zg<|zd<|za (zc U) U<|za (zc U) U<|za (zK U) U<|za (zD U) U<|yF (xf 1003 (id:=800) (j:=4) U U U)<|za (yt U U U U) U<|za (zc U) U<|zn (zy (id:=54) (ps:=[(0,.tmp 53)]) U U (zb U) U ⟨U,?_⟩)
    obtain⟨q8,h⟩:=h
    refine zn (yx ci (l:=mw5) (m:=[x]) U U U U U (zb U) q8 ⟨U,?_⟩)
    refine za (zK U) U<|za (zD U) U<|zn (yV U U (zb U) U U ⟨U,?_⟩)
    refine zf<|zg<|zg<|zd<|za (ze U) U<|zf<|zt<|zk (yu (id:=800) (id2:=1001) (j:=2) U U (zb U) U U U)<|zk (yu (id:=800) (id2:=1002) (j:=3) U U (zb U) U U U)<|zk (yu (id:=800) (id2:=1003) (j:=4) U U (zb U) U U U) ?_
    obtain⟨H1,m1,q9,h⟩:=h
    refine aw_loop6 (fun (v7_1:Int) (f800_0_1:List (List (List Int))) (f800_1_1:List (List (List Int))) (f800_2_1:List Int) (f800_3_1:List Bool) (f800_4_1:List Int)=>⟨[(800,⟨[.lst (tabs f800_0_1),.lst (tabs f800_1_1),.own (ints f800_2_1),.own (bools f800_3_1),.own (ints f800_4_1)],[]⟩)],[(0,.cell 800 0),(1,.c (ci x)),(2,.c (ci v)),(7,.c (ci v7_1)),(145,.cell 800 0),(146,.c (ci x)),(147,.c (ci v))],145⟩) H1 m1 ⟨0,mw1,mw2,se mw3 x v,se mw4 v true,mw5 ++ ([x]),zv (n:=145) U U E7,q9⟩ ?_
    rintro v7_1 f800_0_1 f800_1_1 f800_2_1 f800_3_1 f800_4_1 q9
    replace h:=h v7_1 f800_0_1 f800_1_1 f800_2_1 f800_3_1 f800_4_1 q9
    refine zg<|zg<|zd<|za (zc U) U<|za (zc U) U<|za (zK U) U<|za (zD U) U<|yF (xf 1004 (id:=800) (j:=4) U U U)<|za (yt U U U U) U<|za (yR (f:=ci) U U) U<|za (zO U U) U<|zf<|zm U (fun q10=>?_) (fun q10=>?_)
    ·replace h:=h.1 (zj q10)
     refine zu<|zg<|zt<|zg<|zd<|za (zc U) U<|za (zK U) U<|za (zD U) U<|za (yt U U U U) U<|za (zc U) U ?_
     obtain⟨q11,h⟩:=h
     refine za (zR (f:=ci) U U U q11) U<|za (yi (f:=ci) U U q11 U U) U<|za (ze U) U<|zf<|zg<|zd<|za (zc U) U<|za (zK U) U<|za (zD U) U<|za (yB U U U U U) U<|za (zJ (f:=(fun r=>C.lst (rows r))) U) U<|za (zc U) U<|zf<|zt<|zk (yu (id:=800) (id2:=1004) (j:=4) U U (zb U) U U U) ?_
     obtain⟨H2,m2,q12,h⟩:=h
     refine aw_loop6 (fun (v79_2:Int) (f800_0_2:List (List (List Int))) (f800_1_2:List (List (List Int))) (f800_2_2:List Int) (f800_3_2:List Bool) (f800_4_2:List Int)=>⟨[(800,⟨[.lst (tabs f800_0_2),.lst (tabs f800_1_2),.own (ints f800_2_2),.own (bools f800_3_2),.own (ints f800_4_2)],[]⟩)],[(0,.cell 800 0),(1,.c (ci x)),(2,.c (ci v)),(7,.c (ci v7_1)),(8,.c (ci (el f800_4_1 v7_1))),(77,.c (.lst (tabs f800_0_1))),(78,.c (ci (f800_0_1.length:Int))),(79,.c (ci v79_2)),(145,.cell 800 0),(146,.c (ci x)),(147,.c (ci v))],145⟩) H2 m2 ⟨0,f800_0_1,f800_1_1,f800_2_1,f800_3_1,f800_4_1,zv (n:=145) U U ⟨U,U,U,U,U,U,U,U,U,U,U,trivial⟩,q12⟩ ?_
     rintro v79_2 f800_0_2 f800_1_2 f800_2_2 f800_3_2 f800_4_2 q12
     replace h:=h v79_2 f800_0_2 f800_1_2 f800_2_2 f800_3_2 f800_4_2 q12
     refine zg<|zd<|za (zO U U) U<|zf<|zg<|zm U (fun q13=>?_) (fun q13=>?_)
     ·replace h:=h.1 (zj q13)
      refine zu<|zg<|zt<|zg<|zd<|za (zc U) U ?_
      obtain⟨q14,h⟩:=h
      refine za (zB U U q14) U<|za (zx (f:=(fun r=>C.lst (rows r))) U q14) U<|za (ze U) U<|za (ze U) U<|zf<|zg<|zk (zl (n:=145) (σ':=[(800,⟨[.lst (tabs f800_0_2),.lst (tabs f800_1_2),.own (ints f800_2_2),.own (bools f800_3_2),.own (ints f800_4_2)],[]⟩)]) (env':=[(0,.cell 800 0),(1,.c (ci x)),(2,.c (ci v)),(7,.c (ci v7_1)),(8,.c (ci (el f800_4_1 v7_1))),(9,.c (ci v79_2)),(10,.c (.lst (rows (el f800_0_1 v79_2)))),(77,.c (.lst (tabs f800_0_1))),(78,.c (ci (f800_0_1.length:Int))),(79,.c (ci v79_2)),(145,.cell 800 0),(146,.c (ci x)),(147,.c (ci v))]) U U ⟨U,U,U,U,U,U,U,U,U,U,U,U,U,trivial⟩)<|zP (kd:=kdl [0,0,0,0,1,0,0,1,0,0,0,1,0,0,1,0,0,1,0,0,0,1,0,0,1,0,1,3,0,0,0,0,0,0,1,0,0,1,0,0,0,1,0,0,1,0,0,0,1,0,0,1,0,1,0,0,1,3,0,0]) (ord:=[0,1,2,3,5,8,9,10,12,15,18,19,20,22,4,6,7,11,13,14,16,17,21,23,24,25,26,27,28,29,30,31,32,33,35,38,39,40,42,45,46,47,49,54,34,36,37,41,43,44,48,50,51,52,53,55,56,57,58,59]) [] mixed (by kernel_rfl)<|zp U U trivial (zc U) U<|zp U U trivial (zc U) U<|zp U U trivial (zc U) U ?_
      obtain⟨q15,h⟩:=h
      refine zp U U trivial (zB U U q15) U<|zp U U trivial (zc U) U<|zp U U trivial (zc U) U<|zp U U trivial (zK U) U<|zp U U trivial (zD U) U<|zp U U trivial (zc U) U<|zp U U trivial (zc U) U<|zp U U trivial (zc U) U<|zp U U trivial (zK U) U<|zp U U trivial (zD U) U<|zp U U trivial (zc U) U<|zY U U trivial (zx (f:=(fun r=>C.lst (ints r))) U q15) U ?_
      obtain⟨q16,h⟩:=h
      refine zp U U trivial (zB U U q16) U<|zY U U trivial (zx (f:=ci) U q16) U<|zY U U trivial (yB U U U U U) U ?_
      obtain⟨q17,h⟩:=h
      refine zp U U trivial (zB U U q17) U<|zY U U trivial (zx (f:=(fun r=>C.lst (rows r))) U q17) U ?_
      obtain⟨q18,h⟩:=h
      refine zp U U trivial (zB U U q18) U<|zY U U trivial (zx (f:=(fun r=>C.lst (ints r))) U q18) U<|rd_open 1005 (id:=800) (j:=2) U U U U U<|zY U U trivial (yt U U U U) U ?_
      obtain⟨q19,h⟩:=h
      refine zp U U trivial (zR (f:=ci) U U U q19) U<|zY U U trivial (yi (f:=ci) U U q19 U U) U ?_
      obtain⟨q20,h⟩:=h
      refine zp U U trivial (zB U U q20) U<|zY U U trivial (zx (f:=ci) U q20) U ?_
      obtain⟨q21,h⟩:=h
      obtain⟨q22,h⟩:=h
      refine xq U U trivial (ws_gh (yu (id:=800) (id2:=1005) (j:=2) U U (zb U) U U U) (yp (xs:=[.tmp 84,.tmp 91,.tmp 110]) (cs:=[.obox [.lst (tabs f800_0_2),.lst (tabs f800_1_2),.own (ints f800_2_2),.own (bools f800_3_2),.own (ints f800_4_2)],ci (el (el (el f800_0_1 v79_2) x) (el f800_4_1 v7_1)),ci (el (el (el f800_1_2 v79_2) v) (el f800_2_2 (el f800_4_1 v7_1)))]) (ids:=[]) U (.inr ⟨U,U⟩) U U U (hrec f800_0_2 f800_1_2 f800_2_2 f800_3_2 f800_4_2 (el (el (el f800_0_1 v79_2) x) (el f800_4_1 v7_1)) (el (el (el f800_1_2 v79_2) v) (el f800_2_2 (el f800_4_1 v7_1))) q21 q22) U U ?_))
      rintro _ _ ⟨r1_0,o1_0,o1_1,o1_2,o1_3,o1_4,q23,rfl,rfl⟩
      replace h:=h r1_0 o1_0 o1_1 o1_2 o1_3 o1_4 q23
      refine⟨U,U,?_⟩
      refine zp U U trivial (yA U) U<|zp U U trivial (zc U) U<|xh (s:=113) U (fun q24=>?_) (fun q24=>?_)
      ·replace h:=h.1 ((ya q24))
       refine zW U U U q24 U<|zW U U U q24 U<|zW U U U q24 U<|zW U U U q24 U<|zW U U U q24 U<|zW U U U q24 U<|zW U U U q24 U<|zW U U U q24 U<|zW U U U q24 U<|zW U U U q24 U<|zW U U U q24 U<|zW U U U q24 U<|zW U U U q24 U<|zW U U U q24 U<|zW U U U q24 U<|zW U U U q24 U<|zW U U U q24 U<|zW U U U q24 U<|zW U U U q24 U<|zW U U U q24 U<|zW U U U q24 U<|zW U U U q24 U<|zW U U U q24 U<|zW U U U q24 U<|zW U U U q24 U<|zW U U U q24 U<|zW U U U q24 U<|zW U U U q24 U<|zW U U U q24 U<|zp U U trivial (zU U q24 U) U<|yh<|zm U (fun q25=>?_) (fun q25=>?_)
       ·skip
        exact zg<|zk (zl (n:=145) (σ':=[(800,⟨[.lst (tabs o1_0),.lst (tabs o1_1),.own (ints o1_2),.own (bools o1_3),.own (ints o1_4)],[]⟩)]) (env':=[(145,.cell 800 0),(146,.c (ci x)),(147,.c (ci v))]) U U E3)<|zd<|za (ze U) U<|zf<|zA<|ym (zH U (zw U)) U U U ⟨_,_,_,_,_,_,h,U,U⟩
       ·cases q25
      ·replace h:=h.2 ((yb q24))
       refine zp U U ⟨_,_,U,U,q24⟩ (zc U) U<|zp U U ⟨_,_,U,U,q24⟩ (zc U) U<|zp U U ⟨_,_,U,U,q24⟩ (zc U) U ?_
       obtain⟨q26,h⟩:=h
       refine zp U U ⟨_,_,U,U,q24⟩ (zB U U q26) U<|zp U U ⟨_,_,U,U,q24⟩ (zc U) U<|zp U U ⟨_,_,U,U,q24⟩ (zc U) U<|zp U U ⟨_,_,U,U,q24⟩ (zK U) U<|zp U U ⟨_,_,U,U,q24⟩ (zD U) U<|zp U U ⟨_,_,U,U,q24⟩ (zc U) U<|zp U U ⟨_,_,U,U,q24⟩ (zc U) U<|zp U U ⟨_,_,U,U,q24⟩ (zK U) U<|zp U U ⟨_,_,U,U,q24⟩ (zD U) U<|zp U U ⟨_,_,U,U,q24⟩ (zc U) U<|zp U U ⟨_,_,U,U,q24⟩ (zc U) U<|zY U U ⟨_,_,U,U,q24⟩ (zx (f:=(fun r=>C.lst (ints r))) U q26) U ?_
       obtain⟨q27,h⟩:=h
       refine zp U U ⟨_,_,U,U,q24⟩ (zB U U q27) U<|zY U U ⟨_,_,U,U,q24⟩ (zx (f:=ci) U q27) U<|zY U U ⟨_,_,U,U,q24⟩ (yB U U U U U) U ?_
       obtain⟨q28,h⟩:=h
       refine zp U U ⟨_,_,U,U,q24⟩ (zB U U q28) U<|zY U U ⟨_,_,U,U,q24⟩ (zx (f:=(fun r=>C.lst (rows r))) U q28) U<|rd_open 1006 (id:=800) (j:=2) U U U U U<|zY U U ⟨_,_,U,U,q24⟩ (yt U U U U) U ?_
       obtain⟨q29,h⟩:=h
       refine zp U U ⟨_,_,U,U,q24⟩ (zR (f:=ci) U U U q29) U<|zY U U ⟨_,_,U,U,q24⟩ (yi (f:=ci) U U q29 U U) U ?_
       obtain⟨q30,h⟩:=h
       refine zp U U ⟨_,_,U,U,q24⟩ (zB U U q30) U<|zY U U ⟨_,_,U,U,q24⟩ (zx (f:=(fun r=>C.lst (ints r))) U q30) U ?_
       obtain⟨q31,h⟩:=h
       refine zp U U ⟨_,_,U,U,q24⟩ (zB U U q31) U<|zY U U ⟨_,_,U,U,q24⟩ (zx (f:=ci) U q31) U ?_
       obtain⟨q32,h⟩:=h
       obtain⟨q33,h⟩:=h
       refine xq U U ⟨_,_,U,U,q24⟩ (ws_gh (yu (id:=800) (id2:=1006) (j:=2) U U (zb U) U U U) (yp (xs:=[.tmp 114,.tmp 121,.tmp 140]) (cs:=[.obox [.lst (tabs o1_0),.lst (tabs o1_1),.own (ints o1_2),.own (bools o1_3),.own (ints o1_4)],ci (el (el (el f800_0_1 v79_2) (el f800_4_1 v7_1)) x),ci (el (el (el o1_1 v79_2) (el o1_2 (el f800_4_1 v7_1))) v)]) (ids:=[]) U (.inr ⟨U,U⟩) U U U (hrec o1_0 o1_1 o1_2 o1_3 o1_4 (el (el (el f800_0_1 v79_2) (el f800_4_1 v7_1)) x) (el (el (el o1_1 v79_2) (el o1_2 (el f800_4_1 v7_1))) v) q32 q33) U U ?_))
       rintro _ _ ⟨r2_0,o2_0,o2_1,o2_2,o2_3,o2_4,q34,rfl,rfl⟩
       replace h:=h r2_0 o2_0 o2_1 o2_2 o2_3 o2_4 q34
       refine⟨U,U,?_⟩
       refine zp U U ⟨_,_,U,U,q24⟩ (yA U) U<|zp U U trivial (zV U q24 U) U<|yh<|zm U (fun q35=>?_) (fun q35=>?_)
       ·replace h:=h.1 ((ya q35))
        exact zg<|zk (zl (n:=145) (σ':=[(800,⟨[.lst (tabs o2_0),.lst (tabs o2_1),.own (ints o2_2),.own (bools o2_3),.own (ints o2_4)],[]⟩)]) (env':=[(145,.cell 800 0),(146,.c (ci x)),(147,.c (ci v))]) U U E3)<|zd<|za (ze U) U<|zf<|zA<|ym (zH U (zw U)) U U U ⟨_,_,_,_,_,_,h,U,U⟩
       ·replace h:=h.2 ((yb q35))
        refine zu<|zk (zl (n:=145) (σ':=[(800,⟨[.lst (tabs o2_0),.lst (tabs o2_1),.own (ints o2_2),.own (bools o2_3),.own (ints o2_4)],[]⟩)]) (env':=[(0,.cell 800 0),(1,.c (ci x)),(2,.c (ci v)),(7,.c (ci v7_1)),(8,.c (ci (el f800_4_1 v7_1))),(77,.c (.lst (tabs f800_0_1))),(78,.c (ci (f800_0_1.length:Int))),(79,.c (ci v79_2)),(114,.cell 800 0),(115,.c (.lst (rows (el f800_0_1 v79_2)))),(116,.c (ci (el f800_4_1 v7_1))),(117,.c (.ptr ((rows (el f800_0_1 v79_2)).drop (el f800_4_1 v7_1).toNat))),(118,.c (.lst (ints (el (el f800_0_1 v79_2) (el f800_4_1 v7_1))))),(119,.c (ci x)),(120,.c (.ptr ((ints (el (el f800_0_1 v79_2) (el f800_4_1 v7_1))).drop x.toNat))),(121,.c (ci (el (el (el f800_0_1 v79_2) (el f800_4_1 v7_1)) x))),(122,.cell 800 0),(123,.cell 800 0),(124,.cell 800 1),(125,.c (.lst (tabs o1_1))),(126,.c (ci v79_2)),(127,.c (.ptr ((tabs o1_1).drop v79_2.toNat))),(128,.c (.lst (rows (el o1_1 v79_2)))),(129,.cell 800 0),(130,.cell 800 0),(131,.cell 800 2),(133,.c (ci (el f800_4_1 v7_1))),(135,.c (ci (el o1_2 (el f800_4_1 v7_1)))),(136,.c (.ptr ((rows (el o1_1 v79_2)).drop (el o1_2 (el f800_4_1 v7_1)).toNat))),(137,.c (.lst (ints (el (el o1_1 v79_2) (el o1_2 (el f800_4_1 v7_1)))))),(138,.c (ci v)),(139,.c (.ptr ((ints (el (el o1_1 v79_2) (el o1_2 (el f800_4_1 v7_1)))).drop v.toNat))),(140,.c (ci (el (el (el o1_1 v79_2) (el o1_2 (el f800_4_1 v7_1))) v))),(141,.c (cb r2_0)),(142,.c (cb (!r2_0))),(145,.cell 800 0),(146,.c (ci x)),(147,.c (ci v))]) U U ⟨U,U,U,U,U,U,U,U,U,U,U,U,U,U,U,U,U,U,U,U,U,U,U,U,U,U,U,U,U,U,U,U,U,U,U,U,U,U,trivial⟩)<|zd ?_
        obtain⟨q36,h⟩:=h
        exact za (zG U U q36) U<|za (zc U) U<|zf<|⟨v79_2 + 1,o2_0,o2_1,o2_2,o2_3,o2_4,zv (n:=145) U U ⟨U,U,U,U,U,U,U,U,U,U,U,trivial⟩,h.1,h.2⟩
     ·replace h:=h.2 (zh q13)
      refine zL<|zd<|za (zc U) U ?_
      obtain⟨q37,h⟩:=h
      exact za (zG U U q37) U<|za (ze U) U<|zf<|⟨v7_1 + 1,f800_0_2,f800_1_2,f800_2_2,f800_3_2,f800_4_2,zv (n:=145) U U E7,h.1,h.2⟩
    ·replace h:=h.2 (zh q10)
     exact zL<|zg<|zk (zl (n:=145) (σ':=[(1004,⟨ints f800_4_1,[]⟩),(800,⟨[.lst (tabs f800_0_1),.lst (tabs f800_1_1),.own (ints f800_2_1),.own (bools f800_3_1),.hole],[(4,.ref 1004)]⟩)]) (env':=[(145,.cell 800 0),(146,.c (ci x)),(147,.c (ci v))]) U U E3)<|zd<|za (ze U) U<|zf<|zk (yu (id:=800) (id2:=1004) (j:=4) U U (zb U) U U U)<|zA<|ym (zH U (zw U)) U U U ⟨_,_,_,_,_,_,h,U,U⟩
theorem c___impl_mapping__assign : ∀ (mw1:List (List (List Int))) (mw2:List (List (List Int))) (mw3:List Int) (mw4:List Bool) (mw5:List Int) (x:Int) (v:Int),(OkM mw1 mw2 mw3 mw4 mw5/\(0<=x/\x < (mw3.length:Int))/\0<=v/\v < (mw3.length:Int))->AM Tryz.prog 71 [.obox [.lst (tabs mw1),.lst (tabs mw2),.own (ints mw3),.own (bools mw4),.own (ints mw5)],ci x,ci v] (fun R_ O_=>∃ y0 w0 w1 w2 w3 w4,(AsgP mw1 mw2 mw3 mw4 mw5 x v y0 w2 w3 w4/\w0 = mw1/\w1 = mw2)/\R_ = cb y0/\O_ = [.obox [.lst (tabs w0),.lst (tabs w1),.own (ints w2),.own (bools w3),.own (ints w4)],ci x,ci v]):=by
  have key : ∀ (k_:Nat) (mw1:List (List (List Int))) (mw2:List (List (List Int))) (mw3:List Int) (mw4:List Bool) (mw5:List Int) (x:Int) (v:Int),(mw3.length - mw5.length)<=k_->(OkM mw1 mw2 mw3 mw4 mw5/\(0<=x/\x < (mw3.length:Int))/\0<=v/\v < (mw3.length:Int))->AM Tryz.prog 71 [.obox [.lst (tabs mw1),.lst (tabs mw2),.own (ints mw3),.own (bools mw4),.own (ints mw5)],ci x,ci v] (fun R_ O_=>∃ y0 w0 w1 w2 w3 w4,(AsgP mw1 mw2 mw3 mw4 mw5 x v y0 w2 w3 w4/\w0 = mw1/\w1 = mw2)/\R_ = cb y0/\O_ = [.obox [.lst (tabs w0),.lst (tabs w1),.own (ints w2),.own (bools w3),.own (ints w4)],ci x,ci v]):=by
    intro k_; induction k_ with
    | zero=>intro mw1 mw2 mw3 mw4 mw5 x v hn hp; exact (w___impl_mapping__assign mw1 mw2 mw3 mw4 mw5 x v (fun y0 w0 w1 w2 w3 w4=>AsgP mw1 mw2 mw3 mw4 mw5 x v y0 w2 w3 w4/\w0 = mw1/\w1 = mw2) (fun _ _ _ _ _ _ _ hlt=>absurd hlt (by omega)) (p___impl_mapping__assign mw1 mw2 mw3 mw4 mw5 x v hp)).mono (fun _ _ h=>h)
    | succ k_ ih=>intro mw1 mw2 mw3 mw4 mw5 x v hn hp; exact (w___impl_mapping__assign mw1 mw2 mw3 mw4 mw5 x v (fun y0 w0 w1 w2 w3 w4=>AsgP mw1 mw2 mw3 mw4 mw5 x v y0 w2 w3 w4/\w0 = mw1/\w1 = mw2) (fun mw1' mw2' mw3' mw4' mw5' x' v' hlt=>ih mw1' mw2' mw3' mw4' mw5' x' v' (by omega)) (p___impl_mapping__assign mw1 mw2 mw3 mw4 mw5 x v hp)).mono (fun _ _ h=>h)
  exact fun mw1 mw2 mw3 mw4 mw5 x v=>key _ mw1 mw2 mw3 mw4 mw5 x v (Nat.le_refl _)
def wp___impl_mapping__extend (L_:List (List Int)) (z_:Option Nat) (mw1:List (List (List Int))) (mw2:List (List (List Int))) (mw3:List Int) (mw4:List Bool) (mw5:List Int) (Q:Bool->List (List (List Int))->List (List (List Int))->List Int->List Bool->List Int->Option Nat->Prop):Prop:=
 (small mw3)/\
 ((idxI mw3 (-1:Int) < 0->
 ∃ (k1_:Nat),z_ = some k1_/\L_[k1_]? = some mw3/\
 (Q true mw1 mw2 mw3 mw4 mw5 (some (k1_ + 1))/\
 Q false mw1 mw2 mw3 mw4 mw5 none))/\
 (¬ (idxI mw3 (-1:Int) < 0)->
 ∃ (H1:Int->Option Nat->List (List (List Int))->List (List (List Int))->List Int->List Bool->List Int->Prop) (m1:Int->Option Nat->List (List (List Int))->List (List (List Int))->List Int->List Bool->List Int->Nat),
 H1 0 z_ mw1 mw2 mw3 mw4 mw5/\
 ∀ (v32_1:Int) (z1:Option Nat) (f800_0_1:List (List (List Int))) (f800_1_1:List (List (List Int))) (f800_2_1:List Int) (f800_3_1:List Bool) (f800_4_1:List Int),H1 v32_1 z1 f800_0_1 f800_1_1 f800_2_1 f800_3_1 f800_4_1->
 (((v32_1 < (mw3.length:Int)->
 (0<=v32_1/\v32_1 < (f800_3_1.length:Int))/\
 (((el f800_3_1 v32_1) = true->
 (InI (v32_1 + 1))/\
 (H1 (v32_1 + 1) z1 f800_0_1 f800_1_1 f800_2_1 f800_3_1 f800_4_1/\m1 (v32_1 + 1) z1 f800_0_1 f800_1_1 f800_2_1 f800_3_1 f800_4_1 < m1 v32_1 z1 f800_0_1 f800_1_1 f800_2_1 f800_3_1 f800_4_1))/\
 ((el f800_3_1 v32_1) = false->
 (OkM f800_0_1 f800_1_1 f800_2_1 f800_3_1 f800_4_1/\(0<=(idxI mw3 (-1:Int))/\(idxI mw3 (-1:Int)) < (f800_2_1.length:Int))/\0<=v32_1/\v32_1 < (f800_2_1.length:Int))/\
 ∀ (r2_0:Bool) (o2_0:List (List (List Int))) (o2_1:List (List (List Int))) (o2_2:List Int) (o2_3:List Bool) (o2_4:List Int),(AsgP f800_0_1 f800_1_1 f800_2_1 f800_3_1 f800_4_1 (idxI mw3 (-1:Int)) v32_1 r2_0 o2_2 o2_3 o2_4/\o2_0 = f800_0_1/\o2_1 = f800_1_1)->
 ((r2_0 = true->
 ((o2_2.length - o2_4.length) < (mw3.length - mw5.length))/\
 (ExPre L_ z1 o2_0 o2_1 o2_2 o2_3 o2_4)/\
 ∀ (r3_0:Bool) (y3_:Option Nat),(ExPost z1 o2_0 o2_1 o2_2 r3_0 y3_)->
 (OkM o2_0 o2_1 o2_2 o2_3 o2_4/\0<=(mw5.length:Int)/\(mw5.length:Int)<=(o2_4.length:Int))/\
 ∀ (o4_0:List (List (List Int))) (o4_1:List (List (List Int))) (o4_2:List Int) (o4_3:List Bool) (o4_4:List Int),(OkM o4_0 o4_1 o4_2 o4_3 o4_4/\o4_0 = o2_0/\o4_1 = o2_1/\o4_4 = o2_4.take (mw5.length:Int).toNat/\o4_2.length = o2_2.length/\∀ x_ ∈ o4_4,el o4_2 x_ = el o2_2 x_)->
 ((r3_0 = false->
 Q false o4_0 o4_1 o4_2 o4_3 o4_4 y3_)/\
 (r3_0 = true->
 (InI (v32_1 + 1))/\
 (H1 (v32_1 + 1) y3_ o4_0 o4_1 o4_2 o4_3 o4_4/\m1 (v32_1 + 1) y3_ o4_0 o4_1 o4_2 o4_3 o4_4 < m1 v32_1 z1 f800_0_1 f800_1_1 f800_2_1 f800_3_1 f800_4_1))))/\
 (r2_0 = false->
 (OkM o2_0 o2_1 o2_2 o2_3 o2_4/\0<=(mw5.length:Int)/\(mw5.length:Int)<=(o2_4.length:Int))/\
 ∀ (o5_0:List (List (List Int))) (o5_1:List (List (List Int))) (o5_2:List Int) (o5_3:List Bool) (o5_4:List Int),(OkM o5_0 o5_1 o5_2 o5_3 o5_4/\o5_0 = o2_0/\o5_1 = o2_1/\o5_4 = o2_4.take (mw5.length:Int).toNat/\o5_2.length = o2_2.length/\∀ x_ ∈ o5_4,el o5_2 x_ = el o2_2 x_)->
 (InI (v32_1 + 1))/\
 (H1 (v32_1 + 1) z1 o5_0 o5_1 o5_2 o5_3 o5_4/\m1 (v32_1 + 1) z1 o5_0 o5_1 o5_2 o5_3 o5_4 < m1 v32_1 z1 f800_0_1 f800_1_1 f800_2_1 f800_3_1 f800_4_1))))))/\
 (¬ (v32_1 < (mw3.length:Int))->
 Q true f800_0_1 f800_1_1 f800_2_1 f800_3_1 f800_4_1 z1)))))
def wp_impl_isomorphisms_1 (L_:List (List Int)) (ta:List (List (List Int))) (tb:List (List (List Int))):Prop:=
 ((0:Int)<=0/\0 < (ta.length:Int))/\
 ((0:Int)<=0/\0 < (tb.length:Int))/\
 ((¬ (((el tb 0).length:Int) = ((el ta 0).length:Int))->
 (some 0 = some L_.length\/some 0 = none))/\
 (((el tb 0).length:Int) = ((el ta 0).length:Int)->
 (0<=((el ta 0).length:Int)/\((el ta 0).length:Int)<=1000000000)/\
 (0<=((el ta 0).length:Int)/\((el ta 0).length:Int)<=1000000000)/\
 ∃ (H1:Int->List Int->Prop) (m1:Int->List Int->Nat),
 H1 0 (List.replicate ((el ta 0).length:Int).toNat (0:Int))/\
 ∀ (v27_1:Int) (f5_2_1:List Int),H1 v27_1 f5_2_1->
 (((v27_1 < ((List.replicate ((el ta 0).length:Int).toNat (0:Int)).length:Int)->
 (0<=v27_1/\v27_1 < (f5_2_1.length:Int))/\
 (InI (v27_1 + 1))/\
 (H1 (v27_1 + 1) (se f5_2_1 v27_1 (-1))/\m1 (v27_1 + 1) (se f5_2_1 v27_1 (-1)) < m1 v27_1 f5_2_1))/\
 (¬ (v27_1 < ((List.replicate ((el ta 0).length:Int).toNat (0:Int)).length:Int))->
 (ExPre L_ (some 0) ta tb f5_2_1 (List.replicate ((el ta 0).length:Int).toNat false) ([] : List Int))/\
 ∀ (r1_0:Bool) (y1_:Option Nat),(ExPost (some 0) ta tb f5_2_1 r1_0 y1_)->
 (y1_ = some L_.length\/y1_ = none))))))
theorem subL_app {L A B R:List (List Int)} {k:Nat} (h:SubL L (A ++ B ++ R) k):SubL L B (k + A.length):=fun i e hi=>by
  have hil:=(List.getElem?_eq_some_iff.1 hi).1
  have:=h (A.length + i) e (by rw [List.append_assoc,List.getElem?_append_right (by omega),Nat.add_sub_cancel_left,List.getElem?_append_left hil]; exact hi)
  rw [show k + A.length + i = k + (A.length + i) by omega]; exact this
theorem p___impl_mapping__extend (L_:List (List Int)) (z_:Option Nat) (mw1 mw2:List (List (List Int))) (mw3:List Int) (mw4:List Bool) (mw5:List Int) (hp:ExPre L_ z_ mw1 mw2 mw3 mw4 mw5) :
    wp___impl_mapping__extend L_ z_ mw1 mw2 mw3 mw4 mw5 (fun y0 w0 w1 w2 w3 w4 zz_=>(ExPost z_ mw1 mw2 mw3 y0 zz_)/\w0 = mw1/\w1 = mw2/\w2 = mw3/\w3 = mw4/\w4 = mw5):=by
  obtain⟨k,rfl,hM,hD,hS⟩:=hp
  unfold wp___impl_mapping__extend
  have h12:=hM.n12
  refine⟨by show _<=(1000000000:Int); omega,fun hneg=>?_,fun hpos=>?_⟩
  · have hall : ∀ x,0<=x->x < (mw3.length:Int)->0<=el mw3 x:=fun x x0 x1=>by
      have:=hM.val x x0 x1
      by_cases e:el mw3 x = -1
      · exfalso
        have hm:(-1:Int) ∈ mw3:=by rw [<- e]; exact el_mem ⟨x0,x1⟩
        have:=(idxI_spec hm).1; omega
      · omega
    have hE:=ext_whole hM hD hall
    have h0:=hS 0 mw3 (by rw [hE]; rfl)
    exact⟨k,rfl,h0,⟨⟨k,rfl,.inl ⟨rfl,by rw [hE]; rfl⟩⟩,rfl,rfl,rfl,rfl,rfl⟩,⟨k,rfl,.inr ⟨rfl,rfl⟩⟩,rfl,rfl,rfl,rfl,rfl⟩
  have hin:(-1:Int) ∈ mw3:=Decidable.byContradiction fun hn=>by
    have:idxI mw3 (-1) = -1:=idxF_none fun j j0 j1=>by
      have:el mw3 j≠-1:=fun e=>hn (by rw [<- e]; exact el_mem ⟨j0,j1⟩)
      simpa using this
    omega
  obtain⟨hx,hxv⟩:=idxI_spec hin
  have hbefore : ∀ y,0<=y->y < idxI mw3 (-1)->0<=el mw3 y:=fun y y0 y1=>by
    have hv:=hM.val y y0 (by omega)
    by_cases e:el mw3 y = -1
    · exfalso
      have hany:idxI mw3 (-1)<=y:=by
        unfold idxI idxF
        rw [if_pos (List.any_eq_true.2 ⟨-1,hin,by simp⟩)]
        have:List.findIdx (fun z=>z == (-1:Int)) mw3<=y.toNat:=Nat.le_of_not_lt fun hlt=>by
          have:=List.not_of_lt_findIdx hlt
          have e2:mw3[y.toNat]'(by omega) = -1:=by
            unfold el at e
            rw [List.getD_eq_getElem?_getD,List.getElem?_eq_getElem (by omega)] at e
            simpa using e
          simp [e2] at this
        omega
      omega
    · omega
  generalize idxI mw3 (-1) = x at *
  have hxn : ¬ 0<=el mw3 x:=by omega
  have hxs:x ∉ mw5:=fun hm=>hxn (hM.in_s hm).2.1
  refine⟨fun v z a b f u s=>(0<=v/\v<=(mw3.length:Int))/\z = some (k + (exA mw1 mw2 mw3 x v).length)/\a = mw1/\b = mw2/\f = mw3/\u = mw4/\s = mw5,fun v _ _ _ _ _ _=>((mw3.length:Int) - v).toNat,
    ⟨⟨by omega,by omega⟩,by rw [exA_zero hx]; rfl,rfl,rfl,rfl,rfl,rfl⟩,?_⟩
  rintro v z a b f u s ⟨⟨v0,v1⟩,rfl,ea,eb,ef,eu,es⟩
  dsimp only
  have ea:=ea.symm; have eb:=eb.symm; have ef:=ef.symm; have eu:=eu.symm; have es:=es.symm
  subst ea eb ef eu es
  have hsucc:=exA_succ (a:=mw1) (b:=mw2) (v:=v) hx hbefore
  have none_v:exB mw1 mw2 mw3 x v = []->exA mw1 mw2 mw3 x (v + 1) = exA mw1 mw2 mw3 x v:=fun h=>by rw [hsucc,h,List.append_nil]
  refine⟨fun vlt=>⟨⟨v0,by rw [hM.lu]; exact vlt⟩,fun hu=>⟨⟨by omega,by omega⟩,⟨⟨by omega,by omega⟩,?_,rfl,rfl,rfl,rfl,rfl⟩,by omega⟩,fun hu=>⟨⟨hM,hx,v0,vlt⟩,fun r o0 o1 f2 u2 s2 ⟨hA,e0,e1⟩=>?_⟩⟩,fun vge=>?_⟩
  · -- the value is used
    rw [none_v]
    refine List.eq_nil_iff_forall_not_mem.2 fun p hp=>?_
    obtain⟨h1,h2⟩:=mem_exB.1 hp
    obtain⟨p1,p2,p3⟩:=mem_ext.1 h1
    obtain⟨y,hy,e⟩:=(hM.use v v0 vlt).1 hu
    have gy:=hM.in_s hy
    have:=isPerm_inj p2.1 (i:=x) (j:=y) ⟨hx.1,by omega⟩ ⟨gy.1.1,by omega⟩ (by rw [h2,p3 y gy.1.1 gy.1.2 gy.2.1,e])
    exact hxs (this ▸ hy)
  · have e0:=e0.symm; have e1:=e1.symm; subst e0 e1
    obtain⟨g1,g2,⟨t,g3⟩,g4,g5,g6⟩:=hA
    have hlen2:=g1.len
    have hb : ∀ {f4:List Int} {u4:List Bool} {s4:List Int},OkM mw1 mw2 f4 u4 s4->s4 = s2.take (mw5.length:Int).toNat->f4.length = f2.length->(∀ y ∈ s4,el f4 y = el f2 y)->f4 = mw3/\u4 = mw4/\s4 = mw5:=fun h1 h2 h3 h4=>by
      have hs:s2.take (mw5.length:Int).toNat = mw5:=by rw [g3]; simp
      rw [hs] at h2
      subst h2
      obtain⟨q1,q2⟩:=okM_uniq hM h1 (by omega) fun y hy=>by rw [h4 y hy,g4 y hy]
      exact⟨q1,q2,rfl⟩
    have hle:(mw5.length:Int)<=(s2.length:Int):=by rw [g3,List.length_append]; omega
    refine⟨fun hr=>?_,fun hr=>⟨⟨g1,by omega,hle⟩,fun o0 o1 f4 u4 s4 ⟨q1,q2,q3,q4,q5,q6⟩=>?_⟩⟩
    · subst hr
      have hxs2:x ∈ s2:=(g1.mem x).2 ⟨⟨hx.1,by omega⟩,by rw [(g5 rfl).1]; exact v0⟩
      have hlt:(mw5.length:Int) + 1<=(s2.length:Int):=by
        have:t≠[]:=fun e=>by rw [e,List.append_nil] at g3; rw [g3] at hxs2; exact hxs hxs2
        have:=List.length_pos_iff.2 this
        rw [g3,List.length_append]; omega
      have hD2:Dn mw1 mw2 f2 s2 0:=dn_mono hM g1 g2 g4 ⟨t,g3⟩ (by omega) hD (g5 rfl).2
      have hB:extL mw1 mw2 f2 = exB mw1 mw2 mw3 x v:=exB_asg hx v0 hM ⟨g1,g2,⟨t,g3⟩,g4,g5,g6⟩
      obtain⟨R,hR⟩:=exA_pre (a:=mw1) (b:=mw2) (v:=v + 1) hx hbefore
      have hS2:SubL L_ (extL mw1 mw2 f2) (k + (exA mw1 mw2 mw3 x v).length):=by
        rw [hR,hsucc] at hS; rw [hB]; exact subL_app hS
      refine⟨by omega,⟨_,rfl,g1,hD2,hS2⟩,fun r y ⟨k',hk',hpost⟩=>⟨⟨g1,by omega,hle⟩,fun o0 o1 f4 u4 s4 ⟨q1,q2,q3,q4,q5,q6⟩=>?_⟩⟩
      have q2:=q2.symm; have q3:=q3.symm; subst q2 q3
      obtain⟨rfl,rfl,rfl⟩:=hb q1 q4 q5 q6
      cases hk'
      refine⟨fun hr=>?_,fun hr=>⟨⟨by omega,by omega⟩,⟨⟨by omega,by omega⟩,?_,rfl,rfl,rfl,rfl,rfl⟩,by omega⟩⟩
      · rcases hpost with ⟨h1,_⟩ | ⟨_,h2⟩
        · rw [hr] at h1; cases h1
        · exact⟨⟨k,rfl,.inr ⟨rfl,h2⟩⟩,rfl,rfl,rfl,rfl,rfl⟩
      · rcases hpost with ⟨_,h2⟩ | ⟨h1,_⟩
        · rw [h2,hB,hsucc,List.length_append]; congr 1; omega
        · rw [hr] at h1; cases h1
    · have q2:=q2.symm; have q3:=q3.symm; subst q2 q3
      obtain⟨rfl,rfl,rfl⟩:=hb q1 q4 q5 q6
      refine⟨⟨by omega,by omega⟩,⟨⟨by omega,by omega⟩,?_,rfl,rfl,rfl,rfl,rfl⟩,by omega⟩
      rw [none_v]
      refine List.eq_nil_iff_forall_not_mem.2 fun p hp=>?_
      obtain⟨h1,h2⟩:=mem_exB.1 hp
      obtain⟨p1,p2,p3⟩:=mem_ext.1 h1
      have:=(g6 p p1 p2 p3 h2).1
      rw [hr] at this; cases this
  · refine⟨⟨k,rfl,.inl ⟨rfl,?_⟩⟩,rfl,rfl,rfl,rfl,rfl⟩
    rw [show v = (mw3.length:Int) by omega,exA_all hx]
theorem p_impl_isomorphisms_1 (ta tb:List (List (List Int))) (hp:TabsP ta/\TabsP tb/\ta.length = tb.length/\1<=ta.length):wp_impl_isomorphisms_1 (isoL ta tb) ta tb:=by
  obtain⟨⟨a1,a2,a3⟩,⟨b1,b2,b3⟩,hl,_⟩:=hp
  unfold wp_impl_isomorphisms_1
  refine⟨⟨by omega,by omega⟩,⟨by omega,by omega⟩,fun hne=>.inl ?_,fun heq=>?_⟩
  · unfold isoL; rw [if_neg (by omega)]; rfl
  have ht:=isTab_len (a3 0 (by omega) (by omega)).1
  refine⟨⟨by omega,by omega⟩,⟨by omega,by omega⟩,?_⟩
  have hr:((List.replicate ((el ta 0).length:Int).toNat (0:Int)).length:Int) = ((el ta 0).length:Int):=by simp
  rw [hr]
  generalize hn:(el ta 0).length = n at *
  refine⟨fun i f=>(0<=i/\i<=(n:Int))/\f.length = n/\Upto i fun j=>el f j = -1,fun i _=>((n:Int) - i).toNat,⟨⟨by omega,by omega⟩,by simp,upto0⟩,?_⟩
  rintro i f ⟨⟨i0,i1⟩,fl,fI⟩
  dsimp only
  refine⟨fun ilt=>⟨⟨i0,by omega⟩,⟨by omega,by omega⟩,⟨⟨by omega,by omega⟩,by simp [fl],fill1 (f:=fun _=>-1) ⟨i0,by omega⟩ fI rfl⟩,by omega⟩,fun ige=>?_⟩
  have hm1 : ∀ x,0<=x->x < (f.length:Int)->el f x = -1:=fun x x0 x1=>fI x x0 (by omega)
  have hM:OkM ta tb f (List.replicate (n:Int).toNat false) []:=by
    refine⟨hl,fun k k0 k1=>⟨(a3 k k0 k1).1,by rw [(a3 k k0 k1).2,fl]⟩,fun k k0 k1=>⟨(b3 k k0 k1).1,by rw [(b3 k k0 k1).2,fl]; omega⟩,a2,by simp [fl],by omega,List.nodup_nil,fun x=>?_,fun x x0 x1=>.inl (hm1 x x0 x1),fun v v0 v1=>?_,fun x hx=>by cases hx⟩
    · constructor
      · intro h; cases h
      · rintro⟨⟨x0,x1⟩,h⟩; rw [hm1 x x0 x1] at h; omega
    · rw [el_rep ⟨v0,by omega⟩]
      exact⟨fun h=>absurd h (by simp),fun⟨x,hx,_⟩=>by cases hx⟩
  have hE:extL ta tb f = isoL ta tb:=by
    unfold extL isoL
    rw [if_pos (by omega),hn,fl]
    refine List.filter_congr fun p _=>dec_congr ⟨fun h=>h.1,fun h=>⟨h,fun x x0 x1 x2=>?_⟩⟩
    rw [hm1 x x0 x1] at x2; omega
  refine⟨⟨0,rfl,hM,fun j i _ h2=>by simp at h2; omega,fun i e he=>by rw [hE] at he; rw [Nat.zero_add]; exact he⟩,fun r y ⟨k,hk,hpost⟩=>?_⟩
  cases hk
  rcases hpost with ⟨_,h⟩ | ⟨_,h⟩
  · left; rw [h,hE,Nat.zero_add]
  · right; exact h
theorem w___impl_mapping__extend {l_ n0_:Nat} {L_:List (List Int)} {J_:Nat->World->(Nat->Prop)->Prop} {Jx_:World->(Nat->Prop)->Prop} (hY_:Yc Tryz.prog l_ n0_ (L_.map fun p_=>.lst (ints p_)) J_ Jx_) (mw1:List (List (List Int))) (mw2:List (List (List Int))) (mw3:List Int) (mw4:List Bool) (mw5:List Int) (z_:Option Nat) (hrec : ∀ (mw1' : List (List (List Int))) (mw2' : List (List (List Int))) (mw3' : List Int) (mw4' : List Bool) (mw5' : List Int) (z_' : Option Nat),(mw3'.length - mw5'.length) < (mw3.length - mw5.length)->(ExPre L_ z_' mw1' mw2' mw3' mw4' mw5')->AMZ Tryz.prog n0_ J_ Jx_ 45 [.obox [.lst (tabs mw1'),.lst (tabs mw2'),.own (ints mw3'),.own (bools mw4'),.own (ints mw5')],.val (yv l_)] z_' (fun R_ O_ Z_=>∃ y0:Bool,(ExPost z_' mw1' mw2' mw3' y0 Z_)/\R_ = cb y0/\O_ = [.obox [.lst (tabs mw1'),.lst (tabs mw2'),.own (ints mw3'),.own (bools mw4'),.own (ints mw5')],.val (yv l_)])) (Q:Bool->List (List (List Int))->List (List (List Int))->List Int->List Bool->List Int->Option Nat->Prop) (h:wp___impl_mapping__extend L_ z_ mw1 mw2 mw3 mw4 mw5 Q):AMZ Tryz.prog n0_ J_ Jx_ 45 [.obox [.lst (tabs mw1),.lst (tabs mw2),.own (ints mw3),.own (bools mw4),.own (ints mw5)],.val (yv l_)] z_ (fun R_ O_ Z_=>∃ y0 w0 w1 w2 w3 w4,Q y0 w0 w1 w2 w3 w4 Z_/\R_ = cb y0/\O_ = [.obox [.lst (tabs w0),.lst (tabs w1),.own (ints w2),.own (bools w3),.own (ints w4)],.val (yv l_)]):=by
  refine amz_enter hY_ (n:=55) (m:=2) Tryz.func45 U (by rfl) U U (zb U) [800] U (fun Gb_ Zb_=>?_)
  unfold wp___impl_mapping__extend at h
  refine yG<|yY (zl (n:=55) (σ':=[(800,⟨[.lst (tabs mw1),.lst (tabs mw2),.own (ints mw3),.own (bools mw4),.own (ints mw5)],[]⟩)]) (env':=[(0,.cell 800 0),(1,.c (.val (yv l_))),(55,.cell 800 0),(56,.c (.val (yv l_)))]) U U E4)<|yg<|yj (ze U) U<|yM<|yG<|yg<|yj (zc U) U<|yj (zK U) U<|yj (zD U) U<|rz_gh (xf 1001 (id:=800) (j:=2) U U U)<|yj (yt U U U U) U ?_
  obtain⟨q1,h⟩:=h
  refine rz_w (yU (xs:=[.tmp 12,.const (.int .i64 (-1))]) (cs:=[.own (ints mw3),ci (-1)]) (ids:=[]) U (.inr ⟨U,U⟩) U U (yD (yq (yr (fun _=>U) _)) (yD U yX)) (c_k_Index mw3 (-1) q1) U ?_)
  rintro _ rfl
  refine⟨U,U,?_⟩
  refine yj (ze U) U<|yM<|yG<|yG<|yY (zl (n:=55) (σ':=[(1001,⟨ints mw3,[]⟩),(800,⟨[.lst (tabs mw1),.lst (tabs mw2),.hole,.own (bools mw4),.own (ints mw5)],[(2,.ref 1001)]⟩)]) (env':=[(0,.cell 800 0),(1,.c (.val (yv l_))),(5,.c (ci (idxI mw3 (-1:Int)))),(55,.cell 800 0),(56,.c (.val (yv l_)))]) U U E5)<|yg<|yj (zc U) U<|yj (zO U U) U<|yM<|xu U (fun q3=>?_) (fun q3=>?_)
  ·replace h:=h.1 (zj q3)
   refine yG<|yg<|yj (zc U) U<|yj (zc U) U<|yj (zK U) U<|yj (zD U) U<|yj (yt U U U U) U ?_
   obtain⟨k1_,q4,q5,h⟩:=h
   refine rz_yield hY_ q4 U U U (yl_at q5) U ?_ ?_
   ·replace h:=h.1
    exact yj (ze U) U<|yM<|yY (yu (id:=800) (id2:=1001) (j:=2) U U (zb U) U U U)<|az_ret<|ym (zH U (zw U)) U U U ⟨_,_,_,_,_,_,h,U,U⟩
   ·replace h:=h.2
    exact yj (ze U) U<|yM<|yY (yu (id:=800) (id2:=1001) (j:=2) U U (zb U) U U U)<|az_ret<|ym (zH U (zw U)) U U U ⟨_,_,_,_,_,_,h,U,U⟩
  ·replace h:=h.2 (zh q3)
   refine xt<|yG<|yg<|yj (zc U) U<|yj (zK U) U<|yj (zD U) U<|rz_gh (xf 1002 (id:=800) (j:=4) U U U)<|yj (yt U U U U) U<|yj (yR (f:=ci) U U) U<|yj (ze U) U<|yM<|yG<|yG<|yY (zl (n:=55) (σ':=[(1002,⟨ints mw5,[]⟩),(1001,⟨ints mw3,[]⟩),(800,⟨[.lst (tabs mw1),.lst (tabs mw2),.hole,.own (bools mw4),.hole],[(4,.ref 1002),(2,.ref 1001)]⟩)]) (env':=[(0,.cell 800 0),(1,.c (.val (yv l_))),(5,.c (ci (idxI mw3 (-1:Int)))),(6,.c (ci (mw5.length:Int))),(55,.cell 800 0),(56,.c (.val (yv l_)))]) U U E6)<|yg<|yj (zc U) U<|yj (zK U) U<|yj (zD U) U<|yj (yt U U U U) U<|yj (yR (f:=ci) U U) U<|yj (zc U) U<|yM<|az_block<|yY (yu (id:=800) (id2:=1001) (j:=2) U U (zb U) U U U)<|yY (yu (id:=800) (id2:=1002) (j:=4) U U (zb U) U U U) ?_
   obtain⟨H1,m1,q6,h⟩:=h
   refine az_loop7 (fun (v32_1:Int) (z1:Option Nat) (f800_0_1:List (List (List Int))) (f800_1_1:List (List (List Int))) (f800_2_1:List Int) (f800_3_1:List Bool) (f800_4_1:List Int)=>⟨[(800,⟨[.lst (tabs f800_0_1),.lst (tabs f800_1_1),.own (ints f800_2_1),.own (bools f800_3_1),.own (ints f800_4_1)],[]⟩)],[(0,.cell 800 0),(1,.c (.val (yv l_))),(5,.c (ci (idxI mw3 (-1:Int)))),(6,.c (ci (mw5.length:Int))),(31,.c (ci (mw3.length:Int))),(32,.c (ci v32_1)),(55,.cell 800 0),(56,.c (.val (yv l_)))],55⟩) (fun (v32_1:Int) (z1:Option Nat) (f800_0_1:List (List (List Int))) (f800_1_1:List (List (List Int))) (f800_2_1:List Int) (f800_3_1:List Bool) (f800_4_1:List Int)=>z1) H1 m1 ⟨0,z_,mw1,mw2,mw3,mw4,mw5,zv (n:=55) U U E8,U,q6⟩ ?_
   rintro v32_1 z1 f800_0_1 f800_1_1 f800_2_1 f800_3_1 f800_4_1 q6
   replace h:=h v32_1 z1 f800_0_1 f800_1_1 f800_2_1 f800_3_1 f800_4_1 q6
   refine yG<|yg<|yj (zO U U) U<|yM<|yG<|xu U (fun q7=>?_) (fun q7=>?_)
   ·replace h:=h.1 (zj q7)
    refine xt<|yG<|az_block<|yG<|yg<|yj (zc U) U<|yj (ze U) U<|yM<|yG<|yG<|yg<|yj (zc U) U<|yj (zK U) U<|yj (zD U) U<|rz_gh (xf 1003 (id:=800) (j:=3) U U U)<|yj (yt U U U U) U<|yj (zc U) U ?_
    obtain⟨q8,h⟩:=h
    refine yj (zR (f:=cb) U U U q8) U<|yj (yi (f:=cb) U U q8 U U) U<|yM<|xu U (fun q9=>?_) (fun q9=>?_)
    ·replace h:=h.1 (q9)
     refine az_exit<|yY (zl (n:=55) (σ':=[(1003,⟨bools f800_3_1,[]⟩),(800,⟨[.lst (tabs f800_0_1),.lst (tabs f800_1_1),.own (ints f800_2_1),.hole,.own (ints f800_4_1)],[(3,.ref 1003)]⟩)]) (env':=[(0,.cell 800 0),(1,.c (.val (yv l_))),(5,.c (ci (idxI mw3 (-1:Int)))),(6,.c (ci (mw5.length:Int))),(31,.c (ci (mw3.length:Int))),(32,.c (ci v32_1)),(55,.cell 800 0),(56,.c (.val (yv l_)))]) U U E8)<|yg ?_
     obtain⟨q10,h⟩:=h
     exact yj (zG U U q10) U<|yj (zc U) U<|yM<|⟨v32_1 + 1,z1,f800_0_1,f800_1_1,f800_2_1,f800_3_1,f800_4_1,zQ (yu (id:=800) (id2:=1003) (j:=3) U U (zb U) U U U) (zv (n:=55) U U E8),U,h.1,h.2⟩
    ·replace h:=h.2 (q9)
     refine xt<|yG<|yY (zl (n:=55) (σ':=[(1003,⟨bools f800_3_1,[]⟩),(800,⟨[.lst (tabs f800_0_1),.lst (tabs f800_1_1),.own (ints f800_2_1),.hole,.own (ints f800_4_1)],[(3,.ref 1003)]⟩)]) (env':=[(0,.cell 800 0),(1,.c (.val (yv l_))),(5,.c (ci (idxI mw3 (-1:Int)))),(6,.c (ci (mw5.length:Int))),(7,.c (ci v32_1)),(31,.c (ci (mw3.length:Int))),(32,.c (ci v32_1)),(55,.cell 800 0),(56,.c (.val (yv l_)))]) U U E9)<|yg<|yj (ze U) U<|yM<|yG<|yG<|yg<|yj (zc U) U<|yj (zc U) U<|yj (zc U) U<|rz_gh (yu (id:=800) (id2:=1003) (j:=3) U U (zb U) U U U) ?_
     obtain⟨q11,h⟩:=h
     refine rz_w (yp (xs:=[.tmp 42,.tmp 43,.tmp 44]) (cs:=[.obox [.lst (tabs f800_0_1),.lst (tabs f800_1_1),.own (ints f800_2_1),.own (bools f800_3_1),.own (ints f800_4_1)],ci (idxI mw3 (-1:Int)),ci v32_1]) (ids:=[]) U (.inr ⟨U,U⟩) U U U (c___impl_mapping__assign f800_0_1 f800_1_1 f800_2_1 f800_3_1 f800_4_1 (idxI mw3 (-1:Int)) v32_1 q11) U U ?_)
     rintro _ _ ⟨r2_0,o2_0,o2_1,o2_2,o2_3,o2_4,q12,rfl,rfl⟩
     replace h:=h r2_0 o2_0 o2_1 o2_2 o2_3 o2_4 q12
     refine⟨U,U,?_⟩
     refine yM<|xu U (fun q13=>?_) (fun q13=>?_)
     ·replace h:=h.1 (q13)
      refine yY (zl (n:=55) (σ':=[(800,⟨[.lst (tabs o2_0),.lst (tabs o2_1),.own (ints o2_2),.own (bools o2_3),.own (ints o2_4)],[]⟩)]) (env':=[(0,.cell 800 0),(1,.c (.val (yv l_))),(5,.c (ci (idxI mw3 (-1:Int)))),(6,.c (ci (mw5.length:Int))),(8,.c (cb true)),(31,.c (ci (mw3.length:Int))),(32,.c (ci v32_1)),(55,.cell 800 0),(56,.c (.val (yv l_)))]) U U E9)<|yg<|yj (zc U) U<|yj (zc U) U ?_
      obtain⟨q14,h⟩:=h
      obtain⟨q15,h⟩:=h
      refine rz_callY hY_ (id:=800) U U U U U (hrec o2_0 o2_1 o2_2 o2_3 o2_4 z1 q14 q15) U (fun r3_0 y3_ q16=>?_)
      replace h:=h r3_0 y3_ q16
      refine yj (ze U) U<|yM<|yG<|yY (zl (n:=55) (σ':=[(800,⟨[.lst (tabs o2_0),.lst (tabs o2_1),.own (ints o2_2),.own (bools o2_3),.own (ints o2_4)],[]⟩)]) (env':=[(0,.cell 800 0),(1,.c (.val (yv l_))),(5,.c (ci (idxI mw3 (-1:Int)))),(6,.c (ci (mw5.length:Int))),(8,.c (cb r3_0)),(31,.c (ci (mw3.length:Int))),(32,.c (ci v32_1)),(55,.cell 800 0),(56,.c (.val (yv l_)))]) U U E9)<|yg<|yj (zc U) U<|yj (zc U) U ?_
      obtain⟨q17,h⟩:=h
      refine rz_w (yp (xs:=[.tmp 49,.tmp 50]) (cs:=[.obox [.lst (tabs o2_0),.lst (tabs o2_1),.own (ints o2_2),.own (bools o2_3),.own (ints o2_4)],ci (mw5.length:Int)]) (ids:=[]) U (.inr ⟨U,U⟩) U U U (c___impl_mapping__undo o2_0 o2_1 o2_2 o2_3 o2_4 (mw5.length:Int) q17) U U ?_)
      rintro _ _ ⟨o4_0,o4_1,o4_2,o4_3,o4_4,q18,rfl,rfl⟩
      replace h:=h o4_0 o4_1 o4_2 o4_3 o4_4 q18
      refine⟨U,U,?_⟩
      refine yM<|yG<|yY (zl (n:=55) (σ':=[(800,⟨[.lst (tabs o4_0),.lst (tabs o4_1),.own (ints o4_2),.own (bools o4_3),.own (ints o4_4)],[]⟩)]) (env':=[(0,.cell 800 0),(1,.c (.val (yv l_))),(5,.c (ci (idxI mw3 (-1:Int)))),(6,.c (ci (mw5.length:Int))),(8,.c (cb r3_0)),(31,.c (ci (mw3.length:Int))),(32,.c (ci v32_1)),(55,.cell 800 0),(56,.c (.val (yv l_)))]) U U E9)<|yg<|yj (zc U) U<|yj (yA U) U<|yM<|xu U (fun q19=>?_) (fun q19=>?_)
      ·replace h:=h.1 ((ya q19))
       exact yG<|yY (zl (n:=55) (σ':=[(800,⟨[.lst (tabs o4_0),.lst (tabs o4_1),.own (ints o4_2),.own (bools o4_3),.own (ints o4_4)],[]⟩)]) (env':=[(55,.cell 800 0),(56,.c (.val (yv l_)))]) U U E2)<|yg<|yj (ze U) U<|yM<|az_ret<|ym (zH U (zw U)) U U U ⟨_,_,_,_,_,_,h,U,U⟩
      ·replace h:=h.2 ((yb q19))
       refine xt<|yY (zl (n:=55) (σ':=[(800,⟨[.lst (tabs o4_0),.lst (tabs o4_1),.own (ints o4_2),.own (bools o4_3),.own (ints o4_4)],[]⟩)]) (env':=[(0,.cell 800 0),(1,.c (.val (yv l_))),(5,.c (ci (idxI mw3 (-1:Int)))),(6,.c (ci (mw5.length:Int))),(31,.c (ci (mw3.length:Int))),(32,.c (ci v32_1)),(55,.cell 800 0),(56,.c (.val (yv l_)))]) U U E8)<|yg ?_
       obtain⟨q20,h⟩:=h
       exact yj (zG U U q20) U<|yj (zc U) U<|yM<|⟨v32_1 + 1,y3_,o4_0,o4_1,o4_2,o4_3,o4_4,zv (n:=55) U U E8,U,h.1,h.2⟩
     ·replace h:=h.2 (q13)
      refine xt<|yG<|yY (zl (n:=55) (σ':=[(800,⟨[.lst (tabs o2_0),.lst (tabs o2_1),.own (ints o2_2),.own (bools o2_3),.own (ints o2_4)],[]⟩)]) (env':=[(0,.cell 800 0),(1,.c (.val (yv l_))),(5,.c (ci (idxI mw3 (-1:Int)))),(6,.c (ci (mw5.length:Int))),(8,.c (cb true)),(31,.c (ci (mw3.length:Int))),(32,.c (ci v32_1)),(55,.cell 800 0),(56,.c (.val (yv l_)))]) U U E9)<|yg<|yj (zc U) U<|yj (zc U) U ?_
      obtain⟨q21,h⟩:=h
      refine rz_w (yp (xs:=[.tmp 49,.tmp 50]) (cs:=[.obox [.lst (tabs o2_0),.lst (tabs o2_1),.own (ints o2_2),.own (bools o2_3),.own (ints o2_4)],ci (mw5.length:Int)]) (ids:=[]) U (.inr ⟨U,U⟩) U U U (c___impl_mapping__undo o2_0 o2_1 o2_2 o2_3 o2_4 (mw5.length:Int) q21) U U ?_)
      rintro _ _ ⟨o5_0,o5_1,o5_2,o5_3,o5_4,q22,rfl,rfl⟩
      replace h:=h o5_0 o5_1 o5_2 o5_3 o5_4 q22
      refine⟨U,U,?_⟩
      refine yM<|yG<|yY (zl (n:=55) (σ':=[(800,⟨[.lst (tabs o5_0),.lst (tabs o5_1),.own (ints o5_2),.own (bools o5_3),.own (ints o5_4)],[]⟩)]) (env':=[(0,.cell 800 0),(1,.c (.val (yv l_))),(5,.c (ci (idxI mw3 (-1:Int)))),(6,.c (ci (mw5.length:Int))),(8,.c (cb true)),(31,.c (ci (mw3.length:Int))),(32,.c (ci v32_1)),(55,.cell 800 0),(56,.c (.val (yv l_)))]) U U E9)<|yg<|yj (zc U) U<|yj (yA U) U<|yM<|xu U (fun q23=>?_) (fun q23=>?_)
      ·cases q23
      ·skip
       refine xt<|yY (zl (n:=55) (σ':=[(800,⟨[.lst (tabs o5_0),.lst (tabs o5_1),.own (ints o5_2),.own (bools o5_3),.own (ints o5_4)],[]⟩)]) (env':=[(0,.cell 800 0),(1,.c (.val (yv l_))),(5,.c (ci (idxI mw3 (-1:Int)))),(6,.c (ci (mw5.length:Int))),(31,.c (ci (mw3.length:Int))),(32,.c (ci v32_1)),(55,.cell 800 0),(56,.c (.val (yv l_)))]) U U E8)<|yg ?_
       obtain⟨q24,h⟩:=h
       exact yj (zG U U q24) U<|yj (zc U) U<|yM<|⟨v32_1 + 1,z1,o5_0,o5_1,o5_2,o5_3,o5_4,zv (n:=55) U U E8,U,h.1,h.2⟩
   ·replace h:=h.2 (zh q7)
    exact az_exit<|yG<|yY (zl (n:=55) (σ':=[(800,⟨[.lst (tabs f800_0_1),.lst (tabs f800_1_1),.own (ints f800_2_1),.own (bools f800_3_1),.own (ints f800_4_1)],[]⟩)]) (env':=[(55,.cell 800 0),(56,.c (.val (yv l_)))]) U U E2)<|yg<|yj (ze U) U<|yM<|az_ret<|ym (zH U (zw U)) U U U ⟨_,_,_,_,_,_,h,U,U⟩
theorem c___impl_mapping__extend {l_ n0_:Nat} {L_:List (List Int)} {J_:Nat->World->(Nat->Prop)->Prop} {Jx_:World->(Nat->Prop)->Prop} (hY_:Yc Tryz.prog l_ n0_ (L_.map fun p_=>.lst (ints p_)) J_ Jx_) : ∀ (mw1:List (List (List Int))) (mw2:List (List (List Int))) (mw3:List Int) (mw4:List Bool) (mw5:List Int) (z_:Option Nat),(ExPre L_ z_ mw1 mw2 mw3 mw4 mw5)->AMZ Tryz.prog n0_ J_ Jx_ 45 [.obox [.lst (tabs mw1),.lst (tabs mw2),.own (ints mw3),.own (bools mw4),.own (ints mw5)],.val (yv l_)] z_ (fun R_ O_ Z_=>∃ y0:Bool,(ExPost z_ mw1 mw2 mw3 y0 Z_)/\R_ = cb y0/\O_ = [.obox [.lst (tabs mw1),.lst (tabs mw2),.own (ints mw3),.own (bools mw4),.own (ints mw5)],.val (yv l_)]):=by
  have key : ∀ (k_:Nat) (mw1:List (List (List Int))) (mw2:List (List (List Int))) (mw3:List Int) (mw4:List Bool) (mw5:List Int) (z_:Option Nat),(mw3.length - mw5.length)<=k_->(ExPre L_ z_ mw1 mw2 mw3 mw4 mw5)->AMZ Tryz.prog n0_ J_ Jx_ 45 [.obox [.lst (tabs mw1),.lst (tabs mw2),.own (ints mw3),.own (bools mw4),.own (ints mw5)],.val (yv l_)] z_ (fun R_ O_ Z_=>∃ y0:Bool,(ExPost z_ mw1 mw2 mw3 y0 Z_)/\R_ = cb y0/\O_ = [.obox [.lst (tabs mw1),.lst (tabs mw2),.own (ints mw3),.own (bools mw4),.own (ints mw5)],.val (yv l_)]):=by
    intro k_; induction k_ with
    | zero=>intro mw1 mw2 mw3 mw4 mw5 z_ hn hp; exact (w___impl_mapping__extend hY_ mw1 mw2 mw3 mw4 mw5 z_ (fun _ _ _ _ _ z_' hlt _=>absurd hlt (by omega)) (fun y0 w0 w1 w2 w3 w4 zz_=>(ExPost z_ mw1 mw2 mw3 y0 zz_)/\w0 = mw1/\w1 = mw2/\w2 = mw3/\w3 = mw4/\w4 = mw5) (p___impl_mapping__extend L_ z_ mw1 mw2 mw3 mw4 mw5 hp)).mono (by rintro r o g ⟨y0,_,_,_,_,_,⟨hq,rfl,rfl,rfl,rfl,rfl⟩,rfl,rfl⟩; exact⟨y0,hq,rfl,rfl⟩)
    | succ k_ ih=>intro mw1 mw2 mw3 mw4 mw5 z_ hn hp; exact (w___impl_mapping__extend hY_ mw1 mw2 mw3 mw4 mw5 z_ (fun mw1' mw2' mw3' mw4' mw5' z_' hlt hp'=>ih mw1' mw2' mw3' mw4' mw5' z_' (by omega) hp') (fun y0 w0 w1 w2 w3 w4 zz_=>(ExPost z_ mw1 mw2 mw3 y0 zz_)/\w0 = mw1/\w1 = mw2/\w2 = mw3/\w3 = mw4/\w4 = mw5) (p___impl_mapping__extend L_ z_ mw1 mw2 mw3 mw4 mw5 hp)).mono (by rintro r o g ⟨y0,_,_,_,_,_,⟨hq,rfl,rfl,rfl,rfl,rfl⟩,rfl,rfl⟩; exact⟨y0,hq,rfl,rfl⟩)
  exact fun mw1 mw2 mw3 mw4 mw5 z_=>key _ mw1 mw2 mw3 mw4 mw5 z_ (Nat.le_refl _)
theorem w_impl_isomorphisms_1 (ta:List (List (List Int))) (tb:List (List (List Int))) (L_:List (List Int)) (h:wp_impl_isomorphisms_1 L_ ta tb):SeqA Tryz.prog 44 [.ptr [.lst (tabs ta)],.ptr [.lst (tabs tb)]] (L_.map fun p_=>.lst (ints p_)):=by
  refine sq_enterZ (n:=37) Tryz.func44 U (by rfl) U (zb U) U (fun l_ n0_ J_ Jx_ Gb_ Zb_ hY_=>?_)
  unfold wp_impl_isomorphisms_1 at h
  refine yG<|yY (zl (n:=37) (σ':=[]) (env':=[(0,.c (.val (yv l_))),(1,.c (.ptr [.lst (tabs ta)])),(2,.c (.ptr [.lst (tabs tb)]))]) U U E3)<|yg<|yj (zZ U U) U ?_
  obtain⟨q1,h⟩:=h
  refine yj (zB U U q1) U<|yj (zx (f:=(fun r=>C.lst (rows r))) U q1) U<|yj (zJ (f:=(fun r=>C.lst (ints r))) U) U<|yj (ze U) U<|yM<|yG<|yG<|yg<|yj (zZ U U) U ?_
  obtain⟨q2,h⟩:=h
  refine yj (zB U U q2) U<|yj (zx (f:=(fun r=>C.lst (rows r))) U q2) U<|yj (zJ (f:=(fun r=>C.lst (ints r))) U) U<|yj (zc U) U<|yj (yQ U U) U<|yM<|xu U (fun q3=>?_) (fun q3=>?_)
  ·replace h:=h.1 (zh (ya q3))
   exact az_ret<|⟨.inr U,by simpa only [List.length_map] using h⟩
  ·replace h:=h.2 (zj (yb q3))
   refine xt<|yG<|yY (zl (n:=37) (σ':=[]) (env':=[(0,.c (.val (yv l_))),(1,.c (.ptr [.lst (tabs ta)])),(2,.c (.ptr [.lst (tabs tb)])),(4,.c (ci ((el ta 0).length:Int)))]) U U E4)<|az_aw<|aw_regionT (kd:=kdl [1,1,0,2,0,2,0,2,2]) (t:=(.one 2 (.one 4 (.one 0 (.one 1 (.br (.one 3 (.br (.one 5 (.one 6 (.one 7 (.one 8 .nil)))) (.one 7 (.one 5 (.one 6 (.one 8 .nil)))))) (.br (.one 5 (.br (.one 3 (.one 6 (.one 7 (.one 8 .nil)))) (.one 7 (.one 3 (.one 6 (.one 8 .nil)))))) (.one 7 (.br (.one 3 (.one 5 (.one 6 (.one 8 .nil)))) (.one 5 (.one 3 (.one 6 (.one 8 .nil))))))))))))) [5] mixed (by kernel_rfl) ?_
   obtain⟨q4,h⟩:=h
   obtain⟨q5,h⟩:=h
   refine rt_share (S:=⟨[(5,⟨[.lst (tabs ta),.lst (tabs tb),.hole,.hole,cnil],[(3,.ref 22),(2,.ref 20)]⟩),(20,⟨ints (List.replicate ((el ta 0).length:Int).toNat (0:Int)),[]⟩),(22,⟨bools (List.replicate ((el ta 0).length:Int).toNat false),[]⟩)],[(0,.c (.val (yv l_))),(5,.cell 5 0)],37⟩) ?_ (fun hk=>?_)
   ·skip
    refine yG<|yG<|yg<|yj (zD U) U<|yj (yt U U U U) U<|yj (yR (f:=ci) U U) U<|yj (zc U) U<|yM<|az_block<|yY (yu (id:=5) (id2:=20) (j:=2) U U (zb U) U U U)<|yY (yu (id:=5) (id2:=22) (j:=3) U U (zb U) U U U) ?_
    obtain⟨H1,m1,q6,h⟩:=h
    refine az_loop2 (fun (v27_1:Int) (f5_2_1:List Int)=>⟨[(5,⟨[.lst (tabs ta),.lst (tabs tb),.own (ints f5_2_1),.own (bools (List.replicate ((el ta 0).length:Int).toNat false)),cnil],[]⟩)],[(0,.c (.val (yv l_))),(5,.cell 5 0),(26,.c (ci ((List.replicate ((el ta 0).length:Int).toNat (0:Int)).length:Int))),(27,.c (ci v27_1))],37⟩) (fun (v27_1:Int) (f5_2_1:List Int)=>some 0) H1 m1 ⟨0,List.replicate ((el ta 0).length:Int).toNat (0:Int),zv (n:=37) U U E4,U,q6⟩ ?_
    rintro v27_1 f5_2_1 q6
    replace h:=h v27_1 f5_2_1 q6
    refine yG<|yg<|yj (zO U U) U<|yM<|yG<|xu U (fun q7=>?_) (fun q7=>?_)
    ·replace h:=h.1 (zj q7)
     refine xt<|yG<|az_block<|yG<|yg<|yj (zc U) U<|yj (ze U) U<|yM<|yg<|yj (zD U) U<|rz_gh (xf 1001 (id:=5) (j:=2) U U U)<|yj (yt U U U U) U<|yj (zc U) U ?_
     obtain⟨q8,h⟩:=h
     refine yj (zR (f:=ci) U U U q8) U<|rz_w (yo U U (yN q8) U U (yO (f:=ci)) U ⟨U,?_⟩)
     refine yM<|yY (zl (n:=37) (σ':=[(1001,⟨ints (se f5_2_1 v27_1 (-1)),[]⟩),(5,⟨[.lst (tabs ta),.lst (tabs tb),.hole,.own (bools (List.replicate ((el ta 0).length:Int).toNat false)),cnil],[(2,.ref 1001)]⟩)]) (env':=[(0,.c (.val (yv l_))),(5,.cell 5 0),(26,.c (ci ((List.replicate ((el ta 0).length:Int).toNat (0:Int)).length:Int))),(27,.c (ci v27_1))]) U U E4)<|yg ?_
     obtain⟨q9,h⟩:=h
     exact yj (zG U U q9) U<|yj (zc U) U<|yM<|⟨v27_1 + 1,se f5_2_1 v27_1 (-1),zQ (yu (id:=5) (id2:=1001) (j:=2) U U (zb U) U U U) (zv (n:=37) U U E4),U,h.1,h.2⟩
    ·replace h:=h.2 (zh q7)
     refine az_exit<|yg<|yj (zc U) U<|rz_gh (gh_nilH (id0:=5) (j:=4) (id:=1002) U U U U)<|rz_gh (yu (id:=5) (id2:=1002) (j:=4) U U (zb U) U U U) ?_
     obtain⟨q10,h⟩:=h
     refine rz_callY hY_ (id:=5) U U U U U (c___impl_mapping__extend hY_ ta tb f5_2_1 (List.replicate ((el ta 0).length:Int).toNat false) ([] : List Int) (some 0) q10) U (fun r1_0 y1_ q11=>?_)
     replace h:=h r1_0 y1_ q11
     exact yM<|⟨.inl U,by simpa only [List.length_map] using h⟩
   ·skip
    refine rt_s U U trivial (zc U) U<|rt_s U U trivial (zc U) U<|rt_l U U trivial (zZ U U) U<|rt_l U U trivial (zZ U U) U<|rt_br ?_ ?_
    ·skip
     refine xp U U trivial U U (yZ (id:=20) ci (0:Int) U U U q4 (zb U) U ⟨U,?_⟩)
     refine rt_br ?_ ?_
     ·skip
      refine xp U U trivial U U (yZ (id:=22) cb false U U U q5 (zb U) U ⟨U,?_⟩)
      refine rt_s U U trivial (ss_buildP (ps:=[(0,.tmp 17),(1,.tmp 18),(2,.tmp 20),(3,.tmp 22)]) U U) U<|xp U U trivial U U (yw (id:=5) U (zb U) ⟨U,?_⟩)
      refine xp U U trivial U U (ws_store5 U U (zb U) U U U ⟨U,?_⟩)
      exact rt_end (zQ (zl (n:=37) (σ':=[(5,⟨[.lst (tabs ta),.lst (tabs tb),.hole,.hole,cnil],[(3,.ref 22),(2,.ref 20)]⟩),(22,⟨bools (List.replicate ((el ta 0).length:Int).toNat false),[]⟩),(20,⟨ints (List.replicate ((el ta 0).length:Int).toNat (0:Int)),[]⟩)]) (env':=[(0,.c (.val (yv l_))),(5,.cell 5 0)]) U U E2) (zQ (xr _) (zv (n:=37) (σ':=[(5,⟨[.lst (tabs ta),.lst (tabs tb),.hole,.hole,cnil],[(3,.ref 22),(2,.ref 20)]⟩),(20,⟨ints (List.replicate ((el ta 0).length:Int).toNat (0:Int)),[]⟩),(22,⟨bools (List.replicate ((el ta 0).length:Int).toNat false),[]⟩)]) (env':=[(0,.c (.val (yv l_))),(5,.cell 5 0)]) U U E2))) hk
     refine xp U U trivial U U (yw (id:=5) U (zb U) ⟨U,?_⟩)
     refine xp U U trivial U U (yZ (id:=22) cb false U U U q5 (zb U) U ⟨U,?_⟩)
     refine rt_s U U trivial (ss_buildP (ps:=[(0,.tmp 17),(1,.tmp 18),(2,.tmp 20),(3,.tmp 22)]) U U) U<|xp U U trivial U U (ws_store5 U U (zb U) U U U ⟨U,?_⟩)
     exact rt_end (zQ (zl (n:=37) (σ':=[(22,⟨bools (List.replicate ((el ta 0).length:Int).toNat false),[]⟩),(5,⟨[.lst (tabs ta),.lst (tabs tb),.hole,.hole,cnil],[(3,.ref 22),(2,.ref 20)]⟩),(20,⟨ints (List.replicate ((el ta 0).length:Int).toNat (0:Int)),[]⟩)]) (env':=[(0,.c (.val (yv l_))),(5,.cell 5 0)]) U U E2) (zQ (xr _) (zv (n:=37) (σ':=[(5,⟨[.lst (tabs ta),.lst (tabs tb),.hole,.hole,cnil],[(3,.ref 22),(2,.ref 20)]⟩),(20,⟨ints (List.replicate ((el ta 0).length:Int).toNat (0:Int)),[]⟩),(22,⟨bools (List.replicate ((el ta 0).length:Int).toNat false),[]⟩)]) (env':=[(0,.c (.val (yv l_))),(5,.cell 5 0)]) U U E2))) hk
    refine rt_br ?_ ?_
    ·skip
     refine xp U U trivial U U (yZ (id:=22) cb false U U U q4 (zb U) U ⟨U,?_⟩)
     refine rt_br ?_ ?_
     ·skip
      refine xp U U trivial U U (yZ (id:=20) ci (0:Int) U U U q5 (zb U) U ⟨U,?_⟩)
      refine rt_s U U trivial (ss_buildP (ps:=[(0,.tmp 17),(1,.tmp 18),(2,.tmp 20),(3,.tmp 22)]) U U) U<|xp U U trivial U U (yw (id:=5) U (zb U) ⟨U,?_⟩)
      refine xp U U trivial U U (ws_store5 U U (zb U) U U U ⟨U,?_⟩)
      exact rt_end (zQ (zl (n:=37) (σ':=[(5,⟨[.lst (tabs ta),.lst (tabs tb),.hole,.hole,cnil],[(3,.ref 22),(2,.ref 20)]⟩),(20,⟨ints (List.replicate ((el ta 0).length:Int).toNat (0:Int)),[]⟩),(22,⟨bools (List.replicate ((el ta 0).length:Int).toNat false),[]⟩)]) (env':=[(0,.c (.val (yv l_))),(5,.cell 5 0)]) U U E2) (zQ (xr _) (zv (n:=37) (σ':=[(5,⟨[.lst (tabs ta),.lst (tabs tb),.hole,.hole,cnil],[(3,.ref 22),(2,.ref 20)]⟩),(20,⟨ints (List.replicate ((el ta 0).length:Int).toNat (0:Int)),[]⟩),(22,⟨bools (List.replicate ((el ta 0).length:Int).toNat false),[]⟩)]) (env':=[(0,.c (.val (yv l_))),(5,.cell 5 0)]) U U E2))) hk
     refine xp U U trivial U U (yw (id:=5) U (zb U) ⟨U,?_⟩)
     refine xp U U trivial U U (yZ (id:=20) ci (0:Int) U U U q5 (zb U) U ⟨U,?_⟩)
     refine rt_s U U trivial (ss_buildP (ps:=[(0,.tmp 17),(1,.tmp 18),(2,.tmp 20),(3,.tmp 22)]) U U) U<|xp U U trivial U U (ws_store5 U U (zb U) U U U ⟨U,?_⟩)
     exact rt_end (zQ (zl (n:=37) (σ':=[(20,⟨ints (List.replicate ((el ta 0).length:Int).toNat (0:Int)),[]⟩),(5,⟨[.lst (tabs ta),.lst (tabs tb),.hole,.hole,cnil],[(3,.ref 22),(2,.ref 20)]⟩),(22,⟨bools (List.replicate ((el ta 0).length:Int).toNat false),[]⟩)]) (env':=[(0,.c (.val (yv l_))),(5,.cell 5 0)]) U U E2) (zQ (xr _) (zv (n:=37) (σ':=[(5,⟨[.lst (tabs ta),.lst (tabs tb),.hole,.hole,cnil],[(3,.ref 22),(2,.ref 20)]⟩),(20,⟨ints (List.replicate ((el ta 0).length:Int).toNat (0:Int)),[]⟩),(22,⟨bools (List.replicate ((el ta 0).length:Int).toNat false),[]⟩)]) (env':=[(0,.c (.val (yv l_))),(5,.cell 5 0)]) U U E2))) hk
    refine xp U U trivial U U (yw (id:=5) U (zb U) ⟨U,?_⟩)
    refine rt_br ?_ ?_
    ·skip
     refine xp U U trivial U U (yZ (id:=20) ci (0:Int) U U U q4 (zb U) U ⟨U,?_⟩)
     refine xp U U trivial U U (yZ (id:=22) cb false U U U q5 (zb U) U ⟨U,?_⟩)
     refine rt_s U U trivial (ss_buildP (ps:=[(0,.tmp 17),(1,.tmp 18),(2,.tmp 20),(3,.tmp 22)]) U U) U<|xp U U trivial U U (ws_store5 U U (zb U) U U U ⟨U,?_⟩)
     exact rt_end (zQ (zl (n:=37) (σ':=[(22,⟨bools (List.replicate ((el ta 0).length:Int).toNat false),[]⟩),(20,⟨ints (List.replicate ((el ta 0).length:Int).toNat (0:Int)),[]⟩),(5,⟨[.lst (tabs ta),.lst (tabs tb),.hole,.hole,cnil],[(3,.ref 22),(2,.ref 20)]⟩)]) (env':=[(0,.c (.val (yv l_))),(5,.cell 5 0)]) U U E2) (zQ (xr _) (zv (n:=37) (σ':=[(5,⟨[.lst (tabs ta),.lst (tabs tb),.hole,.hole,cnil],[(3,.ref 22),(2,.ref 20)]⟩),(20,⟨ints (List.replicate ((el ta 0).length:Int).toNat (0:Int)),[]⟩),(22,⟨bools (List.replicate ((el ta 0).length:Int).toNat false),[]⟩)]) (env':=[(0,.c (.val (yv l_))),(5,.cell 5 0)]) U U E2))) hk
    refine xp U U trivial U U (yZ (id:=22) cb false U U U q4 (zb U) U ⟨U,?_⟩)
    refine xp U U trivial U U (yZ (id:=20) ci (0:Int) U U U q5 (zb U) U ⟨U,?_⟩)
    refine rt_s U U trivial (ss_buildP (ps:=[(0,.tmp 17),(1,.tmp 18),(2,.tmp 20),(3,.tmp 22)]) U U) U<|xp U U trivial U U (ws_store5 U U (zb U) U U U ⟨U,?_⟩)
    exact rt_end (zQ (zl (n:=37) (σ':=[(20,⟨ints (List.replicate ((el ta 0).length:Int).toNat (0:Int)),[]⟩),(22,⟨bools (List.replicate ((el ta 0).length:Int).toNat false),[]⟩),(5,⟨[.lst (tabs ta),.lst (tabs tb),.hole,.hole,cnil],[(3,.ref 22),(2,.ref 20)]⟩)]) (env':=[(0,.c (.val (yv l_))),(5,.cell 5 0)]) U U E2) (zQ (xr _) (zv (n:=37) (σ':=[(5,⟨[.lst (tabs ta),.lst (tabs tb),.hole,.hole,cnil],[(3,.ref 22),(2,.ref 20)]⟩),(20,⟨ints (List.replicate ((el ta 0).length:Int).toNat (0:Int)),[]⟩),(22,⟨bools (List.replicate ((el ta 0).length:Int).toNat false),[]⟩)]) (env':=[(0,.c (.val (yv l_))),(5,.cell 5 0)]) U U E2))) hk
theorem c_impl_isomorphisms_1 (ta:List (List (List Int))) (tb:List (List (List Int))) (hp:TabsP ta/\TabsP tb/\ta.length = tb.length/\1<=ta.length):SeqA Tryz.prog 44 [.ptr [.lst (tabs ta)],.ptr [.lst (tabs tb)]] ((isoL ta tb).map fun p_=>.lst (ints p_)):=w_impl_isomorphisms_1 ta tb _ (p_impl_isomorphisms_1 ta tb hp)
end Go.Proofs.YtjolbldlhjfciaaGreatDoor
