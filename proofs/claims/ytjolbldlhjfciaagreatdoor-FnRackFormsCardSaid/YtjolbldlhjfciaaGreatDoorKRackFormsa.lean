/- Contracts of functions that the law FnRackForms reaches: conditions, plain proofs, walks; no condition. -/
import Derived.Test.YtjolbldlhjfciaaGreatDoorTy
import Derived.Test.YtjolbldlhjfciaaGreatDoorSh
import Derived.Test.YtjolbldlhjfciaaGreatDoorSx
import Derived.Test.YtjolbldlhjfciaaGreatDoorSr
import Derived.Test.YtjolbldlhjfciaaGreatDoorSj
import Derived.Test.YtjolbldlhjfciaaGreatDoorPP
import Derived.Test.YtjolbldlhjfciaaGreatDoorAb
namespace Go.Proofs.YtjolbldlhjfciaaGreatDoor
set_option maxRecDepth 100000
set_option maxHeartbeats 4000000

def wp_impl_within (n:Int) (low:Int) (high:Int) (Q:Bool->Prop):Prop:=
 ((low<=n->
 Q (decide (n<=high)))/\
 (¬ (low<=n)->
 Q false))
def wp_spec_l01In (n:Int) (low:Int) (high:Int) (Q:Bool->Prop):Prop:=
 ((low<=n->
 Q (decide (n<=high)))/\
 (¬ (low<=n)->
 Q false))
def wp_impl_allWithin (l:List Int) (low:Int) (high:Int) (Q:Bool->Prop):Prop:=
 ∃ (H1:Int->Prop) (m1:Int->Nat),
 H1 0/\
 ∀ (v11_1:Int),H1 v11_1->
 (((v11_1 < (l.length:Int)->
 (0<=v11_1/\v11_1 < (l.length:Int))/\
 (((decide (low<=(el l v11_1)) && decide ((el l v11_1)<=high)) = false->
 Q false)/\
 ((decide (low<=(el l v11_1)) && decide ((el l v11_1)<=high)) = true->
 (InI (v11_1 + 1))/\
 (H1 (v11_1 + 1)/\m1 (v11_1 + 1) < m1 v11_1))))/\
 (¬ (v11_1 < (l.length:Int))->
 Q true)))
def wp_impl_isPermuted (p:List Int) (Q:Bool->Prop):Prop:=
 (0<=(p.length:Int)/\(p.length:Int)<=1000000000)/\
 ∃ (H1:Int->List Bool->Prop) (m1:Int->List Bool->Nat),
 H1 0 (List.replicate (p.length:Int).toNat false)/\
 ∀ (v11_1:Int) (o8_1:List Bool),H1 v11_1 o8_1->
 (((v11_1 < (p.length:Int)->
 (0<=v11_1/\v11_1 < (p.length:Int))/\
 (InI ((p.length:Int) - 1))/\
 (((decide ((0:Int)<=(el p v11_1)) && decide ((el p v11_1)<=((p.length:Int) - 1))) = false->
 Q false)/\
 ((decide ((0:Int)<=(el p v11_1)) && decide ((el p v11_1)<=((p.length:Int) - 1))) = true->
 (0<=el p v11_1/\el p v11_1 < (o8_1.length:Int))/\
 (((el o8_1 (el p v11_1)) = true->
 Q false)/\
 ((el o8_1 (el p v11_1)) = false->
 (0<=el p v11_1/\el p v11_1 < (o8_1.length:Int))/\
 (InI (v11_1 + 1))/\
 (H1 (v11_1 + 1) (se o8_1 (el p v11_1) true)/\m1 (v11_1 + 1) (se o8_1 (el p v11_1) true) < m1 v11_1 o8_1))))))/\
 (¬ (v11_1 < (p.length:Int))->
 Q true)))
def wp_k_IndexFunc_rows (t:List (List Int)) (f:List Int->Bool) (f_D:List Int->Prop) (Q:Int->Prop):Prop:=
 ∃ (H1:Int->Prop) (m1:Int->Nat),
 H1 0/\
 ∀ (v8_1:Int),H1 v8_1->
 (((v8_1 < (t.length:Int)->
 (0<=v8_1/\v8_1 < (t.length:Int))/\
 (f_D (el t v8_1))/\
 (((f (el t v8_1)) = true->
 Q v8_1)/\
 ((f (el t v8_1)) = false->
 (InI (v8_1 + 1))/\
 (H1 (v8_1 + 1)/\m1 (v8_1 + 1) < m1 v8_1))))/\
 (¬ (v8_1 < (t.length:Int))->
 Q (-1))))
def wp_k_ContainsFunc_rows (t:List (List Int)) (f:List Int->Bool) (f_D:List Int->Prop) (Q:Bool->Prop):Prop:=
 (small t/\∀ r_ ∈ t,f_D r_)/\
 Q (decide (0<=idxF t f))
def wp_impl_IsTable_1 (row:List Int) (n:Int) (Q:Bool->Prop):Prop:=
 ((¬ ((row.length:Int) = n)->
 Q true)/\
 ((row.length:Int) = n->
 (InI (n - 1))/\
 (small row)/\
 Q (!((row.all (fun z_=>decide ((0:Int)<=z_) && decide (z_<=(n - 1))))))))
def wp_impl_IsTable (t:List (List Int)) (Q:Bool->Prop):Prop:=
 (((decide ((1:Int)<=(t.length:Int)) && decide ((t.length:Int)<=(12:Int))) = true->
 (small t/\∀ r_ ∈ t,(fun z0=>small z0/\0<=(t.length:Int)/\(t.length:Int)<=12) r_)/\
 Q (!((t.any (fun z0=>badRow (t.length:Int) z0)))))/\
 ((decide ((1:Int)<=(t.length:Int)) && decide ((t.length:Int)<=(12:Int))) = false->
 Q false))
def wp_impl_tableBy (n:Int) (value:Int->Int->Int) (value_D:Int->Int->Prop) (Q:List (List Int)->Prop):Prop:=
 (0<=n/\n<=1000000000)/\
 ∃ (H1:Int->List (List Int)->Prop) (m1:Int->List (List Int)->Nat),
 H1 0 (List.replicate n.toNat ([] : List Int))/\
 ∀ (v12_1:Int) (o9_1:List (List Int)),H1 v12_1 o9_1->
 (((v12_1 < ((List.replicate n.toNat ([] : List Int)).length:Int)->
 (0<=n/\n<=1000000000)/\
 (0<=v12_1/\v12_1 < (o9_1.length:Int))/\
 (0<=v12_1/\v12_1 < (o9_1.length:Int))/\
 ∃ (H2:Int->List Int->Prop) (m2:Int->List Int->Nat),
 H2 0 (List.replicate n.toNat (0:Int))/\
 ∀ (v25_2:Int) (o18_2:List Int),H2 v25_2 o18_2->
 (((v25_2 < ((List.replicate n.toNat (0:Int)).length:Int)->
 (0<=v12_1/\v12_1 < (o9_1.length:Int))/\
 (value_D v12_1 v25_2)/\
 (0<=v25_2/\v25_2 < (o18_2.length:Int))/\
 (InI (v25_2 + 1))/\
 (H2 (v25_2 + 1) (se o18_2 v25_2 (value v12_1 v25_2))/\m2 (v25_2 + 1) (se o18_2 v25_2 (value v12_1 v25_2)) < m2 v25_2 o18_2))/\
 (¬ (v25_2 < ((List.replicate n.toNat (0:Int)).length:Int))->
 (InI (v12_1 + 1))/\
 (0<=v12_1/\v12_1 < (o9_1.length:Int))/\
 (H1 (v12_1 + 1) (se o9_1 v12_1 o18_2)/\m1 (v12_1 + 1) (se o9_1 v12_1 o18_2) < m1 v12_1 o9_1)))))/\
 (¬ (v12_1 < ((List.replicate n.toNat ([] : List Int)).length:Int))->
 Q o9_1)))
theorem p_impl_within (n low high:Int):wp_impl_within n low high (fun y0=>y0 = (decide (low<=n) && decide (n<=high))):=by
  unfold wp_impl_within
  exact⟨fun h=>by simp [h],fun h=>by simp [h]⟩
theorem p_spec_l01In (n low high:Int):wp_spec_l01In n low high (fun y0=>y0 = (decide (low<=n) && decide (n<=high))):=p_impl_within n low high
theorem p_impl_allWithin (l:List Int) (low high:Int) (hp:small l):wp_impl_allWithin l low high (fun y0=>y0 = l.all (fun z_=>decide (low<=z_) && decide (z_<=high))):=by
  unfold wp_impl_allWithin
  refine⟨fun i=>0<=i/\i<=(l.length:Int)/\Upto i fun j=>(decide (low<=el l j) && decide (el l j<=high)) = true,fun i=>((l.length:Int) - i).toNat,⟨by omega,by omega,upto0⟩,?_⟩
  rintro i ⟨h0,h1,hI⟩
  dsimp only
  refine⟨fun hlt=>⟨⟨h0,hlt⟩,fun hf=>(all_f ⟨h0,hlt⟩ hf).symm,fun ht=>⟨⟨by omega,by omega⟩,⟨by omega,by omega,upto1 hI ht⟩,by omega⟩⟩,fun hge=>?_⟩
  exact (all_t (by rwa [show i = (l.length:Int) by omega] at hI)).symm
theorem p_impl_isPermuted (p:List Int) (hp:small p):wp_impl_isPermuted p (fun y0=>y0 = isPerm p):=by
  unfold wp_impl_isPermuted
  refine⟨⟨by omega,hp⟩,fun i o=>0<=i/\i<=(p.length:Int)/\o.length = p.length/\(Upto i fun j=>(0<=el p j/\el p j < (p.length:Int))/\Upto j fun k=>el p k≠el p j)/\(∀ x,0<=x->x < (p.length:Int)->(el o x = true↔∃ j,(0<=j/\j < i)/\el p j = x)),fun i _=>((p.length:Int) - i).toNat,
    ⟨by omega,by omega,by simp,upto0,fun x h0 h1=>?_⟩,?_⟩
  · rw [el_rep ⟨h0,by omega⟩]; simp; intro j h2 h3; omega
  rintro i o ⟨h0,h1,hl,hI,hS⟩
  dsimp only
  refine⟨fun hlt=>⟨⟨h0,hlt⟩,⟨by omega,by omega⟩,fun hf=>?_,fun ht=>?_⟩,fun hge=>?_⟩
  · refine (decide_eq_false ?_).symm
    rintro⟨_,h3⟩
    have:=h3 _ (el_mem ⟨h0,hlt⟩)
    simp only [Bool.and_eq_false_iff,decide_eq_false_iff_not] at hf
    omega
  · simp only [Bool.and_eq_true,decide_eq_true_eq] at ht
    refine⟨⟨by omega,by omega⟩,fun hs=>?_,fun hs=>⟨⟨by omega,by omega⟩,⟨by omega,by omega⟩,⟨by omega,by omega,by simp [hl],upto1 hI ⟨⟨ht.1,by omega⟩,fun k h2 h3 he=>?_⟩,fun x h2 h3=>?_⟩,by omega⟩⟩
    · refine (decide_eq_false ?_).symm
      rintro⟨h3,_⟩
      obtain⟨j,hj,he⟩:=(hS _ ht.1 (by omega)).1 hs
      exact nodup_el.1 h3 j i hj.1 hj.2 hlt he
    · rw [(hS _ ht.1 (by omega)).2 ⟨k,⟨h2,h3⟩,he⟩] at hs; cases hs
    · by_cases e:x = el p i
      · subst e
        rw [el_se_same ⟨h2,by omega⟩]
        exact⟨fun _=>⟨i,⟨h0,by omega⟩,rfl⟩,fun _=>rfl⟩
      · rw [el_se_ne ht.1 h2 (Ne.symm e),hS x h2 h3]
        exact⟨fun⟨j,hj,he⟩=>⟨j,⟨hj.1,by omega⟩,he⟩,fun⟨j,hj,he⟩=>⟨j,⟨hj.1,by
          by_cases e2:j = i
          · subst e2; exact absurd he.symm e
          · omega⟩,he⟩⟩
  · refine (decide_eq_true ⟨nodup_el.2 fun a b h2 h3 h4=>(hI b (by omega) (by omega)).2 a h2 h3,fun x hx=>?_⟩).symm
    obtain⟨j,hj,rfl⟩:=mem_el hx
    exact (hI j hj.1 (by omega)).1
theorem p_k_IndexFunc_rows (t:List (List Int)) (f:List Int->Bool) (f_D:List Int->Prop) (hp:small t/\∀ r ∈ t,f_D r):wp_k_IndexFunc_rows t f f_D (fun y0=>y0 = idxF t f):=by
  unfold wp_k_IndexFunc_rows
  obtain⟨ht,hD⟩:=hp
  refine⟨fun i=>0<=i/\i<=(t.length:Int)/\Upto i fun j=>f (el t j) = false,fun i=>((t.length:Int) - i).toNat,⟨by omega,by omega,upto0⟩,?_⟩
  rintro i ⟨h0,h1,hI⟩
  dsimp only
  refine⟨fun hlt=>⟨⟨h0,hlt⟩,hD _ (el_mem ⟨h0,hlt⟩),fun hf=>(idxF_found ⟨h0,hlt⟩ hI hf).symm,fun ht=>⟨⟨by omega,by omega⟩,⟨by omega,by omega,upto1 hI ht⟩,by omega⟩⟩,fun hge=>?_⟩
  exact (idxF_none (by rwa [show i = (t.length:Int) by omega] at hI)).symm
theorem p_k_ContainsFunc_rows (t:List (List Int)) (f:List Int->Bool) (f_D:List Int->Prop) (hp:small t/\∀ r ∈ t,f_D r):wp_k_ContainsFunc_rows t f f_D (fun y0=>y0 = t.any f):=⟨hp,idxF_nonneg⟩
theorem p_impl_IsTable_1 (row:List Int) (n:Int) (hp:small row/\0<=n/\n<=12):wp_impl_IsTable_1 row n (fun y0=>y0 = badRow n row):=by
  unfold wp_impl_IsTable_1 badRow
  exact⟨fun h=>by simp [h],fun h=>⟨⟨by omega,by omega⟩,hp.1,by simp [h]⟩⟩
theorem p_impl_IsTable (t:List (List Int)) (hp:small2 t):wp_impl_IsTable t (fun y0=>y0 = isTab t):=by
  unfold wp_impl_IsTable isTab
  refine⟨fun h=>⟨⟨hp.1,fun r hr=>⟨hp.2 r hr,?_⟩⟩,?_⟩,fun h=>?_⟩
  · simp only [Bool.and_eq_true,decide_eq_true_eq] at h; omega
  · rw [h]; rfl
  · rw [h]; rfl
theorem p_impl_tableBy (n:Int) (value:Int->Int->Int) (value_D:Int->Int->Prop) (hp:0<=n/\n<=1000000/\∀ x y,0<=x->x < n->0<=y->y < n->value_D x y):wp_impl_tableBy n value value_D (fun y0=>y0 = tab n value):=by
  unfold wp_impl_tableBy
  obtain⟨hn0,hn1,hD⟩:=hp
  simp only [List.length_replicate]
  refine⟨⟨by omega,by omega⟩,fun i o=>0<=i/\i<=n/\o.length = n.toNat/\Upto i fun j=>el o j = ran n (value j),fun i _=>(n - i).toNat,⟨by omega,by omega,by simp,upto0⟩,?_⟩
  rintro i o ⟨h0,h1,hl,hI⟩
  dsimp only
  refine⟨fun hlt=>⟨⟨by omega,by omega⟩,⟨h0,by omega⟩,⟨h0,by omega⟩,?_⟩,fun hge=>eq_ran hl fun j h2 h3=>hI j h2 (by omega)⟩
  refine⟨fun k q=>0<=k/\k<=n/\q.length = n.toNat/\Upto k fun j=>el q j = value i j,fun k _=>(n - k).toNat,⟨by omega,by omega,by simp,upto0⟩,?_⟩
  rintro k q ⟨k0,k1,kl,kI⟩
  dsimp only
  refine⟨fun klt=>⟨⟨h0,by omega⟩,hD i k h0 (by omega) k0 (by omega),⟨k0,by omega⟩,⟨by omega,by omega⟩,⟨by omega,by omega,by simp [kl],fill1 ⟨k0,by omega⟩ kI rfl⟩,by omega⟩,fun kge=>?_⟩
  have hq:q = ran n (value i):=eq_ran kl fun j h2 h3=>kI j h2 (by omega)
  exact⟨⟨by omega,by omega⟩,⟨h0,by omega⟩,⟨by omega,by omega,by simp [hl],fill1 (f:=fun j=>ran n (value j)) ⟨h0,by omega⟩ hI hq⟩,by omega⟩
theorem w_impl_within (n:Int) (low:Int) (high:Int) (Q:Bool->Prop) (h:wp_impl_within n low high Q):AF Tryz.prog 64 [ci n,ci low,ci high] (fun R_=>∃ y0,Q y0/\R_ = cb y0):=by
  refine zS (zM (n:=15) Tryz.func64 U (by rfl) U (zb U) ?_)
  unfold wp_impl_within at h
  refine zg<|zk (zl (n:=15) (σ':=[]) (env':=[(0,.c (ci n)),(1,.c (ci low)),(2,.c (ci high))]) U U E3)<|zd<|za (ze U) U<|zf<|zg<|zd<|za (zc U) U<|za (zc U) U<|za (xl U U) U<|za (zc U) U<|zX (s:=10) U (fun q1=>?_) (fun q1=>?_)
  ·replace h:=h.1 (zj q1)
   exact zE U U q1<|za (zc U) U<|zE U U q1<|za (zc U) U<|zE U U q1<|za (ss_leq U U) U<|za (zU U q1 U) U<|za (ze U) U<|zf<|zA<|zr (zH U (zw U)) U U ⟨_,(zq _),_,h,U⟩
  ·replace h:=h.2 (zh q1)
   exact zC U U q1 U<|zC U U q1 U<|zC U U q1 U<|za (zV U q1 U) U<|za (ze U) U<|zf<|zA<|zr (zH U (zw U)) U U ⟨_,(zq _),_,h,U⟩
theorem c_impl_within (n:Int) (low:Int) (high:Int)  : AF Tryz.prog 64 [ci n,ci low,ci high] (fun R_=>R_ = cb (decide (low<=n) && decide (n<=high))):=
  (w_impl_within n low high (fun y0=>y0 = (decide (low<=n) && decide (n<=high))) (p_impl_within n low high)).mono (by rintro r ⟨_,rfl,rfl⟩; rfl)
theorem w_spec_l01In (n:Int) (low:Int) (high:Int) (Q:Bool->Prop) (h:wp_spec_l01In n low high Q):AF Tryz.prog 61 [ci n,ci low,ci high] (fun R_=>∃ y0,Q y0/\R_ = cb y0):=by
  refine zS (zM (n:=15) Tryz.func61 U (by rfl) U (zb U) ?_)
  unfold wp_spec_l01In at h
  refine zg<|zk (zl (n:=15) (σ':=[]) (env':=[(0,.c (ci n)),(1,.c (ci low)),(2,.c (ci high))]) U U E3)<|zd<|za (ze U) U<|zf<|zg<|zd<|za (zc U) U<|za (zc U) U<|za (xl U U) U<|za (zc U) U<|zX (s:=10) U (fun q1=>?_) (fun q1=>?_)
  ·replace h:=h.1 (zj q1)
   exact zE U U q1<|za (zc U) U<|zE U U q1<|za (zc U) U<|zE U U q1<|za (ss_leq U U) U<|za (zU U q1 U) U<|za (ze U) U<|zf<|zA<|zr (zH U (zw U)) U U ⟨_,(zq _),_,h,U⟩
  ·replace h:=h.2 (zh q1)
   exact zC U U q1 U<|zC U U q1 U<|zC U U q1 U<|za (zV U q1 U) U<|za (ze U) U<|zf<|zA<|zr (zH U (zw U)) U U ⟨_,(zq _),_,h,U⟩
theorem c_spec_l01In (n:Int) (low:Int) (high:Int)  : AF Tryz.prog 61 [ci n,ci low,ci high] (fun R_=>R_ = cb (decide (low<=n) && decide (n<=high))):=
  (w_spec_l01In n low high (fun y0=>y0 = (decide (low<=n) && decide (n<=high))) (p_spec_l01In n low high)).mono (by rintro r ⟨_,rfl,rfl⟩; rfl)
theorem w_impl_allWithin (l:List Int) (low:Int) (high:Int) (Q:Bool->Prop) (h:wp_impl_allWithin l low high Q):AF Tryz.prog 67 [.lst (ints l),ci low,ci high] (fun R_=>∃ y0,Q y0/\R_ = cb y0):=by
  refine zS (zM (n:=21) Tryz.func67 U (by rfl) U (zb U) ?_)
  unfold wp_impl_allWithin at h
  refine zg<|zk (zl (n:=21) (σ':=[]) (env':=[(0,.c (.lst (ints l))),(1,.c (ci low)),(2,.c (ci high))]) U U E3)<|zd<|za (ze U) U<|zf<|zg<|zg<|zd<|za (zc U) U<|za (zJ (f:=ci) U) U<|za (zc U) U<|zf<|zt ?_
  obtain⟨H1,m1,q1,h⟩:=h
  refine yy (fun (v11_1:Int)=>⟨[],[(1,.c (ci low)),(2,.c (ci high)),(9,.c (.lst (ints l))),(10,.c (ci (l.length:Int))),(11,.c (ci v11_1))],21⟩) H1 m1 ⟨0,zv (n:=21) U U E5,q1⟩ ?_
  rintro v11_1 q1
  replace h:=h v11_1 q1
  refine zg<|zd<|za (zO U U) U<|zf<|zg<|zm U (fun q2=>?_) (fun q2=>?_)
  ·replace h:=h.1 (zj q2)
   refine zu<|zg<|zt<|zg<|zd ?_
   obtain⟨q3,h⟩:=h
   refine za (zB U U q3) U<|za (zx (f:=ci) U q3) U<|za (ze U) U<|zf<|zg<|zd<|za (zc U) U<|za (zc U) U<|za (zc U) U<|zn (zF (xs:=[.tmp 15,.tmp 16,.tmp 17]) (ids:=[]) U U U U (c_impl_within (el l v11_1) low high) U ?_)
   rintro _ rfl
   refine⟨U,?_⟩
   refine za (yA U) U<|zf<|zm U (fun q5=>?_) (fun q5=>?_)
   ·replace h:=h.1 ((ya q5))
    exact zg<|zk (zl (n:=21) (σ':=[]) (env':=[]) U U trivial)<|zd<|za (ze U) U<|zf<|zA<|zr (zH U (zw U)) U U ⟨_,(zq _),_,h,U⟩
   ·replace h:=h.2 ((yb q5))
    refine zu<|zk (zl (n:=21) (σ':=[]) (env':=[(1,.c (ci low)),(2,.c (ci high)),(9,.c (.lst (ints l))),(10,.c (ci (l.length:Int))),(11,.c (ci v11_1))]) U U E5)<|zd ?_
    obtain⟨q6,h⟩:=h
    exact za (zG U U q6) U<|za (zc U) U<|zf<|⟨v11_1 + 1,zv (n:=21) U U E5,h.1,h.2⟩
  ·replace h:=h.2 (zh q2)
   exact zL<|zg<|zk (zl (n:=21) (σ':=[]) (env':=[]) U U trivial)<|zd<|za (ze U) U<|zf<|zA<|zr (zH U (zw U)) U U ⟨_,(zq _),_,h,U⟩
theorem c_impl_allWithin (l:List Int) (low:Int) (high:Int) (hp:small l):AF Tryz.prog 67 [.lst (ints l),ci low,ci high] (fun R_=>R_ = cb (l.all (fun z_=>decide (low<=z_) && decide (z_<=high)))):=
  (w_impl_allWithin l low high (fun y0=>y0 = l.all (fun z_=>decide (low<=z_) && decide (z_<=high))) (p_impl_allWithin l low high hp)).mono (by rintro r ⟨_,rfl,rfl⟩; rfl)
theorem w_impl_isPermuted (p:List Int) (Q:Bool->Prop) (h:wp_impl_isPermuted p Q):AF Tryz.prog 69 [.lst (ints p)] (fun R_=>∃ y0,Q y0/\R_ = cb y0):=by
  refine zS (zM (n:=31) Tryz.func69 U (by rfl) U (zb U) ?_)
  unfold wp_impl_isPermuted at h
  refine zg<|zk (zl (n:=31) (σ':=[]) (env':=[(0,.c (.lst (ints p)))]) U U E1)<|zd<|za (ze U) U<|zf<|zg<|zd<|za (zc U) U<|za (zJ (f:=ci) U) U ?_
  obtain⟨q1,h⟩:=h
  refine zn (yZ (id:=8) cb false U U U q1 (zb U) U ⟨U,?_⟩)
  refine za (ze U) U<|zf<|zg<|zg<|zd<|za (zc U) U<|za (zJ (f:=ci) U) U<|za (zc U) U<|zf<|zt ?_
  obtain⟨H1,m1,q2,h⟩:=h
  refine ye (fun (v11_1:Int) (o8_1:List Bool)=>⟨[(8,⟨bools o8_1,[]⟩)],[(0,.c (.lst (ints p))),(3,.ref 8),(9,.c (.lst (ints p))),(10,.c (ci (p.length:Int))),(11,.c (ci v11_1))],31⟩) H1 m1 ⟨0,List.replicate (p.length:Int).toNat false,zv (n:=31) U U E5,q2⟩ ?_
  rintro v11_1 o8_1 q2
  replace h:=h v11_1 o8_1 q2
  refine zg<|zd<|za (zO U U) U<|zf<|zg<|zm U (fun q3=>?_) (fun q3=>?_)
  ·replace h:=h.1 (zj q3)
   refine zu<|zg<|zt<|zg<|zd ?_
   obtain⟨q4,h⟩:=h
   refine za (zB U U q4) U<|za (zx (f:=ci) U q4) U<|za (ze U) U<|zf<|zg<|zg<|zd<|za (zc U) U<|za (zc U) U<|za (zJ (f:=ci) U) U ?_
   obtain⟨q5,h⟩:=h
   refine za (yS U U q5) U<|zn (zF (xs:=[.tmp 15,.const (.int .i64 (0)),.tmp 18]) (ids:=[]) U U U U (c_impl_within (el p v11_1) 0 ((p.length:Int) - 1)) U ?_)
   rintro _ rfl
   refine⟨U,?_⟩
   refine za (yA U) U<|za (zc U) U<|zX (s:=21) U (fun q7=>?_) (fun q7=>?_)
   ·replace h:=h.1 ((ya q7))
    refine zC U U q7 U<|zC U U q7 U<|zC U U q7 U<|zC U U q7 U<|za (zU U q7 U) U<|zf<|zm U (fun q8=>?_) (fun q8=>?_)
    ·skip
     exact zg<|zk (zl (n:=31) (σ':=[(8,⟨bools o8_1,[]⟩)]) (env':=[]) U U trivial)<|zd<|za (ze U) U<|zf<|zA<|zr (zH U (zw U)) U U ⟨_,(zq _),_,h,U⟩
    ·cases q8
   ·replace h:=h.2 ((yb q7))
    refine zE U U q7<|za (zc U) U<|zE U U q7<|za (zc U) U<|zE U U q7 ?_
    obtain⟨q9,h⟩:=h
    refine za (zR (f:=cb) U U U q9) U<|zE U U q7<|za (yi (f:=cb) U U q9 U U) U<|za (zV U q7 U) U<|zf<|zm U (fun q10=>?_) (fun q10=>?_)
    ·replace h:=h.1 (q10)
     exact zg<|zk (zl (n:=31) (σ':=[(8,⟨bools o8_1,[]⟩)]) (env':=[]) U U trivial)<|zd<|za (ze U) U<|zf<|zA<|zr (zH U (zw U)) U U ⟨_,(zq _),_,h,U⟩
    ·replace h:=h.2 (q10)
     refine zu<|zk (zl (n:=31) (σ':=[(8,⟨bools o8_1,[]⟩)]) (env':=[(0,.c (.lst (ints p))),(3,.ref 8),(5,.c (ci (el p v11_1))),(9,.c (.lst (ints p))),(10,.c (ci (p.length:Int))),(11,.c (ci v11_1)),(22,.ref 8),(23,.c (ci (el p v11_1))),(24,.cell 8 (el p v11_1).toNat),(25,.c (cb (el o8_1 (el p v11_1))))]) U U ⟨U,U,U,U,U,U,U,U,U,U,trivial⟩)<|zd<|za (zc U) U<|za (zc U) U ?_
     obtain⟨q11,h⟩:=h
     refine za (zR (f:=cb) U U U q11) U<|zn (yo U U (yN q11) U U (yO (f:=cb)) U ⟨U,?_⟩)
     refine zf<|zk (zl (n:=31) (σ':=[(8,⟨bools (se o8_1 (el p v11_1) true),[]⟩)]) (env':=[(0,.c (.lst (ints p))),(3,.ref 8),(9,.c (.lst (ints p))),(10,.c (ci (p.length:Int))),(11,.c (ci v11_1)),(22,.ref 8),(23,.c (ci (el p v11_1))),(24,.cell 8 (el p v11_1).toNat),(25,.c (cb (el o8_1 (el p v11_1))))]) U U E9)<|zd ?_
     obtain⟨q12,h⟩:=h
     exact za (zG U U q12) U<|za (zc U) U<|zf<|⟨v11_1 + 1,se o8_1 (el p v11_1) true,zv (n:=31) U U E5,h.1,h.2⟩
  ·replace h:=h.2 (zh q3)
   exact zL<|zg<|zk (zl (n:=31) (σ':=[(8,⟨bools o8_1,[]⟩)]) (env':=[]) U U trivial)<|zd<|za (ze U) U<|zf<|zA<|zr (zH U (zw U)) U U ⟨_,(zq _),_,h,U⟩
theorem c_impl_isPermuted (p:List Int) (hp:small p):AF Tryz.prog 69 [.lst (ints p)] (fun R_=>R_ = cb (isPerm p)):=
  (w_impl_isPermuted p (fun y0=>y0 = isPerm p) (p_impl_isPermuted p hp)).mono (by rintro r ⟨_,rfl,rfl⟩; rfl)
theorem w_k_IndexFunc_rows (t:List (List Int)) (f_g:Nat) (f_c:List C) (f:List Int->Bool) (f_D:List Int->Prop) (f_h : ∀ x0,f_D x0->AF Tryz.prog f_g ([.lst (ints x0)] ++ f_c) (fun R_=>R_ = cb (f x0))) (Q:Int->Prop) (h:wp_k_IndexFunc_rows t f f_D Q):AF Tryz.prog 97 [.lst (rows t),.clo f_g f_c] (fun R_=>∃ y0,Q y0/\R_ = ci y0):=by
  refine zS (zM (n:=19) Tryz.func97 U (by rfl) U (zb U) ?_)
  unfold wp_k_IndexFunc_rows at h
  refine zg<|zk (zl (n:=19) (σ':=[]) (env':=[(0,.c (.lst (rows t))),(1,.c (.clo f_g f_c))]) U U E2)<|zd<|za (ze U) U<|zf<|zg<|zg<|zd<|za (zc U) U<|za (zJ (f:=(fun r=>C.lst (ints r))) U) U<|za (zc U) U<|zf<|zt ?_
  obtain⟨H1,m1,q1,h⟩:=h
  refine yy (fun (v8_1:Int)=>⟨[],[(0,.c (.lst (rows t))),(1,.c (.clo f_g f_c)),(7,.c (ci (t.length:Int))),(8,.c (ci v8_1))],19⟩) H1 m1 ⟨0,zv (n:=19) U U E4,q1⟩ ?_
  rintro v8_1 q1
  replace h:=h v8_1 q1
  refine zg<|zd<|za (zO U U) U<|zf<|zg<|zm U (fun q2=>?_) (fun q2=>?_)
  ·replace h:=h.1 (zj q2)
   refine zu<|zg<|zt<|zg<|zd<|za (zc U) U<|za (ze U) U<|zf<|zg<|zd<|za (zc U) U<|za (zc U) U<|za (zc U) U ?_
   obtain⟨q3,h⟩:=h
   refine za (zB U U q3) U<|za (zx (f:=(fun r=>C.lst (ints r))) U q3) U ?_
   obtain⟨q4,h⟩:=h
   refine zn (zF (xs:=[.tmp 15]) (ids:=[]) U U U U (f_h (el t v8_1) q4) U ?_)
   rintro _ rfl
   refine⟨U,?_⟩
   refine zf<|zm U (fun q5=>?_) (fun q5=>?_)
   ·replace h:=h.1 (q5)
    exact zg<|zk (zl (n:=19) (σ':=[]) (env':=[(5,.c (ci v8_1))]) U U E1)<|zd<|za (zc U) U<|za (ze U) U<|zf<|zA<|zr (zH U (zw U)) U U ⟨_,(zq _),_,h,U⟩
   ·replace h:=h.2 (q5)
    refine zu<|zk (zl (n:=19) (σ':=[]) (env':=[(0,.c (.lst (rows t))),(1,.c (.clo f_g f_c)),(7,.c (ci (t.length:Int))),(8,.c (ci v8_1))]) U U E4)<|zd ?_
    obtain⟨q6,h⟩:=h
    exact za (zG U U q6) U<|za (zc U) U<|zf<|⟨v8_1 + 1,zv (n:=19) U U E4,h.1,h.2⟩
  ·replace h:=h.2 (zh q2)
   exact zL<|zg<|zk (zl (n:=19) (σ':=[]) (env':=[]) U U trivial)<|zd<|za (ze U) U<|zf<|zA<|zr (zH U (zw U)) U U ⟨_,(zq _),_,h,U⟩
theorem c_k_IndexFunc_rows (t:List (List Int)) (f_g:Nat) (f_c:List C) (f:List Int->Bool) (f_D:List Int->Prop) (f_h : ∀ x0,f_D x0->AF Tryz.prog f_g ([.lst (ints x0)] ++ f_c) (fun R_=>R_ = cb (f x0))) (hp:small t/\∀ r_ ∈ t,f_D r_):AF Tryz.prog 97 [.lst (rows t),.clo f_g f_c] (fun R_=>R_ = ci (idxF t f)):=
  (w_k_IndexFunc_rows t f_g f_c f f_D f_h (fun y0=>y0 = idxF t f) (p_k_IndexFunc_rows t f f_D hp)).mono (by rintro r ⟨_,rfl,rfl⟩; rfl)
theorem w_k_ContainsFunc_rows (t:List (List Int)) (f_g:Nat) (f_c:List C) (f:List Int->Bool) (f_D:List Int->Prop) (f_h : ∀ x0,f_D x0->AF Tryz.prog f_g ([.lst (ints x0)] ++ f_c) (fun R_=>R_ = cb (f x0))) (Q:Bool->Prop) (h:wp_k_ContainsFunc_rows t f f_D Q):AF Tryz.prog 65 [.lst (rows t),.clo f_g f_c] (fun R_=>∃ y0,Q y0/\R_ = cb y0):=by
  refine zS (zM (n:=9) Tryz.func65 U (by rfl) U (zb U) ?_)
  unfold wp_k_ContainsFunc_rows at h
  refine zg<|zk (zl (n:=9) (σ':=[]) (env':=[(0,.c (.lst (rows t))),(1,.c (.clo f_g f_c))]) U U E2)<|zd<|za (ze U) U<|zf<|zg<|zd<|za (zc U) U<|za (zc U) U ?_
  obtain⟨q1,h⟩:=h
  refine zn (zF (xs:=[.tmp 5,.tmp 6]) (ids:=[]) U U U U (c_k_IndexFunc_rows t f_g f_c f f_D f_h q1) U ?_)
  rintro _ rfl
  refine⟨U,?_⟩
  exact za (xl U U) U<|za (ze U) U<|zf<|zA<|zr (zH U (zw U)) U U ⟨_,(zq _),_,h,U⟩
theorem c_k_ContainsFunc_rows (t:List (List Int)) (f_g:Nat) (f_c:List C) (f:List Int->Bool) (f_D:List Int->Prop) (f_h : ∀ x0,f_D x0->AF Tryz.prog f_g ([.lst (ints x0)] ++ f_c) (fun R_=>R_ = cb (f x0))) (hp:small t/\∀ r_ ∈ t,f_D r_):AF Tryz.prog 65 [.lst (rows t),.clo f_g f_c] (fun R_=>R_ = cb (t.any f)):=
  (w_k_ContainsFunc_rows t f_g f_c f f_D f_h (fun y0=>y0 = t.any f) (p_k_ContainsFunc_rows t f f_D hp)).mono (by rintro r ⟨_,rfl,rfl⟩; rfl)
theorem w_impl_IsTable_1 (row:List Int) (n:Int) (Q:Bool->Prop) (h:wp_impl_IsTable_1 row n Q):AF Tryz.prog 66 [.lst (ints row),.ptr [ci n]] (fun R_=>∃ y0,Q y0/\R_ = cb y0):=by
  refine zS (zM (n:=15) Tryz.func66 U (by rfl) U (zb U) ?_)
  unfold wp_impl_IsTable_1 at h
  refine zg<|zk (zl (n:=15) (σ':=[]) (env':=[(0,.c (.lst (ints row))),(1,.c (.ptr [ci n]))]) U U E2)<|zd<|za (ze U) U<|zf<|zg<|zd<|za (zc U) U<|za (zJ (f:=ci) U) U<|za (zZ U U) U<|za (yQ U U) U<|za (zc U) U<|zX (s:=8) U (fun q1=>?_) (fun q1=>?_)
  ·replace h:=h.1 (zh (ya q1))
   exact zC U U q1 U<|zC U U q1 U<|zC U U q1 U<|zC U U q1 U<|zC U U q1 U<|za (zU U q1 U) U<|za (ze U) U<|zf<|zA<|zr (zH U (zw U)) U U ⟨_,(zq _),_,h,U⟩
  ·replace h:=h.2 (zj (yb q1))
   refine zE U U q1<|za (zc U) U<|zE U U q1<|za (zZ U U) U<|zE U U q1 ?_
   obtain⟨q2,h⟩:=h
   refine za (yS U U q2) U<|zE U U q1 ?_
   obtain⟨q3,h⟩:=h
   refine zn (zF (xs:=[.tmp 9,.const (.int .i64 (0)),.tmp 11]) (ids:=[]) U U U U (c_impl_allWithin row 0 (n - 1) q3) U ?_)
   rintro _ rfl
   refine⟨U,?_⟩
   exact zE U U q1<|za (yA U) U<|za (zV U q1 U) U<|za (ze U) U<|zf<|zA<|zr (zH U (zw U)) U U ⟨_,(zq _),_,h,U⟩
theorem c_impl_IsTable_1 (row:List Int) (n:Int) (hp:small row/\0<=n/\n<=12):AF Tryz.prog 66 [.lst (ints row),.ptr [ci n]] (fun R_=>R_ = cb (badRow n row)):=
  (w_impl_IsTable_1 row n (fun y0=>y0 = badRow n row) (p_impl_IsTable_1 row n hp)).mono (by rintro r ⟨_,rfl,rfl⟩; rfl)
theorem w_impl_IsTable (t:List (List Int)) (Q:Bool->Prop) (h:wp_impl_IsTable t Q):AF Tryz.prog 41 [.lst (rows t)] (fun R_=>∃ y0,Q y0/\R_ = cb y0):=by
  refine zS (zM (n:=14) Tryz.func41 U (by rfl) U (zb U) ?_)
  unfold wp_impl_IsTable at h
  refine zg<|zk (zl (n:=14) (σ':=[]) (env':=[(0,.c (.lst (rows t)))]) U U E1)<|zd<|za (ze U) U<|zf<|zg<|zd<|za (zc U) U<|za (zJ (f:=(fun r=>C.lst (ints r))) U) U<|zn (yw (id:=3) U (zb U) ⟨U,?_⟩)
  refine zn (yV U U (zb U) U U ⟨U,?_⟩)
  refine zf<|zg<|zd<|za (yB U U U U U) U<|zn (zF (xs:=[.tmp 6,.const (.int .i64 (1)),.const (.int .i64 (12))]) (ids:=[]) U U U U (c_impl_within (t.length:Int) 1 12) U ?_)
  rintro _ rfl
  refine⟨U,?_⟩
  refine za (zc U) U<|zX (s:=8) U (fun q2=>?_) (fun q2=>?_)
  ·replace h:=h.1 (q2)
   refine zE U U q2<|za (zc U) U<|zE U U q2<|yF (yH (id:=3) U U)<|za (ss_makeFunc (os:=[.tmp 3]) U) U<|zE U U q2 ?_
   obtain⟨q3,h⟩:=h
   refine zn (zF (xs:=[.tmp 9,.tmp 10]) (ids:=[]) U U U U (c_k_ContainsFunc_rows t 66 [.ptr [ci (t.length:Int)]] (fun z0=>badRow (t.length:Int) z0) (fun z0=>small z0/\0<=(t.length:Int)/\(t.length:Int)<=12) (fun z0 hD=>c_impl_IsTable_1 z0 (t.length:Int) hD) q3) U ?_)
   rintro _ rfl
   refine⟨U,?_⟩
   exact zE U U q2<|za (yA U) U<|za (zU U q2 U) U<|za (ze U) U<|zf<|zA<|zr (zH U (zw U)) U U ⟨_,(zq _),_,h,U⟩
  ·replace h:=h.2 (q2)
   exact zC U U q2 U<|zC U U q2 U<|zC U U q2 U<|zC U U q2 U<|za (zV U q2 U) U<|za (ze U) U<|zf<|zA<|zr (zH U (zw U)) U U ⟨_,(zq _),_,h,U⟩
theorem c_impl_IsTable (t:List (List Int)) (hp:small2 t):AF Tryz.prog 41 [.lst (rows t)] (fun R_=>R_ = cb (isTab t)):=
  (w_impl_IsTable t (fun y0=>y0 = isTab t) (p_impl_IsTable t hp)).mono (by rintro r ⟨_,rfl,rfl⟩; rfl)
theorem w_impl_tableBy (n:Int) (value_g:Nat) (value_c:List C) (value:Int->Int->Int) (value_D:Int->Int->Prop) (value_h : ∀ x0 x1,value_D x0 x1->AF Tryz.prog value_g ([ci x0,ci x1] ++ value_c) (fun R_=>R_ = ci (value x0 x1))) (Q:List (List Int)->Prop) (h:wp_impl_tableBy n value value_D Q):AF Tryz.prog 80 [ci n,.clo value_g value_c] (fun R_=>∃ y0,Q y0/\R_ = .own (orows y0)):=by
  refine zS (zM (n:=41) Tryz.func80 U (by rfl) U (zb U) ?_)
  unfold wp_impl_tableBy at h
  refine zg<|zk (zl (n:=41) (σ':=[]) (env':=[(0,.c (ci n)),(1,.c (.clo value_g value_c))]) U U E2)<|zd<|za (ze U) U<|zf<|zg<|zd<|za (zc U) U ?_
  obtain⟨q1,h⟩:=h
  refine zn (ws_makeSlice (id:=9) U U q1 (zb U) U ⟨U,?_⟩)
  refine yF (gh_weakR (id:=9) (f:=(fun r=>C.own (ints r))) U yK)<|za (ze U) U<|zf<|zg<|zg<|zd<|za (zc U) U<|za (yR (f:=(fun r=>C.own (ints r))) U U) U<|za (zc U) U<|zf<|zt ?_
  obtain⟨H1,m1,q2,h⟩:=h
  refine ye (fun (v12_1:Int) (o9_1:List (List Int))=>⟨[(9,⟨orows o9_1,[]⟩)],[(0,.c (ci n)),(1,.c (.clo value_g value_c)),(5,.ref 9),(11,.c (ci ((List.replicate n.toNat ([] : List Int)).length:Int))),(12,.c (ci v12_1))],41⟩) H1 m1 ⟨0,List.replicate n.toNat ([] : List Int),zv (n:=41) U U E5,q2⟩ ?_
  rintro v12_1 o9_1 q2
  replace h:=h v12_1 o9_1 q2
  refine zg<|zd<|za (zO U U) U<|zf<|zg<|zm U (fun q3=>?_) (fun q3=>?_)
  ·replace h:=h.1 (zj q3)
   refine zu<|zg<|zt<|zg<|zd<|za (zc U) U<|za (ze U) U<|zf<|zg<|zd<|za (zc U) U<|za (zc U) U<|za (zc U) U ?_
   obtain⟨q4,h⟩:=h
   refine zn (yZ (id:=18) ci (0:Int) U U U q4 (zb U) U ⟨U,?_⟩)
   obtain⟨q5,h⟩:=h
   refine za (zR (f:=(fun r=>C.own (ints r))) U U U q5) U<|zn (ws_storeV U U (yN q5) U U U U ⟨U,?_⟩)
   refine zf<|zg<|zd<|za (zc U) U<|za (zc U) U ?_
   obtain⟨q6,h⟩:=h
   refine za (ss_indexAddr_ref U U U (set_bd (f:=(fun r=>C.own (ints r))) q6)) U<|za (yt U U xe U) U<|za (yR (f:=ci) U U) U<|za (zc U) U<|zf<|zt ?_
   obtain⟨H2,m2,q7,h⟩:=h
   refine ye (fun (v25_2:Int) (o18_2:List Int)=>⟨[(18,⟨ints o18_2,[]⟩),(9,⟨(orows o9_1).set v12_1.toNat .hole,[(v12_1.toNat,.ref 18)]⟩)],[(0,.c (ci n)),(1,.c (.clo value_g value_c)),(5,.ref 9),(6,.c (ci v12_1)),(11,.c (ci ((List.replicate n.toNat ([] : List Int)).length:Int))),(12,.c (ci v12_1)),(24,.c (ci ((List.replicate n.toNat (0:Int)).length:Int))),(25,.c (ci v25_2))],41⟩) H2 m2 ⟨0,List.replicate n.toNat (0:Int),zv (n:=41) U U E8,q7⟩ ?_
   rintro v25_2 o18_2 q7
   replace h:=h v25_2 o18_2 q7
   refine zg<|zd<|za (zO U U) U<|zf<|zg<|zm U (fun q8=>?_) (fun q8=>?_)
   ·replace h:=h.1 (zj q8)
    refine zu<|zg<|zt<|zg<|zd<|za (zc U) U<|za (ze U) U<|zf<|zk (zl (n:=41) (σ':=[(18,⟨ints o18_2,[]⟩),(9,⟨(orows o9_1).set v12_1.toNat .hole,[(v12_1.toNat,.ref 18)]⟩)]) (env':=[(0,.c (ci n)),(1,.c (.clo value_g value_c)),(5,.ref 9),(6,.c (ci v12_1)),(7,.c (ci v25_2)),(11,.c (ci ((List.replicate n.toNat ([] : List Int)).length:Int))),(12,.c (ci v12_1)),(24,.c (ci ((List.replicate n.toNat (0:Int)).length:Int))),(25,.c (ci v25_2))]) U U E9)<|zP (kd:=kdl [0,0,0,1,0,0,0,0,2,0,3]) (ord:=[0,1,2,4,5,6,7,3,8,9,10]) [] mixed (by kernel_rfl)<|zp U U trivial (zc U) U<|zp U U trivial (zc U) U ?_
    obtain⟨q9,h⟩:=h
    refine zp U U trivial (ss_indexAddr_ref U U U (set_bd (f:=(fun r=>C.own (ints r))) q9)) U<|zp U U trivial (zc U) U<|zp U U trivial (zc U) U<|zp U U trivial (zc U) U<|zp U U trivial (zc U) U<|zY U U trivial (yt U U xe U) U ?_
    obtain⟨q10,h⟩:=h
    refine y7 U U trivial U U (zF (xs:=[.tmp 34,.tmp 35]) (ids:=[]) U U U U (value_h v12_1 v25_2 q10) U ?_)
    rintro _ rfl
    refine⟨U,?_⟩
    obtain⟨q11,h⟩:=h
    refine zp U U trivial (zR (f:=ci) U U U q11) U<|xq U U trivial (yo U U (yN q11) U U (yO (f:=ci)) U ⟨U,?_⟩)
    refine yh<|zk (zl (n:=41) (σ':=[(18,⟨ints (se o18_2 v25_2 (value v12_1 v25_2)),[]⟩),(9,⟨(orows o9_1).set v12_1.toNat .hole,[(v12_1.toNat,.ref 18)]⟩)]) (env':=[(0,.c (ci n)),(1,.c (.clo value_g value_c)),(5,.ref 9),(6,.c (ci v12_1)),(11,.c (ci ((List.replicate n.toNat ([] : List Int)).length:Int))),(12,.c (ci v12_1)),(24,.c (ci ((List.replicate n.toNat (0:Int)).length:Int))),(25,.c (ci v25_2))]) U U E8)<|zd ?_
    obtain⟨q12,h⟩:=h
    exact za (zG U U q12) U<|za (zc U) U<|zf<|⟨v25_2 + 1,se o18_2 v25_2 (value v12_1 v25_2),zv (n:=41) U U E8,h.1,h.2⟩
   ·replace h:=h.2 (zh q8)
    refine zL<|zk (zl (n:=41) (σ':=[(18,⟨ints o18_2,[]⟩),(9,⟨(orows o9_1).set v12_1.toNat .hole,[(v12_1.toNat,.ref 18)]⟩)]) (env':=[(0,.c (ci n)),(1,.c (.clo value_g value_c)),(5,.ref 9),(11,.c (ci ((List.replicate n.toNat ([] : List Int)).length:Int))),(12,.c (ci v12_1))]) U U E5)<|zd ?_
    obtain⟨q13,h⟩:=h
    refine za (zG U U q13) U<|za (zc U) U<|zf ?_
    obtain⟨q14,h⟩:=h
    exact⟨v12_1 + 1,se o9_1 v12_1 o18_2,zQ (gh_fillA (id:=9) (id2:=18) (f:=(fun r=>C.own (ints r))) (v:=o18_2) U xe U q14 U U kr_self) (zv (n:=41) U U E5),h.1,h.2⟩
  ·replace h:=h.2 (zh q3)
   exact zL<|zg<|zk (zl (n:=41) (σ':=[(9,⟨orows o9_1,[]⟩)]) (env':=[(5,.ref 9)]) U U E1)<|zd<|za (zc U) U<|za (ze U) U<|zf<|zA<|zr (zH U (zw U)) U U ⟨_,(zq _),_,h,U⟩
theorem c_impl_tableBy (n:Int) (value_g:Nat) (value_c:List C) (value:Int->Int->Int) (value_D:Int->Int->Prop) (value_h : ∀ x0 x1,value_D x0 x1->AF Tryz.prog value_g ([ci x0,ci x1] ++ value_c) (fun R_=>R_ = ci (value x0 x1))) (hp:0<=n/\n<=1000000/\∀ x_ y_,0<=x_->x_ < n->0<=y_->y_ < n->value_D x_ y_):AF Tryz.prog 80 [ci n,.clo value_g value_c] (fun R_=>R_ = .own (orows (tab n value))):=
  (w_impl_tableBy n value_g value_c value value_D value_h (fun y0=>y0 = tab n value) (p_impl_tableBy n value value_D hp)).mono (by rintro r ⟨_,rfl,rfl⟩; rfl)
def wp_spec_l01Index (list:List Int) (n:Int) (Q:Int->Prop):Prop:=
 ∃ (H1:Int->Prop) (m1:Int->Nat),
 H1 0/\
 ∀ (v5_1:Int),H1 v5_1->
 (((v5_1 < (list.length:Int)->
 (0<=v5_1/\v5_1 < (list.length:Int))/\
 ((el list v5_1 = n->
 Q v5_1)/\
 (¬ (el list v5_1 = n)->
 (InI (v5_1 + 1))/\
 (H1 (v5_1 + 1)/\m1 (v5_1 + 1) < m1 v5_1))))/\
 (¬ (v5_1 < (list.length:Int))->
 Q (-1))))
def wp_spec_l01Has (list:List Int) (n:Int) (Q:Bool->Prop):Prop:=
 (small list)/\
 Q (decide (0<=idxI list n))
def wp_spec_l01Perm (p:List Int) (Q:Bool->Prop):Prop:=
 (((decide ((1:Int)<=(p.length:Int)) && decide ((p.length:Int)<=(12:Int))) = false->
 Q false)/\
 ((decide ((1:Int)<=(p.length:Int)) && decide ((p.length:Int)<=(12:Int))) = true->
 ∃ (H1:Int->Prop) (m1:Int->Nat),
 H1 0/\
 ∀ (v4_1:Int),H1 v4_1->
 (((v4_1 < (p.length:Int)->
 (small p)/\
 (((p.contains v4_1) = false->
 Q false)/\
 ((p.contains v4_1) = true->
 (InI (v4_1 + 1))/\
 (H1 (v4_1 + 1)/\m1 (v4_1 + 1) < m1 v4_1))))/\
 (¬ (v4_1 < (p.length:Int))->
 Q true)))))
def wp_spec_l01Own (list:List Int) (Q:List Int->Prop):Prop:=
 ((([] : List Int).length:Int) + (list.length:Int)<=1000000000)/\
 Q (([] : List Int) ++ list)
def wp_spec_l01Table (t:List (List Int)) (Q:Bool->Prop):Prop:=
 (((decide ((1:Int)<=(t.length:Int)) && decide ((t.length:Int)<=(12:Int))) = false->
 Q false)/\
 ((decide ((1:Int)<=(t.length:Int)) && decide ((t.length:Int)<=(12:Int))) = true->
 ∃ (H1:Int->Prop) (m1:Int->Nat),
 H1 0/\
 ∀ (v4_1:Int),H1 v4_1->
 (((v4_1 < (t.length:Int)->
 (0<=v4_1/\v4_1 < (t.length:Int))/\
 ((¬ (((el t v4_1).length:Int) = (t.length:Int))->
 Q false)/\
 (((el t v4_1).length:Int) = (t.length:Int)->
 ∃ (H2:Int->Prop) (m2:Int->Nat),
 H2 0/\
 ∀ (v5_2:Int),H2 v5_2->
 (((v5_2 < (t.length:Int)->
 (0<=v4_1/\v4_1 < (t.length:Int))/\
 (0<=v5_2/\v5_2 < ((el t v4_1).length:Int))/\
 (InI ((t.length:Int) - 1))/\
 (((decide ((0:Int)<=(el (el t v4_1) v5_2)) && decide ((el (el t v4_1) v5_2)<=((t.length:Int) - 1))) = false->
 Q false)/\
 ((decide ((0:Int)<=(el (el t v4_1) v5_2)) && decide ((el (el t v4_1) v5_2)<=((t.length:Int) - 1))) = true->
 (InI (v5_2 + 1))/\
 (H2 (v5_2 + 1)/\m2 (v5_2 + 1) < m2 v5_2))))/\
 (¬ (v5_2 < (t.length:Int))->
 (InI (v4_1 + 1))/\
 (H1 (v4_1 + 1)/\m1 (v4_1 + 1) < m1 v4_1)))))))/\
 (¬ (v4_1 < (t.length:Int))->
 Q true)))))
def wp_spec_l03Coprime (a:Int) (n:Int) (Q:Bool->Prop):Prop:=
 ∃ (H1:Int->Prop) (m1:Int->Nat),
 H1 2/\
 ∀ (v5_1:Int),H1 v5_1->
 (((v5_1<=n->
 ((0:Int)<=a/\(0:Int) < v5_1)/\
 ((a % v5_1 = 0->
 ((0:Int)<=n/\(0:Int) < v5_1)/\
 ((n % v5_1 = 0->
 Q false)/\
 (¬ (n % v5_1 = 0)->
 (InI (v5_1 + 1))/\
 (H1 (v5_1 + 1)/\m1 (v5_1 + 1) < m1 v5_1))))/\
 (¬ (a % v5_1 = 0)->
 (InI (v5_1 + 1))/\
 (H1 (v5_1 + 1)/\m1 (v5_1 + 1) < m1 v5_1))))/\
 (¬ (v5_1<=n)->
 Q true)))
def wp_spec_l03AlexanderW (n:Int) (a:Int) (b:Int) (Q:List (List Int)->Prop):Prop:=
 ∃ (H1:Int->List (List Int)->Prop) (m1:Int->List (List Int)->Nat),
 H1 0 ([] : List (List Int))/\
 ∀ (v8_1:Int) (o11_1:List (List Int)),H1 v8_1 o11_1->
 (((v8_1 < n->
 ∃ (H2:Int->List Int->Prop) (m2:Int->List Int->Nat),
 H2 0 ([] : List Int)/\
 ∀ (v10_2:Int) (o17_2:List Int),H2 v10_2 o17_2->
 (((v10_2 < n->
 (InI (b * v8_1))/\
 (InI (a * v10_2))/\
 (InI ((b * v8_1) + (a * v10_2)))/\
 ((0:Int)<=(b * v8_1) + (a * v10_2)/\(0:Int) < n)/\
 ((o17_2.length:Int) + (([((b * v8_1) + (a * v10_2)) % n]).length:Int)<=1000000000)/\
 (InI (v10_2 + 1))/\
 (H2 (v10_2 + 1) (o17_2 ++ ([((b * v8_1) + (a * v10_2)) % n]))/\m2 (v10_2 + 1) (o17_2 ++ ([((b * v8_1) + (a * v10_2)) % n])) < m2 v10_2 o17_2))/\
 (¬ (v10_2 < n)->
 ((o11_1.length:Int) + (([o17_2]).length:Int)<=1000000000)/\
 (InI (v8_1 + 1))/\
 (H1 (v8_1 + 1) (o11_1 ++ ([o17_2]))/\m1 (v8_1 + 1) (o11_1 ++ ([o17_2])) < m1 v8_1 o11_1)))))/\
 (¬ (v8_1 < n)->
 Q o11_1)))
theorem p_spec_l01Index (list:List Int) (n:Int) (hp:small list):wp_spec_l01Index list n (fun y0=>y0 = idxI list n):=by
  unfold wp_spec_l01Index idxI
  refine⟨fun i=>0<=i/\i<=(list.length:Int)/\Upto i fun j=>(el list j == n) = false,fun i=>((list.length:Int) - i).toNat,⟨by omega,by omega,upto0⟩,?_⟩
  rintro i ⟨h0,h1,hI⟩
  dsimp only
  refine⟨fun hlt=>⟨⟨h0,hlt⟩,fun hf=>(idxF_found ⟨h0,hlt⟩ hI (by simpa using hf)).symm,fun ht=>⟨⟨by omega,by omega⟩,⟨by omega,by omega,upto1 hI (by simpa using ht)⟩,by omega⟩⟩,fun hge=>?_⟩
  exact (idxF_none (by rwa [show i = (list.length:Int) by omega] at hI)).symm
theorem p_spec_l01Has (list:List Int) (n:Int) (hp:small list):wp_spec_l01Has list n (fun y0=>y0 = list.contains n):=⟨hp,idxI_has⟩
theorem p_spec_l01Perm (p:List Int) (hp:small p):wp_spec_l01Perm p (fun y0=>y0 = permB p):=by
  unfold wp_spec_l01Perm permB
  refine⟨fun h=>by rw [h]; rfl,fun h=>?_⟩
  rw [h]
  refine⟨fun i=>0<=i/\i<=(p.length:Int)/\Upto i fun j=>j ∈ p,fun i=>((p.length:Int) - i).toNat,⟨by omega,by omega,upto0⟩,?_⟩
  rintro i ⟨h0,h1,hI⟩
  dsimp only
  refine⟨fun hlt=>⟨hp,fun hf=>?_,fun ht=>⟨⟨by omega,by omega⟩,⟨by omega,by omega,upto1 hI (List.contains_iff_mem.1 ht)⟩,by omega⟩⟩,fun hge=>?_⟩
  · cases hb:isPerm p with
    | false=>rfl
    | true=>rw [List.contains_iff_mem.2 (isPerm_all hb ⟨h0,hlt⟩)] at hf; cases hf
  · rw [isPerm_of_all fun x a b=>hI x a (by omega)]; rfl
theorem p_spec_l01Own (list:List Int) (hp:small list):wp_spec_l01Own list (fun y0=>y0 = list):=⟨by simp; omega,rfl⟩
theorem p_spec_l01Table (t:List (List Int)) (hp:small2 t):wp_spec_l01Table t (fun y0=>y0 = isTab t):=by
  unfold wp_spec_l01Table
  refine⟨fun h=>by unfold isTab; rw [h]; rfl,fun h=>?_⟩
  simp only [Bool.and_eq_true,decide_eq_true_eq] at h
  have nt : ∀ i,(0<=i/\i < (t.length:Int))->(((el t i).length:Int)≠(t.length:Int)\/∃ j,(0<=j/\j < (t.length:Int))/\¬ (0<=el (el t i) j/\el (el t i) j < (t.length:Int)))->false = isTab t:=by
    intro i hi hn
    cases hb:isTab t with
    | false=>rfl
    | true=>
      have:=isTab_row hb hi
      rcases hn with hn | ⟨j,hj,hn⟩
      · exact absurd this.1 hn
      · exact absurd (this.2 j hj.1 hj.2) hn
  refine⟨fun i=>0<=i/\i<=(t.length:Int)/\Upto i fun i=>((el t i).length:Int) = (t.length:Int)/\∀ j,0<=j->j < (t.length:Int)->0<=el (el t i) j/\el (el t i) j < (t.length:Int),fun i=>((t.length:Int) - i).toNat,⟨by omega,by omega,upto0⟩,?_⟩
  rintro i ⟨h0,h1,hI⟩
  dsimp only
  refine⟨fun hlt=>⟨⟨h0,hlt⟩,fun hf=>nt i ⟨h0,hlt⟩ (.inl hf),fun hr=>?_⟩,fun hge=>(isTab_mk h fun i a b=>hI i a (by omega)).symm⟩
  refine⟨fun j=>0<=j/\j<=(t.length:Int)/\Upto j fun j=>0<=el (el t i) j/\el (el t i) j < (t.length:Int),fun j=>((t.length:Int) - j).toNat,⟨by omega,by omega,upto0⟩,?_⟩
  rintro j ⟨j0,j1,jI⟩
  dsimp only
  refine⟨fun jlt=>⟨⟨h0,hlt⟩,⟨j0,by omega⟩,⟨by omega,by omega⟩,fun hf=>?_,fun ht=>?_⟩,fun jge=>⟨⟨by omega,by omega⟩,⟨by omega,by omega,upto1 hI ⟨hr,fun j a b=>jI j a (by omega)⟩⟩,by omega⟩⟩
  · simp only [Bool.and_eq_false_iff,decide_eq_false_iff_not] at hf
    exact nt i ⟨h0,hlt⟩ (.inr ⟨j,⟨j0,jlt⟩,by omega⟩)
  · simp only [Bool.and_eq_true,decide_eq_true_eq] at ht
    exact⟨⟨by omega,by omega⟩,⟨by omega,by omega,upto1 jI ⟨ht.1,by omega⟩⟩,by omega⟩
theorem p_spec_l03Coprime (a n:Int) (hp:0<=a/\1<=n/\n<=1000):wp_spec_l03Coprime a n (fun y0=>y0 = !decide (1 < gcdI n a)):=by
  unfold wp_spec_l03Coprime
  obtain⟨h1,h2,h3⟩:=hp
  refine⟨fun v=>2<=v/\v<=n + 2/\∀ d,2<=d->d < v->¬ (a % d = 0/\n % d = 0),fun v=>(n + 2 - v).toNat,⟨by omega,by omega,fun d a b=>by omega⟩,?_⟩
  rintro v ⟨v0,v1,vI⟩
  dsimp only
  have st : ¬ (a % v = 0/\n % v = 0)->∀ d,2<=d->d < v + 1->¬ (a % d = 0/\n % d = 0):=fun hn d d1 d2=>by
    by_cases e:d = v
    · subst e; exact hn
    · exact vI d d1 (by omega)
  refine⟨fun hlt=>⟨⟨h1,by omega⟩,fun ha=>⟨⟨by omega,by omega⟩,fun hn=>?_,fun hn=>⟨⟨by omega,by omega⟩,⟨by omega,by omega,st fun h=>hn h.2⟩,by omega⟩⟩,fun ha=>⟨⟨by omega,by omega⟩,⟨by omega,by omega,st fun h=>ha h.1⟩,by omega⟩⟩,fun hge=>?_⟩
  · have d1:v ∣ a:=Int.dvd_of_emod_eq_zero ha
    have d2:v ∣ n:=Int.dvd_of_emod_eq_zero hn
    have d3:v ∣ gcdI n a:=Int.dvd_coe_gcd d2 d1
    have d4:0 < gcdI n a:=by
      have:0 < Int.gcd n a:=Int.gcd_pos_of_ne_zero_left _ (by omega)
      unfold gcdI; omega
    have:=Int.le_of_dvd d4 d3
    simp; omega
  · have g1:gcdI n a ∣ n:=Int.gcd_dvd_left ..
    have g2:gcdI n a ∣ a:=Int.gcd_dvd_right ..
    have g3:=Int.le_of_dvd (by omega) g1
    have : ¬ 1 < gcdI n a:=fun h=>vI _ (by omega) (by omega) ⟨Int.emod_eq_zero_of_dvd g2,Int.emod_eq_zero_of_dvd g1⟩
    simp; omega
theorem alexW_end {n a b:Int} {o:List (List Int)} (h1:1<=n) (h2:n<=12) (e:o = tab n fun x_ y_=>(b * x_ + a * y_) % n):isTab o = true/\(o.length:Int) = n:=by
  subst e
  exact⟨isTab_tab ⟨h1,h2⟩ fun x y _ _ _ _=>⟨Int.emod_nonneg _ (by omega),Int.emod_lt_of_pos _ (by omega)⟩,len_tab (by omega)⟩
theorem p_spec_l03AlexanderW (n a b:Int) (hp:1<=n/\n<=12/\0<=a/\a<=1000/\0<=b/\b<=1000):wp_spec_l03AlexanderW n a b (fun y0=>isTab y0 = true/\(y0.length:Int) = n):=by
  unfold wp_spec_l03AlexanderW
  obtain⟨h1,h2,h3,h4,h5,h6⟩:=hp
  refine⟨fun i o=>0<=i/\i<=n/\o.length = i.toNat/\Upto i fun x=>el o x = ran n fun y=>(b * x + a * y) % n,fun i _=>(n - i).toNat,⟨by omega,by omega,by simp,upto0⟩,?_⟩
  rintro i o ⟨i0,i1,il,iI⟩
  dsimp only
  refine⟨fun ilt=>?_,fun ige=>alexW_end h1 h2 (eq_ran (by omega) fun j a b=>iI j a (by omega))⟩
  refine⟨fun j q=>0<=j/\j<=n/\q.length = j.toNat/\Upto j fun y=>el q y = (b * i + a * y) % n,fun j _=>(n - j).toNat,⟨by omega,by omega,by simp,upto0⟩,?_⟩
  rintro j q ⟨j0,j1,jl,jI⟩
  dsimp only
  have m1:=mulA (a:=b) (i:=i) ⟨h5,h6⟩ ⟨i0,by omega⟩
  have m2:=mulA (a:=a) (i:=j) ⟨h3,h4⟩ ⟨j0,by omega⟩
  refine⟨fun jlt=>⟨⟨by omega,by omega⟩,⟨by omega,by omega⟩,⟨by omega,by omega⟩,⟨by omega,by omega⟩,by simp; omega,⟨by omega,by omega⟩,⟨by omega,by omega,by simp; omega,app1 (by omega) jI rfl⟩,by omega⟩,fun jge=>?_⟩
  have hq:q = ran n fun y=>(b * i + a * y) % n:=eq_ran (by omega) fun k a b=>jI k a (by omega)
  exact⟨by simp; omega,⟨by omega,by omega⟩,⟨by omega,by omega,by simp; omega,app1 (f:=fun x=>ran n fun y=>(b * x + a * y) % n) (by omega) iI hq⟩,by omega⟩
theorem w_spec_l01Index (list:List Int) (n:Int) (Q:Int->Prop) (h:wp_spec_l01Index list n Q):AF Tryz.prog 96 [.lst (ints list),ci n] (fun R_=>∃ y0,Q y0/\R_ = ci y0):=by
  refine zS (zM (n:=19) Tryz.func96 U (by rfl) U (zb U) ?_)
  unfold wp_spec_l01Index at h
  refine zg<|zk (zl (n:=19) (σ':=[]) (env':=[(0,.c (.lst (ints list))),(1,.c (ci n))]) U U E2)<|zd<|za (ze U) U<|zf<|zg<|zg<|zd<|za (ze U) U<|zf<|zt ?_
  obtain⟨H1,m1,q1,h⟩:=h
  refine yy (fun (v5_1:Int)=>⟨[],[(0,.c (.lst (ints list))),(1,.c (ci n)),(5,.c (ci v5_1))],19⟩) H1 m1 ⟨0,zv (n:=19) U U E3,q1⟩ ?_
  rintro v5_1 q1
  replace h:=h v5_1 q1
  refine zg<|zg<|zd<|za (zc U) U<|za (zc U) U<|za (zJ (f:=ci) U) U<|za (zO U U) U<|zf<|zm U (fun q2=>?_) (fun q2=>?_)
  ·replace h:=h.1 (zj q2)
   refine zu<|zg<|zt<|zg<|zd<|za (zc U) U<|za (zc U) U ?_
   obtain⟨q3,h⟩:=h
   refine za (zB U U q3) U<|za (zx (f:=ci) U q3) U<|za (zc U) U<|za (yE U U) U<|zf<|zm U (fun q4=>?_) (fun q4=>?_)
   ·replace h:=h.1 (zj q4)
    exact zg<|zk (zl (n:=19) (σ':=[]) (env':=[(5,.c (ci v5_1))]) U U E1)<|zd<|za (zc U) U<|za (ze U) U<|zf<|zA<|zr (zH U (zw U)) U U ⟨_,(zq _),_,h,U⟩
   ·replace h:=h.2 (zh q4)
    refine zu<|zk (zl (n:=19) (σ':=[]) (env':=[(0,.c (.lst (ints list))),(1,.c (ci n)),(5,.c (ci v5_1))]) U U E3)<|zd<|za (zc U) U ?_
    obtain⟨q5,h⟩:=h
    exact za (zG U U q5) U<|za (ze U) U<|zf<|⟨v5_1 + 1,zv (n:=19) U U E3,h.1,h.2⟩
  ·replace h:=h.2 (zh q2)
   exact zL<|zg<|zk (zl (n:=19) (σ':=[]) (env':=[]) U U trivial)<|zd<|za (ze U) U<|zf<|zA<|zr (zH U (zw U)) U U ⟨_,(zq _),_,h,U⟩
theorem c_spec_l01Index (list:List Int) (n:Int) (hp:small list):AF Tryz.prog 96 [.lst (ints list),ci n] (fun R_=>R_ = ci (idxI list n)):=
  (w_spec_l01Index list n (fun y0=>y0 = idxI list n) (p_spec_l01Index list n hp)).mono (by rintro r ⟨_,rfl,rfl⟩; rfl)
theorem w_spec_l01Has (list:List Int) (n:Int) (Q:Bool->Prop) (h:wp_spec_l01Has list n Q):AF Tryz.prog 62 [.lst (ints list),ci n] (fun R_=>∃ y0,Q y0/\R_ = cb y0):=by
  refine zS (zM (n:=9) Tryz.func62 U (by rfl) U (zb U) ?_)
  unfold wp_spec_l01Has at h
  refine zg<|zk (zl (n:=9) (σ':=[]) (env':=[(0,.c (.lst (ints list))),(1,.c (ci n))]) U U E2)<|zd<|za (ze U) U<|zf<|zg<|zd<|za (zc U) U<|za (zc U) U ?_
  obtain⟨q1,h⟩:=h
  refine zn (zF (xs:=[.tmp 5,.tmp 6]) (ids:=[]) U U U U (c_spec_l01Index list n q1) U ?_)
  rintro _ rfl
  refine⟨U,?_⟩
  exact za (xl U U) U<|za (ze U) U<|zf<|zA<|zr (zH U (zw U)) U U ⟨_,(zq _),_,h,U⟩
theorem c_spec_l01Has (list:List Int) (n:Int) (hp:small list):AF Tryz.prog 62 [.lst (ints list),ci n] (fun R_=>R_ = cb (list.contains n)):=
  (w_spec_l01Has list n (fun y0=>y0 = list.contains n) (p_spec_l01Has list n hp)).mono (by rintro r ⟨_,rfl,rfl⟩; rfl)
theorem w_spec_l01Perm (p:List Int) (Q:Bool->Prop) (h:wp_spec_l01Perm p Q):AF Tryz.prog 38 [.lst (ints p)] (fun R_=>∃ y0,Q y0/\R_ = cb y0):=by
  refine zS (zM (n:=19) Tryz.func38 U (by rfl) U (zb U) ?_)
  unfold wp_spec_l01Perm at h
  refine zg<|zk (zl (n:=19) (σ':=[]) (env':=[(0,.c (.lst (ints p)))]) U U E1)<|zd<|za (ze U) U<|zf<|zg<|zd<|za (zc U) U<|za (zJ (f:=ci) U) U<|za (ze U) U<|zf<|zg<|zg<|zd<|za (zc U) U<|zn (zF (xs:=[.tmp 7,.const (.int .i64 (1)),.const (.int .i64 (12))]) (ids:=[]) U U U U (c_spec_l01In (p.length:Int) 1 12) U ?_)
  rintro _ rfl
  refine⟨U,?_⟩
  refine za (yA U) U<|zf<|zm U (fun q2=>?_) (fun q2=>?_)
  ·replace h:=h.1 ((ya q2))
   exact zg<|zk (zl (n:=19) (σ':=[]) (env':=[(2,.c (cb false))]) U U E1)<|zd<|za (ze U) U<|zf<|zA<|zr (zH U (zw U)) U U ⟨_,(zq _),_,h,U⟩
  ·replace h:=h.2 ((yb q2))
   refine zu<|zg<|zg<|zk (zl (n:=19) (σ':=[]) (env':=[(0,.c (.lst (ints p))),(3,.c (ci (p.length:Int)))]) U U E2)<|zd<|za (ze U) U<|zf<|zt ?_
   obtain⟨H1,m1,q3,h⟩:=h
   refine yy (fun (v4_1:Int)=>⟨[],[(0,.c (.lst (ints p))),(3,.c (ci (p.length:Int))),(4,.c (ci v4_1))],19⟩) H1 m1 ⟨0,zv (n:=19) U U E3,q3⟩ ?_
   rintro v4_1 q3
   replace h:=h v4_1 q3
   refine zg<|zg<|zd<|za (zc U) U<|za (zc U) U<|za (zO U U) U<|zf<|zm U (fun q4=>?_) (fun q4=>?_)
   ·replace h:=h.1 (zj q4)
    refine zu<|zg<|zt<|zg<|zd<|za (zc U) U<|za (zc U) U ?_
    obtain⟨q5,h⟩:=h
    refine zn (zF (xs:=[.tmp 15,.tmp 16]) (ids:=[]) U U U U (c_spec_l01Has p v4_1 q5) U ?_)
    rintro _ rfl
    refine⟨U,?_⟩
    refine za (yA U) U<|zf<|zm U (fun q7=>?_) (fun q7=>?_)
    ·replace h:=h.1 ((ya q7))
     exact zg<|zk (zl (n:=19) (σ':=[]) (env':=[]) U U trivial)<|zd<|za (ze U) U<|zf<|zA<|zr (zH U (zw U)) U U ⟨_,(zq _),_,h,U⟩
    ·replace h:=h.2 ((yb q7))
     refine zu<|zk (zl (n:=19) (σ':=[]) (env':=[(0,.c (.lst (ints p))),(3,.c (ci (p.length:Int))),(4,.c (ci v4_1))]) U U E3)<|zd<|za (zc U) U ?_
     obtain⟨q8,h⟩:=h
     exact za (zG U U q8) U<|za (ze U) U<|zf<|⟨v4_1 + 1,zv (n:=19) U U E3,h.1,h.2⟩
   ·replace h:=h.2 (zh q4)
    exact zL<|zg<|zk (zl (n:=19) (σ':=[]) (env':=[]) U U trivial)<|zd<|za (ze U) U<|zf<|zA<|zr (zH U (zw U)) U U ⟨_,(zq _),_,h,U⟩
theorem c_spec_l01Perm (p:List Int) (hp:small p):AF Tryz.prog 38 [.lst (ints p)] (fun R_=>R_ = cb (permB p)):=
  (w_spec_l01Perm p (fun y0=>y0 = permB p) (p_spec_l01Perm p hp)).mono (by rintro r ⟨_,rfl,rfl⟩; rfl)
theorem w_spec_l01Own (list:List Int) (Q:List Int->Prop) (h:wp_spec_l01Own list Q):AF Tryz.prog 63 [.lst (ints list)] (fun R_=>∃ y0,Q y0/\R_ = .own (ints y0)):=by
  refine zS (zM (n:=6) Tryz.func63 U (by rfl) U (zb U) ?_)
  unfold wp_spec_l01Own at h
  refine zg<|zk (zl (n:=6) (σ':=[]) (env':=[(0,.c (.lst (ints list)))]) U U E1)<|zd<|za (ze U) U<|zf<|zg<|zd<|zn (zy (id:=3) (ps:=[]) U U (zb U) U ⟨U,?_⟩)
  refine za (zc U) U ?_
  obtain⟨q1,h⟩:=h
  refine zn (xd ci (l:=([] : List Int)) (m:=list) U U U (zb U) q1 ⟨U,?_⟩)
  exact za (ze U) U<|zf<|zA<|zr (zH U (zw U)) U U ⟨_,(zq _),_,h,U⟩
theorem c_spec_l01Own (list:List Int) (hp:small list):AF Tryz.prog 63 [.lst (ints list)] (fun R_=>R_ = .own (ints list)):=
  (w_spec_l01Own list (fun y0=>y0 = list) (p_spec_l01Own list hp)).mono (by rintro r ⟨_,rfl,rfl⟩; rfl)
theorem w_spec_l01Table (t:List (List Int)) (Q:Bool->Prop) (h:wp_spec_l01Table t Q):AF Tryz.prog 37 [.lst (rows t)] (fun R_=>∃ y0,Q y0/\R_ = cb y0):=by
  refine zS (zM (n:=41) Tryz.func37 U (by rfl) U (zb U) ?_)
  unfold wp_spec_l01Table at h
  refine zg<|zk (zl (n:=41) (σ':=[]) (env':=[(0,.c (.lst (rows t)))]) U U E1)<|zd<|za (ze U) U<|zf<|zg<|zd<|za (zc U) U<|za (zJ (f:=(fun r=>C.lst (ints r))) U) U<|za (ze U) U<|zf<|zg<|zg<|zd<|za (zc U) U<|zn (zF (xs:=[.tmp 8,.const (.int .i64 (1)),.const (.int .i64 (12))]) (ids:=[]) U U U U (c_spec_l01In (t.length:Int) 1 12) U ?_)
  rintro _ rfl
  refine⟨U,?_⟩
  refine za (yA U) U<|zf<|zm U (fun q2=>?_) (fun q2=>?_)
  ·replace h:=h.1 ((ya q2))
   exact zg<|zk (zl (n:=41) (σ':=[]) (env':=[(2,.c (cb false))]) U U E1)<|zd<|za (ze U) U<|zf<|zA<|zr (zH U (zw U)) U U ⟨_,(zq _),_,h,U⟩
  ·replace h:=h.2 ((yb q2))
   refine zu<|zg<|zg<|zk (zl (n:=41) (σ':=[]) (env':=[(0,.c (.lst (rows t))),(3,.c (ci (t.length:Int)))]) U U E2)<|zd<|za (ze U) U<|zf<|zt ?_
   obtain⟨H1,m1,q3,h⟩:=h
   refine yy (fun (v4_1:Int)=>⟨[],[(0,.c (.lst (rows t))),(3,.c (ci (t.length:Int))),(4,.c (ci v4_1))],41⟩) H1 m1 ⟨0,zv (n:=41) U U E3,q3⟩ ?_
   rintro v4_1 q3
   replace h:=h v4_1 q3
   refine zg<|zg<|zd<|za (zc U) U<|za (zc U) U<|za (zJ (f:=(fun r=>C.lst (ints r))) U) U<|za (zO U U) U<|zf<|zm U (fun q4=>?_) (fun q4=>?_)
   ·replace h:=h.1 (zj q4)
    refine zu<|zg<|zt<|zg<|zg<|zd<|za (zc U) U<|za (zc U) U ?_
    obtain⟨q5,h⟩:=h
    refine za (zB U U q5) U<|za (zx (f:=(fun r=>C.lst (ints r))) U q5) U<|za (zJ (f:=ci) U) U<|za (zc U) U<|za (yQ U U) U<|zf<|zm U (fun q6=>?_) (fun q6=>?_)
    ·replace h:=h.1 (zh (ya q6))
     exact zg<|zk (zl (n:=41) (σ':=[]) (env':=[]) U U trivial)<|zd<|za (ze U) U<|zf<|zA<|zr (zH U (zw U)) U U ⟨_,(zq _),_,h,U⟩
    ·replace h:=h.2 (zj (yb q6))
     refine zu<|zg<|zk (zl (n:=41) (σ':=[]) (env':=[(0,.c (.lst (rows t))),(3,.c (ci (t.length:Int))),(4,.c (ci v4_1))]) U U E3)<|zd<|za (ze U) U<|zf<|zt ?_
     obtain⟨H2,m2,q7,h⟩:=h
     refine yy (fun (v5_2:Int)=>⟨[],[(0,.c (.lst (rows t))),(3,.c (ci (t.length:Int))),(4,.c (ci v4_1)),(5,.c (ci v5_2))],41⟩) H2 m2 ⟨0,zv (n:=41) U U E4,q7⟩ ?_
     rintro v5_2 q7
     replace h:=h v5_2 q7
     refine zg<|zg<|zd<|za (zc U) U<|za (zc U) U<|za (zJ (f:=(fun r=>C.lst (ints r))) U) U<|za (zO U U) U<|zf<|zm U (fun q8=>?_) (fun q8=>?_)
     ·replace h:=h.1 (zj q8)
      refine zu<|zg<|zt<|zg<|zd<|za (zc U) U<|za (zc U) U ?_
      obtain⟨q9,h⟩:=h
      refine za (zB U U q9) U<|za (zx (f:=(fun r=>C.lst (ints r))) U q9) U<|za (zc U) U ?_
      obtain⟨q10,h⟩:=h
      refine za (zB U U q10) U<|za (zx (f:=ci) U q10) U<|za (zc U) U ?_
      obtain⟨q11,h⟩:=h
      refine za (yS U U q11) U<|zn (zF (xs:=[.tmp 36,.const (.int .i64 (0)),.tmp 38]) (ids:=[]) U U U U (c_spec_l01In (el (el t v4_1) v5_2) 0 ((t.length:Int) - 1)) U ?_)
      rintro _ rfl
      refine⟨U,?_⟩
      refine za (yA U) U<|zf<|zm U (fun q13=>?_) (fun q13=>?_)
      ·replace h:=h.1 ((ya q13))
       exact zg<|zk (zl (n:=41) (σ':=[]) (env':=[]) U U trivial)<|zd<|za (ze U) U<|zf<|zA<|zr (zH U (zw U)) U U ⟨_,(zq _),_,h,U⟩
      ·replace h:=h.2 ((yb q13))
       refine zu<|zk (zl (n:=41) (σ':=[]) (env':=[(0,.c (.lst (rows t))),(3,.c (ci (t.length:Int))),(4,.c (ci v4_1)),(5,.c (ci v5_2))]) U U E4)<|zd<|za (zc U) U ?_
       obtain⟨q14,h⟩:=h
       exact za (zG U U q14) U<|za (ze U) U<|zf<|⟨v5_2 + 1,zv (n:=41) U U E4,h.1,h.2⟩
     ·replace h:=h.2 (zh q8)
      refine zL<|zk (zl (n:=41) (σ':=[]) (env':=[(0,.c (.lst (rows t))),(3,.c (ci (t.length:Int))),(4,.c (ci v4_1))]) U U E3)<|zd<|za (zc U) U ?_
      obtain⟨q15,h⟩:=h
      exact za (zG U U q15) U<|za (ze U) U<|zf<|⟨v4_1 + 1,zv (n:=41) U U E3,h.1,h.2⟩
   ·replace h:=h.2 (zh q4)
    exact zL<|zg<|zk (zl (n:=41) (σ':=[]) (env':=[]) U U trivial)<|zd<|za (ze U) U<|zf<|zA<|zr (zH U (zw U)) U U ⟨_,(zq _),_,h,U⟩
theorem c_spec_l01Table (t:List (List Int)) (hp:small2 t):AF Tryz.prog 37 [.lst (rows t)] (fun R_=>R_ = cb (isTab t)):=
  (w_spec_l01Table t (fun y0=>y0 = isTab t) (p_spec_l01Table t hp)).mono (by rintro r ⟨_,rfl,rfl⟩; rfl)
theorem w_spec_l03Coprime (a:Int) (n:Int) (Q:Bool->Prop) (h:wp_spec_l03Coprime a n Q):AF Tryz.prog 92 [ci a,ci n] (fun R_=>∃ y0,Q y0/\R_ = cb y0):=by
  refine zS (zM (n:=21) Tryz.func92 U (by rfl) U (zb U) ?_)
  unfold wp_spec_l03Coprime at h
  refine zg<|zk (zl (n:=21) (σ':=[]) (env':=[(0,.c (ci a)),(1,.c (ci n))]) U U E2)<|zd<|za (ze U) U<|zf<|zg<|zg<|zd<|za (ze U) U<|zf<|zt ?_
  obtain⟨H1,m1,q1,h⟩:=h
  refine yy (fun (v5_1:Int)=>⟨[],[(0,.c (ci a)),(1,.c (ci n)),(5,.c (ci v5_1))],21⟩) H1 m1 ⟨2,zv (n:=21) U U E3,q1⟩ ?_
  rintro v5_1 q1
  replace h:=h v5_1 q1
  refine zg<|zg<|zd<|za (zc U) U<|za (zc U) U<|za (ss_leq U U) U<|zf<|zm U (fun q2=>?_) (fun q2=>?_)
  ·replace h:=h.1 (zj q2)
   refine zu<|zg<|zt<|zg<|zd<|za (zc U) U<|za (zc U) U ?_
   obtain⟨q3,h⟩:=h
   refine za (ss_rem U U q3) U<|za (yE U U) U<|za (zc U) U<|zX (s:=15) U (fun q4=>?_) (fun q4=>?_)
   ·replace h:=h.1 (zj q4)
    refine zE U U q4<|za (zc U) U<|zE U U q4<|za (zc U) U<|zE U U q4 ?_
    obtain⟨q5,h⟩:=h
    refine za (ss_rem U U q5) U<|zE U U q4<|za (yE U U) U<|za (zU U q4 U) U<|zf<|zm U (fun q6=>?_) (fun q6=>?_)
    ·replace h:=h.1 (zj q6)
     exact zg<|zk (zl (n:=21) (σ':=[]) (env':=[]) U U trivial)<|zd<|za (ze U) U<|zf<|zA<|zr (zH U (zw U)) U U ⟨_,(zq _),_,h,U⟩
    ·replace h:=h.2 (zh q6)
     refine zu<|zk (zl (n:=21) (σ':=[]) (env':=[(0,.c (ci a)),(1,.c (ci n)),(5,.c (ci v5_1)),(16,.c (ci n)),(17,.c (ci v5_1)),(18,.c (ci (n % v5_1))),(19,.c (cb (decide (n % v5_1 = 0))))]) U U E7)<|zd<|za (zc U) U ?_
     obtain⟨q7,h⟩:=h
     exact za (zG U U q7) U<|za (ze U) U<|zf<|⟨v5_1 + 1,zv (n:=21) U U E3,h.1,h.2⟩
   ·replace h:=h.2 (zh q4)
    refine zC U U q4 U<|zC U U q4 U<|zC U U q4 U<|zC U U q4 U<|za (zV U q4 U) U<|zf<|zm U (fun q8=>?_) (fun q8=>?_)
    ·cases q8
    ·skip
     refine zu<|zk (zl (n:=21) (σ':=[]) (env':=[(0,.c (ci a)),(1,.c (ci n)),(5,.c (ci v5_1))]) U U E3)<|zd<|za (zc U) U ?_
     obtain⟨q9,h⟩:=h
     exact za (zG U U q9) U<|za (ze U) U<|zf<|⟨v5_1 + 1,zv (n:=21) U U E3,h.1,h.2⟩
  ·replace h:=h.2 (zh q2)
   exact zL<|zg<|zk (zl (n:=21) (σ':=[]) (env':=[]) U U trivial)<|zd<|za (ze U) U<|zf<|zA<|zr (zH U (zw U)) U U ⟨_,(zq _),_,h,U⟩
theorem c_spec_l03Coprime (a:Int) (n:Int) (hp:0<=a/\1<=n/\n<=1000):AF Tryz.prog 92 [ci a,ci n] (fun R_=>R_ = cb (!decide (1 < gcdI n a))):=
  (w_spec_l03Coprime a n (fun y0=>y0 = !decide (1 < gcdI n a)) (p_spec_l03Coprime a n hp)).mono (by rintro r ⟨_,rfl,rfl⟩; rfl)
theorem w_spec_l03AlexanderW (n:Int) (a:Int) (b:Int) (Q:List (List Int)->Prop) (h:wp_spec_l03AlexanderW n a b Q):AF Tryz.prog 91 [ci n,ci a,ci b] (fun R_=>∃ y0,Q y0/\R_ = .own (orows y0)):=by
  refine zS (zM (n:=40) Tryz.func91 U (by rfl) U (zb U) ?_)
  unfold wp_spec_l03AlexanderW at h
  refine zg<|zk (zl (n:=40) (σ':=[]) (env':=[(0,.c (ci n)),(1,.c (ci a)),(2,.c (ci b))]) U U E3)<|zd<|za (ze U) U<|zf<|zg<|zd<|zn (zy (id:=11) (ps:=[]) U U (zb U) U ⟨U,?_⟩)
  refine za (ze U) U<|zf<|zg<|zg<|zd<|za (ze U) U<|zf<|zt ?_
  obtain⟨H1,m1,q1,h⟩:=h
  refine ye (fun (v8_1:Int) (o11_1:List (List Int))=>⟨[(11,⟨orows o11_1,[]⟩)],[(0,.c (ci n)),(1,.c (ci a)),(2,.c (ci b)),(7,.ref 11),(8,.c (ci v8_1))],40⟩) H1 m1 ⟨0,([] : List (List Int)),zv (n:=40) U U E5,q1⟩ ?_
  rintro v8_1 o11_1 q1
  replace h:=h v8_1 o11_1 q1
  refine zg<|zg<|zd<|za (zc U) U<|za (zc U) U<|za (zO U U) U<|zf<|zm U (fun q2=>?_) (fun q2=>?_)
  ·replace h:=h.1 (zj q2)
   refine zu<|zg<|zt<|zg<|zd<|zn (zy (id:=17) (ps:=[]) U U (zb U) U ⟨U,?_⟩)
   refine za (ze U) U<|zf<|zg<|zg<|zk (zl (n:=40) (σ':=[(17,⟨ints ([] : List Int),[]⟩),(11,⟨orows o11_1,[]⟩)]) (env':=[(0,.c (ci n)),(1,.c (ci a)),(2,.c (ci b)),(7,.ref 11),(8,.c (ci v8_1)),(9,.ref 17)]) U U E6)<|zd<|za (ze U) U<|zf<|zt ?_
   obtain⟨H2,m2,q3,h⟩:=h
   refine ye (fun (v10_2:Int) (o17_2:List Int)=>⟨[(17,⟨ints o17_2,[]⟩),(11,⟨orows o11_1,[]⟩)],[(0,.c (ci n)),(1,.c (ci a)),(2,.c (ci b)),(7,.ref 11),(8,.c (ci v8_1)),(9,.ref 17),(10,.c (ci v10_2))],40⟩) H2 m2 ⟨0,([] : List Int),zv (n:=40) U U E7,q3⟩ ?_
   rintro v10_2 o17_2 q3
   replace h:=h v10_2 o17_2 q3
   refine zg<|zg<|zd<|za (zc U) U<|za (zc U) U<|za (zO U U) U<|zf<|zm U (fun q4=>?_) (fun q4=>?_)
   ·replace h:=h.1 (zj q4)
    refine zu<|zg<|zt<|zd<|za (zc U) U<|za (zc U) U<|za (zc U) U ?_
    obtain⟨q5,h⟩:=h
    refine za (ss_mul U U q5) U<|za (zc U) U<|za (zc U) U ?_
    obtain⟨q6,h⟩:=h
    refine za (ss_mul U U q6) U ?_
    obtain⟨q7,h⟩:=h
    refine za (zG U U q7) U<|za (zc U) U ?_
    obtain⟨q8,h⟩:=h
    refine za (ss_rem U U q8) U<|zn (zy (id:=33) (ps:=[(0,.tmp 32)]) U U (zb U) U ⟨U,?_⟩)
    obtain⟨q9,h⟩:=h
    refine zn (yx ci (l:=o17_2) (m:=[((b * v8_1) + (a * v10_2)) % n]) U U U U U (zb U) q9 ⟨U,?_⟩)
    refine za (ze U) U<|zf<|zk (zl (n:=40) (σ':=[(17,⟨ints (o17_2 ++ ([((b * v8_1) + (a * v10_2)) % n])),[]⟩),(11,⟨orows o11_1,[]⟩)]) (env':=[(0,.c (ci n)),(1,.c (ci a)),(2,.c (ci b)),(7,.ref 11),(8,.c (ci v8_1)),(9,.ref 17),(10,.c (ci v10_2))]) U U E7)<|zd<|za (zc U) U ?_
    obtain⟨q10,h⟩:=h
    exact za (zG U U q10) U<|za (ze U) U<|zf<|⟨v10_2 + 1,o17_2 ++ ([((b * v8_1) + (a * v10_2)) % n]),zv (n:=40) U U E7,h.1,h.2⟩
   ·replace h:=h.2 (zh q4)
    refine zL<|zd<|za (zc U) U<|za (zc U) U<|zn (zy (id:=37) (ps:=[(0,.tmp 36)]) U U (zb U) U ⟨U,?_⟩)
    refine yF (yu (id:=37) (id2:=17) (j:=0) U U (zb U) U U U) ?_
    obtain⟨q11,h⟩:=h
    refine zn (yx (fun r=>C.own (ints r)) (l:=o11_1) (m:=[o17_2]) U U U U U (zb U) q11 ⟨U,?_⟩)
    refine za (ze U) U<|zf<|zk (zl (n:=40) (σ':=[(11,⟨orows (o11_1 ++ ([o17_2])),[]⟩)]) (env':=[(0,.c (ci n)),(1,.c (ci a)),(2,.c (ci b)),(7,.ref 11),(8,.c (ci v8_1))]) U U E5)<|zd<|za (zc U) U ?_
    obtain⟨q12,h⟩:=h
    exact za (zG U U q12) U<|za (ze U) U<|zf<|⟨v8_1 + 1,o11_1 ++ ([o17_2]),zv (n:=40) U U E5,h.1,h.2⟩
  ·replace h:=h.2 (zh q2)
   exact zL<|zg<|zk (zl (n:=40) (σ':=[(11,⟨orows o11_1,[]⟩)]) (env':=[(7,.ref 11)]) U U E1)<|zd<|za (zc U) U<|za (ze U) U<|zf<|zA<|zr (zH U (zw U)) U U ⟨_,(zq _),_,h,U⟩
theorem c_spec_l03AlexanderW (n:Int) (a:Int) (b:Int) (hp:1<=n/\n<=12/\0<=a/\a<=1000/\0<=b/\b<=1000):AF Tryz.prog 91 [ci n,ci a,ci b] (fun R_=>∃ y0,(isTab y0 = true/\(y0.length:Int) = n)/\R_ = .own (orows y0)):=
  w_spec_l03AlexanderW n a b (fun y0=>isTab y0 = true/\(y0.length:Int) = n) (p_spec_l03AlexanderW n a b hp)
end Go.Proofs.YtjolbldlhjfciaaGreatDoor
