/- Contracts of functions that the law FnRackForms reaches: conditions, plain proofs, walks; no condition. -/
import Derived.Test.YtjolbldlhjfciaaGreatDoorKRackFormsd
import Derived.Test.YtjolbldlhjfciaaGreatDoorPP
namespace Go.Proofs.YtjolbldlhjfciaaGreatDoor
set_option maxRecDepth 100000
set_option maxHeartbeats 4000000

def wp_laws_likeInts (a:List Int) (b:List Int) (Q:Bool->Prop):Prop:=
 ((¬ ((a.length:Int) = (b.length:Int))->
 Q false)/\
 ((a.length:Int) = (b.length:Int)->
 ∃ (H1:Int->Prop) (m1:Int->Nat),
 H1 0/\
 ∀ (v5_1:Int),H1 v5_1->
 (((v5_1 < (a.length:Int)->
 (0<=v5_1/\v5_1 < (a.length:Int))/\
 (0<=v5_1/\v5_1 < (b.length:Int))/\
 ((¬ (el a v5_1 = el b v5_1)->
 Q false)/\
 (el a v5_1 = el b v5_1->
 (InI (v5_1 + 1))/\
 (H1 (v5_1 + 1)/\m1 (v5_1 + 1) < m1 v5_1))))/\
 (¬ (v5_1 < (a.length:Int))->
 Q true)))))
def wp_laws_same9 (a:List (List Int)) (b:List (List Int)) (Q:Bool->Prop):Prop:=
 ((¬ ((a.length:Int) = (b.length:Int))->
 Q false)/\
 ((a.length:Int) = (b.length:Int)->
 ∃ (H1:Int->Prop) (m1:Int->Nat),
 H1 0/\
 ∀ (v5_1:Int),H1 v5_1->
 (((v5_1 < (a.length:Int)->
 (0<=v5_1/\v5_1 < (a.length:Int))/\
 (0<=v5_1/\v5_1 < (b.length:Int))/\
 (small (el a v5_1)/\small (el b v5_1))/\
 ((¬ ((el a v5_1) = (el b v5_1))->
 Q false)/\
 ((el a v5_1) = (el b v5_1)->
 (InI (v5_1 + 1))/\
 (H1 (v5_1 + 1)/\m1 (v5_1 + 1) < m1 v5_1))))/\
 (¬ (v5_1 < (a.length:Int))->
 Q true)))))
def wp_spec_IsPermutation (p:List Int) (Q:Bool->Prop):Prop:=
 (small p)/\
 Q (permB p)
def wp_laws_image9 (t:List (List Int)) (p:List Int) (Q:List (List Int)->Prop):Prop:=
 ((¬ ((p.length:Int) = (t.length:Int))->
 Q ([]))/\
 ((p.length:Int) = (t.length:Int)->
 (small p)/\
 (((permB p) = false->
 Q ([]))/\
 ((permB p) = true->
 ∃ (H1:Int->List (List Int)->Prop) (m1:Int->List (List Int)->Nat),
 H1 0 ([] : List (List Int))/\
 ∀ (v6_1:Int) (o19_1:List (List Int)),H1 v6_1 o19_1->
 (((v6_1 < (t.length:Int)->
 (0<=(t.length:Int)/\(t.length:Int)<=1000000000)/\
 ((o19_1.length:Int) + (([List.replicate (t.length:Int).toNat (0:Int)]).length:Int)<=1000000000)/\
 (InI (v6_1 + 1))/\
 (H1 (v6_1 + 1) (o19_1 ++ ([List.replicate (t.length:Int).toNat (0:Int)]))/\m1 (v6_1 + 1) (o19_1 ++ ([List.replicate (t.length:Int).toNat (0:Int)])) < m1 v6_1 o19_1))/\
 (¬ (v6_1 < (t.length:Int))->
 ∃ (H2:Int->List (List Int)->Prop) (m2:Int->List (List Int)->Nat),
 H2 0 o19_1/\
 ∀ (v7_2:Int) (o19_2:List (List Int)),H2 v7_2 o19_2->
 (((v7_2 < (t.length:Int)->
 ∃ (H3:Int->List (List Int)->Prop) (m3:Int->List (List Int)->Nat),
 H3 0 o19_2/\
 ∀ (v8_3:Int) (o19_3:List (List Int)),H3 v8_3 o19_3->
 ((0<=v7_2/\v7_2 < (t.length:Int))/\
 ((v8_3 < ((el t v7_2).length:Int)->
 ((v8_3 < (t.length:Int)->
 (0<=v7_2/\v7_2 < (t.length:Int))/\
 (0<=v8_3/\v8_3 < ((el t v7_2).length:Int))/\
 ((el (el t v7_2) v8_3 < 0->
 Q ([]))/\
 (¬ (el (el t v7_2) v8_3 < 0)->
 (0<=v7_2/\v7_2 < (t.length:Int))/\
 (0<=v8_3/\v8_3 < ((el t v7_2).length:Int))/\
 (((p.length:Int)<=el (el t v7_2) v8_3->
 Q ([]))/\
 (¬ ((p.length:Int)<=el (el t v7_2) v8_3)->
 (0<=v7_2/\v7_2 < (p.length:Int))/\
 (0<=v8_3/\v8_3 < (p.length:Int))/\
 (0<=v7_2/\v7_2 < (t.length:Int))/\
 (0<=el p v7_2/\el p v7_2 < (o19_3.length:Int))/\
 (0<=v8_3/\v8_3 < ((el t v7_2).length:Int))/\
 (0<=el (el t v7_2) v8_3/\el (el t v7_2) v8_3 < (p.length:Int))/\
 (0<=el p v8_3/\el p v8_3 < ((el o19_3 (el p v7_2)).length:Int))/\
 (InI (v8_3 + 1))/\
 (H3 (v8_3 + 1) (se o19_3 (el p v7_2) (se (el o19_3 (el p v7_2)) (el p v8_3) (el p (el (el t v7_2) v8_3))))/\m3 (v8_3 + 1) (se o19_3 (el p v7_2) (se (el o19_3 (el p v7_2)) (el p v8_3) (el p (el (el t v7_2) v8_3)))) < m3 v8_3 o19_3))))))/\
 (¬ (v8_3 < (t.length:Int))->
 (InI (v7_2 + 1))/\
 (H2 (v7_2 + 1) o19_3/\m2 (v7_2 + 1) o19_3 < m2 v7_2 o19_2))))/\
 (¬ (v8_3 < ((el t v7_2).length:Int))->
 (InI (v7_2 + 1))/\
 (H2 (v7_2 + 1) o19_3/\m2 (v7_2 + 1) o19_3 < m2 v7_2 o19_2)))))/\
 (¬ (v7_2 < (t.length:Int))->
 Q o19_2))))))))))
theorem p_laws_likeInts (a b:List Int) (hp:small a/\small b):wp_laws_likeInts a b (fun y0=>y0 = decide (a = b)):=by
  unfold wp_laws_likeInts
  obtain⟨ha,hb⟩:=hp
  refine⟨fun h=>(decide_eq_false fun e=>h (by rw [e])).symm,fun h=>⟨fun i=>0<=i/\i<=(a.length:Int)/\Upto i fun j=>el a j = el b j,fun i=>((a.length:Int) - i).toNat,⟨by omega,by omega,upto0⟩,?_⟩⟩
  rintro i ⟨h0,h1,hI⟩
  dsimp only
  refine⟨fun hlt=>⟨⟨h0,hlt⟩,⟨h0,by omega⟩,fun hf=>(decide_eq_false fun e=>hf (by rw [e])).symm,fun ht=>⟨⟨by omega,by omega⟩,⟨by omega,by omega,upto1 hI ht⟩,by omega⟩⟩,fun hge=>?_⟩
  exact (decide_eq_true (ext_el (by omega) fun j h2 h3=>hI j h2 (by omega))).symm
theorem p_laws_same9 (a b:List (List Int)) (hp:small2 a/\small2 b):wp_laws_same9 a b (fun y0=>y0 = decide (a = b)):=by
  unfold wp_laws_same9
  obtain⟨⟨ha,ha2⟩,hb,hb2⟩:=hp
  refine⟨fun h=>(decide_eq_false fun e=>h (by rw [e])).symm,fun h=>⟨fun i=>0<=i/\i<=(a.length:Int)/\Upto i fun j=>el a j = el b j,fun i=>((a.length:Int) - i).toNat,⟨by omega,by omega,upto0⟩,?_⟩⟩
  rintro i ⟨h0,h1,hI⟩
  dsimp only
  refine⟨fun hlt=>⟨⟨h0,hlt⟩,⟨h0,by omega⟩,⟨ha2 _ (el_mem ⟨h0,hlt⟩),hb2 _ (el_mem ⟨h0,by omega⟩)⟩,fun hf=>(decide_eq_false fun e=>hf (by rw [e])).symm,fun ht=>⟨⟨by omega,by omega⟩,⟨by omega,by omega,upto1 hI ht⟩,by omega⟩⟩,fun hge=>?_⟩
  exact (decide_eq_true (ext_el (by omega) fun j h2 h3=>hI j h2 (by omega))).symm
theorem p_spec_IsPermutation (p:List Int) (hp:small p):wp_spec_IsPermutation p (fun y0=>y0 = permB p):=⟨hp,rfl⟩
theorem p_laws_image9 (t:List (List Int)) (p:List Int) (hp:isTab t = true/\small p):wp_laws_image9 t p (fun y0=>y0 = imgI t p):=by
  obtain⟨ht,hs⟩:=hp
  have hn:=isTab_len ht
  unfold wp_laws_image9 imgI
  refine⟨fun h=>by rw [if_neg fun g=>h g.1],fun hl=>⟨hs,fun h=>by rw [if_neg fun g=>by rw [h] at g; exact absurd g.2 (by simp)],fun hpm=>?_⟩⟩
  rw [if_pos ⟨hl,hpm⟩]
  have hP:=permB_isPerm hpm
  refine⟨fun x o=>(0<=x/\x<=(t.length:Int))/\(o.length:Int) = x/\∀ q ∈ o,(q.length:Int) = (t.length:Int),fun x _=>((t.length:Int) - x).toNat,⟨⟨by omega,by omega⟩,rfl,by simp⟩,?_⟩
  rintro x o ⟨⟨x0,x1⟩,ol,ho⟩
  dsimp only
  refine⟨fun xn=>⟨⟨by omega,by omega⟩,by rw [List.length_singleton]; omega,⟨by omega,by omega⟩,⟨⟨by omega,by omega⟩,by simp; omega,mem_app ho (by simp)⟩,by omega⟩,fun xn=>?_⟩
  refine⟨fun x o=>(0<=x/\x<=(t.length:Int))/\RnI t p x 0 o,fun x _=>((t.length:Int) - x).toNat,⟨⟨by omega,by omega⟩,by omega,fun u u0 u1=>ho _ (el_mem ⟨u0,by omega⟩),fun u v u0 u1 v0 v1 hc=>absurd hc (by omega)⟩,?_⟩
  rintro x o ⟨⟨x0,x1⟩,hR⟩
  dsimp only
  refine⟨fun xn=>?_,fun xn=>by rw [show x = (t.length:Int) by omega] at hR; exact rnI_end hP hl hR⟩
  have lx:=rk_len ht ⟨x0,xn⟩
  refine⟨fun y o=>(0<=y/\y<=(t.length:Int))/\RnI t p x y o,fun y _=>((t.length:Int) - y).toNat,⟨⟨by omega,by omega⟩,hR⟩,?_⟩
  rintro y o ⟨⟨y0,y1⟩,hR⟩
  dsimp only
  refine⟨⟨x0,xn⟩,fun yl=>⟨fun yn=>?_,fun yn=>absurd yn (by omega)⟩,fun yl=>?_⟩
  · have v:=rk_el ht ⟨x0,xn⟩ ⟨y0,yn⟩
    have px:=permB_el hpm (i:=x) ⟨x0,by omega⟩
    have py:=permB_el hpm (i:=y) ⟨y0,by omega⟩
    have ho:=hR.len
    have hr:=hR.row (el p x) px.1 (by omega)
    exact⟨⟨x0,xn⟩,⟨y0,yl⟩,fun g=>absurd g (by omega),fun _=>⟨⟨x0,xn⟩,⟨y0,yl⟩,fun g=>absurd g (by omega),fun _=>⟨⟨x0,by omega⟩,⟨y0,by omega⟩,⟨x0,xn⟩,⟨px.1,by omega⟩,⟨y0,yl⟩,⟨v.1,by omega⟩,⟨py.1,by omega⟩,⟨by omega,by omega⟩,⟨⟨by omega,by omega⟩,rnI_step hP hl hR ⟨x0,xn⟩ ⟨y0,yn⟩⟩,by omega⟩⟩⟩
  · rw [show y = (t.length:Int) by omega] at hR
    exact⟨⟨by omega,by omega⟩,⟨⟨by omega,by omega⟩,rnI_row hR⟩,by omega⟩
theorem w_laws_likeInts (a:List Int) (b:List Int) (Q:Bool->Prop) (h:wp_laws_likeInts a b Q):AF Tryz.prog 8 [.lst (ints a),.lst (ints b)] (fun R_=>∃ y0,Q y0/\R_ = cb y0):=by
  refine zS (zM (n:=26) Tryz.func8 U (by rfl) U (zb U) ?_)
  unfold wp_laws_likeInts at h
  refine zg<|zk (zl (n:=26) (σ':=[]) (env':=[(0,.c (.lst (ints a))),(1,.c (.lst (ints b)))]) U U E2)<|zd<|za (ze U) U<|zf<|zg<|zg<|zd<|za (zc U) U<|za (zJ (f:=ci) U) U<|za (zc U) U<|za (zJ (f:=ci) U) U<|za (yQ U U) U<|zf<|zm U (fun q1=>?_) (fun q1=>?_)
  ·replace h:=h.1 (zh (ya q1))
   exact zg<|zk (zl (n:=26) (σ':=[]) (env':=[(4,.c (cb false))]) U U E1)<|zd<|za (ze U) U<|zf<|zA<|zr (zH U (zw U)) U U ⟨_,(zq _),_,h,U⟩
  ·replace h:=h.2 (zj (yb q1))
   refine zu<|zg<|zg<|zk (zl (n:=26) (σ':=[]) (env':=[(0,.c (.lst (ints a))),(1,.c (.lst (ints b)))]) U U E2)<|zd<|za (ze U) U<|zf<|zt ?_
   obtain⟨H1,m1,q2,h⟩:=h
   refine yy (fun (v5_1:Int)=>⟨[],[(0,.c (.lst (ints a))),(1,.c (.lst (ints b))),(5,.c (ci v5_1))],26⟩) H1 m1 ⟨0,zv (n:=26) U U E3,q2⟩ ?_
   rintro v5_1 q2
   replace h:=h v5_1 q2
   refine zg<|zg<|zd<|za (zc U) U<|za (zc U) U<|za (zJ (f:=ci) U) U<|za (zO U U) U<|zf<|zm U (fun q3=>?_) (fun q3=>?_)
   ·replace h:=h.1 (zj q3)
    refine zu<|zg<|zt<|zg<|zk (zl (n:=26) (σ':=[]) (env':=[(0,.c (.lst (ints a))),(1,.c (.lst (ints b))),(5,.c (ci v5_1))]) U U E3)<|zP (kd:=kdl [0,0,0,1,0,0,0,1,0]) (ord:=[0,1,2,4,5,6,3,7,8]) [] mixed (by kernel_rfl)<|zp U U trivial (zc U) U<|zp U U trivial (zc U) U ?_
    obtain⟨q4,h⟩:=h
    refine zp U U trivial (zB U U q4) U<|zp U U trivial (zc U) U<|zp U U trivial (zc U) U ?_
    obtain⟨q5,h⟩:=h
    refine zp U U trivial (zB U U q5) U<|zY U U trivial (zx (f:=ci) U q4) U<|zY U U trivial (zx (f:=ci) U q5) U<|zp U U trivial (yQ U U) U<|yh<|zm U (fun q6=>?_) (fun q6=>?_)
    ·replace h:=h.1 (zh (ya q6))
     exact zg<|zk (zl (n:=26) (σ':=[]) (env':=[]) U U trivial)<|zd<|za (ze U) U<|zf<|zA<|zr (zH U (zw U)) U U ⟨_,(zq _),_,h,U⟩
    ·replace h:=h.2 (zj (yb q6))
     refine zu<|zk (zl (n:=26) (σ':=[]) (env':=[(0,.c (.lst (ints a))),(1,.c (.lst (ints b))),(5,.c (ci v5_1))]) U U E3)<|zd<|za (zc U) U ?_
     obtain⟨q7,h⟩:=h
     exact za (zG U U q7) U<|za (ze U) U<|zf<|⟨v5_1 + 1,zv (n:=26) U U E3,h.1,h.2⟩
   ·replace h:=h.2 (zh q3)
    exact zL<|zg<|zk (zl (n:=26) (σ':=[]) (env':=[]) U U trivial)<|zd<|za (ze U) U<|zf<|zA<|zr (zH U (zw U)) U U ⟨_,(zq _),_,h,U⟩
theorem c_laws_likeInts (a:List Int) (b:List Int) (hp:small a/\small b):AF Tryz.prog 8 [.lst (ints a),.lst (ints b)] (fun R_=>R_ = cb (decide (a = b))):=
  (w_laws_likeInts a b (fun y0=>y0 = decide (a = b)) (p_laws_likeInts a b hp)).mono (by rintro r ⟨_,rfl,rfl⟩; rfl)
theorem w_laws_same9 (a:List (List Int)) (b:List (List Int)) (Q:Bool->Prop) (h:wp_laws_same9 a b Q):AF Tryz.prog 9 [.lst (rows a),.lst (rows b)] (fun R_=>∃ y0,Q y0/\R_ = cb y0):=by
  refine zS (zM (n:=27) Tryz.func9 U (by rfl) U (zb U) ?_)
  unfold wp_laws_same9 at h
  refine zg<|zk (zl (n:=27) (σ':=[]) (env':=[(0,.c (.lst (rows a))),(1,.c (.lst (rows b)))]) U U E2)<|zd<|za (ze U) U<|zf<|zg<|zg<|zd<|za (zc U) U<|za (zJ (f:=(fun r=>C.lst (ints r))) U) U<|za (zc U) U<|za (zJ (f:=(fun r=>C.lst (ints r))) U) U<|za (yQ U U) U<|zf<|zm U (fun q1=>?_) (fun q1=>?_)
  ·replace h:=h.1 (zh (ya q1))
   exact zg<|zk (zl (n:=27) (σ':=[]) (env':=[(4,.c (cb false))]) U U E1)<|zd<|za (ze U) U<|zf<|zA<|zr (zH U (zw U)) U U ⟨_,(zq _),_,h,U⟩
  ·replace h:=h.2 (zj (yb q1))
   refine zu<|zg<|zg<|zk (zl (n:=27) (σ':=[]) (env':=[(0,.c (.lst (rows a))),(1,.c (.lst (rows b)))]) U U E2)<|zd<|za (ze U) U<|zf<|zt ?_
   obtain⟨H1,m1,q2,h⟩:=h
   refine yy (fun (v5_1:Int)=>⟨[],[(0,.c (.lst (rows a))),(1,.c (.lst (rows b))),(5,.c (ci v5_1))],27⟩) H1 m1 ⟨0,zv (n:=27) U U E3,q2⟩ ?_
   rintro v5_1 q2
   replace h:=h v5_1 q2
   refine zg<|zg<|zd<|za (zc U) U<|za (zc U) U<|za (zJ (f:=(fun r=>C.lst (ints r))) U) U<|za (zO U U) U<|zf<|zm U (fun q3=>?_) (fun q3=>?_)
   ·replace h:=h.1 (zj q3)
    refine zu<|zg<|zt<|zg<|zk (zl (n:=27) (σ':=[]) (env':=[(0,.c (.lst (rows a))),(1,.c (.lst (rows b))),(5,.c (ci v5_1))]) U U E3)<|zP (kd:=kdl [0,0,0,1,0,0,0,1,2,0]) (ord:=[0,1,2,4,5,6,3,7,8,9]) [] mixed (by kernel_rfl)<|zp U U trivial (zc U) U<|zp U U trivial (zc U) U ?_
    obtain⟨q4,h⟩:=h
    refine zp U U trivial (zB U U q4) U<|zp U U trivial (zc U) U<|zp U U trivial (zc U) U ?_
    obtain⟨q5,h⟩:=h
    refine zp U U trivial (zB U U q5) U<|zY U U trivial (zx (f:=(fun r=>C.lst (ints r))) U q4) U<|zY U U trivial (zx (f:=(fun r=>C.lst (ints r))) U q5) U ?_
    obtain⟨q6,h⟩:=h
    refine y7 U U trivial U U (zF (xs:=[.tmp 20,.tmp 24]) (ids:=[]) U U U U (c_laws_likeInts (el a v5_1) (el b v5_1) q6) U ?_)
    rintro _ rfl
    refine⟨U,?_⟩
    refine zp U U trivial (yA U) U<|yh<|zm U (fun q8=>?_) (fun q8=>?_)
    ·replace h:=h.1 (zh (ya q8))
     exact zg<|zk (zl (n:=27) (σ':=[]) (env':=[]) U U trivial)<|zd<|za (ze U) U<|zf<|zA<|zr (zH U (zw U)) U U ⟨_,(zq _),_,h,U⟩
    ·replace h:=h.2 (zj (yb q8))
     refine zu<|zk (zl (n:=27) (σ':=[]) (env':=[(0,.c (.lst (rows a))),(1,.c (.lst (rows b))),(5,.c (ci v5_1))]) U U E3)<|zd<|za (zc U) U ?_
     obtain⟨q9,h⟩:=h
     exact za (zG U U q9) U<|za (ze U) U<|zf<|⟨v5_1 + 1,zv (n:=27) U U E3,h.1,h.2⟩
   ·replace h:=h.2 (zh q3)
    exact zL<|zg<|zk (zl (n:=27) (σ':=[]) (env':=[]) U U trivial)<|zd<|za (ze U) U<|zf<|zA<|zr (zH U (zw U)) U U ⟨_,(zq _),_,h,U⟩
theorem c_laws_same9 (a:List (List Int)) (b:List (List Int)) (hp:small2 a/\small2 b):AF Tryz.prog 9 [.lst (rows a),.lst (rows b)] (fun R_=>R_ = cb (decide (a = b))):=
  (w_laws_same9 a b (fun y0=>y0 = decide (a = b)) (p_laws_same9 a b hp)).mono (by rintro r ⟨_,rfl,rfl⟩; rfl)
theorem w_spec_IsPermutation (p:List Int) (Q:Bool->Prop) (h:wp_spec_IsPermutation p Q):AF Tryz.prog 28 [.lst (ints p)] (fun R_=>∃ y0,Q y0/\R_ = cb y0):=by
  refine zS (zM (n:=5) Tryz.func28 U (by rfl) U (zb U) ?_)
  unfold wp_spec_IsPermutation at h
  refine zg<|zk (zl (n:=5) (σ':=[]) (env':=[(0,.c (.lst (ints p)))]) U U E1)<|zd<|za (ze U) U<|zf<|zg<|zd<|za (zc U) U ?_
  obtain⟨q1,h⟩:=h
  refine zn (zF (xs:=[.tmp 3]) (ids:=[]) U U U U (c_spec_l01Perm p q1) U ?_)
  rintro _ rfl
  refine⟨U,?_⟩
  exact za (ze U) U<|zf<|zA<|zr (zH U (zw U)) U U ⟨_,(zq _),_,h,U⟩
theorem c_spec_IsPermutation (p:List Int) (hp:small p):AF Tryz.prog 28 [.lst (ints p)] (fun R_=>R_ = cb (permB p)):=
  (w_spec_IsPermutation p (fun y0=>y0 = permB p) (p_spec_IsPermutation p hp)).mono (by rintro r ⟨_,rfl,rfl⟩; rfl)
theorem w_laws_image9 (t:List (List Int)) (p:List Int) (Q:List (List Int)->Prop) (h:wp_laws_image9 t p Q):AF Tryz.prog 10 [.lst (rows t),.lst (ints p)] (fun R_=>∃ y0,Q y0/\R_ = .own (orows y0)):=by
  refine zS (zM (n:=96) Tryz.func10 U (by rfl) U (zb U) ?_)
  unfold wp_laws_image9 at h
  refine zg<|zk (zl (n:=96) (σ':=[]) (env':=[(0,.c (.lst (rows t))),(1,.c (.lst (ints p)))]) U U E2)<|zd<|za (ze U) U<|zf<|zg<|zg<|zd<|za (zc U) U<|za (zJ (f:=ci) U) U<|za (zc U) U<|za (zJ (f:=(fun r=>C.lst (ints r))) U) U<|za (yQ U U) U<|za (zc U) U<|zX (s:=14) U (fun q1=>?_) (fun q1=>?_)
  ·replace h:=h.1 (zh (ya q1))
   refine zC U U q1 U<|zC U U q1 U<|zC U U q1 U<|za (zU U q1 U) U<|zf<|zm U (fun q2=>?_) (fun q2=>?_)
   ·skip
    exact zg<|zk (zl (n:=96) (σ':=[]) (env':=[(4,.c (cnil))]) U U E1)<|zd<|za (ze U) U<|zf<|zA<|zr (zH U (zw U)) U U ⟨_,yK,_,h,U⟩
   ·cases q2
  ·replace h:=h.2 (zj (yb q1))
   refine zE U U q1<|za (zc U) U<|zE U U q1 ?_
   obtain⟨q3,h⟩:=h
   refine zn (zF (xs:=[.tmp 15]) (ids:=[]) U U U U (c_spec_IsPermutation p q3) U ?_)
   rintro _ rfl
   refine⟨U,?_⟩
   refine zE U U q1<|za (yA U) U<|za (zV U q1 U) U<|zf<|zm U (fun q5=>?_) (fun q5=>?_)
   ·replace h:=h.1 ((ya q5))
    exact zg<|zk (zl (n:=96) (σ':=[]) (env':=[(4,.c (cnil))]) U U E1)<|zd<|za (ze U) U<|zf<|zA<|zr (zH U (zw U)) U U ⟨_,yK,_,h,U⟩
   ·replace h:=h.2 ((yb q5))
    refine zu<|zg<|zd<|zn (zy (id:=19) (ps:=[]) U U (zb U) U ⟨U,?_⟩)
    refine za (ze U) U<|zf<|zg<|zg<|zd<|za (ze U) U<|zf<|zt ?_
    obtain⟨H1,m1,q6,h⟩:=h
    refine ye (fun (v6_1:Int) (o19_1:List (List Int))=>⟨[(19,⟨orows o19_1,[]⟩)],[(0,.c (.lst (rows t))),(1,.c (.lst (ints p))),(5,.ref 19),(6,.c (ci v6_1))],96⟩) H1 m1 ⟨0,([] : List (List Int)),zv (n:=96) U U E4,q6⟩ ?_
    rintro v6_1 o19_1 q6
    replace h:=h v6_1 o19_1 q6
    refine zg<|zg<|zd<|za (zc U) U<|za (zc U) U<|za (zJ (f:=(fun r=>C.lst (ints r))) U) U<|za (zO U U) U<|zf<|zm U (fun q7=>?_) (fun q7=>?_)
    ·replace h:=h.1 (zj q7)
     refine zu<|zg<|zt<|zd<|za (zc U) U<|za (zc U) U<|za (zJ (f:=(fun r=>C.lst (ints r))) U) U ?_
     obtain⟨q8,h⟩:=h
     refine zn (yZ (id:=29) ci (0:Int) U U U q8 (zb U) U ⟨U,?_⟩)
     refine zn (zy (id:=30) (ps:=[(0,.tmp 29)]) U U (zb U) U ⟨U,?_⟩)
     refine yF (yu (id:=30) (id2:=29) (j:=0) U U (zb U) U U U) ?_
     obtain⟨q9,h⟩:=h
     refine zn (yx (fun r=>C.own (ints r)) (l:=o19_1) (m:=[List.replicate (t.length:Int).toNat (0:Int)]) U U U U U (zb U) q9 ⟨U,?_⟩)
     refine za (ze U) U<|zf<|zd<|za (zc U) U ?_
     obtain⟨q10,h⟩:=h
     exact za (zG U U q10) U<|za (ze U) U<|zf<|⟨v6_1 + 1,o19_1 ++ ([List.replicate (t.length:Int).toNat (0:Int)]),zv (n:=96) U U E4,h.1,h.2⟩
    ·replace h:=h.2 (zh q7)
     refine zL<|zg<|zg<|zd<|za (ze U) U<|zf<|zt ?_
     obtain⟨H2,m2,q11,h⟩:=h
     refine ye (fun (v7_2:Int) (o19_2:List (List Int))=>⟨[(19,⟨orows o19_2,[]⟩)],[(0,.c (.lst (rows t))),(1,.c (.lst (ints p))),(5,.ref 19),(7,.c (ci v7_2))],96⟩) H2 m2 ⟨0,o19_1,zv (n:=96) U U E4,q11⟩ ?_
     rintro v7_2 o19_2 q11
     replace h:=h v7_2 o19_2 q11
     refine zg<|zg<|zd<|za (zc U) U<|za (zc U) U<|za (zJ (f:=(fun r=>C.lst (ints r))) U) U<|za (zO U U) U<|zf<|zm U (fun q12=>?_) (fun q12=>?_)
     ·replace h:=h.1 (zj q12)
      refine zu<|zg<|zt<|zg<|zd<|za (ze U) U<|zf<|zt ?_
      obtain⟨H3,m3,q13,h⟩:=h
      refine ye (fun (v8_3:Int) (o19_3:List (List Int))=>⟨[(19,⟨orows o19_3,[]⟩)],[(0,.c (.lst (rows t))),(1,.c (.lst (ints p))),(5,.ref 19),(7,.c (ci v7_2)),(8,.c (ci v8_3))],96⟩) H3 m3 ⟨0,o19_2,zv (n:=96) U U E5,q13⟩ ?_
      rintro v8_3 o19_3 q13
      replace h:=h v8_3 o19_3 q13
      refine zg<|zg<|zd<|za (zc U) U<|za (zc U) U<|za (zc U) U ?_
      obtain⟨q14,h⟩:=h
      refine za (zB U U q14) U<|za (zx (f:=(fun r=>C.lst (ints r))) U q14) U<|za (zJ (f:=ci) U) U<|za (zO U U) U<|za (zc U) U<|zX (s:=45) U (fun q15=>?_) (fun q15=>?_)
      ·replace h:=h.1 (zj q15)
       refine zE U U q15<|za (zc U) U<|zE U U q15<|za (zc U) U<|zE U U q15<|za (zJ (f:=(fun r=>C.lst (ints r))) U) U<|zE U U q15<|za (zO U U) U<|za (zU U q15 U) U<|zf<|zm U (fun q16=>?_) (fun q16=>?_)
       ·replace h:=h.1 (zj q16)
        refine zu<|zg<|zt<|zg<|zg<|zd<|za (zc U) U<|za (zc U) U ?_
        obtain⟨q17,h⟩:=h
        refine za (zB U U q17) U<|za (zx (f:=(fun r=>C.lst (ints r))) U q17) U<|za (zc U) U ?_
        obtain⟨q18,h⟩:=h
        refine za (zB U U q18) U<|za (zx (f:=ci) U q18) U<|za (zO U U) U<|za (zc U) U<|zX (s:=61) U (fun q19=>?_) (fun q19=>?_)
        ·replace h:=h.1 (zj q19)
         refine zC U U q19 U<|zC U U q19 U<|zC U U q19 U<|zC U U q19 U<|zC U U q19 U<|zC U U q19 U<|zC U U q19 U<|zC U U q19 U<|zC U U q19 U<|zC U U q19 U<|za (zU U q19 U) U<|zf<|zm U (fun q20=>?_) (fun q20=>?_)
         ·skip
          exact zg<|zk (zl (n:=96) (σ':=[(19,⟨orows o19_3,[]⟩)]) (env':=[]) U U trivial)<|zd<|za (ze U) U<|zf<|zA<|zr (zH U (zw U)) U U ⟨_,yK,_,h,U⟩
         ·cases q20
        ·replace h:=h.2 (zh q19)
         refine zE U U q19<|za (zc U) U<|zE U U q19<|za (zc U) U<|zE U U q19 ?_
         obtain⟨q21,h⟩:=h
         refine za (zB U U q21) U<|zE U U q19<|za (zx (f:=(fun r=>C.lst (ints r))) U q21) U<|zE U U q19<|za (zc U) U<|zE U U q19 ?_
         obtain⟨q22,h⟩:=h
         refine za (zB U U q22) U<|zE U U q19<|za (zx (f:=ci) U q22) U<|zE U U q19<|za (zc U) U<|zE U U q19<|za (zJ (f:=ci) U) U<|zE U U q19<|za (xl U U) U<|za (zV U q19 U) U<|zf<|zm U (fun q23=>?_) (fun q23=>?_)
         ·replace h:=h.1 (zj q23)
          exact zg<|zk (zl (n:=96) (σ':=[(19,⟨orows o19_3,[]⟩)]) (env':=[]) U U trivial)<|zd<|za (ze U) U<|zf<|zA<|zr (zH U (zw U)) U U ⟨_,yK,_,h,U⟩
         ·replace h:=h.2 (zh q23)
          refine zu<|zk (zl (n:=96) (σ':=[(19,⟨orows o19_3,[]⟩)]) (env':=[(0,.c (.lst (rows t))),(1,.c (.lst (ints p))),(5,.ref 19),(7,.c (ci v7_2)),(8,.c (ci v8_3)),(46,.c (ci v8_3)),(47,.c (.lst (rows t))),(48,.c (ci (t.length:Int))),(49,.c (cb (decide (v8_3 < (t.length:Int))))),(62,.c (.lst (rows t))),(63,.c (ci v7_2)),(64,.c (.ptr ((rows t).drop v7_2.toNat))),(65,.c (.lst (ints (el t v7_2)))),(66,.c (ci v8_3)),(67,.c (.ptr ((ints (el t v7_2)).drop v8_3.toNat))),(68,.c (ci (el (el t v7_2) v8_3))),(69,.c (.lst (ints p))),(70,.c (ci (p.length:Int))),(71,.c (cb (decide ((p.length:Int)<=el (el t v7_2) v8_3))))]) U U ⟨U,U,U,U,U,U,U,U,U,U,U,U,U,U,U,U,U,U,U,trivial⟩)<|zP (kd:=kdl [0,0,0,0,1,0,1,0,0,0,1,0,0,0,0,1,0,0,1,0,1,0,3]) (ord:=[0,1,2,3,7,8,9,11,12,13,14,16,4,5,6,10,15,17,18,19,20,21,22]) [] mixed (by kernel_rfl)<|zp U U trivial (zc U) U<|zp U U trivial (zc U) U<|zp U U trivial (zc U) U ?_
          obtain⟨q24,h⟩:=h
          refine zp U U trivial (zB U U q24) U<|zp U U trivial (zc U) U<|zp U U trivial (zc U) U ?_
          obtain⟨q25,h⟩:=h
          refine zp U U trivial (zB U U q25) U<|zp U U trivial (zc U) U<|zp U U trivial (zc U) U<|zp U U trivial (zc U) U ?_
          obtain⟨q26,h⟩:=h
          refine zp U U trivial (zB U U q26) U<|zp U U trivial (zc U) U<|zY U U trivial (zx (f:=ci) U q24) U ?_
          obtain⟨q27,h⟩:=h
          refine zp U U trivial (zR (f:=(fun r=>C.own (ints r))) U U U q27) U<|rd_open 1001 (id:=19) (j:=(el p v7_2).toNat) U (map_get (f:=(fun r=>C.own (ints r))) q27) U U U<|zY U U trivial (yt U U xe U) U<|zY U U trivial (zx (f:=ci) U q25) U<|zY U U trivial (zx (f:=(fun r=>C.lst (ints r))) U q26) U ?_
          obtain⟨q28,h⟩:=h
          refine zp U U trivial (zB U U q28) U<|zY U U trivial (zx (f:=ci) U q28) U ?_
          obtain⟨q29,h⟩:=h
          refine zp U U trivial (zB U U q29) U<|zY U U trivial (zx (f:=ci) U q29) U ?_
          obtain⟨q30,h⟩:=h
          refine zp U U trivial (zR (f:=ci) U U U q30) U<|xq U U trivial (yo U U (yN q30) U U (yO (f:=ci)) U ⟨U,?_⟩)
          refine yh<|zk (zl (n:=96) (σ':=[(1001,⟨ints (se (el o19_3 (el p v7_2)) (el p v8_3) (el p (el (el t v7_2) v8_3))),[]⟩),(19,⟨(orows o19_3).set (el p v7_2).toNat .hole,[((el p v7_2).toNat,.ref 1001)]⟩)]) (env':=[(0,.c (.lst (rows t))),(1,.c (.lst (ints p))),(5,.ref 19),(7,.c (ci v7_2)),(8,.c (ci v8_3)),(46,.c (ci v8_3)),(47,.c (.lst (rows t))),(48,.c (ci (t.length:Int))),(49,.c (cb (decide (v8_3 < (t.length:Int))))),(62,.c (.lst (rows t))),(63,.c (ci v7_2)),(64,.c (.ptr ((rows t).drop v7_2.toNat))),(65,.c (.lst (ints (el t v7_2)))),(66,.c (ci v8_3)),(67,.c (.ptr ((ints (el t v7_2)).drop v8_3.toNat))),(68,.c (ci (el (el t v7_2) v8_3))),(69,.c (.lst (ints p))),(70,.c (ci (p.length:Int))),(71,.c (cb (decide ((p.length:Int)<=el (el t v7_2) v8_3))))]) U U ⟨U,U,U,U,U,U,U,U,U,U,U,U,U,U,U,U,U,U,U,trivial⟩)<|zd<|za (zc U) U ?_
          obtain⟨q31,h⟩:=h
          exact za (zG U U q31) U<|za (ze U) U<|zf<|⟨v8_3 + 1,se o19_3 (el p v7_2) (se (el o19_3 (el p v7_2)) (el p v8_3) (el p (el (el t v7_2) v8_3))),zQ (gh_fillA (id:=19) (id2:=1001) (f:=(fun r=>C.own (ints r))) (v:=se (el o19_3 (el p v7_2)) (el p v8_3) (el p (el (el t v7_2) v8_3))) U xe U q27 U U kr_self) (zv (n:=96) U U E5),h.1,h.2⟩
       ·replace h:=h.2 (zh q16)
        refine zL<|zd<|za (zc U) U ?_
        obtain⟨q32,h⟩:=h
        exact za (zG U U q32) U<|za (ze U) U<|zf<|⟨v7_2 + 1,o19_3,zv (n:=96) U U E4,h.1,h.2⟩
      ·replace h:=h.2 (zh q15)
       refine zC U U q15 U<|zC U U q15 U<|zC U U q15 U<|zC U U q15 U<|za (zV U q15 U) U<|zf<|zm U (fun q33=>?_) (fun q33=>?_)
       ·cases q33
       ·skip
        refine zL<|zd<|za (zc U) U ?_
        obtain⟨q34,h⟩:=h
        exact za (zG U U q34) U<|za (ze U) U<|zf<|⟨v7_2 + 1,o19_3,zv (n:=96) U U E4,h.1,h.2⟩
     ·replace h:=h.2 (zh q12)
      exact zL<|zg<|zk (zl (n:=96) (σ':=[(19,⟨orows o19_2,[]⟩)]) (env':=[(5,.ref 19)]) U U E1)<|zd<|za (zc U) U<|za (ze U) U<|zf<|zA<|zr (zH U (zw U)) U U ⟨_,(zq _),_,h,U⟩
theorem c_laws_image9 (t:List (List Int)) (p:List Int) (hp:isTab t = true/\small p):AF Tryz.prog 10 [.lst (rows t),.lst (ints p)] (fun R_=>R_ = .own (orows (imgI t p))):=
  (w_laws_image9 t p (fun y0=>y0 = imgI t p) (p_laws_image9 t p hp)).mono (by rintro r ⟨_,rfl,rfl⟩; rfl)
def wp_cmp_isNaN_int64_ (x:Int) (Q:Bool->Prop):Prop:=
 Q (!(decide (x = x)))
def wp_cmp_Compare_int64_ (x:Int) (y:Int) (Q:Int->Prop):Prop:=
 ((x < y->
 Q (-1))/\
 (¬ (x < y)->
 ((y < x->
 Q 1)/\
 (¬ (y < x)->
 Q 0))))
def wp_slices_Compare___int64_int64_ (s1:List Int) (s2:List Int) (Q:Int->Prop):Prop:=
 ∃ (H1:Int->Prop) (m1:Int->Nat),
 H1 0/\
 ∀ (v11_1:Int),H1 v11_1->
 (((v11_1 < (s1.length:Int)->
 (0<=v11_1/\v11_1 < (s1.length:Int))/\
 (((s2.length:Int)<=v11_1->
 Q 1)/\
 (¬ ((s2.length:Int)<=v11_1)->
 (0<=v11_1/\v11_1 < (s2.length:Int))/\
 ((¬ (cmp1 (el s1 v11_1) (el s2 v11_1) = 0)->
 Q (cmp1 (el s1 v11_1) (el s2 v11_1)))/\
 (cmp1 (el s1 v11_1) (el s2 v11_1) = 0->
 (InI (v11_1 + 1))/\
 (H1 (v11_1 + 1)/\m1 (v11_1 + 1) < m1 v11_1))))))/\
 (¬ (v11_1 < (s1.length:Int))->
 (((s1.length:Int) < (s2.length:Int)->
 Q (-1))/\
 (¬ ((s1.length:Int) < (s2.length:Int))->
 Q 0)))))
def wp_slices_CompareFunc_____int64_____int64___int64___int64_ (s1:List (List Int)) (s2:List (List Int)) (cmp:List Int->List Int->Int) (cmp_D:List Int->List Int->Prop) (Q:Int->Prop):Prop:=
 ∃ (H1:Int->Prop) (m1:Int->Nat),
 H1 0/\
 ∀ (v13_1:Int),H1 v13_1->
 (((v13_1 < (s1.length:Int)->
 (0<=v13_1/\v13_1 < (s1.length:Int))/\
 (((s2.length:Int)<=v13_1->
 Q 1)/\
 (¬ ((s2.length:Int)<=v13_1)->
 (0<=v13_1/\v13_1 < (s2.length:Int))/\
 (cmp_D (el s1 v13_1) (el s2 v13_1))/\
 ((¬ (cmp (el s1 v13_1) (el s2 v13_1) = 0)->
 Q (cmp (el s1 v13_1) (el s2 v13_1)))/\
 (cmp (el s1 v13_1) (el s2 v13_1) = 0->
 (InI (v13_1 + 1))/\
 (H1 (v13_1 + 1)/\m1 (v13_1 + 1) < m1 v13_1))))))/\
 (¬ (v13_1 < (s1.length:Int))->
 (((s1.length:Int) < (s2.length:Int)->
 Q (-1))/\
 (¬ ((s1.length:Int) < (s2.length:Int))->
 Q 0)))))
def wp_impl_compareTables_1 (a:List Int) (b:List Int) (Q:Int->Prop):Prop:=
 (small a/\small b)/\
 Q (cmpG cmp1 a b)
def wp_impl_compareTables (s:List (List Int)) (t:List (List Int)) (Q:Int->Prop):Prop:=
 (small2 s/\small2 t/\∀ x_ y_:List Int,small x_->small y_->(fun z0 z1=>small z0/\small z1) x_ y_)/\
 Q (cmpG (fun z0 z1=>cmpG cmp1 z0 z1) s t)
def wp_spec_l01Less (a:List Int) (b:List Int) (Q:Bool->Prop):Prop:=
 ∃ (H1:Int->Prop) (m1:Int->Nat),
 H1 0/\
 ∀ (v5_1:Int),H1 v5_1->
 (((v5_1 < (a.length:Int)->
 ((v5_1 < (b.length:Int)->
 (0<=v5_1/\v5_1 < (a.length:Int))/\
 (0<=v5_1/\v5_1 < (b.length:Int))/\
 ((¬ (el a v5_1 = el b v5_1)->
 (0<=v5_1/\v5_1 < (a.length:Int))/\
 (0<=v5_1/\v5_1 < (b.length:Int))/\
 Q (decide (el a v5_1 < el b v5_1)))/\
 (el a v5_1 = el b v5_1->
 (InI (v5_1 + 1))/\
 (H1 (v5_1 + 1)/\m1 (v5_1 + 1) < m1 v5_1))))/\
 (¬ (v5_1 < (b.length:Int))->
 Q (decide ((a.length:Int) < (b.length:Int))))))/\
 (¬ (v5_1 < (a.length:Int))->
 Q (decide ((a.length:Int) < (b.length:Int))))))
def wp_impl_nextPermutation (p:List Int) (Q:Bool->List Int->Prop):Prop:=
 (InI ((p.length:Int) - 2))/\
 ∃ (H1:Int->Prop) (m1:Int->Nat),
 H1 ((p.length:Int) - 2)/\
 ∀ (v3_1:Int),H1 v3_1->
 (((0<=v3_1->
 (0<=v3_1/\v3_1 < (p.length:Int))/\
 (InI (v3_1 + 1))/\
 (0<=v3_1 + 1/\v3_1 + 1 < (p.length:Int))/\
 ((el p (v3_1 + 1) < el p v3_1->
 (InI (v3_1 - 1))/\
 (H1 (v3_1 - 1)/\m1 (v3_1 - 1) < m1 v3_1))/\
 (¬ (el p (v3_1 + 1) < el p v3_1)->
 ((v3_1 < 0->
 Q false p)/\
 (¬ (v3_1 < 0)->
 (InI ((p.length:Int) - 1))/\
 ∃ (H2:Int->Prop) (m2:Int->Nat),
 H2 ((p.length:Int) - 1)/\
 ∀ (v4_2:Int),H2 v4_2->
 ((0<=v4_2/\v4_2 < (p.length:Int))/\
 (0<=v3_1/\v3_1 < (p.length:Int))/\
 ((el p v4_2 < el p v3_1->
 (InI (v4_2 - 1))/\
 (H2 (v4_2 - 1)/\m2 (v4_2 - 1) < m2 v4_2))/\
 (¬ (el p v4_2 < el p v3_1)->
 (0<=v4_2/\v4_2 < (p.length:Int))/\
 (0<=v3_1/\v3_1 < (p.length:Int))/\
 (0<=v3_1/\v3_1 < (p.length:Int))/\
 (0<=v4_2/\v4_2 < ((se p v3_1 (el p v4_2)).length:Int))/\
 (InI (v3_1 + 1))/\
 (0<=v3_1 + 1/\v3_1 + 1<=((se (se p v3_1 (el p v4_2)) v4_2 (el p v3_1)).length:Int))/\
 (small (se (se p v3_1 (el p v4_2)) v4_2 (el p v3_1)))/\
 Q true ((se (se p v3_1 (el p v4_2)) v4_2 (el p v3_1)).take (v3_1 + 1).toNat ++ List.reverse ((se (se p v3_1 (el p v4_2)) v4_2 (el p v3_1)).drop (v3_1 + 1).toNat))))))))))/\
 (¬ (0<=v3_1)->
 ((v3_1 < 0->
 Q false p)/\
 (¬ (v3_1 < 0)->
 (InI ((p.length:Int) - 1))/\
 ∃ (H3:Int->Prop) (m3:Int->Nat),
 H3 ((p.length:Int) - 1)/\
 ∀ (v4_2:Int),H3 v4_2->
 ((0<=v4_2/\v4_2 < (p.length:Int))/\
 (0<=v3_1/\v3_1 < (p.length:Int))/\
 ((el p v4_2 < el p v3_1->
 (InI (v4_2 - 1))/\
 (H3 (v4_2 - 1)/\m3 (v4_2 - 1) < m3 v4_2))/\
 (¬ (el p v4_2 < el p v3_1)->
 (0<=v4_2/\v4_2 < (p.length:Int))/\
 (0<=v3_1/\v3_1 < (p.length:Int))/\
 (0<=v3_1/\v3_1 < (p.length:Int))/\
 (0<=v4_2/\v4_2 < ((se p v3_1 (el p v4_2)).length:Int))/\
 (InI (v3_1 + 1))/\
 (0<=v3_1 + 1/\v3_1 + 1<=((se (se p v3_1 (el p v4_2)) v4_2 (el p v3_1)).length:Int))/\
 (small (se (se p v3_1 (el p v4_2)) v4_2 (el p v3_1)))/\
 Q true ((se (se p v3_1 (el p v4_2)) v4_2 (el p v3_1)).take (v3_1 + 1).toNat ++ List.reverse ((se (se p v3_1 (el p v4_2)) v4_2 (el p v3_1)).drop (v3_1 + 1).toNat))))))))))
def wp_impl_cloneTable (t:List (List Int)) (Q:List (List Int)->Prop):Prop:=
 (0<=(t.length:Int)/\(t.length:Int)<=1000000000)/\
 ∃ (H1:Int->List (List Int)->Prop) (m1:Int->List (List Int)->Nat),
 H1 0 (List.replicate (t.length:Int).toNat ([] : List Int))/\
 ∀ (v11_1:Int) (o8_1:List (List Int)),H1 v11_1 o8_1->
 (((v11_1 < (t.length:Int)->
 (0<=v11_1/\v11_1 < (t.length:Int))/\
 (small (el t v11_1))/\
 (0<=v11_1/\v11_1 < (o8_1.length:Int))/\
 (InI (v11_1 + 1))/\
 (H1 (v11_1 + 1) (se o8_1 v11_1 (el t v11_1))/\m1 (v11_1 + 1) (se o8_1 v11_1 (el t v11_1)) < m1 v11_1 o8_1))/\
 (¬ (v11_1 < (t.length:Int))->
 Q o8_1)))
def wp_impl_renamed_1 (u:Int) (v:Int) (p:List Int) (t:List (List Int)) (back:List Int) (Q:Int->Prop):Prop:=
 (0<=u/\u < (back.length:Int))/\
 (0<=el back u/\el back u < (t.length:Int))/\
 (0<=v/\v < (back.length:Int))/\
 (0<=el back v/\el back v < ((el t (el back u)).length:Int))/\
 (0<=el (el t (el back u)) (el back v)/\el (el t (el back u)) (el back v) < (p.length:Int))/\
 Q (el p (el (el t (el back u)) (el back v)))
def wp_impl_renamed (t:List (List Int)) (p:List Int) (Q:List (List Int)->Prop):Prop:=
 (small p/\isPerm p = true)/\
 (0<=(t.length:Int)/\(t.length:Int)<=1000000/\∀ x_ y_,0<=x_->x_ < (t.length:Int)->0<=y_->y_ < (t.length:Int)->(fun z0 z1=>isTab t = true/\p.length = t.length/\(backI p).length = t.length/\isPerm p = true/\isPerm (backI p) = true/\(0<=z0/\z0 < (t.length:Int))/\0<=z1/\z1 < (t.length:Int)) x_ y_)/\
 Q (tab (t.length:Int) (fun z0 z1=>el p (el (el t (el (backI p) z0)) (el (backI p) z1))))
def wp_impl_LeastTable (t:List (List Int)) (Q:List (List Int)->Int->Prop):Prop:=
 (small2 t)/\
 (((isTab t) = false->
 Q ([]) 1)/\
 ((isTab t) = true->
 ((7 < (t.length:Int)->
 Q ([]) 3)/\
 (¬ (7 < (t.length:Int))->
 (small2 t)/\
 (0<=(t.length:Int)/\(t.length:Int)<=12)/\
 ∃ (H1:Nat->(List (List Int))->Prop),H1 0 t/\
 ((∀ (k1:Nat) (f4_0_1:List (List Int)) (e1:List Int),(growL (t.length:Int) [])[k1]? = some e1->H1 k1 f4_0_1->
 (isTab t = true/\(e1.length:Int) = (t.length:Int)/\isPerm e1 = true)/\
 (small2 (renT t e1)/\small2 f4_0_1)/\
 ((cmpT (renT t e1) f4_0_1 < 0->
 H1 (k1 + 1) (renT t e1))/\
 (¬ (cmpT (renT t e1) f4_0_1 < 0)->
 H1 (k1 + 1) f4_0_1)))/\
 (∀ (f4_0_1:List (List Int)),H1 (growL (t.length:Int) []).length f4_0_1->
 Q f4_0_1 0))))))
theorem p_cmp_isNaN_int64_ (x:Int):wp_cmp_isNaN_int64_ x (fun y0=>y0 = false):=by unfold wp_cmp_isNaN_int64_; simp
theorem p_cmp_Compare_int64_ (x y:Int):wp_cmp_Compare_int64_ x y (fun y0=>y0 = cmp1 x y):=by
  unfold wp_cmp_Compare_int64_ cmp1
  exact⟨fun h=>by rw [if_pos h],fun h=>⟨fun g=>by rw [if_neg h,if_pos g],fun g=>by rw [if_neg h,if_neg g]⟩⟩
theorem p_slices_Compare___int64_int64_ (s1 s2:List Int) (hp:small s1/\small s2):wp_slices_Compare___int64_int64_ s1 s2 (fun y0=>y0 = cmpG cmp1 s1 s2):=by
  have h1:(s1.length:Int)<=1000000000:=hp.1
  refine⟨fun i=>(0<=i/\i<=(s1.length:Int)/\i<=(s2.length:Int))/\Upto i fun j=>cmp1 (el s1 j) (el s2 j) = 0,fun i=>((s1.length:Int) - i).toNat,⟨⟨by omega,by omega,by omega⟩,upto0⟩,?_⟩
  rintro i ⟨⟨i0,i1,i2⟩,hu⟩
  dsimp only
  refine⟨fun hlt=>⟨⟨i0,hlt⟩,fun g=>(cmpG_long hu ⟨i0,hlt⟩ (by omega)).symm,fun g=>⟨⟨i0,by omega⟩,fun h=>(cmpG_ne hu ⟨i0,hlt⟩ (by omega) h).symm,fun h=>⟨⟨by omega,by omega⟩,⟨⟨by omega,by omega,by omega⟩,upto1 hu h⟩,by omega⟩⟩⟩,fun hge=>⟨fun g=>(cmpG_short hu ⟨i0,by omega⟩ (by omega)).symm,fun g=>(cmpG_same hu ⟨i0,by omega⟩ (by omega)).symm⟩⟩
theorem p_slices_CompareFunc_____int64_____int64___int64___int64_ (s1 s2:List (List Int)) (cmp:List Int->List Int->Int) (cmp_D:List Int->List Int->Prop) (hp:small2 s1/\small2 s2/\∀ x_ y_:List Int,small x_->small y_->cmp_D x_ y_):wp_slices_CompareFunc_____int64_____int64___int64___int64_ s1 s2 cmp cmp_D (fun y0=>y0 = cmpG cmp s1 s2):=by
  obtain⟨⟨h1,h1'⟩,⟨h2,h2'⟩,hd⟩:=hp
  have h1:(s1.length:Int)<=1000000000:=h1
  refine⟨fun i=>(0<=i/\i<=(s1.length:Int)/\i<=(s2.length:Int))/\Upto i fun j=>cmp (el s1 j) (el s2 j) = 0,fun i=>((s1.length:Int) - i).toNat,⟨⟨by omega,by omega,by omega⟩,upto0⟩,?_⟩
  rintro i ⟨⟨i0,i1,i2⟩,hu⟩
  dsimp only
  refine⟨fun hlt=>⟨⟨i0,hlt⟩,fun g=>(cmpG_long hu ⟨i0,hlt⟩ (by omega)).symm,fun g=>⟨⟨i0,by omega⟩,hd _ _ (h1' _ (el_mem ⟨i0,hlt⟩)) (h2' _ (el_mem ⟨i0,by omega⟩)),fun h=>(cmpG_ne hu ⟨i0,hlt⟩ (by omega) h).symm,fun h=>⟨⟨by omega,by omega⟩,⟨⟨by omega,by omega,by omega⟩,upto1 hu h⟩,by omega⟩⟩⟩,fun hge=>⟨fun g=>(cmpG_short hu ⟨i0,by omega⟩ (by omega)).symm,fun g=>(cmpG_same hu ⟨i0,by omega⟩ (by omega)).symm⟩⟩
theorem p_impl_compareTables_1 (a b:List Int) (hp:small a/\small b):wp_impl_compareTables_1 a b (fun y0=>y0 = cmpG cmp1 a b):=⟨hp,rfl⟩
theorem p_impl_compareTables (s t:List (List Int)) (hp:small2 s/\small2 t):wp_impl_compareTables s t (fun y0=>y0 = cmpT s t):=⟨⟨hp.1,hp.2,fun _ _ h1 h2=>⟨h1,h2⟩⟩,rfl⟩
theorem p_spec_l01Less (a b:List Int) (hp:small a/\small b):wp_spec_l01Less a b (fun y0=>y0 = decide (cmpG cmp1 a b < 0)):=by
  have h1:(a.length:Int)<=1000000000:=hp.1
  refine⟨fun i=>(0<=i/\i<=(a.length:Int)/\i<=(b.length:Int))/\Upto i fun j=>cmp1 (el a j) (el b j) = 0,fun i=>((a.length:Int) - i).toNat,⟨⟨by omega,by omega,by omega⟩,upto0⟩,?_⟩
  rintro i ⟨⟨i0,i1,i2⟩,hu⟩
  have fin : ¬ (i < (a.length:Int)/\i < (b.length:Int))->decide ((a.length:Int) < (b.length:Int)) = decide (cmpG cmp1 a b < 0):=fun g=>by
    by_cases ha:i < (a.length:Int)
    · rw [cmpG_long hu ⟨i0,ha⟩ (by omega)]; simp; omega
    · by_cases hb:i < (b.length:Int)
      · rw [cmpG_short hu ⟨i0,by omega⟩ hb]; simp; omega
      · rw [cmpG_same hu ⟨i0,by omega⟩ (by omega)]; simp; omega
  dsimp only
  refine⟨fun hlt=>⟨fun hb=>⟨⟨i0,hlt⟩,⟨i0,hb⟩,fun h=>⟨⟨i0,hlt⟩,⟨i0,hb⟩,?_⟩,fun h=>⟨⟨by omega,by omega⟩,⟨⟨by omega,by omega,by omega⟩,upto1 hu (cmp1_zero.2 h)⟩,by omega⟩⟩,fun hb=>fin fun g=>hb g.2⟩,fun hge=>fin fun g=>hge g.1⟩
  rw [cmpG_ne hu ⟨i0,hlt⟩ hb fun g=>h (cmp1_zero.1 g)]
  unfold cmp1
  split
  · simp [*]
  · split <;> simp [*]
theorem p_impl_cloneTable (t:List (List Int)) (hp:small2 t):wp_impl_cloneTable t (fun y0=>y0 = t):=by
  obtain⟨h1,h2⟩:=hp
  have h1:(t.length:Int)<=1000000000:=h1
  refine⟨⟨by omega,h1⟩,fun i o=>(0<=i/\i<=(t.length:Int))/\o.length = t.length/\Upto i fun j=>el o j = el t j,fun i _=>((t.length:Int) - i).toNat,⟨⟨by omega,by omega⟩,by simp,upto0⟩,?_⟩
  rintro i o ⟨⟨i0,i1⟩,ol,hu⟩
  dsimp only
  refine⟨fun hlt=>⟨⟨i0,hlt⟩,h2 _ (el_mem ⟨i0,hlt⟩),⟨i0,by omega⟩,⟨by omega,by omega⟩,⟨⟨by omega,by omega⟩,by simpa using ol,?_⟩,by omega⟩,fun hge=>ext_el ol fun j j0 j1=>hu j j0 (by omega)⟩
  refine upto1 (fun j j0 j1=>?_) ?_
  · rw [el_se_ne i0 j0 (by omega)]; exact hu j j0 j1
  · rw [el_se_same ⟨i0,by omega⟩]
theorem p_impl_renamed_1 (u v:Int) (p:List Int) (t:List (List Int)) (back:List Int) (hp:isTab t = true/\p.length = t.length/\back.length = t.length/\isPerm p = true/\isPerm back = true/\(0<=u/\u < (t.length:Int))/\0<=v/\v < (t.length:Int)):wp_impl_renamed_1 u v p t back (fun y0=>y0 = el p (el (el t (el back u)) (el back v))):=by
  obtain⟨ht,h1,h2,h3,h4,hu,hv⟩:=hp
  have a:=isPerm_el h4 (i:=u) ⟨hu.1,by omega⟩
  have b:=isPerm_el h4 (i:=v) ⟨hv.1,by omega⟩
  have c:=rk_el ht (x:=el back u) (y:=el back v) ⟨a.1,by omega⟩ ⟨b.1,by omega⟩
  have l:=rk_len ht (x:=el back u) ⟨a.1,by omega⟩
  exact⟨⟨hu.1,by omega⟩,⟨a.1,by omega⟩,⟨hv.1,by omega⟩,⟨b.1,by omega⟩,⟨c.1,by omega⟩,rfl⟩
theorem p_impl_renamed (t:List (List Int)) (p:List Int) (hp:isTab t = true/\(p.length:Int) = (t.length:Int)/\isPerm p = true):wp_impl_renamed t p (fun y0=>y0 = renT t p):=by
  obtain⟨ht,hl,hP⟩:=hp
  have hn:=isTab_len ht
  refine⟨⟨by show (_:Int)<=_; omega,hP⟩,⟨by omega,by omega,fun x y x0 x1 y0 y1=>⟨ht,by omega,by simp; omega,hP,isPerm_backI hP,⟨x0,x1⟩,y0,y1⟩⟩,?_⟩
  refine tab_congr fun i j i0 i1 j0 j1=>?_
  have b : ∀ z:Int,0<=z->z < (t.length:Int)->el (backI p) z = idxI p z:=fun z z0 z1=>el_ran ⟨z0,by omega⟩
  rw [b i i0 i1,b j j0 j1]
theorem p_impl_LeastTable (t:List (List Int)) (hp:small2 t):wp_impl_LeastTable t (fun y0 y1=>y0 = LeaT t/\y1 = LeaE t):=by
  refine⟨hp,fun h=>?_,fun h=>⟨fun g=>?_,fun g=>?_⟩⟩
  · have e:LeaE t = 1:=by unfold LeaE; simp [h]
    exact⟨by unfold LeaT; rw [e]; rfl,e.symm⟩
  · have e:LeaE t = 3:=by unfold LeaE; rw [if_pos h,if_pos g]
    exact⟨by unfold LeaT; rw [e]; rfl,e.symm⟩
  · have e:LeaE t = 0:=by unfold LeaE; rw [if_pos h,if_neg g]
    have hn:=isTab_len h
    refine⟨hp,⟨by omega,by omega⟩,fun k b=>isTab b = true/\b = ((growL (t.length:Int) []).take k).foldl (lesT t) t,⟨h,rfl⟩,fun k b p hk ⟨hb,hbe⟩=>?_,fun b ⟨hb,hbe⟩=>⟨?_,e.symm⟩⟩
    · obtain⟨pl,pP⟩:=growL_perm (by omega) (List.mem_of_getElem? hk)
      have tr:=isTab_ren h pP pl
      refine⟨⟨h,pl,pP⟩,⟨isTab_small tr,isTab_small hb⟩,fun hc=>⟨tr,?_⟩,fun hc=>⟨hb,?_⟩⟩
      · rw [foldl_take hk,<- hbe]; unfold lesT; rw [if_pos hc]
      · rw [foldl_take hk,<- hbe]; unfold lesT; rw [if_neg hc]
    · unfold LeaT; rw [if_pos e,hbe,List.take_length]
theorem p_impl_nextPermutation (p:List Int) (hp:isPerm p = true/\(p.length:Int)<=12):wp_impl_nextPermutation p (fun y0 w0=>(y0 = true/\∃ i_ k_,NxI p i_ k_/\w0 = nxtL p i_ k_)\/(y0 = false/\w0 = p/\∀ j_:Int,-1 < j_->j_ + 1 < (p.length:Int)->el p (j_ + 1) < el p j_)):=by
  obtain⟨hP,hl⟩:=hp
  refine⟨⟨by omega,by omega⟩,fun i=>(-2<=i/\i<=(p.length:Int) - 2)/\(i = -2->(p.length:Int) = 0)/\∀ j,i < j->0<=j->j + 1 < (p.length:Int)->el p (j + 1) < el p j,fun i=>(i + 2).toNat,⟨⟨by omega,by omega⟩,fun _=>by omega,fun j j0 _ j1=>by omega⟩,?_⟩
  rintro i ⟨⟨i0,i1⟩,i2,dn⟩
  have last : ¬ (0<=i)->(false = true/\∃ i_ k_,NxI p i_ k_/\p = nxtL p i_ k_)\/(false = false/\p = p/\∀ j_:Int,-1 < j_->j_ + 1 < (p.length:Int)->el p (j_ + 1) < el p j_):=fun g=>.inr ⟨rfl,rfl,fun j j0 j1=>dn j (by omega) (by omega) j1⟩
  dsimp only
  refine⟨fun h0=>⟨⟨h0,by omega⟩,⟨by omega,by omega⟩,⟨by omega,by omega⟩,fun hc=>⟨⟨by omega,by omega⟩,⟨⟨by omega,by omega⟩,fun e=>by omega,fun j j0 j1 j2=>?_⟩,by omega⟩,fun hc=>⟨fun g=>by omega,fun _=>⟨⟨by omega,by omega⟩,?_⟩⟩⟩,fun h0=>⟨fun _=>last h0,fun g=>by omega⟩⟩
  · by_cases e:j = i
    · subst e; exact hc
    · exact dn j (by omega) j1 j2
  · have hup:el p i < el p (i + 1):=by
      have:el p i≠el p (i + 1):=fun e=>by have:=isPerm_inj hP (i:=i) (j:=i + 1) ⟨h0,by omega⟩ ⟨by omega,by omega⟩ e; omega
      omega
    refine⟨fun k=>(i < k/\k < (p.length:Int))/\∀ j,k < j->j < (p.length:Int)->el p j < el p i,fun k=>k.toNat,⟨⟨by omega,by omega⟩,fun j j0 j1=>by omega⟩,?_⟩
    rintro k ⟨⟨k0,k1⟩,kd⟩
    dsimp only
    refine⟨⟨by omega,k1⟩,⟨h0,by omega⟩,fun hk=>⟨⟨by omega,by omega⟩,⟨⟨?_,by omega⟩,fun j j0 j1=>?_⟩,by omega⟩,fun hk=>⟨⟨by omega,k1⟩,⟨h0,by omega⟩,⟨h0,by omega⟩,⟨by omega,by simp; omega⟩,⟨by omega,by omega⟩,⟨by omega,by simp; omega⟩,by show (_:Int)<=_; simp; omega,.inl ⟨rfl,i,k,⟨⟨h0,by omega⟩,hup,fun j j0 j1=>dn j j0 (by omega) j1,⟨k0,k1⟩,?_,kd⟩,rfl⟩⟩⟩
    · rcases Int.lt_or_le i (k - 1) with g | g
      · exact g
      · rw [show k = i + 1 by omega] at hk; omega
    · by_cases e:j = k
      · subst e; exact hk
      · exact kd j (by omega) j1
    · have:el p k≠el p i:=fun e=>by have:=isPerm_inj hP (i:=k) (j:=i) ⟨by omega,by omega⟩ ⟨h0,by omega⟩ e; omega
      omega
theorem w_cmp_isNaN_int64_ (x:Int) (Q:Bool->Prop) (h:wp_cmp_isNaN_int64_ x Q):AF Tryz.prog 107 [ci x] (fun R_=>∃ y0,Q y0/\R_ = cb y0):=by
  refine zS (zM (n:=6) Tryz.func107 U (by rfl) U (zb U) ?_)
  unfold wp_cmp_isNaN_int64_ at h
  exact zg<|zk (zl (n:=6) (σ':=[]) (env':=[(0,.c (ci x))]) U U E1)<|zd<|za (ze U) U<|zf<|zg<|zd<|za (zc U) U<|za (zc U) U<|za (yQ U U) U<|za (ze U) U<|zf<|zA<|zr (zH U (zw U)) U U ⟨_,(zq _),_,h,U⟩
theorem c_cmp_isNaN_int64_ (x:Int)  : AF Tryz.prog 107 [ci x] (fun R_=>R_ = cb false):=
  (w_cmp_isNaN_int64_ x (fun y0=>y0 = false) (p_cmp_isNaN_int64_ x)).mono (by rintro r ⟨_,rfl,rfl⟩; rfl)
theorem w_cmp_Compare_int64_ (x:Int) (y:Int) (Q:Int->Prop) (h:wp_cmp_Compare_int64_ x y Q):AF Tryz.prog 99 [ci x,ci y] (fun R_=>∃ y0,Q y0/\R_ = ci y0):=by
  refine zS (zM (n:=20) Tryz.func99 U (by rfl) U (zb U) ?_)
  unfold wp_cmp_Compare_int64_ at h
  refine zg<|zk (zl (n:=20) (σ':=[]) (env':=[(0,.c (ci x)),(1,.c (ci y))]) U U E2)<|zd<|za (ze U) U<|zf<|zg<|zd<|za (zc U) U<|zn (zF (xs:=[.tmp 7]) (ids:=[]) U U U U (c_cmp_isNaN_int64_ x) U ?_)
  rintro _ rfl
  refine⟨U,?_⟩
  refine za (ze U) U<|zf<|zg<|zd<|za (zc U) U<|zn (zF (xs:=[.tmp 9]) (ids:=[]) U U U U (c_cmp_isNaN_int64_ y) U ?_)
  rintro _ rfl
  refine⟨U,?_⟩
  refine za (ze U) U<|zf<|zg<|zg<|zk (zl (n:=20) (σ':=[]) (env':=[(0,.c (ci x)),(1,.c (ci y)),(5,.c (cb false)),(6,.c (cb false))]) U U E4)<|zd<|za (zc U) U<|zf<|zm U (fun q3=>?_) (fun q3=>?_)
  ·cases q3
  ·skip
   refine zu<|zg<|zg<|zd<|za (zc U) U<|zf<|zm U (fun q4=>?_) (fun q4=>?_)
   ·cases q4
   ·skip
    refine zu<|zg<|zg<|zd<|za (zc U) U<|za (zc U) U<|za (zO U U) U<|zf<|zm U (fun q5=>?_) (fun q5=>?_)
    ·replace h:=h.1 (zj q5)
     exact zg<|zk (zl (n:=20) (σ':=[]) (env':=[]) U U trivial)<|zd<|za (ze U) U<|zf<|zA<|zr (zH U (zw U)) U U ⟨_,(zq _),_,h,U⟩
    ·replace h:=h.2 (zh q5)
     refine zu<|zg<|zg<|zk (zl (n:=20) (σ':=[]) (env':=[(0,.c (ci x)),(1,.c (ci y))]) U U E2)<|zd<|za (zc U) U<|za (zc U) U<|za (ss_gtr U U) U<|zf<|zm U (fun q6=>?_) (fun q6=>?_)
     ·replace h:=h.1 (zj q6)
      exact zg<|zk (zl (n:=20) (σ':=[]) (env':=[]) U U trivial)<|zd<|za (ze U) U<|zf<|zA<|zr (zH U (zw U)) U U ⟨_,(zq _),_,h,U⟩
     ·replace h:=h.2 (zh q6)
      exact zu<|zg<|zk (zl (n:=20) (σ':=[]) (env':=[]) U U trivial)<|zd<|za (ze U) U<|zf<|zA<|zr (zH U (zw U)) U U ⟨_,(zq _),_,h,U⟩
theorem c_cmp_Compare_int64_ (x:Int) (y:Int)  : AF Tryz.prog 99 [ci x,ci y] (fun R_=>R_ = ci (cmp1 x y)):=
  (w_cmp_Compare_int64_ x y (fun y0=>y0 = cmp1 x y) (p_cmp_Compare_int64_ x y)).mono (by rintro r ⟨_,rfl,rfl⟩; rfl)
theorem w_slices_Compare___int64_int64_ (s1:List Int) (s2:List Int) (Q:Int->Prop) (h:wp_slices_Compare___int64_int64_ s1 s2 Q):AF Tryz.prog 84 [.lst (ints s1),.lst (ints s2)] (fun R_=>∃ y0,Q y0/\R_ = ci y0):=by
  refine zS (zM (n:=36) Tryz.func84 U (by rfl) U (zb U) ?_)
  unfold wp_slices_Compare___int64_int64_ at h
  refine zg<|zk (zl (n:=36) (σ':=[]) (env':=[(0,.c (.lst (ints s1))),(1,.c (.lst (ints s2)))]) U U E2)<|zd<|za (ze U) U<|zf<|zg<|zg<|zd<|za (zc U) U<|za (zJ (f:=ci) U) U<|za (zc U) U<|zf<|zt ?_
  obtain⟨H1,m1,q1,h⟩:=h
  refine yy (fun (v11_1:Int)=>⟨[],[(0,.c (.lst (ints s1))),(1,.c (.lst (ints s2))),(9,.c (.lst (ints s1))),(10,.c (ci (s1.length:Int))),(11,.c (ci v11_1))],36⟩) H1 m1 ⟨0,zv (n:=36) U U E5,q1⟩ ?_
  rintro v11_1 q1
  replace h:=h v11_1 q1
  refine zg<|zd<|za (zO U U) U<|zf<|zg<|zm U (fun q2=>?_) (fun q2=>?_)
  ·replace h:=h.1 (zj q2)
   refine zu<|zg<|zt<|zg<|zd<|za (zc U) U ?_
   obtain⟨q3,h⟩:=h
   refine za (zB U U q3) U<|za (zx (f:=ci) U q3) U<|za (ze U) U<|za (ze U) U<|zf<|zg<|zg<|zd<|za (zc U) U<|za (zc U) U<|za (zJ (f:=ci) U) U<|za (xl U U) U<|zf<|zm U (fun q4=>?_) (fun q4=>?_)
   ·replace h:=h.1 (zj q4)
    exact zg<|zk (zl (n:=36) (σ':=[]) (env':=[]) U U trivial)<|zd<|za (ze U) U<|zf<|zA<|zr (zH U (zw U)) U U ⟨_,(zq _),_,h,U⟩
   ·replace h:=h.2 (zh q4)
    refine zu<|zg<|zk (zl (n:=36) (σ':=[]) (env':=[(0,.c (.lst (ints s1))),(1,.c (.lst (ints s2))),(5,.c (ci v11_1)),(6,.c (ci (el s1 v11_1))),(9,.c (.lst (ints s1))),(10,.c (ci (s1.length:Int))),(11,.c (ci v11_1))]) U U E7)<|zd<|za (zc U) U<|za (zc U) U ?_
    obtain⟨q5,h⟩:=h
    refine za (zB U U q5) U<|za (zx (f:=ci) U q5) U<|za (ze U) U<|zf<|zg<|zd<|za (zc U) U<|za (zc U) U<|zn (zF (xs:=[.tmp 24,.tmp 25]) (ids:=[]) U U U U (c_cmp_Compare_int64_ (el s1 v11_1) (el s2 v11_1)) U ?_)
    rintro _ rfl
    refine⟨U,?_⟩
    refine za (ze U) U<|zf<|zg<|zk (zl (n:=36) (σ':=[]) (env':=[(0,.c (.lst (ints s1))),(1,.c (.lst (ints s2))),(8,.c (ci (cmp1 (el s1 v11_1) (el s2 v11_1)))),(9,.c (.lst (ints s1))),(10,.c (ci (s1.length:Int))),(11,.c (ci v11_1))]) U U E6)<|zd<|za (zc U) U<|za (yQ U U) U<|zf<|zm U (fun q7=>?_) (fun q7=>?_)
    ·replace h:=h.1 (zh (ya q7))
     exact zg<|zk (zl (n:=36) (σ':=[]) (env':=[(8,.c (ci (cmp1 (el s1 v11_1) (el s2 v11_1))))]) U U E1)<|zd<|za (zc U) U<|za (ze U) U<|zf<|zA<|zr (zH U (zw U)) U U ⟨_,(zq _),_,h,U⟩
    ·replace h:=h.2 (zj (yb q7))
     refine zu<|zd ?_
     obtain⟨q8,h⟩:=h
     exact za (zG U U q8) U<|za (zc U) U<|zf<|⟨v11_1 + 1,zv (n:=36) U U E5,h.1,h.2⟩
  ·replace h:=h.2 (zh q2)
   refine zL<|zg<|zg<|zd<|za (zc U) U<|za (zJ (f:=ci) U) U<|za (zc U) U<|za (zJ (f:=ci) U) U<|za (zO U U) U<|zf<|zm U (fun q9=>?_) (fun q9=>?_)
   ·replace h:=h.1 (zj q9)
    exact zg<|zk (zl (n:=36) (σ':=[]) (env':=[]) U U trivial)<|zd<|za (ze U) U<|zf<|zA<|zr (zH U (zw U)) U U ⟨_,(zq _),_,h,U⟩
   ·replace h:=h.2 (zh q9)
    exact zu<|zg<|zk (zl (n:=36) (σ':=[]) (env':=[]) U U trivial)<|zd<|za (ze U) U<|zf<|zA<|zr (zH U (zw U)) U U ⟨_,(zq _),_,h,U⟩
theorem c_slices_Compare___int64_int64_ (s1:List Int) (s2:List Int) (hp:small s1/\small s2):AF Tryz.prog 84 [.lst (ints s1),.lst (ints s2)] (fun R_=>R_ = ci (cmpG cmp1 s1 s2)):=
  (w_slices_Compare___int64_int64_ s1 s2 (fun y0=>y0 = cmpG cmp1 s1 s2) (p_slices_Compare___int64_int64_ s1 s2 hp)).mono (by rintro r ⟨_,rfl,rfl⟩; rfl)
theorem w_slices_CompareFunc_____int64_____int64___int64___int64_ (s1:List (List Int)) (s2:List (List Int)) (cmp_g:Nat) (cmp_c:List C) (cmp:List Int->List Int->Int) (cmp_D:List Int->List Int->Prop) (cmp_h : ∀ x0 x1,cmp_D x0 x1->AF Tryz.prog cmp_g ([.lst (ints x0),.lst (ints x1)] ++ cmp_c) (fun R_=>R_ = ci (cmp x0 x1))) (Q:Int->Prop) (h:wp_slices_CompareFunc_____int64_____int64___int64___int64_ s1 s2 cmp cmp_D Q):AF Tryz.prog 82 [.lst (rows s1),.lst (rows s2),.clo cmp_g cmp_c] (fun R_=>∃ y0,Q y0/\R_ = ci y0):=by
  refine zS (zM (n:=39) Tryz.func82 U (by rfl) U (zb U) ?_)
  unfold wp_slices_CompareFunc_____int64_____int64___int64___int64_ at h
  refine zg<|zk (zl (n:=39) (σ':=[]) (env':=[(0,.c (.lst (rows s1))),(1,.c (.lst (rows s2))),(2,.c (.clo cmp_g cmp_c))]) U U E3)<|zd<|za (ze U) U<|zf<|zg<|zg<|zd<|za (zc U) U<|za (zJ (f:=(fun r=>C.lst (ints r))) U) U<|za (zc U) U<|zf<|zt ?_
  obtain⟨H1,m1,q1,h⟩:=h
  refine yy (fun (v13_1:Int)=>⟨[],[(0,.c (.lst (rows s1))),(1,.c (.lst (rows s2))),(2,.c (.clo cmp_g cmp_c)),(11,.c (.lst (rows s1))),(12,.c (ci (s1.length:Int))),(13,.c (ci v13_1))],39⟩) H1 m1 ⟨0,zv (n:=39) U U E6,q1⟩ ?_
  rintro v13_1 q1
  replace h:=h v13_1 q1
  refine zg<|zd<|za (zO U U) U<|zf<|zg<|zm U (fun q2=>?_) (fun q2=>?_)
  ·replace h:=h.1 (zj q2)
   refine zu<|zg<|zt<|zg<|zd<|za (zc U) U ?_
   obtain⟨q3,h⟩:=h
   refine za (zB U U q3) U<|za (zx (f:=(fun r=>C.lst (ints r))) U q3) U<|za (ze U) U<|za (ze U) U<|zf<|zg<|zg<|zd<|za (zc U) U<|za (zc U) U<|za (zJ (f:=(fun r=>C.lst (ints r))) U) U<|za (xl U U) U<|zf<|zm U (fun q4=>?_) (fun q4=>?_)
   ·replace h:=h.1 (zj q4)
    exact zg<|zk (zl (n:=39) (σ':=[]) (env':=[]) U U trivial)<|zd<|za (ze U) U<|zf<|zA<|zr (zH U (zw U)) U U ⟨_,(zq _),_,h,U⟩
   ·replace h:=h.2 (zh q4)
    refine zu<|zg<|zk (zl (n:=39) (σ':=[]) (env':=[(0,.c (.lst (rows s1))),(1,.c (.lst (rows s2))),(2,.c (.clo cmp_g cmp_c)),(7,.c (ci v13_1)),(8,.c (.lst (ints (el s1 v13_1)))),(11,.c (.lst (rows s1))),(12,.c (ci (s1.length:Int))),(13,.c (ci v13_1))]) U U E8)<|zd<|za (zc U) U<|za (zc U) U ?_
    obtain⟨q5,h⟩:=h
    refine za (zB U U q5) U<|za (zx (f:=(fun r=>C.lst (ints r))) U q5) U<|za (ze U) U<|zf<|zg<|zd<|za (zc U) U<|za (zc U) U<|za (zc U) U ?_
    obtain⟨q6,h⟩:=h
    refine zn (zF (xs:=[.tmp 27,.tmp 28]) (ids:=[]) U U U U (cmp_h (el s1 v13_1) (el s2 v13_1) q6) U ?_)
    rintro _ rfl
    refine⟨U,?_⟩
    refine za (ze U) U<|zf<|zg<|zk (zl (n:=39) (σ':=[]) (env':=[(0,.c (.lst (rows s1))),(1,.c (.lst (rows s2))),(2,.c (.clo cmp_g cmp_c)),(10,.c (ci (cmp (el s1 v13_1) (el s2 v13_1)))),(11,.c (.lst (rows s1))),(12,.c (ci (s1.length:Int))),(13,.c (ci v13_1))]) U U E7)<|zd<|za (zc U) U<|za (yQ U U) U<|zf<|zm U (fun q7=>?_) (fun q7=>?_)
    ·replace h:=h.1 (zh (ya q7))
     exact zg<|zk (zl (n:=39) (σ':=[]) (env':=[(10,.c (ci (cmp (el s1 v13_1) (el s2 v13_1))))]) U U E1)<|zd<|za (zc U) U<|za (ze U) U<|zf<|zA<|zr (zH U (zw U)) U U ⟨_,(zq _),_,h,U⟩
    ·replace h:=h.2 (zj (yb q7))
     refine zu<|zd ?_
     obtain⟨q8,h⟩:=h
     exact za (zG U U q8) U<|za (zc U) U<|zf<|⟨v13_1 + 1,zv (n:=39) U U E6,h.1,h.2⟩
  ·replace h:=h.2 (zh q2)
   refine zL<|zg<|zg<|zd<|za (zc U) U<|za (zJ (f:=(fun r=>C.lst (ints r))) U) U<|za (zc U) U<|za (zJ (f:=(fun r=>C.lst (ints r))) U) U<|za (zO U U) U<|zf<|zm U (fun q9=>?_) (fun q9=>?_)
   ·replace h:=h.1 (zj q9)
    exact zg<|zk (zl (n:=39) (σ':=[]) (env':=[]) U U trivial)<|zd<|za (ze U) U<|zf<|zA<|zr (zH U (zw U)) U U ⟨_,(zq _),_,h,U⟩
   ·replace h:=h.2 (zh q9)
    exact zu<|zg<|zk (zl (n:=39) (σ':=[]) (env':=[]) U U trivial)<|zd<|za (ze U) U<|zf<|zA<|zr (zH U (zw U)) U U ⟨_,(zq _),_,h,U⟩
theorem c_slices_CompareFunc_____int64_____int64___int64___int64_ (s1:List (List Int)) (s2:List (List Int)) (cmp_g:Nat) (cmp_c:List C) (cmp:List Int->List Int->Int) (cmp_D:List Int->List Int->Prop) (cmp_h : ∀ x0 x1,cmp_D x0 x1->AF Tryz.prog cmp_g ([.lst (ints x0),.lst (ints x1)] ++ cmp_c) (fun R_=>R_ = ci (cmp x0 x1))) (hp:small2 s1/\small2 s2/\∀ x_ y_:List Int,small x_->small y_->cmp_D x_ y_):AF Tryz.prog 82 [.lst (rows s1),.lst (rows s2),.clo cmp_g cmp_c] (fun R_=>R_ = ci (cmpG cmp s1 s2)):=
  (w_slices_CompareFunc_____int64_____int64___int64___int64_ s1 s2 cmp_g cmp_c cmp cmp_D cmp_h (fun y0=>y0 = cmpG cmp s1 s2) (p_slices_CompareFunc_____int64_____int64___int64___int64_ s1 s2 cmp cmp_D hp)).mono (by rintro r ⟨_,rfl,rfl⟩; rfl)
theorem w_impl_compareTables_1 (a:List Int) (b:List Int) (Q:Int->Prop) (h:wp_impl_compareTables_1 a b Q):AF Tryz.prog 83 [.lst (ints a),.lst (ints b)] (fun R_=>∃ y0,Q y0/\R_ = ci y0):=by
  refine zS (zM (n:=8) Tryz.func83 U (by rfl) U (zb U) ?_)
  unfold wp_impl_compareTables_1 at h
  refine zg<|zk (zl (n:=8) (σ':=[]) (env':=[(0,.c (.lst (ints a))),(1,.c (.lst (ints b)))]) U U E2)<|zd<|za (ze U) U<|zf<|zg<|zd<|za (zc U) U<|za (zc U) U ?_
  obtain⟨q1,h⟩:=h
  refine zn (zF (xs:=[.tmp 5,.tmp 6]) (ids:=[]) U U U U (c_slices_Compare___int64_int64_ a b q1) U ?_)
  rintro _ rfl
  refine⟨U,?_⟩
  exact za (ze U) U<|zf<|zA<|zr (zH U (zw U)) U U ⟨_,(zq _),_,h,U⟩
theorem c_impl_compareTables_1 (a:List Int) (b:List Int) (hp:small a/\small b):AF Tryz.prog 83 [.lst (ints a),.lst (ints b)] (fun R_=>R_ = ci (cmpG cmp1 a b)):=
  (w_impl_compareTables_1 a b (fun y0=>y0 = cmpG cmp1 a b) (p_impl_compareTables_1 a b hp)).mono (by rintro r ⟨_,rfl,rfl⟩; rfl)
theorem w_impl_compareTables (s:List (List Int)) (t:List (List Int)) (Q:Int->Prop) (h:wp_impl_compareTables s t Q):AF Tryz.prog 52 [.lst (rows s),.lst (rows t)] (fun R_=>∃ y0,Q y0/\R_ = ci y0):=by
  refine zS (zM (n:=8) Tryz.func52 U (by rfl) U (zb U) ?_)
  unfold wp_impl_compareTables at h
  refine zg<|zk (zl (n:=8) (σ':=[]) (env':=[(0,.c (.lst (rows s))),(1,.c (.lst (rows t)))]) U U E2)<|zd<|za (ze U) U<|zf<|zg<|zd<|za (zc U) U<|za (zc U) U ?_
  obtain⟨q1,h⟩:=h
  refine zn (zF (xs:=[.tmp 5,.tmp 6,.func 83]) (ids:=[]) U U U U (c_slices_CompareFunc_____int64_____int64___int64___int64_ s t 83 [] (fun z0 z1=>cmpG cmp1 z0 z1) (fun z0 z1=>small z0/\small z1) (fun z0 z1 hD=>c_impl_compareTables_1 z0 z1 hD) q1) U ?_)
  rintro _ rfl
  refine⟨U,?_⟩
  exact za (ze U) U<|zf<|zA<|zr (zH U (zw U)) U U ⟨_,(zq _),_,h,U⟩
theorem c_impl_compareTables (s:List (List Int)) (t:List (List Int)) (hp:small2 s/\small2 t):AF Tryz.prog 52 [.lst (rows s),.lst (rows t)] (fun R_=>R_ = ci (cmpT s t)):=
  (w_impl_compareTables s t (fun y0=>y0 = cmpT s t) (p_impl_compareTables s t hp)).mono (by rintro r ⟨_,rfl,rfl⟩; rfl)
theorem w_spec_l01Less (a:List Int) (b:List Int) (Q:Bool->Prop) (h:wp_spec_l01Less a b Q):AF Tryz.prog 74 [.lst (ints a),.lst (ints b)] (fun R_=>∃ y0,Q y0/\R_ = cb y0):=by
  refine zS (zM (n:=41) Tryz.func74 U (by rfl) U (zb U) ?_)
  unfold wp_spec_l01Less at h
  refine zg<|zk (zl (n:=41) (σ':=[]) (env':=[(0,.c (.lst (ints a))),(1,.c (.lst (ints b)))]) U U E2)<|zd<|za (ze U) U<|zf<|zg<|zg<|zd<|za (ze U) U<|zf<|zt ?_
  obtain⟨H1,m1,q1,h⟩:=h
  refine yy (fun (v5_1:Int)=>⟨[],[(0,.c (.lst (ints a))),(1,.c (.lst (ints b))),(5,.c (ci v5_1))],41⟩) H1 m1 ⟨0,zv (n:=41) U U E3,q1⟩ ?_
  rintro v5_1 q1
  replace h:=h v5_1 q1
  refine zg<|zg<|zd<|za (zc U) U<|za (zc U) U<|za (zJ (f:=ci) U) U<|za (zO U U) U<|za (zc U) U<|zX (s:=10) U (fun q2=>?_) (fun q2=>?_)
  ·replace h:=h.1 (zj q2)
   refine zE U U q2<|za (zc U) U<|zE U U q2<|za (zc U) U<|zE U U q2<|za (zJ (f:=ci) U) U<|zE U U q2<|za (zO U U) U<|za (zU U q2 U) U<|zf<|zm U (fun q3=>?_) (fun q3=>?_)
   ·replace h:=h.1 (zj q3)
    refine zu<|zg<|zt<|zg<|zk (zl (n:=41) (σ':=[]) (env':=[(0,.c (.lst (ints a))),(1,.c (.lst (ints b))),(5,.c (ci v5_1)),(11,.c (ci v5_1)),(12,.c (.lst (ints b))),(13,.c (ci (b.length:Int))),(14,.c (cb (decide (v5_1 < (b.length:Int)))))]) U U E7)<|zP (kd:=kdl [0,0,0,1,0,0,0,1,0]) (ord:=[0,1,2,4,5,6,3,7,8]) [] mixed (by kernel_rfl)<|zp U U trivial (zc U) U<|zp U U trivial (zc U) U ?_
    obtain⟨q4,h⟩:=h
    refine zp U U trivial (zB U U q4) U<|zp U U trivial (zc U) U<|zp U U trivial (zc U) U ?_
    obtain⟨q5,h⟩:=h
    refine zp U U trivial (zB U U q5) U<|zY U U trivial (zx (f:=ci) U q4) U<|zY U U trivial (zx (f:=ci) U q5) U<|zp U U trivial (yQ U U) U<|yh<|zm U (fun q6=>?_) (fun q6=>?_)
    ·replace h:=h.1 (zh (ya q6))
     refine zg<|zk (zl (n:=41) (σ':=[]) (env':=[(0,.c (.lst (ints a))),(1,.c (.lst (ints b))),(5,.c (ci v5_1))]) U U E3)<|zP (kd:=kdl [0,0,0,1,0,0,0,1,0,0]) (ord:=[0,1,2,4,5,6,3,7,8,9]) [] mixed (by kernel_rfl)<|zp U U trivial (zc U) U<|zp U U trivial (zc U) U ?_
     obtain⟨q7,h⟩:=h
     refine zp U U trivial (zB U U q7) U<|zp U U trivial (zc U) U<|zp U U trivial (zc U) U ?_
     obtain⟨q8,h⟩:=h
     exact zp U U trivial (zB U U q8) U<|zY U U trivial (zx (f:=ci) U q7) U<|zY U U trivial (zx (f:=ci) U q8) U<|zp U U trivial (zO U U) U<|zp U U trivial (ze U) U<|yh<|zA<|zr (zH U (zw U)) U U ⟨_,(zq _),_,h,U⟩
    ·replace h:=h.2 (zj (yb q6))
     refine zu<|zk (zl (n:=41) (σ':=[]) (env':=[(0,.c (.lst (ints a))),(1,.c (.lst (ints b))),(5,.c (ci v5_1)),(11,.c (ci v5_1)),(12,.c (.lst (ints b))),(13,.c (ci (b.length:Int))),(14,.c (cb (decide (v5_1 < (b.length:Int)))))]) U U E7)<|zd<|za (zc U) U ?_
     obtain⟨q9,h⟩:=h
     exact za (zG U U q9) U<|za (ze U) U<|zf<|⟨v5_1 + 1,zv (n:=41) U U E3,h.1,h.2⟩
   ·replace h:=h.2 (zh q3)
    exact zL<|zg<|zk (zl (n:=41) (σ':=[]) (env':=[(0,.c (.lst (ints a))),(1,.c (.lst (ints b)))]) U U E2)<|zd<|za (zc U) U<|za (zJ (f:=ci) U) U<|za (zc U) U<|za (zJ (f:=ci) U) U<|za (zO U U) U<|za (ze U) U<|zf<|zA<|zr (zH U (zw U)) U U ⟨_,(zq _),_,h,U⟩
  ·replace h:=h.2 (zh q2)
   refine zC U U q2 U<|zC U U q2 U<|zC U U q2 U<|zC U U q2 U<|za (zV U q2 U) U<|zf<|zm U (fun q10=>?_) (fun q10=>?_)
   ·cases q10
   ·skip
    exact zL<|zg<|zk (zl (n:=41) (σ':=[]) (env':=[(0,.c (.lst (ints a))),(1,.c (.lst (ints b)))]) U U E2)<|zd<|za (zc U) U<|za (zJ (f:=ci) U) U<|za (zc U) U<|za (zJ (f:=ci) U) U<|za (zO U U) U<|za (ze U) U<|zf<|zA<|zr (zH U (zw U)) U U ⟨_,(zq _),_,h,U⟩
theorem c_spec_l01Less (a:List Int) (b:List Int) (hp:small a/\small b):AF Tryz.prog 74 [.lst (ints a),.lst (ints b)] (fun R_=>R_ = cb (decide (cmpG cmp1 a b < 0))):=
  (w_spec_l01Less a b (fun y0=>y0 = decide (cmpG cmp1 a b < 0)) (p_spec_l01Less a b hp)).mono (by rintro r ⟨_,rfl,rfl⟩; rfl)
theorem w_impl_nextPermutation (p:List Int) (Q:Bool->List Int->Prop) (h:wp_impl_nextPermutation p Q):AM Tryz.prog 78 [.own (ints p)] (fun R_ O_=>∃ y0 w0,Q y0 w0/\R_ = cb y0/\O_ = [.own (ints w0)]):=by
  refine xj (n:=59) (m:=1) Tryz.func78 U (by rfl) U U (zb U) [800] U ?_
  unfold wp_impl_nextPermutation at h
  refine zg<|zk (zl (n:=59) (σ':=[(800,⟨ints p,[]⟩)]) (env':=[(0,.ref 800),(59,.ref 800)]) U U E2)<|zd<|za (ze U) U<|zf<|zg<|zd<|za (zc U) U<|za (yR (f:=ci) U U) U ?_
  obtain⟨q1,h⟩:=h
  refine za (yS U U q1) U<|za (ze U) U<|zf<|zg<|zt ?_
  obtain⟨H1,m1,q2,h⟩:=h
  refine yy (fun (v3_1:Int)=>⟨[(800,⟨ints p,[]⟩)],[(0,.ref 800),(3,.c (ci v3_1)),(59,.ref 800)],59⟩) H1 m1 ⟨(p.length:Int) - 2,zv (n:=59) U U E3,q2⟩ ?_
  rintro v3_1 q2
  replace h:=h v3_1 q2
  refine zg<|zg<|zk (zl (n:=59) (σ':=[(800,⟨ints p,[]⟩)]) (env':=[(0,.ref 800),(3,.c (ci v3_1)),(59,.ref 800)]) U U E3)<|zP (kd:=kdl [0,0,0,0,0,0,1,0,0,0,0,1,0,0]) (ord:=[0,1,2,3,4,5,7,8,9,10,6,11,12,13]) [] mixed (by kernel_rfl)<|zp U U trivial (zc U) U<|zp U U trivial (xl U U) U<|zp U U trivial (zc U) U<|xh (s:=10) U (fun q3=>?_) (fun q3=>?_)
  ·replace h:=h.1 (zj q3)
   refine zp U U ⟨_,_,U,U,q3⟩ (zc U) U<|zp U U ⟨_,_,U,U,q3⟩ (zc U) U ?_
   obtain⟨q4,h⟩:=h
   refine zp U U ⟨_,_,U,U,q3⟩ (zR (f:=ci) U U U q4) U<|zp U U ⟨_,_,U,U,q3⟩ (zc U) U<|zp U U ⟨_,_,U,U,q3⟩ (zc U) U ?_
   obtain⟨q5,h⟩:=h
   refine zp U U ⟨_,_,U,U,q3⟩ (zG U U q5) U ?_
   obtain⟨q6,h⟩:=h
   refine zp U U ⟨_,_,U,U,q3⟩ (zR (f:=ci) U U U q6) U<|zY U U ⟨_,_,U,U,q3⟩ (yi (f:=ci) U U q4 U U) U<|zY U U ⟨_,_,U,U,q3⟩ (yi (f:=ci) U U q6 U U) U<|zp U U ⟨_,_,U,U,q3⟩ (ss_gtr U U) U<|zp U U trivial (zU U q3 U) U<|yh<|zm U (fun q7=>?_) (fun q7=>?_)
   ·replace h:=h.1 (zj q7)
    refine zu<|zt<|zk (zl (n:=59) (σ':=[(800,⟨ints p,[]⟩)]) (env':=[(0,.ref 800),(3,.c (ci v3_1)),(11,.ref 800),(12,.c (ci v3_1)),(13,.cell 800 v3_1.toNat),(14,.c (ci (el p v3_1))),(15,.ref 800),(16,.c (ci v3_1)),(17,.c (ci (v3_1 + 1))),(18,.cell 800 (v3_1 + 1).toNat),(19,.c (ci (el p (v3_1 + 1)))),(20,.c (cb (decide (el p (v3_1 + 1) < el p v3_1)))),(59,.ref 800)]) U U ⟨U,U,U,U,U,U,U,U,U,U,U,U,U,trivial⟩)<|zd<|za (zc U) U ?_
    obtain⟨q8,h⟩:=h
    exact za (yS U U q8) U<|za (ze U) U<|zf<|⟨v3_1 - 1,zv (n:=59) U U E3,h.1,h.2⟩
   ·replace h:=h.2 (zh q7)
    refine zL<|zg<|zg<|zk (zl (n:=59) (σ':=[(800,⟨ints p,[]⟩)]) (env':=[(0,.ref 800),(3,.c (ci v3_1)),(59,.ref 800)]) U U E3)<|zd<|za (zc U) U<|za (zO U U) U<|zf<|zm U (fun q9=>?_) (fun q9=>?_)
    ·replace h:=h.1 (zj q9)
     exact zg<|zk (zl (n:=59) (σ':=[(800,⟨ints p,[]⟩)]) (env':=[(59,.ref 800)]) U U E1)<|zd<|za (ze U) U<|zf<|zA<|ym (zH U (zw U)) U U U ⟨_,_,h,U,U⟩
    ·replace h:=h.2 (zh q9)
     refine zu<|zg<|zd<|za (zc U) U<|za (yR (f:=ci) U U) U ?_
     obtain⟨q10,h⟩:=h
     refine za (yS U U q10) U<|za (ze U) U<|zf<|zg<|zt ?_
     obtain⟨H2,m2,q11,h⟩:=h
     refine yy (fun (v4_2:Int)=>⟨[(800,⟨ints p,[]⟩)],[(0,.ref 800),(3,.c (ci v3_1)),(4,.c (ci v4_2)),(59,.ref 800)],59⟩) H2 m2 ⟨(p.length:Int) - 1,zv (n:=59) U U E4,q11⟩ ?_
     rintro v4_2 q11
     replace h:=h v4_2 q11
     refine zg<|zg<|zk (zl (n:=59) (σ':=[(800,⟨ints p,[]⟩)]) (env':=[(0,.ref 800),(3,.c (ci v3_1)),(4,.c (ci v4_2)),(59,.ref 800)]) U U E4)<|zP (kd:=kdl [0,0,0,1,0,0,0,1,0]) (ord:=[0,1,2,4,5,6,3,7,8]) [] mixed (by kernel_rfl)<|zp U U trivial (zc U) U<|zp U U trivial (zc U) U ?_
     obtain⟨q12,h⟩:=h
     refine zp U U trivial (zR (f:=ci) U U U q12) U<|zp U U trivial (zc U) U<|zp U U trivial (zc U) U ?_
     obtain⟨q13,h⟩:=h
     refine zp U U trivial (zR (f:=ci) U U U q13) U<|zY U U trivial (yi (f:=ci) U U q12 U U) U<|zY U U trivial (yi (f:=ci) U U q13 U U) U<|zp U U trivial (zO U U) U<|yh<|zm U (fun q14=>?_) (fun q14=>?_)
     ·replace h:=h.1 (zj q14)
      refine zu<|zt<|zk (zl (n:=59) (σ':=[(800,⟨ints p,[]⟩)]) (env':=[(0,.ref 800),(3,.c (ci v3_1)),(4,.c (ci v4_2)),(59,.ref 800)]) U U E4)<|zd<|za (zc U) U ?_
      obtain⟨q15,h⟩:=h
      exact za (yS U U q15) U<|za (ze U) U<|zf<|⟨v4_2 - 1,zv (n:=59) U U E4,h.1,h.2⟩
     ·replace h:=h.2 (zh q14)
      refine zL<|zg<|zk (zl (n:=59) (σ':=[(800,⟨ints p,[]⟩)]) (env':=[(0,.ref 800),(3,.c (ci v3_1)),(4,.c (ci v4_2)),(59,.ref 800)]) U U E4)<|zP (kd:=kdl [0,0,0,0,0,0,0,1,0,0,0,1,0,3,0,3]) (ord:=[0,1,2,3,4,5,6,8,9,10,7,11,12,13,14,15]) [] mixed (by kernel_rfl)<|zp U U trivial (zc U) U<|zp U U trivial (zc U) U<|zp U U trivial (zc U) U<|zp U U trivial (zc U) U<|zp U U trivial (zc U) U<|zp U U trivial (zc U) U ?_
      obtain⟨q16,h⟩:=h
      refine zp U U trivial (zR (f:=ci) U U U q16) U<|zp U U trivial (zc U) U<|zp U U trivial (zc U) U ?_
      obtain⟨q17,h⟩:=h
      refine zp U U trivial (zR (f:=ci) U U U q17) U<|zY U U trivial (yi (f:=ci) U U q16 U U) U<|zY U U trivial (yi (f:=ci) U U q17 U U) U ?_
      obtain⟨q18,h⟩:=h
      refine zp U U trivial (zR (f:=ci) U U U q18) U<|xq U U trivial (yo U U (yN q18) U U (yO (f:=ci)) U ⟨U,?_⟩)
      obtain⟨q19,h⟩:=h
      refine zp U U trivial (zR (f:=ci) U U U q19) U<|xq U U trivial (yo U U (yN q19) U U (yO (f:=ci)) U ⟨U,?_⟩)
      refine yh<|zg<|zk (zl (n:=59) (σ':=[(800,⟨ints (se (se p v3_1 (el p v4_2)) v4_2 (el p v3_1)),[]⟩)]) (env':=[(0,.ref 800),(3,.c (ci v3_1)),(59,.ref 800)]) U U E3)<|zd<|za (zc U) U<|za (zc U) U ?_
      obtain⟨q20,h⟩:=h
      refine za (zG U U q20) U ?_
      obtain⟨q21,h⟩:=h
      obtain⟨q22,h⟩:=h
      exact run_part (F:=List.reverse) at_Reverse U U U q21 q22 U U U<|zf<|zg<|zk (zl (n:=59) (σ':=[(800,⟨ints ((se (se p v3_1 (el p v4_2)) v4_2 (el p v3_1)).take (v3_1 + 1).toNat ++ List.reverse ((se (se p v3_1 (el p v4_2)) v4_2 (el p v3_1)).drop (v3_1 + 1).toNat)),[]⟩)]) (env':=[(59,.ref 800)]) U U E1)<|zd<|za (ze U) U<|zf<|zA<|ym (zH U (zw U)) U U U ⟨_,_,h,U,U⟩
  ·replace h:=h.2 (zh q3)
   refine zW U U U q3 U<|zW U U U q3 U<|zW U U U q3 U<|zW U U U q3 U<|zW U U U q3 U<|zW U U U q3 U<|zW U U U q3 U<|zW U U U q3 U<|zW U U U q3 U<|zW U U U q3 U<|zp U U trivial (zV U q3 U) U<|yh<|zm U (fun q23=>?_) (fun q23=>?_)
   ·cases q23
   ·skip
    refine zL<|zg<|zg<|zk (zl (n:=59) (σ':=[(800,⟨ints p,[]⟩)]) (env':=[(0,.ref 800),(3,.c (ci v3_1)),(59,.ref 800)]) U U E3)<|zd<|za (zc U) U<|za (zO U U) U<|zf<|zm U (fun q24=>?_) (fun q24=>?_)
    ·replace h:=h.1 (zj q24)
     exact zg<|zk (zl (n:=59) (σ':=[(800,⟨ints p,[]⟩)]) (env':=[(59,.ref 800)]) U U E1)<|zd<|za (ze U) U<|zf<|zA<|ym (zH U (zw U)) U U U ⟨_,_,h,U,U⟩
    ·replace h:=h.2 (zh q24)
     refine zu<|zg<|zd<|za (zc U) U<|za (yR (f:=ci) U U) U ?_
     obtain⟨q25,h⟩:=h
     refine za (yS U U q25) U<|za (ze U) U<|zf<|zg<|zt ?_
     obtain⟨H3,m3,q26,h⟩:=h
     refine yy (fun (v4_2:Int)=>⟨[(800,⟨ints p,[]⟩)],[(0,.ref 800),(3,.c (ci v3_1)),(4,.c (ci v4_2)),(59,.ref 800)],59⟩) H3 m3 ⟨(p.length:Int) - 1,zv (n:=59) U U E4,q26⟩ ?_
     rintro v4_2 q26
     replace h:=h v4_2 q26
     refine zg<|zg<|zk (zl (n:=59) (σ':=[(800,⟨ints p,[]⟩)]) (env':=[(0,.ref 800),(3,.c (ci v3_1)),(4,.c (ci v4_2)),(59,.ref 800)]) U U E4)<|zP (kd:=kdl [0,0,0,1,0,0,0,1,0]) (ord:=[0,1,2,4,5,6,3,7,8]) [] mixed (by kernel_rfl)<|zp U U trivial (zc U) U<|zp U U trivial (zc U) U ?_
     obtain⟨q27,h⟩:=h
     refine zp U U trivial (zR (f:=ci) U U U q27) U<|zp U U trivial (zc U) U<|zp U U trivial (zc U) U ?_
     obtain⟨q28,h⟩:=h
     refine zp U U trivial (zR (f:=ci) U U U q28) U<|zY U U trivial (yi (f:=ci) U U q27 U U) U<|zY U U trivial (yi (f:=ci) U U q28 U U) U<|zp U U trivial (zO U U) U<|yh<|zm U (fun q29=>?_) (fun q29=>?_)
     ·replace h:=h.1 (zj q29)
      refine zu<|zt<|zk (zl (n:=59) (σ':=[(800,⟨ints p,[]⟩)]) (env':=[(0,.ref 800),(3,.c (ci v3_1)),(4,.c (ci v4_2)),(59,.ref 800)]) U U E4)<|zd<|za (zc U) U ?_
      obtain⟨q30,h⟩:=h
      exact za (yS U U q30) U<|za (ze U) U<|zf<|⟨v4_2 - 1,zv (n:=59) U U E4,h.1,h.2⟩
     ·replace h:=h.2 (zh q29)
      refine zL<|zg<|zk (zl (n:=59) (σ':=[(800,⟨ints p,[]⟩)]) (env':=[(0,.ref 800),(3,.c (ci v3_1)),(4,.c (ci v4_2)),(59,.ref 800)]) U U E4)<|zP (kd:=kdl [0,0,0,0,0,0,0,1,0,0,0,1,0,3,0,3]) (ord:=[0,1,2,3,4,5,6,8,9,10,7,11,12,13,14,15]) [] mixed (by kernel_rfl)<|zp U U trivial (zc U) U<|zp U U trivial (zc U) U<|zp U U trivial (zc U) U<|zp U U trivial (zc U) U<|zp U U trivial (zc U) U<|zp U U trivial (zc U) U ?_
      obtain⟨q31,h⟩:=h
      refine zp U U trivial (zR (f:=ci) U U U q31) U<|zp U U trivial (zc U) U<|zp U U trivial (zc U) U ?_
      obtain⟨q32,h⟩:=h
      refine zp U U trivial (zR (f:=ci) U U U q32) U<|zY U U trivial (yi (f:=ci) U U q31 U U) U<|zY U U trivial (yi (f:=ci) U U q32 U U) U ?_
      obtain⟨q33,h⟩:=h
      refine zp U U trivial (zR (f:=ci) U U U q33) U<|xq U U trivial (yo U U (yN q33) U U (yO (f:=ci)) U ⟨U,?_⟩)
      obtain⟨q34,h⟩:=h
      refine zp U U trivial (zR (f:=ci) U U U q34) U<|xq U U trivial (yo U U (yN q34) U U (yO (f:=ci)) U ⟨U,?_⟩)
      refine yh<|zg<|zk (zl (n:=59) (σ':=[(800,⟨ints (se (se p v3_1 (el p v4_2)) v4_2 (el p v3_1)),[]⟩)]) (env':=[(0,.ref 800),(3,.c (ci v3_1)),(59,.ref 800)]) U U E3)<|zd<|za (zc U) U<|za (zc U) U ?_
      obtain⟨q35,h⟩:=h
      refine za (zG U U q35) U ?_
      obtain⟨q36,h⟩:=h
      obtain⟨q37,h⟩:=h
      exact run_part (F:=List.reverse) at_Reverse U U U q36 q37 U U U<|zf<|zg<|zk (zl (n:=59) (σ':=[(800,⟨ints ((se (se p v3_1 (el p v4_2)) v4_2 (el p v3_1)).take (v3_1 + 1).toNat ++ List.reverse ((se (se p v3_1 (el p v4_2)) v4_2 (el p v3_1)).drop (v3_1 + 1).toNat)),[]⟩)]) (env':=[(59,.ref 800)]) U U E1)<|zd<|za (ze U) U<|zf<|zA<|ym (zH U (zw U)) U U U ⟨_,_,h,U,U⟩
theorem c_impl_nextPermutation (p:List Int) (hp:isPerm p = true/\(p.length:Int)<=12):AM Tryz.prog 78 [.own (ints p)] (fun R_ O_=>∃ y0 w0,((y0 = true/\∃ i_ k_,NxI p i_ k_/\w0 = nxtL p i_ k_)\/(y0 = false/\w0 = p/\∀ j_:Int,-1 < j_->j_ + 1 < (p.length:Int)->el p (j_ + 1) < el p j_))/\R_ = cb y0/\O_ = [.own (ints w0)]):=
  w_impl_nextPermutation p (fun y0 w0=>(y0 = true/\∃ i_ k_,NxI p i_ k_/\w0 = nxtL p i_ k_)\/(y0 = false/\w0 = p/\∀ j_:Int,-1 < j_->j_ + 1 < (p.length:Int)->el p (j_ + 1) < el p j_)) (p_impl_nextPermutation p hp)
/-- The iterator of impl.permutations yields the permutations in order. -/
theorem sq_permutations (n:Int) (hp:0<=n/\n<=12):SeqA Tryz.prog 76 [.ptr [ci n]] ((growL n []).map fun p_=>.lst (ints p_)):=by
  have hfirst:=growL_first hp.1
  have hpos:0 < (growL n []).length:=(List.getElem?_eq_some_iff.1 hfirst).1
  have hat : ∀ k,k < (growL n []).length->(growL n [])[k]? = some ((growL n []).getD k []):=fun k hk=>by
    rw [List.getD_eq_getElem?_getD,List.getElem?_eq_getElem hk]; rfl
  have hfz : ∀ l:List Int,frzL (ints l) = ints l:=fun l=>by
    induction l with
    | nil=>rfl
    | cons x l ih=>show frzL (ci x :: ints l) = _; simp only [frzL,ih]; rfl
  refine seq_loop (n:=12) (id:=5) (N:=(growL n []).length)
    (fun l k=>⟨[(5,⟨ints ((growL n []).getD k []),[]⟩)],[(0,.c (.val (yv l))),(1,.c (.ptr [ci n])),(3,.ref 5)],12⟩)
    (fun k=>ints ((growL n []).getD k [])) Tryz.func76 rfl (by rfl) rfl (Nat.le_of_ble_eq_true rfl) rfl hpos (by simp) (fun _ _=>rfl) ⟨by decide,by decide,by decide⟩
    (fun _ _=>rfl) (fun _ _=>rfl) (fun _ _=>rfl) (fun _ _=>rfl) (fun _ _ _=>rfl) (fun k hk=>?_) (fun l=>?_) (fun l k hk=>?_) (fun l k hk=>?_)
  · rw [List.getElem?_map,hat k hk,hfz]; rfl
  · -- the first permutation
    refine aw_region ?_
    refine run_s (ss_load_ptr rfl rfl) rfl ?_
    refine run_w (ws_call (xs:=[.tmp 4]) (ids:=[5]) rfl rfl rfl rfl (c_impl_identity n ⟨hp.1,by omega⟩) rfl ?_)
    rintro _ rfl
    refine⟨rfl,?_⟩
    refine run_s (ss_assign rfl) rfl ?_
    refine run_nil ?_
    have e:(growL n []).getD 0 [] = unitI n:=by rw [List.getD_eq_getElem?_getD,hfirst]; rfl
    refine⟨[],?_⟩
    rw [e]
    exact gh_to (n:=12) (σ':=[(5,⟨ints (unitI n),[]⟩)]) (env':=[(0,.c (.val (yv l))),(1,.c (.ptr [ci n])),(3,.ref 5)]) rfl rfl ⟨rfl,rfl,rfl,trivial⟩
  · obtain⟨pl,pP⟩:=growL_perm hp.1 (List.mem_of_getElem? (hat k hk))
    have hk2:=hat k hk
    generalize hpe:(growL n []).getD k [] = p at *
    refine aw_cond rfl (fun _=>?_) (fun q=>by cases q)
    refine aw_skip ?_
    refine aw_block ?_
    refine aw_seq ?_
    refine aw_gh (gh_to (n:=12) (σ':=[(5,⟨ints p,[]⟩)]) (env':=[(0,.c (.val (yv l))),(1,.c (.ptr [ci n])),(3,.ref 5)]) rfl rfl ⟨rfl,rfl,rfl,trivial⟩) ?_
    refine aw_region ?_
    refine run_s (ss_move rfl) rfl ?_
    refine run_w (ws_callM (xs:=[.tmp 9]) (cs:=[.own (ints p)]) (ids:=[]) rfl (.inr ⟨rfl,rfl⟩) rfl rfl rfl (c_impl_nextPermutation p ⟨pP,by omega⟩) rfl rfl ?_)
    rintro _ _ ⟨r0,o0,q,rfl,rfl⟩
    refine⟨rfl,rfl,?_⟩
    refine run_s (ss_not rfl) rfl ?_
    refine run_nil ?_
    rcases q with ⟨rfl,i,j,hx,rfl⟩ | ⟨rfl,rfl,hx⟩
    · refine aw_cond rfl (fun q=>by cases q) (fun _=>?_)
      refine aw_skip ?_
      have h1:=growL_next hp.1 hk2 hx
      refine⟨(List.getElem?_eq_some_iff.1 h1).1,[],?_⟩
      have e:(growL n []).getD (k + 1) [] = nxtL p i j:=by rw [List.getD_eq_getElem?_getD,h1]; rfl
      show Gh [] _ ⟨[(5,⟨ints ((growL n []).getD (k + 1) []),[]⟩)],_,12⟩
      rw [e]
      exact gh_to (n:=12) (σ':=[(5,⟨ints (nxtL p i j),[]⟩)]) (env':=[(0,.c (.val (yv l))),(1,.c (.ptr [ci n])),(3,.ref 5)]) rfl rfl ⟨rfl,rfl,rfl,trivial⟩
    · refine aw_cond rfl (fun _=>?_) (fun q=>by cases q)
      refine aw_ret ?_
      exact growL_last hp.1 hk2 hx
  · refine aw_cond rfl (fun q=>by cases q) (fun _=>?_)
    exact aw_exit rfl
theorem c_impl_permutations (n:Int) (_hp:0<=n/\n<=12):AF Tryz.prog 50 [ci n] (fun R_=>R_ = .clo 76 [.ptr [ci n]]):=by
  refine zM (n:=4) Tryz.func50 U (by rfl) U (zb U)<|zg<|zk (zl (n:=4) (σ':=[]) (env':=[(0,.c (ci n))]) U U E1)<|zd<|zn (y8 U (.inr U) U ⟨U,?_⟩)
  exact za (ze U) U<|zf<|zg<|zd<|za (ss_makeFunc (os:=[.tmp 1]) U) U<|za (ze U) U<|zf<|zA<|zr (zH U (zw U)) U U U
theorem w_impl_cloneTable (t:List (List Int)) (Q:List (List Int)->Prop) (h:wp_impl_cloneTable t Q):AF Tryz.prog 49 [.lst (rows t)] (fun R_=>∃ y0,Q y0/\R_ = .own (orows y0)):=by
  refine zS (zM (n:=23) Tryz.func49 U (by rfl) U (zb U) ?_)
  unfold wp_impl_cloneTable at h
  refine zg<|zk (zl (n:=23) (σ':=[]) (env':=[(0,.c (.lst (rows t)))]) U U E1)<|zd<|za (ze U) U<|zf<|zg<|zd<|za (zc U) U<|za (zJ (f:=(fun r=>C.lst (ints r))) U) U ?_
  obtain⟨q1,h⟩:=h
  refine zn (ws_makeSlice (id:=8) U U q1 (zb U) U ⟨U,?_⟩)
  refine yF (gh_weakR (id:=8) (f:=(fun r=>C.own (ints r))) U yK)<|za (ze U) U<|zf<|zg<|zg<|zd<|za (zc U) U<|za (zJ (f:=(fun r=>C.lst (ints r))) U) U<|za (zc U) U<|zf<|zt ?_
  obtain⟨H1,m1,q2,h⟩:=h
  refine ye (fun (v11_1:Int) (o8_1:List (List Int))=>⟨[(8,⟨orows o8_1,[]⟩)],[(3,.ref 8),(9,.c (.lst (rows t))),(10,.c (ci (t.length:Int))),(11,.c (ci v11_1))],23⟩) H1 m1 ⟨0,List.replicate (t.length:Int).toNat ([] : List Int),zv (n:=23) U U E4,q2⟩ ?_
  rintro v11_1 o8_1 q2
  replace h:=h v11_1 o8_1 q2
  refine zg<|zd<|za (zO U U) U<|zf<|zg<|zm U (fun q3=>?_) (fun q3=>?_)
  ·replace h:=h.1 (zj q3)
   refine zu<|zg<|zt<|zg<|zd<|za (zc U) U ?_
   obtain⟨q4,h⟩:=h
   refine za (zB U U q4) U<|za (zx (f:=(fun r=>C.lst (ints r))) U q4) U<|za (ze U) U<|za (ze U) U<|zf<|zd<|za (zc U) U<|za (zc U) U<|za (zc U) U ?_
   obtain⟨q5,h⟩:=h
   refine zn (zF (xs:=[.tmp 18]) (ids:=[19]) U U U U (c_k_Clone (el t v11_1) q5) U ?_)
   rintro _ rfl
   refine⟨U,?_⟩
   obtain⟨q7,h⟩:=h
   refine za (zR (f:=(fun r=>C.own (ints r))) U U U q7) U<|zn (ws_storeV U U (yN q7) U U U U ⟨U,?_⟩)
   refine zf<|zk (zl (n:=23) (σ':=[(19,⟨ints (el t v11_1),[]⟩),(8,⟨(orows o8_1).set v11_1.toNat .hole,[(v11_1.toNat,.ref 19)]⟩)]) (env':=[(3,.ref 8),(9,.c (.lst (rows t))),(10,.c (ci (t.length:Int))),(11,.c (ci v11_1))]) U U E4)<|zd ?_
   obtain⟨q8,h⟩:=h
   exact za (zG U U q8) U<|za (zc U) U<|zf<|⟨v11_1 + 1,se o8_1 v11_1 (el t v11_1),zQ (gh_fillA (id:=8) (id2:=19) (f:=(fun r=>C.own (ints r))) (v:=(el t v11_1)) U xe U q7 U U kr_self) (zv (n:=23) U U E4),h.1,h.2⟩
  ·replace h:=h.2 (zh q3)
   exact zL<|zg<|zd<|za (zc U) U<|za (ze U) U<|zf<|zA<|zr (zH U (zw U)) U U ⟨_,(zq _),_,h,U⟩
theorem c_impl_cloneTable (t:List (List Int)) (hp:small2 t):AF Tryz.prog 49 [.lst (rows t)] (fun R_=>R_ = .own (orows t)):=
  (w_impl_cloneTable t (fun y0=>y0 = t) (p_impl_cloneTable t hp)).mono (by rintro r ⟨_,rfl,rfl⟩; rfl)
theorem w_impl_renamed_1 (u:Int) (v:Int) (p:List Int) (t:List (List Int)) (back:List Int) (Q:Int->Prop) (h:wp_impl_renamed_1 u v p t back Q):AF Tryz.prog 81 [ci u,ci v,.ptr [.lst (ints p)],.ptr [.lst (rows t)],.ptr [.lst (ints back)]] (fun R_=>∃ y0,Q y0/\R_ = ci y0):=by
  refine zS (zM (n:=24) Tryz.func81 U (by rfl) U (zb U) ?_)
  unfold wp_impl_renamed_1 at h
  refine zg<|zk (zl (n:=24) (σ':=[]) (env':=[(0,.c (ci u)),(1,.c (ci v)),(2,.c (.ptr [.lst (ints p)])),(3,.c (.ptr [.lst (rows t)])),(4,.c (.ptr [.lst (ints back)]))]) U U E5)<|zd<|za (ze U) U<|zf<|zg<|zk (zl (n:=24) (σ':=[]) (env':=[(0,.c (ci u)),(1,.c (ci v)),(2,.c (.ptr [.lst (ints p)])),(3,.c (.ptr [.lst (rows t)])),(4,.c (.ptr [.lst (ints back)])),(7,.c (ci 0))]) U U E6)<|zP (kd:=kdl [1,1,1,0,0,1,0,1,1,0,0,1,0,1,0,1,0]) (ord:=[3,9,0,1,2,4,5,6,7,8,10,11,12,13,14,15,16]) [] mixed (by kernel_rfl)<|zp U U trivial (zc U) U<|zp U U trivial (zc U) U<|zY U U trivial (zZ U U) U<|zY U U trivial (zZ U U) U<|zY U U trivial (zZ U U) U ?_
  obtain⟨q1,h⟩:=h
  refine zp U U trivial (zB U U q1) U<|zY U U trivial (zx (f:=ci) U q1) U ?_
  obtain⟨q2,h⟩:=h
  refine zp U U trivial (zB U U q2) U<|zY U U trivial (zx (f:=(fun r=>C.lst (ints r))) U q2) U<|zY U U trivial (zZ U U) U ?_
  obtain⟨q3,h⟩:=h
  refine zp U U trivial (zB U U q3) U<|zY U U trivial (zx (f:=ci) U q3) U ?_
  obtain⟨q4,h⟩:=h
  refine zp U U trivial (zB U U q4) U<|zY U U trivial (zx (f:=ci) U q4) U ?_
  obtain⟨q5,h⟩:=h
  exact zp U U trivial (zB U U q5) U<|zY U U trivial (zx (f:=ci) U q5) U<|zp U U trivial (ze U) U<|yh<|zA<|zr (zH U (zw U)) U U ⟨_,(zq _),_,h,U⟩
theorem c_impl_renamed_1 (u:Int) (v:Int) (p:List Int) (t:List (List Int)) (back:List Int) (hp:isTab t = true/\p.length = t.length/\back.length = t.length/\isPerm p = true/\isPerm back = true/\(0<=u/\u < (t.length:Int))/\0<=v/\v < (t.length:Int)):AF Tryz.prog 81 [ci u,ci v,.ptr [.lst (ints p)],.ptr [.lst (rows t)],.ptr [.lst (ints back)]] (fun R_=>R_ = ci (el p (el (el t (el back u)) (el back v)))):=
  (w_impl_renamed_1 u v p t back (fun y0=>y0 = el p (el (el t (el back u)) (el back v))) (p_impl_renamed_1 u v p t back hp)).mono (by rintro r ⟨_,rfl,rfl⟩; rfl)
theorem w_impl_renamed (t:List (List Int)) (p:List Int) (Q:List (List Int)->Prop) (h:wp_impl_renamed t p Q):AF Tryz.prog 51 [.lst (rows t),.lst (ints p)] (fun R_=>∃ y0,Q y0/\R_ = .own (orows y0)):=by
  refine zS (zM (n:=12) Tryz.func51 U (by rfl) U (zb U) ?_)
  unfold wp_impl_renamed at h
  refine zg<|zk (zl (n:=12) (σ':=[]) (env':=[(0,.c (.lst (rows t))),(1,.c (.lst (ints p)))]) U U E2)<|zd<|zn (y8 U (.inr U) U ⟨U,?_⟩)
  refine zn (y8 U (.inr U) U ⟨U,?_⟩)
  refine za (ze U) U<|zf<|zg<|zd<|za (zZ U U) U ?_
  obtain⟨q1,h⟩:=h
  refine zn (zF (xs:=[.tmp 6]) (ids:=[7]) U U U U (c_impl_inverse p q1) U ?_)
  rintro _ rfl
  refine⟨U,?_⟩
  refine zn (yw (id:=5) U (zb U) ⟨U,?_⟩)
  refine zn (yV U U (zb U) U U ⟨U,?_⟩)
  refine zf<|zg<|zd<|za (zZ U U) U<|za (zJ (f:=(fun r=>C.lst (ints r))) U) U<|yF (yd (id:=7) ci U (fun _=>U))<|yF (xa (id:=5) (j:=0) U U (zb U))<|yF (yH (id:=5) U U)<|yF (zl (n:=12) (σ':=[]) (env':=[(0,.c (.lst (rows t))),(1,.c (.lst (ints p))),(2,.c (.ptr [.lst (rows t)])),(3,.c (.ptr [.lst (ints p)])),(4,.c (cnil)),(5,.c (.ptr [.lst (ints (backI p))])),(6,.c (.lst (ints p))),(7,.c (.lst (ints (backI p)))),(8,.c (.lst (rows t))),(9,.c (ci (t.length:Int)))]) U U ⟨U,U,U,U,U,U,U,U,U,U,trivial⟩)<|za (ss_makeFunc (os:=[.tmp 3,.tmp 2,.tmp 5]) U) U ?_
  obtain⟨q3,h⟩:=h
  refine zn (zF (xs:=[.tmp 9,.tmp 10]) (ids:=[11]) U U U U (c_impl_tableBy (t.length:Int) 81 [.ptr [.lst (ints p)],.ptr [.lst (rows t)],.ptr [.lst (ints (backI p))]] (fun z0 z1=>el p (el (el t (el (backI p) z0)) (el (backI p) z1))) (fun z0 z1=>isTab t = true/\p.length = t.length/\(backI p).length = t.length/\isPerm p = true/\isPerm (backI p) = true/\(0<=z0/\z0 < (t.length:Int))/\0<=z1/\z1 < (t.length:Int)) (fun z0 z1 hD=>c_impl_renamed_1 z0 z1 p t (backI p) hD) q3) U ?_)
  rintro _ rfl
  refine⟨U,?_⟩
  exact za (ze U) U<|zf<|zA<|zr (zH U (zw U)) U U ⟨_,(zq _),_,h,U⟩
theorem c_impl_renamed (t:List (List Int)) (p:List Int) (hp:isTab t = true/\(p.length:Int) = (t.length:Int)/\isPerm p = true):AF Tryz.prog 51 [.lst (rows t),.lst (ints p)] (fun R_=>R_ = .own (orows (renT t p))):=
  (w_impl_renamed t p (fun y0=>y0 = renT t p) (p_impl_renamed t p hp)).mono (by rintro r ⟨_,rfl,rfl⟩; rfl)
theorem w_impl_LeastTable (t:List (List Int)) (Q:List (List Int)->Int->Prop) (h:wp_impl_LeastTable t Q):AF Tryz.prog 29 [.lst (rows t)] (fun R_=>∃ y0 y1,Q y0 y1/\R_ = .tup [.own (orows y0),ci y1]):=by
  refine zS (af_enterK (n:=28) Tryz.func29 U (by rfl) U (zb U) ?_)
  unfold wp_impl_LeastTable at h
  refine ar_seq<|zk (zl (n:=28) (σ':=[]) (env':=[(0,.c (.lst (rows t)))]) U U E1)<|zd<|zn (y8 U (.inr U) U ⟨U,?_⟩)
  refine za (ze U) U<|za (ze U) U<|zf<|ar_seq<|zg<|zd<|za (zZ U U) U ?_
  obtain⟨q1,h⟩:=h
  refine zn (zF (xs:=[.tmp 7]) (ids:=[]) U U U U (c_impl_IsTable t q1) U ?_)
  rintro _ rfl
  refine⟨U,?_⟩
  refine za (yA U) U<|zf<|zm U (fun q3=>?_) (fun q3=>?_)
  ·replace h:=h.1 ((ya q3))
   exact zg<|zk (zl (n:=28) (σ':=[]) (env':=[(2,.c (cnil)),(3,.c (ci 0))]) U U E2)<|zd<|za (ze U) U<|za (ze U) U<|zf<|zA<|zr (yT U (zw U) (zw U)) U U ⟨_,(yW (zN yK (zN (zq _) yC))),_,_,h,U⟩
  ·replace h:=h.2 ((yb q3))
   refine zu<|ar_seq<|zg<|zd<|za (zZ U U) U<|za (zJ (f:=(fun r=>C.lst (ints r))) U) U<|za (ss_gtr U U) U<|zf<|zm U (fun q4=>?_) (fun q4=>?_)
   ·replace h:=h.1 (zj q4)
    exact zg<|zk (zl (n:=28) (σ':=[]) (env':=[(2,.c (cnil)),(3,.c (ci 0))]) U U E2)<|zd<|za (ze U) U<|za (ze U) U<|zf<|zA<|zr (yT U (zw U) (zw U)) U U ⟨_,(yW (zN yK (zN (zq _) yC))),_,_,h,U⟩
   ·replace h:=h.2 (zh q4)
    refine zu<|ar_seq<|zk (zl (n:=28) (σ':=[]) (env':=[(1,.c (.ptr [.lst (rows t)])),(2,.c (cnil)),(3,.c (ci 0))]) U U E3)<|zd<|za (zZ U U) U ?_
    obtain⟨q5,h⟩:=h
    refine zn (zF (xs:=[.tmp 13]) (ids:=[14]) U U U U (c_impl_cloneTable t q5) U ?_)
    rintro _ rfl
    refine⟨U,?_⟩
    refine zn (yw (id:=4) U (zb U) ⟨U,?_⟩)
    refine zn (yV U U (zb U) U U ⟨U,?_⟩)
    refine zf<|ar_seqK<|ar_seq<|zd<|za (zZ U U) U<|za (zJ (f:=(fun r=>C.lst (ints r))) U) U ?_
    obtain⟨q7,h⟩:=h
    refine zn (zF (xs:=[.tmp 16]) (ids:=[]) U U U U (c_impl_permutations (t.length:Int) q7) U ?_)
    rintro _ rfl
    refine⟨U,?_⟩
    refine zf<|ar_block<|ar_gh (yu (id:=4) (id2:=14) (j:=0) U U (zb U) U U U)<|ar_gh (zl (n:=28) (σ':=[(4,⟨[.own (orows t)],[]⟩)]) (env':=[(1,.c (.ptr [.lst (rows t)])),(2,.c (cnil)),(3,.c (ci 0)),(4,.cell 4 0),(17,.c (.clo 76 [.ptr [ci (t.length:Int)]]))]) U U E5) ?_
    obtain⟨H1,q9,h⟩:=h
    refine ar_rangeE (en:=(fun p_=>.lst (ints p_))) 5000 [(5001,.c (.ptr [.lst (rows t)])),(5002,.c (cnil)),(5003,.c (ci 0)),(5004,.cell 4 0),(5017,.c (.clo 76 [.ptr [ci (t.length:Int)]]))] (fun (f4_0_1:List (List Int))=>[(4,⟨[.own (orows f4_0_1)],[]⟩)]) H1 (sq_permutations (t.length:Int) q7) U U U U U ⟨t,zv (n:=28) U U E5,(by simp [σok,slfL,C.slf,slf_ints,slf_orows,slf_ci,ci,cb]),q9⟩ (fun k1 f4_0_1 e1 q10 q11=>?_) (fun f4_0_1 q11=>?_)
    ·replace h:=h.1 k1 f4_0_1 e1 q10 q11
     refine zk (zl (n:=28) (σ':=[(4,⟨[.own (orows f4_0_1)],[]⟩)]) (env':=[(1,.c (.ptr [.lst (rows t)])),(2,.c (cnil)),(3,.c (ci 0)),(4,.cell 4 0),(17,.c (.clo 76 [.ptr [ci (t.length:Int)]])),(18,.c (.lst (ints e1))),(5001,.c (.ptr [.lst (rows t)])),(5002,.c (cnil)),(5003,.c (ci 0)),(5004,.cell 4 0),(5017,.c (.clo 76 [.ptr [ci (t.length:Int)]]))]) U U ⟨U,U,U,U,U,U,U,U,U,U,U,trivial⟩)<|zk (zl (n:=28) (σ':=[(4,⟨[.own (orows f4_0_1)],[]⟩)]) (env':=[(1,.c (.ptr [.lst (rows t)])),(4,.cell 4 0),(18,.c (.lst (ints e1))),(5001,.c (.ptr [.lst (rows t)])),(5002,.c (cnil)),(5003,.c (ci 0)),(5004,.cell 4 0),(5017,.c (.clo 76 [.ptr [ci (t.length:Int)]]))]) U U E8)<|zd<|za (ze U) U<|zf<|zt<|zg<|zd<|za (zZ U U) U<|za (zc U) U ?_
     obtain⟨q12,h⟩:=h
     refine zn (zF (xs:=[.tmp 19,.tmp 20]) (ids:=[21]) U U U U (c_impl_renamed t e1 q12) U ?_)
     rintro _ rfl
     refine⟨U,?_⟩
     refine za (ze U) U<|zf<|zg<|zk (zl (n:=28) (σ':=[(21,⟨orows (renT t e1),[]⟩),(4,⟨[.own (orows f4_0_1)],[]⟩)]) (env':=[(4,.cell 4 0),(6,.ref 21),(5001,.c (.ptr [.lst (rows t)])),(5002,.c (cnil)),(5003,.c (ci 0)),(5004,.cell 4 0),(5017,.c (.clo 76 [.ptr [ci (t.length:Int)]]))]) U U E7)<|zd<|za (zc U) U<|yF (xf 1001 (id:=4) (j:=0) U U U)<|za (yt U U U U) U ?_
     obtain⟨q14,h⟩:=h
     refine zn (yU (xs:=[.tmp 22,.tmp 23]) (cs:=[.own (orows (renT t e1)),.own (orows f4_0_1)]) (ids:=[]) U (.inr ⟨U,U⟩) U U (yD (yq (yr (fun _=>(yq (yr (fun _=>U) _))) _)) (yD (yq (yr (fun _=>(yq (yr (fun _=>U) _))) _)) yX)) (c_impl_compareTables (renT t e1) f4_0_1 q14) U ?_)
     rintro _ rfl
     refine⟨U,U,?_⟩
     refine za (zO U U) U<|zf<|zm U (fun q16=>?_) (fun q16=>?_)
     ·replace h:=h.1 (zj q16)
      refine zk (zl (n:=28) (σ':=[(1001,⟨orows f4_0_1,[]⟩),(21,⟨orows (renT t e1),[]⟩),(4,⟨[.hole],[(0,.ref 1001)]⟩)]) (env':=[(4,.cell 4 0),(6,.ref 21),(5001,.c (.ptr [.lst (rows t)])),(5002,.c (cnil)),(5003,.c (ci 0)),(5004,.cell 4 0),(5017,.c (.clo 76 [.ptr [ci (t.length:Int)]]))]) U U E7)<|zd<|za (zc U) U<|zn (yV U U (zb U) U U ⟨U,?_⟩)
      exact zf<|⟨renT t e1,zQ (yu (id:=4) (id2:=21) (j:=0) U U (zb U) U U U) (zQ (yd (id:=1001) (fun r=>C.lst (ints r)) U (fun _=>(yq (yr (fun _=>U) _)))) (zv (n:=28) U U E5)),(by simp [σok,slfL,C.slf,slf_ints,slf_orows,slf_ci,ci,cb]),h⟩
     ·replace h:=h.2 (zh q16)
      exact zu<|⟨f4_0_1,zQ (yu (id:=4) (id2:=1001) (j:=0) U U (zb U) U U U) (zQ (yd (id:=21) (fun r=>C.lst (ints r)) U (fun _=>(yq (yr (fun _=>U) _)))) (zv (n:=28) U U E5)),(by simp [σok,slfL,C.slf,slf_ints,slf_orows,slf_ci,ci,cb]),h⟩
    ·replace h:=h.2 f4_0_1 q11
     exact ar_aw<|zg<|zk (zl (n:=28) (σ':=[(4,⟨[.own (orows f4_0_1)],[]⟩)]) (env':=[(2,.c (cnil)),(3,.c (ci 0)),(4,.cell 4 0)]) U U E3)<|zd<|yF (xf 1002 (id:=4) (j:=0) U U U)<|za (yt U U U U) U<|za (ze U) U<|za (ze U) U<|zf<|zA<|zr (yT U (zw U) (zw U)) U U ⟨_,(zq _),_,_,h,U⟩
theorem c_impl_LeastTable (t:List (List Int)) (hp:small2 t):AF Tryz.prog 29 [.lst (rows t)] (fun R_=>R_ = .tup [.own (orows (LeaT t)),ci (LeaE t)]):=
  (w_impl_LeastTable t (fun y0 y1=>y0 = LeaT t/\y1 = LeaE t) (p_impl_LeastTable t hp)).mono (by rintro r ⟨_,_,⟨rfl,rfl⟩,rfl⟩; rfl)
def wp_impl_LeastRack (r:List (List Int)) (Q:List (List Int)->Int->Prop):Prop:=
 (small2 r)/\
 (((isRk r) = false->
 Q ([]) 1)/\
 ((isRk r) = true->
 (small2 r)/\
 Q (LeaT r) (LeaE r)))
theorem p_impl_LeastRack (r:List (List Int)) (hp:small2 r):wp_impl_LeastRack r (fun y0 y1=>y0 = (if isRk r then LeaT r else [])/\y1 = (if isRk r then LeaE r else 1)):=
  ⟨hp,fun h=>by simp [h],fun h=>⟨hp,by simp [h]⟩⟩
theorem w_impl_LeastRack (r:List (List Int)) (Q:List (List Int)->Int->Prop) (h:wp_impl_LeastRack r Q):AF Tryz.prog 11 [.agg [.lst (rows r)]] (fun R_=>∃ y0 y1,Q y0 y1/\R_ = .tup [.agg [.own (orows y0)],ci y1]):=by
  refine zS (zM (n:=19) Tryz.func11 U (by rfl) U (zb U) ?_)
  unfold wp_impl_LeastRack at h
  refine zg<|zk (zl (n:=19) (σ':=[]) (env':=[(0,.c (.agg [.lst (rows r)]))]) U U E1)<|zd<|zn (y8 U (.inl U) U ⟨U,?_⟩)
  refine zn (yw (id:=2) U (zb U) ⟨U,?_⟩)
  refine za (ze U) U<|zf<|zg<|zg<|zd<|za (y6 U (zb U)) U ?_
  obtain⟨q1,h⟩:=h
  refine zn (zF (xs:=[.tmp 6]) (ids:=[]) U U U U (c_impl_IsRack r q1) U ?_)
  rintro _ rfl
  refine⟨U,?_⟩
  refine za (yA U) U<|zf<|zm U (fun q3=>?_) (fun q3=>?_)
  ·replace h:=h.1 ((ya q3))
   refine zg<|zk (zl (n:=19) (σ':=[(2,⟨[cnil],[]⟩)]) (env':=[(2,.cell 2 0),(3,.c (ci 0))]) U U E2)<|zd<|za (ss_build0) U<|zn (yf U U (zb U) U U U ⟨U,?_⟩)
   exact za (ze U) U<|zf<|zA<|zr (yT U (yL U U U) (zw U)) U U ⟨_,(yW (zN (cle_agg (zN yK yC)) (zN (zq _) yC))),_,_,h,U⟩
  ·replace h:=h.2 ((yb q3))
   refine zu<|zg<|zd<|za (yJ U) U<|za (zZ U U) U ?_
   obtain⟨q4,h⟩:=h
   refine zn (zF (xs:=[.tmp 12]) (ids:=[13]) U U U U (c_impl_LeastTable r q4) U ?_)
   rintro _ rfl
   refine⟨U,?_⟩
   refine za (zc U) U<|za (zT U U) U<|za (zT U U) U<|za (ze U) U<|za (ze U) U<|zf<|zg<|zk (zl (n:=19) (σ':=[(13,⟨orows (LeaT r),[]⟩),(2,⟨[cnil],[]⟩)]) (env':=[(2,.cell 2 0),(3,.c (ci 0)),(4,.ref 13),(5,.c (ci (LeaE r)))]) U U E4)<|zd<|za (zc U) U<|za (ss_build (ps:=[(0,.tmp 16)]) U U) U<|za (zc U) U<|zn (yf U U (zb U) U U U ⟨U,?_⟩)
   exact za (ze U) U<|zf<|zA<|zr (yT U (yL U U U) (zw U)) U U ⟨_,(zq _),_,_,h,U⟩
theorem c_impl_LeastRack (r:List (List Int)) (hp:small2 r):AF Tryz.prog 11 [.agg [.lst (rows r)]] (fun R_=>R_ = .tup [.agg [.own (orows (if isRk r then LeaT r else []))],ci (if isRk r then LeaE r else 1)]):=
  (w_impl_LeastRack r (fun y0 y1=>y0 = (if isRk r then LeaT r else [])/\y1 = (if isRk r then LeaE r else 1)) (p_impl_LeastRack r hp)).mono (by rintro r ⟨_,_,⟨rfl,rfl⟩,rfl⟩; rfl)
theorem swap_nb {α:Type} [Inhabited α] {o:List α} {j:Int} (hj:1<=j/\j < (o.length:Int)):(se (se o j (el o (j - 1))) (j - 1) (el o j)).Perm o:=by
  have e:o = o.take (j - 1).toNat ++ el o (j - 1) :: el o j :: o.drop (j.toNat + 1):=by
    have h1:=drop_el (l:=o) (i:=j - 1) ⟨by omega,by omega⟩
    have h2:=drop_el (l:=o) (i:=j) ⟨by omega,hj.2⟩
    rw [show (j - 1).toNat + 1 = j.toNat by omega,h2] at h1
    rw [<- h1,List.take_append_drop]
  have hl:((o.take (j - 1).toNat).length:Int) = j - 1:=by simp; omega
  generalize el o (j - 1) = u at *
  generalize el o j = v at *
  generalize o.take (j - 1).toNat = A at *
  generalize o.drop (j.toNat + 1) = B at *
  subst e
  have s1:se (A ++ u :: v :: B) j u = A ++ u :: u :: B:=by
    have:=se_app (a:=A ++ [u]) (b:=B) (x:=v) (v:=u) (i:=j) (by simp; omega)
    simpa using this
  rw [s1,se_app (by omega)]
  exact List.Perm.append_left A (List.Perm.swap u v B)
theorem swap_nb_el {α:Type} [Inhabited α] {o:List α} {j m:Int} (hj:1<=j/\j < (o.length:Int)) (hm:0<=m):el (se (se o j (el o (j - 1))) (j - 1) (el o j)) m = if m = j - 1 then el o j else if m = j then el o (j - 1) else el o m:=by
  split
  · rename_i h; subst h; rw [el_se_same ⟨by omega,by simp; omega⟩]
  · rename_i h
    rw [el_se_ne (by omega) hm (Ne.symm h)]
    split
    · rename_i h2; subst h2; rw [el_se_same ⟨by omega,by omega⟩]
    · rename_i h2; rw [el_se_ne (by omega) hm (Ne.symm h2)]
end Go.Proofs.YtjolbldlhjfciaaGreatDoor
