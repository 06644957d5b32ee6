/- Contracts of functions that the law FnRackForms reaches: conditions, plain proofs, walks; no condition. -/
import Derived.Test.YtjolbldlhjfciaaGreatDoorKRackFormsb
import Derived.Test.YtjolbldlhjfciaaGreatDoorPP
namespace Go.Proofs.YtjolbldlhjfciaaGreatDoor
set_option maxRecDepth 100000
set_option maxHeartbeats 4000000

def wp_spec_l01From (code:List Int) (Q:List Int->Int->Int->Prop):Prop:=
 ((0:Int)<=(code.length:Int)/\(code.length:Int)<=18446744073709551615)/\
 ∃ (H1:Int->Int->Prop) (m1:Int->Int->Nat),
 H1 0 (w64 ((6553:Int) + (code.length:Int)))/\
 ∀ (v4_1:Int) (f11_2_1:Int),H1 v4_1 f11_2_1->
 (((v4_1 < (code.length:Int)->
 ((v4_1 < 4096->
 (0<=v4_1/\v4_1 < (code.length:Int))/\
 ((0:Int)<=el code v4_1/\el code v4_1<=18446744073709551615)/\
 (InI (v4_1 + 1))/\
 (H1 (v4_1 + 1) (w64 ((w64 ((w64 (f11_2_1 * (1099511628211:Int))) + (el code v4_1))) + (11:Int)))/\m1 (v4_1 + 1) (w64 ((w64 ((w64 (f11_2_1 * (1099511628211:Int))) + (el code v4_1))) + (11:Int))) < m1 v4_1 f11_2_1))/\
 (¬ (v4_1 < 4096)->
 Q code 0 f11_2_1)))/\
 (¬ (v4_1 < (code.length:Int))->
 Q code 0 f11_2_1)))
def wp_spec_l01Next (s1:List Int) (s2:Int) (s3:Int) (n:Int) (Q:Int->List Int->Int->Int->Prop):Prop:=
 ((n < 1->
 Q 0 s1 s2 s3)/\
 (¬ (n < 1)->
 ((0:Int)<=w64 ((w64 (s3 * (6364136223846793005:Int))) + (1442695040888963407:Int))/\(0:Int)<=(33:Int)/\(33:Int)<=62)/\
 (((0:Int)<=(w64 ((w64 (s3 * (6364136223846793005:Int))) + (1442695040888963407:Int))) / (2:Int) ^ (33:Int).toNat/\(w64 ((w64 (s3 * (6364136223846793005:Int))) + (1442695040888963407:Int))) / (2:Int) ^ (33:Int).toNat<=18446744073709551615)/\(0:Int)<=(16777215:Int)/\(16777215:Int)<=18446744073709551615)/\
 (InI ((((w64 ((w64 (s3 * (6364136223846793005:Int))) + (1442695040888963407:Int))) / (2:Int) ^ (33:Int).toNat).toNat &&& (16777215:Int).toNat:Nat):Int))/\
 ((s2 < (s1.length:Int)->
 (0<=s2/\s2 < (s1.length:Int))/\
 (InI (el s1 s2))/\
 (InI (((((w64 ((w64 (s3 * (6364136223846793005:Int))) + (1442695040888963407:Int))) / (2:Int) ^ (33:Int).toNat).toNat &&& (16777215:Int).toNat:Nat):Int) + (el s1 s2)))/\
 (InI (s2 + 1))/\
 ((0:Int)<=((((w64 ((w64 (s3 * (6364136223846793005:Int))) + (1442695040888963407:Int))) / (2:Int) ^ (33:Int).toNat).toNat &&& (16777215:Int).toNat:Nat):Int) + (el s1 s2)/\(0:Int) < n)/\
 Q ((((((w64 ((w64 (s3 * (6364136223846793005:Int))) + (1442695040888963407:Int))) / (2:Int) ^ (33:Int).toNat).toNat &&& (16777215:Int).toNat:Nat):Int) + (el s1 s2)) % n) s1 (s2 + 1) (w64 ((w64 (s3 * (6364136223846793005:Int))) + (1442695040888963407:Int))))/\
 (¬ (s2 < (s1.length:Int))->
 ((0:Int)<=((((w64 ((w64 (s3 * (6364136223846793005:Int))) + (1442695040888963407:Int))) / (2:Int) ^ (33:Int).toNat).toNat &&& (16777215:Int).toNat:Nat):Int)/\(0:Int) < n)/\
 Q (((((w64 ((w64 (s3 * (6364136223846793005:Int))) + (1442695040888963407:Int))) / (2:Int) ^ (33:Int).toNat).toNat &&& (16777215:Int).toNat:Nat):Int) % n) s1 s2 (w64 ((w64 (s3 * (6364136223846793005:Int))) + (1442695040888963407:Int)))))))
def wp_spec_l03DrawPerm (s1:List Int) (s2:Int) (s3:Int) (n:Int) (Q:List Int->List Int->Int->Int->Prop):Prop:=
 ∃ (H1:Int->List Int->List Int->Int->Int->Prop) (m1:Int->List Int->List Int->Int->Int->Nat),
 H1 0 ([] : List Int) s1 s2 s3/\
 ∀ (v6_1:Int) (o9_1:List Int) (f800_0_1:List Int) (f800_1_1:Int) (f800_2_1:Int),H1 v6_1 o9_1 f800_0_1 f800_1_1 f800_2_1->
 (((v6_1 < n->
 (InI (v6_1 + 1))/\
 (okS f800_0_1 f800_1_1 f800_2_1/\InI (v6_1 + 1))/\
 ∀ (r1_0:Int) (o1_0:List Int) (o1_1:Int) (o1_2:Int),(nxP (v6_1 + 1) r1_0/\o1_0 = f800_0_1/\okS f800_0_1 o1_1 o1_2)->
 (0<=r1_0/\r1_0<=(o9_1.length:Int)/\(o9_1.length:Int)<=(o9_1.length:Int))/\
 ((([v6_1]).length:Int) + ((sl o9_1 r1_0 (o9_1.length:Int)).length:Int)<=1000000000)/\
 ((0:Int)<=0/\0<=r1_0/\r1_0<=(o9_1.length:Int))/\
 ((([] : List Int).length:Int) + ((sl o9_1 0 r1_0).length:Int)<=1000000000)/\
 (((([] : List Int) ++ (sl o9_1 0 r1_0)).length:Int) + ((([v6_1]) ++ (sl o9_1 r1_0 (o9_1.length:Int))).length:Int)<=1000000000)/\
 (InI (v6_1 + 1))/\
 (H1 (v6_1 + 1) ((([] : List Int) ++ (sl o9_1 0 r1_0)) ++ (([v6_1]) ++ (sl o9_1 r1_0 (o9_1.length:Int)))) o1_0 o1_1 o1_2/\m1 (v6_1 + 1) ((([] : List Int) ++ (sl o9_1 0 r1_0)) ++ (([v6_1]) ++ (sl o9_1 r1_0 (o9_1.length:Int)))) o1_0 o1_1 o1_2 < m1 v6_1 o9_1 f800_0_1 f800_1_1 f800_2_1))/\
 (¬ (v6_1 < n)->
 Q o9_1 f800_0_1 f800_1_1 f800_2_1)))
theorem p_spec_l01From (code:List Int) (hp:small code/\bytes code):wp_spec_l01From code (fun y0 y1 y2=>y0 = code/\okS code y1 y2):=by
  have hs:(code.length:Int)<=1000000000:=hp.1
  refine⟨⟨by omega,by omega⟩,fun i h=>(0<=i/\i<=(code.length:Int))/\0<=h/\h<=18446744073709551615,fun i _=>((code.length:Int) - i).toNat,⟨⟨by omega,by omega⟩,w64_in _⟩,?_⟩
  rintro i h ⟨⟨i0,i1⟩,hh⟩
  dsimp only
  have fin:code = code/\okS code 0 h:=⟨rfl,hp,⟨by omega,by omega⟩,hh⟩
  refine⟨fun ilt=>⟨fun _=>?_,fun _=>fin⟩,fun _=>fin⟩
  have hb:=hp.2 i i0 ilt
  exact⟨⟨i0,ilt⟩,⟨hb.1,by omega⟩,⟨by omega,by omega⟩,⟨⟨by omega,by omega⟩,w64_in _⟩,by omega⟩
theorem p_spec_l01Next (s1:List Int) (s2 s3 n:Int) (hp:okS s1 s2 s3/\InI n):wp_spec_l01Next s1 s2 s3 n (fun y0 w0 w1 w2=>nxP n y0/\w0 = s1/\okS s1 w1 w2):=by
  obtain⟨⟨⟨hs,hb⟩,ha,hh⟩,hn⟩:=hp
  have hs' : (s1.length:Int)<=1000000000:=hs
  unfold wp_spec_l01Next
  refine⟨fun h=>⟨⟨fun _=>rfl,fun g=>absurd h g⟩,rfl,⟨hs,hb⟩,ha,hh⟩,fun h=>?_⟩
  generalize hH:w64 (w64 (s3 * (6364136223846793005:Int)) + (1442695040888963407:Int)) = H
  have hw:0<=H/\H<=18446744073709551615:=by rw [<- hH]; exact w64_in _
  have hd:=shr_bd hw (33:Int).toNat
  have hx:=and_bd (H / (2:Int) ^ (33:Int).toNat).toNat
  generalize (((H / (2:Int) ^ (33:Int).toNat).toNat &&& (16777215:Int).toNat:Nat):Int) = B at hx ⊢
  have hn1:0 < n:=by omega
  have md : ∀ z:Int,0<=z->nxP n (z % n):=fun z _=>⟨fun g=>absurd g h,fun _=>⟨Int.emod_nonneg _ (by omega),Int.emod_lt_of_pos _ hn1⟩⟩
  refine⟨⟨hw.1,by omega,by omega⟩,⟨hd,by omega,by omega⟩,⟨by omega,by omega⟩,fun g=>?_,fun g=>?_⟩
  · have hbb:=hb s2 ha.1 g
    exact⟨⟨ha.1,g⟩,⟨by omega,by omega⟩,⟨by omega,by omega⟩,⟨by omega,by omega⟩,⟨by omega,hn1⟩,md _ (by omega),rfl,⟨hs,hb⟩,⟨by omega,by omega⟩,hw⟩
  · exact⟨⟨by omega,hn1⟩,md _ hx.1,rfl,⟨hs,hb⟩,ha,hw⟩
theorem sl_len2 {l:List Int} {a b:Int} (h:0<=a/\a<=b/\b<=(l.length:Int)):((sl l a b).length:Int) = b - a:=by simp [sl]; omega
theorem p_spec_l03DrawPerm (s1:List Int) (s2 s3 n:Int) (hp:okS s1 s2 s3/\n<=1000):wp_spec_l03DrawPerm s1 s2 s3 n (fun y0 w0 w1 w2=>((y0.length:Int) = max n 0/\(∀ z_ ∈ y0,0<=z_/\z_ < n)/\y0.Nodup)/\w0 = s1/\okS s1 w1 w2):=by
  obtain⟨hs,hn⟩:=hp
  refine⟨fun i v c a h=>(0<=i/\i<=max n 0)/\(v.length:Int) = i/\((∀ z ∈ v,0<=z/\z < i)/\v.Nodup)/\c = s1/\okS s1 a h,fun i _ _ _ _=>(n - i).toNat,⟨⟨by omega,by omega⟩,rfl,⟨by simp,List.nodup_nil⟩,rfl,hs⟩,?_⟩
  rintro i v c a h ⟨⟨i0,i1⟩,hl,⟨hv,hN⟩,rfl,hS⟩
  dsimp only
  refine⟨fun ilt=>⟨⟨by omega,by omega⟩,⟨hS,by omega,by omega⟩,?_⟩,fun ige=>⟨⟨by omega,fun z hz=>by have:=hv z hz; omega,hN⟩,rfl,hS⟩⟩
  rintro r o0 o1 o2 ⟨hr,rfl,hS2⟩
  have hr2:=hr.2 (by omega)
  have l1:=sl_len2 (l:=v) (a:=r) (b:=(v.length:Int)) ⟨hr2.1,by omega,by omega⟩
  have l2:=sl_len2 (l:=v) (a:=0) (b:=r) ⟨by omega,hr2.1,by omega⟩
  have e0:sl v 0 r ++ sl v r (v.length:Int) = v:=by
    have h1:sl v 0 r = v.take r.toNat:=by simp [sl]
    have h2:sl v r (v.length:Int) = v.drop r.toNat:=by simp [sl]
    rw [h1,h2,List.take_append_drop]
  have eP:(([] : List Int) ++ sl v 0 r ++ ([i] ++ sl v r (v.length:Int))).Perm (i :: v):=by
    have e1:([] : List Int) ++ sl v 0 r ++ ([i] ++ sl v r (v.length:Int)) = sl v 0 r ++ i :: sl v r (v.length:Int):=by simp
    rw [e1]
    exact List.perm_middle.trans (List.Perm.cons i (by rw [e0]))
  refine⟨⟨hr2.1,by omega,by omega⟩,by rw [List.length_singleton]; omega,⟨by omega,hr2.1,by omega⟩,by rw [List.length_nil]; omega,by simp only [List.nil_append,List.length_append,List.length_singleton]; omega,⟨by omega,by omega⟩,⟨⟨by omega,by omega⟩,?_,⟨?_,?_⟩,rfl,hS2⟩,by omega⟩
  · simp only [List.nil_append,List.length_append,List.length_singleton]; omega
  · intro z hz
    rcases List.mem_cons.1 (eP.mem_iff.1 hz) with h1 | h1
    · omega
    · have:=hv z h1; omega
  · exact eP.nodup_iff.2 (List.nodup_cons.2 ⟨fun hm=>by have:=hv i hm; omega,hN⟩)
theorem w_spec_l01From (code:List Int) (Q:List Int->Int->Int->Prop) (h:wp_spec_l01From code Q):AF Tryz.prog 18 [.lst (bys code)] (fun R_=>∃ y0 y1 y2,Q y0 y1 y2/\R_ = .obox [.lst (bys y0),ci y1,cu y2]):=by
  refine zS (zM (n:=38) Tryz.func18 U (by rfl) U (zb U) ?_)
  unfold wp_spec_l01From at h
  refine zg<|zk (zl (n:=38) (σ':=[]) (env':=[(0,.c (.lst (bys code)))]) U U E1)<|zd<|za (ze U) U<|zf<|zg<|zd<|za (zc U) U<|za (zc U) U<|za (zJ (f:=cy) U) U ?_
  obtain⟨q1,h⟩:=h
  refine za (xo U (IntWalk.u64_in _ q1)) U<|za (ss_addU U U) U<|za (ss_buildG (ps:=[(0,.tmp 5),(2,.tmp 9)]) U) U<|zn (ws_boxS (id:=11) U U U (zb U) U ⟨U,?_⟩)
  refine za (ze U) U<|zf<|zg<|zg<|zk (zl (n:=38) (σ':=[(11,⟨[.lst (bys code),ci 0,cu (w64 ((6553:Int) + (code.length:Int)))],[]⟩)]) (env':=[(0,.c (.lst (bys code))),(3,.cell 11 0)]) U U E2)<|zd<|za (ze U) U<|zf<|zt ?_
  obtain⟨H1,m1,q2,h⟩:=h
  refine ye (fun (v4_1:Int) (f11_2_1:Int)=>⟨[(11,⟨[.lst (bys code),ci 0,cu f11_2_1],[]⟩)],[(0,.c (.lst (bys code))),(3,.cell 11 0),(4,.c (ci v4_1))],38⟩) H1 m1 ⟨0,w64 ((6553:Int) + (code.length:Int)),zv (n:=38) U U E3,q2⟩ ?_
  rintro v4_1 f11_2_1 q2
  replace h:=h v4_1 f11_2_1 q2
  refine zg<|zg<|zd<|za (zc U) U<|za (zc U) U<|za (zJ (f:=cy) U) U<|za (zO U U) U<|za (zc U) U<|zX (s:=16) U (fun q3=>?_) (fun q3=>?_)
  ·replace h:=h.1 (zj q3)
   refine zE U U q3<|za (zc U) U<|zE U U q3<|za (zO U U) U<|za (zU U q3 U) U<|zf<|zm U (fun q4=>?_) (fun q4=>?_)
   ·replace h:=h.1 (zj q4)
    refine zu<|zg<|zt<|zk (zl (n:=38) (σ':=[(11,⟨[.lst (bys code),ci 0,cu f11_2_1],[]⟩)]) (env':=[(0,.c (.lst (bys code))),(3,.cell 11 0),(4,.c (ci v4_1)),(17,.c (ci v4_1)),(18,.c (cb (decide (v4_1 < 4096))))]) U U E5)<|zP (kd:=kdl [0,0,0,0,1,0,0,0,0,1,0,0,0,0,0,3]) (ord:=[0,1,2,3,6,7,8,4,5,9,10,11,12,13,14,15]) [] mixed (by kernel_rfl)<|zp U U trivial (zc U) U<|zp U U trivial (zc U) U<|zp U U trivial (zK U) U<|zp U U trivial (zD U) U<|zp U U trivial (zc U) U<|zp U U trivial (zc U) U ?_
    obtain⟨q5,h⟩:=h
    refine zp U U trivial (zB U U q5) U<|zY U U trivial (yB U U U U U) U<|zp U U trivial (ss_mulU U U) U<|zY U U trivial (zx (f:=cy) U q5) U ?_
    obtain⟨q6,h⟩:=h
    refine zp U U trivial (xo U (IntWalk.u64_in _ q6)) U<|zp U U trivial (ss_addU U U) U<|zp U U trivial (ss_addU U U) U<|zp U U trivial (zK U) U<|zp U U trivial (zD U) U<|xq U U trivial (yV U U (zb U) U U ⟨U,?_⟩)
    refine yh<|zk (zl (n:=38) (σ':=[(11,⟨[.lst (bys code),ci 0,cu (w64 ((w64 ((w64 (f11_2_1 * (1099511628211:Int))) + (el code v4_1))) + (11:Int)))],[]⟩)]) (env':=[(0,.c (.lst (bys code))),(3,.cell 11 0),(4,.c (ci v4_1)),(17,.c (ci v4_1)),(18,.c (cb (decide (v4_1 < 4096))))]) U U E5)<|zd<|za (zc U) U ?_
    obtain⟨q7,h⟩:=h
    exact za (zG U U q7) U<|za (ze U) U<|zf<|⟨v4_1 + 1,w64 ((w64 ((w64 (f11_2_1 * (1099511628211:Int))) + (el code v4_1))) + (11:Int)),zv (n:=38) U U E3,h.1,h.2⟩
   ·replace h:=h.2 (zh q4)
    exact zL<|zg<|zk (zl (n:=38) (σ':=[(11,⟨[.lst (bys code),ci 0,cu f11_2_1],[]⟩)]) (env':=[(3,.cell 11 0)]) U U E1)<|zd<|za (zc U) U<|za (ze U) U<|zf<|zA<|zr (zH U (zw U)) U U ⟨_,(zq _),_,_,_,h,U⟩
  ·replace h:=h.2 (zh q3)
   refine zC U U q3 U<|zC U U q3 U<|za (zV U q3 U) U<|zf<|zm U (fun q8=>?_) (fun q8=>?_)
   ·cases q8
   ·skip
    exact zL<|zg<|zk (zl (n:=38) (σ':=[(11,⟨[.lst (bys code),ci 0,cu f11_2_1],[]⟩)]) (env':=[(3,.cell 11 0)]) U U E1)<|zd<|za (zc U) U<|za (ze U) U<|zf<|zA<|zr (zH U (zw U)) U U ⟨_,(zq _),_,_,_,h,U⟩
theorem c_spec_l01From (code:List Int) (hp:small code/\bytes code):AF Tryz.prog 18 [.lst (bys code)] (fun R_=>∃ y0 y1 y2,(y0 = code/\okS code y1 y2)/\R_ = .obox [.lst (bys y0),ci y1,cu y2]):=
  w_spec_l01From code (fun y0 y1 y2=>y0 = code/\okS code y1 y2) (p_spec_l01From code hp)
theorem w_spec_l01Next (s1:List Int) (s2:Int) (s3:Int) (n:Int) (Q:Int->List Int->Int->Int->Prop) (h:wp_spec_l01Next s1 s2 s3 n Q):AM Tryz.prog 21 [.obox [.lst (bys s1),ci s2,cu s3],ci n] (fun R_ O_=>∃ y0 w0 w1 w2,Q y0 w0 w1 w2/\R_ = ci y0/\O_ = [.obox [.lst (bys w0),ci w1,cu w2],ci n]):=by
  refine xj (n:=58) (m:=2) Tryz.func21 U (by rfl) U U (zb U) [800] U ?_
  unfold wp_spec_l01Next at h
  refine zg<|zk (zl (n:=58) (σ':=[(800,⟨[.lst (bys s1),ci s2,cu s3],[]⟩)]) (env':=[(0,.cell 800 0),(1,.c (ci n)),(58,.cell 800 0),(59,.c (ci n))]) U U E4)<|zd<|za (ze U) U<|zf<|zg<|zg<|zd<|za (zc U) U<|za (zO U U) U<|zf<|zm U (fun q1=>?_) (fun q1=>?_)
  ·replace h:=h.1 (zj q1)
   exact zg<|zk (zl (n:=58) (σ':=[(800,⟨[.lst (bys s1),ci s2,cu s3],[]⟩)]) (env':=[(4,.c (ci 0)),(58,.cell 800 0),(59,.c (ci n))]) U U E3)<|zd<|za (ze U) U<|zf<|zA<|ym (zH U (zw U)) U U U ⟨_,_,_,_,h,U,U⟩
  ·replace h:=h.2 (zh q1)
   refine zu<|zg<|zd<|za (zc U) U<|za (zc U) U<|za (zK U) U<|za (zD U) U<|za (yB U U U U U) U<|za (ss_mulU U U) U<|za (ss_addU U U) U<|za (zK U) U<|za (zD U) U<|zn (yV U U (zb U) U U ⟨U,?_⟩)
   refine zf<|zg<|zk (zl (n:=58) (σ':=[(800,⟨[.lst (bys s1),ci s2,cu (w64 ((w64 (s3 * (6364136223846793005:Int))) + (1442695040888963407:Int)))],[]⟩)]) (env':=[(0,.cell 800 0),(1,.c (ci n)),(58,.cell 800 0),(59,.c (ci n))]) U U E4)<|zd<|za (zc U) U<|za (zK U) U<|za (zD U) U<|za (yB U U U U U) U ?_
   obtain⟨q2,h⟩:=h
   refine za (ss_shrU U U q2) U ?_
   obtain⟨q3,h⟩:=h
   refine za (ss_andU U U q3) U ?_
   obtain⟨q4,h⟩:=h
   refine za (xo U (wrap_in q4.1 q4.2)) U<|za (ze U) U<|zf<|zg<|zg<|zk (zl (n:=58) (σ':=[(800,⟨[.lst (bys s1),ci s2,cu (w64 ((w64 (s3 * (6364136223846793005:Int))) + (1442695040888963407:Int)))],[]⟩)]) (env':=[(0,.cell 800 0),(1,.c (ci n)),(5,.c (ci ((((w64 ((w64 (s3 * (6364136223846793005:Int))) + (1442695040888963407:Int))) / (2:Int) ^ (33:Int).toNat).toNat &&& (16777215:Int).toNat:Nat):Int))),(58,.cell 800 0),(59,.c (ci n))]) U U E5)<|zP (kd:=kdl [0,0,0,1,0,0,0,1,0,0]) (ord:=[0,1,2,4,5,6,3,7,8,9]) [] mixed (by kernel_rfl)<|zp U U trivial (zc U) U<|zp U U trivial (zK U) U<|zp U U trivial (zD U) U<|zp U U trivial (zc U) U<|zp U U trivial (zK U) U<|zp U U trivial (zD U) U<|zY U U trivial (yB U U U U U) U<|zY U U trivial (yB U U U U U) U<|zp U U trivial (zJ (f:=cy) U) U<|zp U U trivial (zO U U) U<|yh<|zm U (fun q5=>?_) (fun q5=>?_)
   ·replace h:=h.1 (zj q5)
    refine zg<|zk (zl (n:=58) (σ':=[(800,⟨[.lst (bys s1),ci s2,cu (w64 ((w64 (s3 * (6364136223846793005:Int))) + (1442695040888963407:Int)))],[]⟩)]) (env':=[(0,.cell 800 0),(1,.c (ci n)),(5,.c (ci ((((w64 ((w64 (s3 * (6364136223846793005:Int))) + (1442695040888963407:Int))) / (2:Int) ^ (33:Int).toNat).toNat &&& (16777215:Int).toNat:Nat):Int))),(58,.cell 800 0),(59,.c (ci n))]) U U E5)<|zP (kd:=kdl [0,0,0,0,1,0,0,0,1,0,1,0,0,0]) (ord:=[0,1,2,3,5,6,7,4,8,9,10,11,12,13]) [] mixed (by kernel_rfl)<|zp U U trivial (zc U) U<|zp U U trivial (zc U) U<|zp U U trivial (zK U) U<|zp U U trivial (zD U) U<|zp U U trivial (zc U) U<|zp U U trivial (zK U) U<|zp U U trivial (zD U) U<|zY U U trivial (yB U U U U U) U<|zY U U trivial (yB U U U U U) U ?_
    obtain⟨q6,h⟩:=h
    refine zp U U trivial (zB U U q6) U<|zY U U trivial (zx (f:=cy) U q6) U ?_
    obtain⟨q7,h⟩:=h
    refine zp U U trivial (xo U (wrap_in q7.1 q7.2)) U ?_
    obtain⟨q8,h⟩:=h
    refine zp U U trivial (zG U U q8) U<|zp U U trivial (ze U) U<|yh<|zk (zl (n:=58) (σ':=[(800,⟨[.lst (bys s1),ci s2,cu (w64 ((w64 (s3 * (6364136223846793005:Int))) + (1442695040888963407:Int)))],[]⟩)]) (env':=[(0,.cell 800 0),(1,.c (ci n)),(5,.c (ci (((((w64 ((w64 (s3 * (6364136223846793005:Int))) + (1442695040888963407:Int))) / (2:Int) ^ (33:Int).toNat).toNat &&& (16777215:Int).toNat:Nat):Int) + (el s1 s2)))),(58,.cell 800 0),(59,.c (ci n))]) U U E5)<|zd<|za (zc U) U<|za (zc U) U<|za (zK U) U<|za (zD U) U<|za (yB U U U U U) U ?_
    obtain⟨q9,h⟩:=h
    refine za (zG U U q9) U<|za (zK U) U<|za (zD U) U<|zn (yV U U (zb U) U U ⟨U,?_⟩)
    refine zf<|zg<|zk (zl (n:=58) (σ':=[(800,⟨[.lst (bys s1),ci (s2 + 1),cu (w64 ((w64 (s3 * (6364136223846793005:Int))) + (1442695040888963407:Int)))],[]⟩)]) (env':=[(1,.c (ci n)),(5,.c (ci (((((w64 ((w64 (s3 * (6364136223846793005:Int))) + (1442695040888963407:Int))) / (2:Int) ^ (33:Int).toNat).toNat &&& (16777215:Int).toNat:Nat):Int) + (el s1 s2)))),(58,.cell 800 0),(59,.c (ci n))]) U U E4)<|zd<|za (zc U) U<|za (zc U) U ?_
    obtain⟨q10,h⟩:=h
    exact za (ss_rem U U q10) U<|za (ze U) U<|zf<|zA<|ym (zH U (zw U)) U U U ⟨_,_,_,_,h,U,U⟩
   ·replace h:=h.2 (zh q5)
    refine zu<|zg<|zk (zl (n:=58) (σ':=[(800,⟨[.lst (bys s1),ci s2,cu (w64 ((w64 (s3 * (6364136223846793005:Int))) + (1442695040888963407:Int)))],[]⟩)]) (env':=[(1,.c (ci n)),(5,.c (ci ((((w64 ((w64 (s3 * (6364136223846793005:Int))) + (1442695040888963407:Int))) / (2:Int) ^ (33:Int).toNat).toNat &&& (16777215:Int).toNat:Nat):Int))),(58,.cell 800 0),(59,.c (ci n))]) U U E4)<|zd<|za (zc U) U<|za (zc U) U ?_
    obtain⟨q11,h⟩:=h
    exact za (ss_rem U U q11) U<|za (ze U) U<|zf<|zA<|ym (zH U (zw U)) U U U ⟨_,_,_,_,h,U,U⟩
theorem c_spec_l01Next (s1:List Int) (s2:Int) (s3:Int) (n:Int) (hp:okS s1 s2 s3/\InI n):AM Tryz.prog 21 [.obox [.lst (bys s1),ci s2,cu s3],ci n] (fun R_ O_=>∃ y0 w0 w1 w2,(nxP n y0/\w0 = s1/\okS s1 w1 w2)/\R_ = ci y0/\O_ = [.obox [.lst (bys w0),ci w1,cu w2],ci n]):=
  w_spec_l01Next s1 s2 s3 n (fun y0 w0 w1 w2=>nxP n y0/\w0 = s1/\okS s1 w1 w2) (p_spec_l01Next s1 s2 s3 n hp)
theorem w_spec_l03DrawPerm (s1:List Int) (s2:Int) (s3:Int) (n:Int) (Q:List Int->List Int->Int->Int->Prop) (h:wp_spec_l03DrawPerm s1 s2 s3 n Q):AM Tryz.prog 23 [.obox [.lst (bys s1),ci s2,cu s3],ci n] (fun R_ O_=>∃ y0 w0 w1 w2,Q y0 w0 w1 w2/\R_ = .own (ints y0)/\O_ = [.obox [.lst (bys w0),ci w1,cu w2],ci n]):=by
  refine xj (n:=33) (m:=2) Tryz.func23 U (by rfl) U U (zb U) [800] U ?_
  unfold wp_spec_l03DrawPerm at h
  refine zg<|zk (zl (n:=33) (σ':=[(800,⟨[.lst (bys s1),ci s2,cu s3],[]⟩)]) (env':=[(0,.cell 800 0),(1,.c (ci n)),(33,.cell 800 0),(34,.c (ci n))]) U U E4)<|zd<|za (ze U) U<|zf<|zg<|zd<|zn (zy (id:=9) (ps:=[]) U U (zb U) U ⟨U,?_⟩)
  refine za (ze U) U<|zf<|zg<|zg<|zk (zl (n:=33) (σ':=[(9,⟨ints ([] : List Int),[]⟩),(800,⟨[.lst (bys s1),ci s2,cu s3],[]⟩)]) (env':=[(0,.cell 800 0),(1,.c (ci n)),(5,.ref 9),(33,.cell 800 0),(34,.c (ci n))]) U U E5)<|zd<|za (ze U) U<|zf<|zt ?_
  obtain⟨H1,m1,q1,h⟩:=h
  refine aw_loop5 (fun (v6_1:Int) (o9_1:List Int) (f800_0_1:List Int) (f800_1_1:Int) (f800_2_1:Int)=>⟨[(9,⟨ints o9_1,[]⟩),(800,⟨[.lst (bys f800_0_1),ci f800_1_1,cu f800_2_1],[]⟩)],[(0,.cell 800 0),(1,.c (ci n)),(5,.ref 9),(6,.c (ci v6_1)),(33,.cell 800 0),(34,.c (ci n))],33⟩) H1 m1 ⟨0,([] : List Int),s1,s2,s3,zv (n:=33) U U E6,q1⟩ ?_
  rintro v6_1 o9_1 f800_0_1 f800_1_1 f800_2_1 q1
  replace h:=h v6_1 o9_1 f800_0_1 f800_1_1 f800_2_1 q1
  refine zg<|zg<|zd<|za (zc U) U<|za (zc U) U<|za (zO U U) U<|zf<|zm U (fun q2=>?_) (fun q2=>?_)
  ·replace h:=h.1 (zj q2)
   refine zu<|zg<|zt<|zg<|zd<|za (zc U) U<|za (zc U) U ?_
   obtain⟨q3,h⟩:=h
   refine za (zG U U q3) U ?_
   obtain⟨q4,h⟩:=h
   refine zn (yp (xs:=[.tmp 15,.tmp 17]) (cs:=[.obox [.lst (bys f800_0_1),ci f800_1_1,cu f800_2_1],ci (v6_1 + 1)]) (ids:=[]) U (.inr ⟨U,U⟩) U U U (c_spec_l01Next f800_0_1 f800_1_1 f800_2_1 (v6_1 + 1) q4) U U ?_)
   rintro _ _ ⟨r1_0,o1_0,o1_1,o1_2,q5,rfl,rfl⟩
   replace h:=h r1_0 o1_0 o1_1 o1_2 q5
   refine⟨U,U,?_⟩
   refine za (ze U) U<|zf<|zg<|zd<|za (zc U) U<|zn (zy (id:=20) (ps:=[(0,.tmp 19)]) U U (zb U) U ⟨U,?_⟩)
   refine za (zc U) U<|za (zc U) U<|yF (yd (id:=9) ci U (fun _=>U)) ?_
   obtain⟨q6,h⟩:=h
   refine za (xc (f:=ci) U ⟨_,U⟩ U q6) U ?_
   obtain⟨q7,h⟩:=h
   refine zn (xd ci (l:=[v6_1]) (m:=sl o9_1 r1_0 (o9_1.length:Int)) U U U (zb U) q7 ⟨U,?_⟩)
   refine za (ze U) U<|zf<|zk (zl (n:=33) (σ':=[(20,⟨ints (([v6_1]) ++ (sl o9_1 r1_0 (o9_1.length:Int))),[]⟩),(800,⟨[.lst (bys o1_0),ci o1_1,cu o1_2],[]⟩)]) (env':=[(0,.cell 800 0),(1,.c (ci n)),(5,.c (.lst (ints o9_1))),(6,.c (ci v6_1)),(7,.c (ci r1_0)),(8,.ref 20),(33,.cell 800 0),(34,.c (ci n))]) U U E8)<|zd<|zn (zy (id:=25) (ps:=[]) U U (zb U) U ⟨U,?_⟩)
   refine za (zc U) U<|za (zc U) U ?_
   obtain⟨q8,h⟩:=h
   refine za (xc (f:=ci) U U ⟨_,U⟩ q8) U ?_
   obtain⟨q9,h⟩:=h
   refine zn (xd ci (l:=([] : List Int)) (m:=sl o9_1 0 r1_0) U U U (zb U) q9 ⟨U,?_⟩)
   refine za (zc U) U ?_
   obtain⟨q10,h⟩:=h
   refine zn (yx ci (l:=([] : List Int) ++ (sl o9_1 0 r1_0)) (m:=([v6_1]) ++ (sl o9_1 r1_0 (o9_1.length:Int))) U U U U U (zb U) q10 ⟨U,?_⟩)
   refine za (ze U) U<|zf<|zk (zl (n:=33) (σ':=[(25,⟨ints ((([] : List Int) ++ (sl o9_1 0 r1_0)) ++ (([v6_1]) ++ (sl o9_1 r1_0 (o9_1.length:Int)))),[]⟩),(800,⟨[.lst (bys o1_0),ci o1_1,cu o1_2],[]⟩)]) (env':=[(0,.cell 800 0),(1,.c (ci n)),(5,.ref 25),(6,.c (ci v6_1)),(33,.cell 800 0),(34,.c (ci n))]) U U E6)<|zd<|za (zc U) U ?_
   obtain⟨q11,h⟩:=h
   exact za (zG U U q11) U<|za (ze U) U<|zf<|⟨v6_1 + 1,(([] : List Int) ++ (sl o9_1 0 r1_0)) ++ (([v6_1]) ++ (sl o9_1 r1_0 (o9_1.length:Int))),o1_0,o1_1,o1_2,zQ (gh_ren (a:=25) (b:=9) U U) (zv (n:=33) U U E6),h.1,h.2⟩
  ·replace h:=h.2 (zh q2)
   exact zL<|zg<|zk (zl (n:=33) (σ':=[(9,⟨ints o9_1,[]⟩),(800,⟨[.lst (bys f800_0_1),ci f800_1_1,cu f800_2_1],[]⟩)]) (env':=[(5,.ref 9),(33,.cell 800 0),(34,.c (ci n))]) U U E3)<|zd<|za (zc U) U<|za (ze U) U<|zf<|zA<|ym (zH U (zw U)) U U U ⟨_,_,_,_,h,U,U⟩
theorem c_spec_l03DrawPerm (s1:List Int) (s2:Int) (s3:Int) (n:Int) (hp:okS s1 s2 s3/\n<=1000):AM Tryz.prog 23 [.obox [.lst (bys s1),ci s2,cu s3],ci n] (fun R_ O_=>∃ y0 w0 w1 w2,(((y0.length:Int) = max n 0/\(∀ z_ ∈ y0,0<=z_/\z_ < n)/\y0.Nodup)/\w0 = s1/\okS s1 w1 w2)/\R_ = .own (ints y0)/\O_ = [.obox [.lst (bys w0),ci w1,cu w2],ci n]):=
  w_spec_l03DrawPerm s1 s2 s3 n (fun y0 w0 w1 w2=>((y0.length:Int) = max n 0/\(∀ z_ ∈ y0,0<=z_/\z_ < n)/\y0.Nodup)/\w0 = s1/\okS s1 w1 w2) (p_spec_l03DrawPerm s1 s2 s3 n hp)
end Go.Proofs.YtjolbldlhjfciaaGreatDoor
