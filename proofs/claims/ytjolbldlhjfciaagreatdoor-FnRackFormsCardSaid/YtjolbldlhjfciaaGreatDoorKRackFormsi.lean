/- Contracts of functions that the law FnRackForms reaches: conditions, plain proofs, walks; no condition. -/
import Derived.Test.YtjolbldlhjfciaaGreatDoorKRackFormsh
import Derived.Test.YtjolbldlhjfciaaGreatDoorPP
namespace Go.Proofs.YtjolbldlhjfciaaGreatDoor
set_option maxRecDepth 100000
set_option maxHeartbeats 4000000

def wp_spec_DrawRackSolution (code:List Int) (Q:List (List Int)->Prop):Prop:=
 (small code/\bytes code)/\
 ∀ (r1_0:List Int) (r1_1:Int) (r1_2:Int),(r1_0 = code/\okS code r1_1 r1_2)->
 (okS r1_0 r1_1 r1_2/\1<=(12:Int)/\(12:Int)<=12)/\
 ∀ (r2_0:List (List Int)) (o2_0:List Int) (o2_1:Int) (o2_2:Int),(drT (12:Int) r2_0/\o2_0 = r1_0/\okS r1_0 o2_1 o2_2)->
 Q r2_0
def wp_spec_DrawRackText (code:List Int) (Q:List (List Int)->Prop):Prop:=
 (small code/\bytes code)/\
 ∀ (r1_0:List (List Int)),(drT 12 r1_0)->
 Q r1_0
def wp_spec_DrawRackIsomorphism (code:List Int) (Q:List (List Int)->List (List Int)->Prop):Prop:=
 (small code/\bytes code)/\
 ∀ (r1_0:List Int) (r1_1:Int) (r1_2:Int),(r1_0 = code/\okS code r1_1 r1_2)->
 (okS r1_0 r1_1 r1_2/\1<=(7:Int)/\(7:Int)<=12)/\
 ∀ (r2_0:List (List Int)) (o2_0:List Int) (o2_1:Int) (o2_2:Int),(drT (7:Int) r2_0/\o2_0 = r1_0/\okS r1_0 o2_1 o2_2)->
 (small2 r2_0)/\
 (((isRk r2_0) = true->
 (okS o2_0 o2_1 o2_2/\InI (3:Int))/\
 ∀ (r3_0:Int) (o3_0:List Int) (o3_1:Int) (o3_2:Int),(nxP (3:Int) r3_0/\o3_0 = o2_0/\okS o2_0 o3_1 o3_2)->
 ((0 < r3_0->
 (okS o3_0 o3_1 o3_2/\(r2_0.length:Int)<=1000)/\
 ∀ (r4_0:List Int) (o4_0:List Int) (o4_1:Int) (o4_2:Int),(((r4_0.length:Int) = max (r2_0.length:Int) 0/\(∀ z_ ∈ r4_0,0<=z_/\z_ < (r2_0.length:Int))/\r4_0.Nodup)/\o4_0 = o3_0/\okS o3_0 o4_1 o4_2)->
 (isTab r2_0 = true/\(r4_0.length:Int) = (r2_0.length:Int)/\∀ z_ ∈ r4_0,0<=z_/\z_ < (r2_0.length:Int))/\
 ∀ (r5_0:List (List Int)),(isTab r5_0 = true/\r5_0.length = r2_0.length/\(isPerm r4_0 = true->∀ u_ v_:Int,(0<=u_/\u_ < (r2_0.length:Int))->(0<=v_/\v_ < (r2_0.length:Int))->el (el r5_0 (el r4_0 u_)) (el r4_0 v_) = el r4_0 (el (el r2_0 u_) v_)))->
 Q r2_0 r5_0)/\
 (¬ (0 < r3_0)->
 (okS o3_0 o3_1 o3_2/\1<=(7:Int)/\(7:Int)<=12)/\
 ∀ (r6_0:List (List Int)) (o6_0:List Int) (o6_1:Int) (o6_2:Int),(drT (7:Int) r6_0/\o6_0 = o3_0/\okS o3_0 o6_1 o6_2)->
 Q r2_0 r6_0)))/\
 ((isRk r2_0) = false->
 (okS o2_0 o2_1 o2_2/\1<=(7:Int)/\(7:Int)<=12)/\
 ∀ (r7_0:List (List Int)) (o7_0:List Int) (o7_1:Int) (o7_2:Int),(drT (7:Int) r7_0/\o7_0 = o2_0/\okS o2_0 o7_1 o7_2)->
 Q r2_0 r7_0))
def wp_spec_l01Damage (s1:List Int) (s2:Int) (s3:Int) (t:List UInt8) (Q:List UInt8->List Int->Int->Int->Prop):Prop:=
 (okS s1 s2 s3/\InI (([([48] : List UInt8),([49] : List UInt8),([50] : List UInt8),([53] : List UInt8),([57] : List UInt8),([97] : List UInt8),([98] : List UInt8),([99] : List UInt8),([47] : List UInt8),([124] : List UInt8),([32] : List UInt8),([44] : List UInt8),([45] : List UInt8),([58] : List UInt8),([120] : List UInt8),([121] : List UInt8),([115] : List UInt8),([10] : List UInt8)]).length:Int))/\
 ∀ (r1_0:Int) (o1_0:List Int) (o1_1:Int) (o1_2:Int),(nxP (([([48] : List UInt8),([49] : List UInt8),([50] : List UInt8),([53] : List UInt8),([57] : List UInt8),([97] : List UInt8),([98] : List UInt8),([99] : List UInt8),([47] : List UInt8),([124] : List UInt8),([32] : List UInt8),([44] : List UInt8),([45] : List UInt8),([58] : List UInt8),([120] : List UInt8),([121] : List UInt8),([115] : List UInt8),([10] : List UInt8)]).length:Int) r1_0/\o1_0 = s1/\okS s1 o1_1 o1_2)->
 (0<=r1_0/\r1_0 < (([([48] : List UInt8),([49] : List UInt8),([50] : List UInt8),([53] : List UInt8),([57] : List UInt8),([97] : List UInt8),([98] : List UInt8),([99] : List UInt8),([47] : List UInt8),([124] : List UInt8),([32] : List UInt8),([44] : List UInt8),([45] : List UInt8),([58] : List UInt8),([120] : List UInt8),([121] : List UInt8),([115] : List UInt8),([10] : List UInt8)]).length:Int))/\
 (((t.length:Int) = 0->
 Q (el ([([48] : List UInt8),([49] : List UInt8),([50] : List UInt8),([53] : List UInt8),([57] : List UInt8),([97] : List UInt8),([98] : List UInt8),([99] : List UInt8),([47] : List UInt8),([124] : List UInt8),([32] : List UInt8),([44] : List UInt8),([45] : List UInt8),([58] : List UInt8),([120] : List UInt8),([121] : List UInt8),([115] : List UInt8),([10] : List UInt8)]) r1_0) o1_0 o1_1 o1_2)/\
 (¬ ((t.length:Int) = 0)->
 (okS o1_0 o1_1 o1_2/\InI (t.length:Int))/\
 ∀ (r2_0:Int) (o2_0:List Int) (o2_1:Int) (o2_2:Int),(nxP (t.length:Int) r2_0/\o2_0 = o1_0/\okS o1_0 o2_1 o2_2)->
 (okS o2_0 o2_1 o2_2/\InI (3:Int))/\
 ∀ (r3_0:Int) (o3_0:List Int) (o3_1:Int) (o3_2:Int),(nxP (3:Int) r3_0/\o3_0 = o2_0/\okS o2_0 o3_1 o3_2)->
 ((r3_0 = 0->
 ((0:Int)<=0/\0<=r2_0/\r2_0<=(t.length:Int))/\
 (((sl t 0 r2_0).length:Int) + ((el ([([48] : List UInt8),([49] : List UInt8),([50] : List UInt8),([53] : List UInt8),([57] : List UInt8),([97] : List UInt8),([98] : List UInt8),([99] : List UInt8),([47] : List UInt8),([124] : List UInt8),([32] : List UInt8),([44] : List UInt8),([45] : List UInt8),([58] : List UInt8),([120] : List UInt8),([121] : List UInt8),([115] : List UInt8),([10] : List UInt8)]) r1_0).length:Int)<=9223372036854775807)/\
 (InI (r2_0 + 1))/\
 (0<=r2_0 + 1/\r2_0 + 1<=(t.length:Int)/\(t.length:Int)<=(t.length:Int))/\
 ((((sl t 0 r2_0) ++ (el ([([48] : List UInt8),([49] : List UInt8),([50] : List UInt8),([53] : List UInt8),([57] : List UInt8),([97] : List UInt8),([98] : List UInt8),([99] : List UInt8),([47] : List UInt8),([124] : List UInt8),([32] : List UInt8),([44] : List UInt8),([45] : List UInt8),([58] : List UInt8),([120] : List UInt8),([121] : List UInt8),([115] : List UInt8),([10] : List UInt8)]) r1_0)).length:Int) + ((sl t (r2_0 + 1) (t.length:Int)).length:Int)<=9223372036854775807)/\
 Q (((sl t 0 r2_0) ++ (el ([([48] : List UInt8),([49] : List UInt8),([50] : List UInt8),([53] : List UInt8),([57] : List UInt8),([97] : List UInt8),([98] : List UInt8),([99] : List UInt8),([47] : List UInt8),([124] : List UInt8),([32] : List UInt8),([44] : List UInt8),([45] : List UInt8),([58] : List UInt8),([120] : List UInt8),([121] : List UInt8),([115] : List UInt8),([10] : List UInt8)]) r1_0)) ++ (sl t (r2_0 + 1) (t.length:Int))) o3_0 o3_1 o3_2)/\
 (¬ (r3_0 = 0)->
 ((r3_0 = 1->
 ((0:Int)<=0/\0<=r2_0/\r2_0<=(t.length:Int))/\
 (InI (r2_0 + 1))/\
 (0<=r2_0 + 1/\r2_0 + 1<=(t.length:Int)/\(t.length:Int)<=(t.length:Int))/\
 (((sl t 0 r2_0).length:Int) + ((sl t (r2_0 + 1) (t.length:Int)).length:Int)<=9223372036854775807)/\
 Q ((sl t 0 r2_0) ++ (sl t (r2_0 + 1) (t.length:Int))) o3_0 o3_1 o3_2)/\
 (¬ (r3_0 = 1)->
 ((0:Int)<=0/\0<=r2_0/\r2_0<=(t.length:Int))/\
 (((sl t 0 r2_0).length:Int) + ((el ([([48] : List UInt8),([49] : List UInt8),([50] : List UInt8),([53] : List UInt8),([57] : List UInt8),([97] : List UInt8),([98] : List UInt8),([99] : List UInt8),([47] : List UInt8),([124] : List UInt8),([32] : List UInt8),([44] : List UInt8),([45] : List UInt8),([58] : List UInt8),([120] : List UInt8),([121] : List UInt8),([115] : List UInt8),([10] : List UInt8)]) r1_0).length:Int)<=9223372036854775807)/\
 (0<=r2_0/\r2_0<=(t.length:Int)/\(t.length:Int)<=(t.length:Int))/\
 ((((sl t 0 r2_0) ++ (el ([([48] : List UInt8),([49] : List UInt8),([50] : List UInt8),([53] : List UInt8),([57] : List UInt8),([97] : List UInt8),([98] : List UInt8),([99] : List UInt8),([47] : List UInt8),([124] : List UInt8),([32] : List UInt8),([44] : List UInt8),([45] : List UInt8),([58] : List UInt8),([120] : List UInt8),([121] : List UInt8),([115] : List UInt8),([10] : List UInt8)]) r1_0)).length:Int) + ((sl t r2_0 (t.length:Int)).length:Int)<=9223372036854775807)/\
 Q (((sl t 0 r2_0) ++ (el ([([48] : List UInt8),([49] : List UInt8),([50] : List UInt8),([53] : List UInt8),([57] : List UInt8),([97] : List UInt8),([98] : List UInt8),([99] : List UInt8),([47] : List UInt8),([124] : List UInt8),([32] : List UInt8),([44] : List UInt8),([45] : List UInt8),([58] : List UInt8),([120] : List UInt8),([121] : List UInt8),([115] : List UInt8),([10] : List UInt8)]) r1_0)) ++ (sl t r2_0 (t.length:Int))) o3_0 o3_1 o3_2))))))
def wp_spec_DrawParseRack (code:List Int) (Q:List UInt8->Prop):Prop:=
 (small code/\bytes code)/\
 ∀ (r1_0:List Int) (r1_1:Int) (r1_2:Int),(r1_0 = code/\okS code r1_1 r1_2)->
 (okS r1_0 r1_1 r1_2/\1<=(6:Int)/\(6:Int)<=12)/\
 ∀ (r2_0:List (List Int)) (o2_0:List Int) (o2_1:Int) (o2_2:Int),((isTab r2_0 = true/\(r2_0.length:Int)<=(6:Int))/\o2_0 = r1_0/\okS r1_0 o2_1 o2_2)->
 (isTab r2_0 = true)/\
 (okS o2_0 o2_1 o2_2/\InI (3:Int))/\
 ∀ (r3_0:Int) (o3_0:List Int) (o3_1:Int) (o3_2:Int),(nxP (3:Int) r3_0/\o3_0 = o2_0/\okS o2_0 o3_1 o3_2)->
 ((r3_0 = 0->
 (okS o3_0 o3_1 o3_2/\((txtI r2_0).length:Int)<=1000)/\
 ∀ (r4_0:List UInt8) (o4_0:List Int) (o4_1:Int) (o4_2:Int),(((r4_0.length:Int)<=1100)/\o4_0 = o3_0/\okS o3_0 o4_1 o4_2)->
 Q r4_0)/\
 (¬ (r3_0 = 0)->
 Q (txtI r2_0)))
theorem drT_sm {m:Int} {t:List (List Int)} (hm:m<=12) (h:drT m t):small2 t:=by
  obtain⟨h1,h2⟩:=h
  exact⟨by show (t.length:Int)<=1000000000; omega,fun r hr=>by have:=(h2 r hr).1; show (r.length:Int)<=1000000000; omega⟩
theorem p_spec_DrawRackText (code:List Int) (hp:small code/\bytes code):wp_spec_DrawRackText code (fun y0=>drT 12 y0):=⟨hp,fun _ h=>h⟩
theorem p_spec_DrawRackSolution (code:List Int) (hp:small code/\bytes code):wp_spec_DrawRackSolution code (fun y0=>drT 12 y0):=by
  refine⟨hp,?_⟩
  rintro c a h ⟨rfl,hs⟩
  exact⟨⟨hs,by omega,by omega⟩,fun t c2 a2 h2 ⟨ht,_⟩=>ht⟩
theorem p_spec_DrawRackIsomorphism (code:List Int) (hp:small code/\bytes code):wp_spec_DrawRackIsomorphism code (fun y0 y1=>drT 7 y0/\drT 7 y1):=by
  refine⟨hp,?_⟩
  rintro c a h ⟨rfl,hs⟩
  refine⟨⟨hs,by omega,by omega⟩,?_⟩
  rintro t c1 a1 h1 ⟨ht,rfl,s1⟩
  refine⟨drT_sm (by omega) ht,fun hr=>?_,fun _=>⟨⟨s1,by omega,by omega⟩,fun t2 _ _ _ ⟨h2,_⟩=>⟨ht,h2⟩⟩⟩
  have hT:=isRk_tab hr
  have hn:=isTab_len hT
  refine⟨⟨s1,by omega,by omega⟩,?_⟩
  rintro k c2 a2 h2 ⟨_,rfl,s2⟩
  refine⟨fun _=>⟨⟨s2,by omega⟩,?_⟩,fun _=>⟨⟨s2,by omega,by omega⟩,fun t2 _ _ _ ⟨h2,_⟩=>⟨ht,h2⟩⟩⟩
  rintro p c3 a3 h3 ⟨⟨p1,p2,_⟩,rfl,s3⟩
  exact⟨⟨hT,by omega,p2⟩,fun u ⟨u1,u2,_⟩=>⟨ht,drT_tab u1 (by rw [u2]; exact ht.1)⟩⟩
theorem p_spec_l01Damage (s1:List Int) (s2 s3:Int) (t:List UInt8) (hp:okS s1 s2 s3/\(t.length:Int)<=1000):wp_spec_l01Damage s1 s2 s3 t (fun y0 w0 w1 w2=>((y0.length:Int)<=1100)/\w0 = s1/\okS s1 w1 w2):=by
  unfold wp_spec_l01Damage
  have hS : ∀ x ∈ ([([48] : List UInt8),([49] : List UInt8),([50] : List UInt8),([53] : List UInt8),([57] : List UInt8),([97] : List UInt8),([98] : List UInt8),([99] : List UInt8),([47] : List UInt8),([124] : List UInt8),([32] : List UInt8),([44] : List UInt8),([45] : List UInt8),([58] : List UInt8),([120] : List UInt8),([121] : List UInt8),([115] : List UInt8),([10] : List UInt8)] : List (List UInt8)),x.length = 1:=by decide
  have hl:(([([48] : List UInt8),([49] : List UInt8),([50] : List UInt8),([53] : List UInt8),([57] : List UInt8),([97] : List UInt8),([98] : List UInt8),([99] : List UInt8),([47] : List UInt8),([124] : List UInt8),([32] : List UInt8),([44] : List UInt8),([45] : List UInt8),([58] : List UInt8),([120] : List UInt8),([121] : List UInt8),([115] : List UInt8),([10] : List UInt8)] : List (List UInt8))).length = 18:=rfl
  generalize ([([48] : List UInt8),([49] : List UInt8),([50] : List UInt8),([53] : List UInt8),([57] : List UInt8),([97] : List UInt8),([98] : List UInt8),([99] : List UInt8),([47] : List UInt8),([124] : List UInt8),([32] : List UInt8),([44] : List UInt8),([45] : List UInt8),([58] : List UInt8),([120] : List UInt8),([121] : List UInt8),([115] : List UInt8),([10] : List UInt8)] : List (List UInt8)) = S at hS hl ⊢
  obtain⟨h0,ht⟩:=hp
  refine⟨⟨h0,by omega,by omega⟩,?_⟩
  rintro k c1 a1 h1 ⟨hk,rfl,q1⟩
  have hk:=hk.2 (by omega)
  have e1:=hS _ (el_mem (l:=S) (i:=k) ⟨hk.1,hk.2⟩)
  generalize el S k = x at e1 ⊢
  refine⟨hk,fun _=>⟨by omega,rfl,q1⟩,fun hz=>⟨⟨q1,by omega,by omega⟩,?_⟩⟩
  rintro m c2 a2 h2 ⟨hm,rfl,q2⟩
  have hm:=hm.2 (by omega)
  refine⟨⟨q2,by omega,by omega⟩,?_⟩
  rintro w c3 a3 h3 ⟨_,rfl,q3⟩
  have l1:=length_sl (l:=t) (a:=0) (b:=m) ⟨by omega,hm.1,by omega⟩
  have l2:=length_sl (l:=t) (a:=m + 1) (b:=(t.length:Int)) ⟨by omega,by omega,by omega⟩
  have l3:=length_sl (l:=t) (a:=m) (b:=(t.length:Int)) ⟨by omega,by omega,by omega⟩
  simp only [List.length_append,Int.natCast_add,true_and]
  exact⟨fun _=>⟨⟨by omega,by omega,by omega⟩,by omega,⟨by omega,by omega⟩,⟨by omega,by omega,by omega⟩,by omega,by omega,q3⟩,fun _=>⟨fun _=>⟨⟨by omega,by omega,by omega⟩,⟨by omega,by omega⟩,⟨by omega,by omega,by omega⟩,by omega,by omega,q3⟩,fun _=>⟨⟨by omega,by omega,by omega⟩,by omega,⟨by omega,by omega,by omega⟩,by omega,by omega,q3⟩⟩⟩
theorem p_spec_DrawParseRack (code:List Int) (hp:small code/\bytes code):wp_spec_DrawParseRack code (fun y0=>(y0.length:Int)<=1100):=by
  refine⟨hp,?_⟩
  rintro c a h ⟨rfl,hs⟩
  refine⟨⟨hs,by omega,by omega⟩,?_⟩
  rintro t c1 a1 h1 ⟨⟨ht,hl⟩,rfl,s1⟩
  have hx:=txt_len t (row_le ht)
  refine⟨ht,⟨s1,by omega,by omega⟩,?_⟩
  rintro k c2 a2 h2 ⟨_,rfl,s2⟩
  exact⟨fun _=>⟨⟨s2,by omega⟩,fun x _ _ _ ⟨hx,_⟩=>hx⟩,fun _=>by omega⟩
theorem w_spec_DrawRackSolution (code:List Int) (Q:List (List Int)->Prop) (h:wp_spec_DrawRackSolution code Q):AF Tryz.prog 30 [.lst (bys code)] (fun R_=>∃ y0,Q y0/\R_ = .agg [.own (orows y0)]):=by
  refine zS (zM (n:=6) Tryz.func30 U (by rfl) U (zb U) ?_)
  unfold wp_spec_DrawRackSolution at h
  refine zg<|zk (zl (n:=6) (σ':=[]) (env':=[(0,.c (.lst (bys code)))]) U U E1)<|zd<|zn (yw (id:=2) U (zb U) ⟨U,?_⟩)
  refine zf<|zg<|zd<|za (zc U) U ?_
  obtain⟨q1,h⟩:=h
  refine zn (zF (xs:=[.tmp 3]) (ids:=[4]) U U U U (c_spec_l01From code q1) U ?_)
  rintro _ ⟨r1_0,r1_1,r1_2,q2,rfl⟩
  replace h:=h r1_0 r1_1 r1_2 q2
  refine⟨U,?_⟩
  obtain⟨q3,h⟩:=h
  refine zn (yp (xs:=[.tmp 4,.const (.int .i64 (12))]) (cs:=[.obox [.lst (bys r1_0),ci r1_1,cu r1_2],ci 12]) (ids:=[5]) U (.inr ⟨U,U⟩) U U U (c_spec_l03DrawAny r1_0 r1_1 r1_2 12 q3) U U ?_)
  rintro _ _ ⟨r2_0,o2_0,o2_1,o2_2,q4,rfl,rfl⟩
  replace h:=h r2_0 o2_0 o2_1 o2_2 q4
  refine⟨U,U,?_⟩
  refine zn (yf U U (zb U) U U U ⟨U,?_⟩)
  exact zf<|zA<|zr (zH U (yL U U U)) U U ⟨_,(zq _),_,h,U⟩
theorem c_spec_DrawRackSolution (code:List Int) (hp:small code/\bytes code):AF Tryz.prog 30 [.lst (bys code)] (fun R_=>∃ y0,(drT 12 y0)/\R_ = .agg [.own (orows y0)]):=
  w_spec_DrawRackSolution code (fun y0=>drT 12 y0) (p_spec_DrawRackSolution code hp)
theorem w_spec_DrawRackText (code:List Int) (Q:List (List Int)->Prop) (h:wp_spec_DrawRackText code Q):AF Tryz.prog 12 [.lst (bys code)] (fun R_=>∃ y0,Q y0/\R_ = .agg [.own (orows y0)]):=by
  refine zS (zM (n:=5) Tryz.func12 U (by rfl) U (zb U) ?_)
  unfold wp_spec_DrawRackText at h
  refine zg<|zk (zl (n:=5) (σ':=[]) (env':=[(0,.c (.lst (bys code)))]) U U E1)<|zd<|zn (yw (id:=2) U (zb U) ⟨U,?_⟩)
  refine zf<|zg<|zd<|za (zc U) U ?_
  obtain⟨q1,h⟩:=h
  refine zn (zF (xs:=[.tmp 3]) (ids:=[4]) U U U U (c_spec_DrawRackSolution code q1) U ?_)
  rintro _ ⟨r1_0,q2,rfl⟩
  replace h:=h r1_0 q2
  refine⟨U,?_⟩
  refine zn (yf U U (zb U) U U U ⟨U,?_⟩)
  exact zf<|zA<|zr (zH U (yL U U U)) U U ⟨_,(zq _),_,h,U⟩
theorem c_spec_DrawRackText (code:List Int) (hp:small code/\bytes code):AF Tryz.prog 12 [.lst (bys code)] (fun R_=>∃ y0,(drT 12 y0)/\R_ = .agg [.own (orows y0)]):=
  w_spec_DrawRackText code (fun y0=>drT 12 y0) (p_spec_DrawRackText code hp)
theorem w_spec_DrawRackIsomorphism (code:List Int) (Q:List (List Int)->List (List Int)->Prop) (h:wp_spec_DrawRackIsomorphism code Q):AF Tryz.prog 5 [.lst (bys code)] (fun R_=>∃ y0 y1,Q y0 y1/\R_ = .tup [.agg [.own (orows y0)],.agg [.own (orows y1)]]):=by
  refine zS (zM (n:=30) Tryz.func5 U (by rfl) U (zb U) ?_)
  unfold wp_spec_DrawRackIsomorphism at h
  refine zg<|zk (zl (n:=30) (σ':=[]) (env':=[(0,.c (.lst (bys code)))]) U U E1)<|zd<|zn (yw (id:=2) U (zb U) ⟨U,?_⟩)
  refine zn (yw (id:=3) U (zb U) ⟨U,?_⟩)
  refine zf<|zg<|zd<|za (zc U) U ?_
  obtain⟨q1,h⟩:=h
  refine zn (zF (xs:=[.tmp 6]) (ids:=[7]) U U U U (c_spec_l01From code q1) U ?_)
  rintro _ ⟨r1_0,r1_1,r1_2,q2,rfl⟩
  replace h:=h r1_0 r1_1 r1_2 q2
  refine⟨U,?_⟩
  refine za (ze U) U<|zf<|zg<|zd<|za (zc U) U ?_
  obtain⟨q3,h⟩:=h
  refine zn (yp (xs:=[.tmp 8,.const (.int .i64 (7))]) (cs:=[.obox [.lst (bys r1_0),ci r1_1,cu r1_2],ci 7]) (ids:=[9]) U (.inr ⟨U,U⟩) U U U (c_spec_l03DrawAny r1_0 r1_1 r1_2 7 q3) U U ?_)
  rintro _ _ ⟨r2_0,o2_0,o2_1,o2_2,q4,rfl,rfl⟩
  replace h:=h r2_0 o2_0 o2_1 o2_2 q4
  refine⟨U,U,?_⟩
  refine zn (yw (id:=5) U (zb U) ⟨U,?_⟩)
  refine zn (yf U U (zb U) U U U ⟨U,?_⟩)
  refine zf<|zg<|zg<|zd<|za (yP U U U U) U ?_
  obtain⟨q5,h⟩:=h
  refine zn (yU (xs:=[.tmp 10]) (cs:=[.agg [.own (orows r2_0)]]) (ids:=[]) U (.inr ⟨U,U⟩) U U (yD (fz_agg (yD (yq (yr (fun _=>(yq (yr (fun _=>U) _))) _)) yX)) yX) (c_spec_l03Is r2_0 q5) U ?_)
  rintro _ rfl
  refine⟨U,U,?_⟩
  refine za (zc U) U<|zX (s:=12) U (fun q7=>?_) (fun q7=>?_)
  ·replace h:=h.1 (q7)
   refine zE U U q7<|za (zc U) U<|zE U U q7 ?_
   obtain⟨q8,h⟩:=h
   refine zn (yp (xs:=[.tmp 13,.const (.int .i64 (3))]) (cs:=[.obox [.lst (bys o2_0),ci o2_1,cu o2_2],ci 3]) (ids:=[]) U (.inr ⟨U,U⟩) U U U (c_spec_l01Next o2_0 o2_1 o2_2 3 q8) U U ?_)
   rintro _ _ ⟨r3_0,o3_0,o3_1,o3_2,q9,rfl,rfl⟩
   replace h:=h r3_0 o3_0 o3_1 o3_2 q9
   refine⟨U,U,?_⟩
   refine zE U U q7<|za (ss_gtr U U) U<|za (zU U q7 U) U<|zf<|zm U (fun q10=>?_) (fun q10=>?_)
   ·replace h:=h.1 (zj q10)
    refine zg<|zk (zl (n:=30) (σ':=[(5,⟨[.hole],[(0,.ref 9)]⟩),(9,⟨orows r2_0,[]⟩),(7,⟨[.lst (bys o3_0),ci o3_1,cu o3_2],[]⟩),(3,⟨[cnil],[]⟩),(2,⟨[cnil],[]⟩)]) (env':=[(2,.cell 2 0),(3,.cell 3 0),(4,.cell 7 0),(5,.cell 5 0)]) U U E4)<|zP (kd:=kdl [1,0,1,0,0,1,0,2,2,0,3,3]) (ord:=[1,3,4,0,2,5,6,7,8,9,10,11]) [7] mixed (by kernel_rfl)<|zp U U trivial (zD U) U<|zp U U trivial (zc U) U<|zp U U trivial (zD U) U<|zY U U trivial (yP U U U U) U<|zY U U trivial (yt U U U U) U<|zY U U trivial (yt U U U U) U<|zp U U trivial (yR (f:=(fun r=>C.own (ints r))) U U) U ?_
    obtain⟨q11,h⟩:=h
    refine y7 U U trivial U U (yp (xs:=[.tmp 20,.tmp 23]) (cs:=[.obox [.lst (bys o3_0),ci o3_1,cu o3_2],ci (r2_0.length:Int)]) (ids:=[24]) U (.inr ⟨U,U⟩) U U U (c_spec_l03DrawPerm o3_0 o3_1 o3_2 (r2_0.length:Int) q11) U U ?_)
    rintro _ _ ⟨r4_0,o4_0,o4_1,o4_2,q12,rfl,rfl⟩
    replace h:=h r4_0 o4_0 o4_1 o4_2 q12
    refine⟨U,U,?_⟩
    obtain⟨q13,h⟩:=h
    refine y7 U U trivial U U (yU (xs:=[.tmp 19,.tmp 24]) (cs:=[.own (orows r2_0),.own (ints r4_0)]) (ids:=[25]) U (.inr ⟨U,U⟩) U U (yD (yq (yr (fun _=>(yq (yr (fun _=>U) _))) _)) (yD (yq (yr (fun _=>U) _)) yX)) (c_spec_l03Image r2_0 r4_0 q13) U ?_)
    rintro _ ⟨r5_0,q14,rfl⟩
    replace h:=h r5_0 q14
    refine⟨(slf_own (xg (f:=(fun r=>C.own (ints r))) (fun _=>(slf_own (xg (f:=ci) (fun _=>U) _))) _)),U,?_⟩
    refine zp U U trivial (ss_build (ps:=[(0,.tmp 25)]) U U) U<|xq U U trivial (yf U U (zb U) U U U ⟨U,?_⟩)
    refine xq U U trivial (yf U U (zb U) U U U ⟨U,?_⟩)
    exact yh<|zA<|zr (yT U (yL U U U) (yL U U U)) U U ⟨_,(zq _),_,_,h,U⟩
   ·replace h:=h.2 (zh q10)
    refine zu<|zg<|zk (zl (n:=30) (σ':=[(5,⟨[.hole],[(0,.ref 9)]⟩),(9,⟨orows r2_0,[]⟩),(7,⟨[.lst (bys o3_0),ci o3_1,cu o3_2],[]⟩),(3,⟨[cnil],[]⟩),(2,⟨[cnil],[]⟩)]) (env':=[(2,.cell 2 0),(3,.cell 3 0),(4,.cell 7 0),(5,.cell 5 0)]) U U E4)<|zP (kd:=kdl [1,0,2,3,3]) (ord:=[1,0,2,3,4]) [7] mixed (by kernel_rfl)<|zp U U trivial (zc U) U<|zY U U trivial (yP U U U U) U ?_
    obtain⟨q15,h⟩:=h
    refine y7 U U trivial U U (yp (xs:=[.tmp 28,.const (.int .i64 (7))]) (cs:=[.obox [.lst (bys o3_0),ci o3_1,cu o3_2],ci 7]) (ids:=[29]) U (.inr ⟨U,U⟩) U U U (c_spec_l03DrawAny o3_0 o3_1 o3_2 7 q15) U U ?_)
    rintro _ _ ⟨r6_0,o6_0,o6_1,o6_2,q16,rfl,rfl⟩
    replace h:=h r6_0 o6_0 o6_1 o6_2 q16
    refine⟨U,U,?_⟩
    refine xq U U trivial (yf U U (zb U) U U U ⟨U,?_⟩)
    refine xq U U trivial (yf U U (zb U) U U U ⟨U,?_⟩)
    exact yh<|zA<|zr (yT U (yL U U U) (yL U U U)) U U ⟨_,(zq _),_,_,h,U⟩
  ·replace h:=h.2 (q7)
   refine zC U U q7 U<|zC U U q7 U<|zC U U q7 U<|za (zV U q7 U) U<|zf<|zm U (fun q17=>?_) (fun q17=>?_)
   ·cases q17
   ·skip
    refine zu<|zg<|zk (zl (n:=30) (σ':=[(5,⟨[.hole],[(0,.ref 9)]⟩),(9,⟨orows r2_0,[]⟩),(7,⟨[.lst (bys o2_0),ci o2_1,cu o2_2],[]⟩),(3,⟨[cnil],[]⟩),(2,⟨[cnil],[]⟩)]) (env':=[(2,.cell 2 0),(3,.cell 3 0),(4,.cell 7 0),(5,.cell 5 0)]) U U E4)<|zP (kd:=kdl [1,0,2,3,3]) (ord:=[1,0,2,3,4]) [7] mixed (by kernel_rfl)<|zp U U trivial (zc U) U<|zY U U trivial (yP U U U U) U ?_
    obtain⟨q18,h⟩:=h
    refine y7 U U trivial U U (yp (xs:=[.tmp 28,.const (.int .i64 (7))]) (cs:=[.obox [.lst (bys o2_0),ci o2_1,cu o2_2],ci 7]) (ids:=[29]) U (.inr ⟨U,U⟩) U U U (c_spec_l03DrawAny o2_0 o2_1 o2_2 7 q18) U U ?_)
    rintro _ _ ⟨r7_0,o7_0,o7_1,o7_2,q19,rfl,rfl⟩
    replace h:=h r7_0 o7_0 o7_1 o7_2 q19
    refine⟨U,U,?_⟩
    refine xq U U trivial (yf U U (zb U) U U U ⟨U,?_⟩)
    refine xq U U trivial (yf U U (zb U) U U U ⟨U,?_⟩)
    exact yh<|zA<|zr (yT U (yL U U U) (yL U U U)) U U ⟨_,(zq _),_,_,h,U⟩
theorem c_spec_DrawRackIsomorphism (code:List Int) (hp:small code/\bytes code):AF Tryz.prog 5 [.lst (bys code)] (fun R_=>∃ y0 y1,(drT 7 y0/\drT 7 y1)/\R_ = .tup [.agg [.own (orows y0)],.agg [.own (orows y1)]]):=
  w_spec_DrawRackIsomorphism code (fun y0 y1=>drT 7 y0/\drT 7 y1) (p_spec_DrawRackIsomorphism code hp)
theorem w_spec_l01Damage (s1:List Int) (s2:Int) (s3:Int) (t:List UInt8) (Q:List UInt8->List Int->Int->Int->Prop) (h:wp_spec_l01Damage s1 s2 s3 t Q):AM Tryz.prog 35 [.obox [.lst (bys s1),ci s2,cu s3],cs t] (fun R_ O_=>∃ y0 w0 w1 w2,Q y0 w0 w1 w2/\R_ = cs y0/\O_ = [.obox [.lst (bys w0),ci w1,cu w2],cs t]):=by
  refine xj (n:=57) (m:=2) Tryz.func35 U (by rfl) U U (zb U) [800] U ?_
  unfold wp_spec_l01Damage at h
  refine zg<|zk (zl (n:=57) (σ':=[(800,⟨[.lst (bys s1),ci s2,cu s3],[]⟩)]) (env':=[(0,.cell 800 0),(1,.c (cs t)),(57,.cell 800 0),(58,.c (cs t))]) U U E4)<|zd<|za (ze U) U<|zf<|zg<|zd<|zn (zy (id:=8) (ps:=[(0,.const (.string ⟨#[48]⟩)),(1,.const (.string ⟨#[49]⟩)),(2,.const (.string ⟨#[50]⟩)),(3,.const (.string ⟨#[53]⟩)),(4,.const (.string ⟨#[57]⟩)),(5,.const (.string ⟨#[97]⟩)),(6,.const (.string ⟨#[98]⟩)),(7,.const (.string ⟨#[99]⟩)),(8,.const (.string ⟨#[47]⟩)),(9,.const (.string ⟨#[124]⟩)),(10,.const (.string ⟨#[32]⟩)),(11,.const (.string ⟨#[44]⟩)),(12,.const (.string ⟨#[45]⟩)),(13,.const (.string ⟨#[58]⟩)),(14,.const (.string ⟨#[120]⟩)),(15,.const (.string ⟨#[121]⟩)),(16,.const (.string ⟨#[115]⟩)),(17,.const (.string ⟨#[10]⟩))]) U U (zb U) U ⟨U,?_⟩)
  refine za (ze U) U<|zf<|zg<|zk (zl (n:=57) (σ':=[(8,⟨strs ([([48] : List UInt8),([49] : List UInt8),([50] : List UInt8),([53] : List UInt8),([57] : List UInt8),([97] : List UInt8),([98] : List UInt8),([99] : List UInt8),([47] : List UInt8),([124] : List UInt8),([32] : List UInt8),([44] : List UInt8),([45] : List UInt8),([58] : List UInt8),([120] : List UInt8),([121] : List UInt8),([115] : List UInt8),([10] : List UInt8)]),[]⟩),(800,⟨[.lst (bys s1),ci s2,cu s3],[]⟩)]) (env':=[(0,.cell 800 0),(1,.c (cs t)),(5,.ref 8),(57,.cell 800 0),(58,.c (cs t))]) U U E5)<|zd<|za (zc U) U<|za (zc U) U<|za (zc U) U<|za (yR (f:=cs) U U) U ?_
  obtain⟨q1,h⟩:=h
  refine zn (yp (xs:=[.tmp 10,.tmp 12]) (cs:=[.obox [.lst (bys s1),ci s2,cu s3],ci (([([48] : List UInt8),([49] : List UInt8),([50] : List UInt8),([53] : List UInt8),([57] : List UInt8),([97] : List UInt8),([98] : List UInt8),([99] : List UInt8),([47] : List UInt8),([124] : List UInt8),([32] : List UInt8),([44] : List UInt8),([45] : List UInt8),([58] : List UInt8),([120] : List UInt8),([121] : List UInt8),([115] : List UInt8),([10] : List UInt8)]).length:Int)]) (ids:=[]) U (.inr ⟨U,U⟩) U U U (c_spec_l01Next s1 s2 s3 (([([48] : List UInt8),([49] : List UInt8),([50] : List UInt8),([53] : List UInt8),([57] : List UInt8),([97] : List UInt8),([98] : List UInt8),([99] : List UInt8),([47] : List UInt8),([124] : List UInt8),([32] : List UInt8),([44] : List UInt8),([45] : List UInt8),([58] : List UInt8),([120] : List UInt8),([121] : List UInt8),([115] : List UInt8),([10] : List UInt8)]).length:Int) q1) U U ?_)
  rintro _ _ ⟨r1_0,o1_0,o1_1,o1_2,q2,rfl,rfl⟩
  replace h:=h r1_0 o1_0 o1_1 o1_2 q2
  refine⟨U,U,?_⟩
  obtain⟨q3,h⟩:=h
  refine za (zR (f:=cs) U U U q3) U<|za (yi (f:=cs) U U q3 U U) U<|za (ze U) U<|zf<|zg<|zg<|zk (zl (n:=57) (σ':=[(8,⟨strs ([([48] : List UInt8),([49] : List UInt8),([50] : List UInt8),([53] : List UInt8),([57] : List UInt8),([97] : List UInt8),([98] : List UInt8),([99] : List UInt8),([47] : List UInt8),([124] : List UInt8),([32] : List UInt8),([44] : List UInt8),([45] : List UInt8),([58] : List UInt8),([120] : List UInt8),([121] : List UInt8),([115] : List UInt8),([10] : List UInt8)]),[]⟩),(800,⟨[.lst (bys o1_0),ci o1_1,cu o1_2],[]⟩)]) (env':=[(0,.cell 800 0),(1,.c (cs t)),(6,.c (cs (el ([([48] : List UInt8),([49] : List UInt8),([50] : List UInt8),([53] : List UInt8),([57] : List UInt8),([97] : List UInt8),([98] : List UInt8),([99] : List UInt8),([47] : List UInt8),([124] : List UInt8),([32] : List UInt8),([44] : List UInt8),([45] : List UInt8),([58] : List UInt8),([120] : List UInt8),([121] : List UInt8),([115] : List UInt8),([10] : List UInt8)]) r1_0))),(57,.cell 800 0),(58,.c (cs t))]) U U E5)<|zd<|za (zc U) U<|za (ss_lenS U) U<|za (yE U U) U<|zf<|zm U (fun q4=>?_) (fun q4=>?_)
  ·replace h:=h.1 (zj q4)
   exact zg<|zk (zl (n:=57) (σ':=[(8,⟨strs ([([48] : List UInt8),([49] : List UInt8),([50] : List UInt8),([53] : List UInt8),([57] : List UInt8),([97] : List UInt8),([98] : List UInt8),([99] : List UInt8),([47] : List UInt8),([124] : List UInt8),([32] : List UInt8),([44] : List UInt8),([45] : List UInt8),([58] : List UInt8),([120] : List UInt8),([121] : List UInt8),([115] : List UInt8),([10] : List UInt8)]),[]⟩),(800,⟨[.lst (bys o1_0),ci o1_1,cu o1_2],[]⟩)]) (env':=[(6,.c (cs (el ([([48] : List UInt8),([49] : List UInt8),([50] : List UInt8),([53] : List UInt8),([57] : List UInt8),([97] : List UInt8),([98] : List UInt8),([99] : List UInt8),([47] : List UInt8),([124] : List UInt8),([32] : List UInt8),([44] : List UInt8),([45] : List UInt8),([58] : List UInt8),([120] : List UInt8),([121] : List UInt8),([115] : List UInt8),([10] : List UInt8)]) r1_0))),(57,.cell 800 0),(58,.c (cs t))]) U U E3)<|zd<|za (zc U) U<|za (ze U) U<|zf<|zA<|ym (zH U (zw U)) U U U ⟨_,_,_,_,h,U,U⟩
  ·replace h:=h.2 (zh q4)
   refine zu<|zg<|zd<|za (zc U) U<|za (zc U) U<|za (ss_lenS U) U ?_
   obtain⟨q5,h⟩:=h
   refine zn (yp (xs:=[.tmp 20,.tmp 22]) (cs:=[.obox [.lst (bys o1_0),ci o1_1,cu o1_2],ci (t.length:Int)]) (ids:=[]) U (.inr ⟨U,U⟩) U U U (c_spec_l01Next o1_0 o1_1 o1_2 (t.length:Int) q5) U U ?_)
   rintro _ _ ⟨r2_0,o2_0,o2_1,o2_2,q6,rfl,rfl⟩
   replace h:=h r2_0 o2_0 o2_1 o2_2 q6
   refine⟨U,U,?_⟩
   refine za (ze U) U<|zf<|zg<|zg<|zk (zl (n:=57) (σ':=[(8,⟨strs ([([48] : List UInt8),([49] : List UInt8),([50] : List UInt8),([53] : List UInt8),([57] : List UInt8),([97] : List UInt8),([98] : List UInt8),([99] : List UInt8),([47] : List UInt8),([124] : List UInt8),([32] : List UInt8),([44] : List UInt8),([45] : List UInt8),([58] : List UInt8),([120] : List UInt8),([121] : List UInt8),([115] : List UInt8),([10] : List UInt8)]),[]⟩),(800,⟨[.lst (bys o2_0),ci o2_1,cu o2_2],[]⟩)]) (env':=[(0,.cell 800 0),(1,.c (cs t)),(6,.c (cs (el ([([48] : List UInt8),([49] : List UInt8),([50] : List UInt8),([53] : List UInt8),([57] : List UInt8),([97] : List UInt8),([98] : List UInt8),([99] : List UInt8),([47] : List UInt8),([124] : List UInt8),([32] : List UInt8),([44] : List UInt8),([45] : List UInt8),([58] : List UInt8),([120] : List UInt8),([121] : List UInt8),([115] : List UInt8),([10] : List UInt8)]) r1_0))),(7,.c (ci r2_0)),(57,.cell 800 0),(58,.c (cs t))]) U U E6)<|zd<|za (zc U) U ?_
   obtain⟨q7,h⟩:=h
   refine zn (yp (xs:=[.tmp 24,.const (.int .i64 (3))]) (cs:=[.obox [.lst (bys o2_0),ci o2_1,cu o2_2],ci 3]) (ids:=[]) U (.inr ⟨U,U⟩) U U U (c_spec_l01Next o2_0 o2_1 o2_2 3 q7) U U ?_)
   rintro _ _ ⟨r3_0,o3_0,o3_1,o3_2,q8,rfl,rfl⟩
   replace h:=h r3_0 o3_0 o3_1 o3_2 q8
   refine⟨U,U,?_⟩
   refine zf<|zt<|zg<|zd<|za (yE U U) U<|za (ze U) U<|zf<|zm U (fun q9=>?_) (fun q9=>?_)
   ·replace h:=h.1 (zj q9)
    refine zg<|zk (zl (n:=57) (σ':=[(8,⟨strs ([([48] : List UInt8),([49] : List UInt8),([50] : List UInt8),([53] : List UInt8),([57] : List UInt8),([97] : List UInt8),([98] : List UInt8),([99] : List UInt8),([47] : List UInt8),([124] : List UInt8),([32] : List UInt8),([44] : List UInt8),([45] : List UInt8),([58] : List UInt8),([120] : List UInt8),([121] : List UInt8),([115] : List UInt8),([10] : List UInt8)]),[]⟩),(800,⟨[.lst (bys o3_0),ci o3_1,cu o3_2],[]⟩)]) (env':=[(1,.c (cs t)),(6,.c (cs (el ([([48] : List UInt8),([49] : List UInt8),([50] : List UInt8),([53] : List UInt8),([57] : List UInt8),([97] : List UInt8),([98] : List UInt8),([99] : List UInt8),([47] : List UInt8),([124] : List UInt8),([32] : List UInt8),([44] : List UInt8),([45] : List UInt8),([58] : List UInt8),([120] : List UInt8),([121] : List UInt8),([115] : List UInt8),([10] : List UInt8)]) r1_0))),(7,.c (ci r2_0)),(57,.cell 800 0),(58,.c (cs t))]) U U E5)<|zP (kd:=kdl [0,0,0,0,0,0,0,0,0,0,0]) (ord:=[0,1,2,3,4,5,6,7,8,9,10]) [] mixed (by kernel_rfl)<|zp U U trivial (zc U) U<|zp U U trivial (zc U) U ?_
    obtain⟨q10,h⟩:=h
    refine zp U U trivial (ss_slS U xi (y9 U) q10) U<|zp U U trivial (zc U) U ?_
    obtain⟨q11,h⟩:=h
    refine zp U U trivial (ss_cat U U q11) U<|zp U U trivial (zc U) U<|zp U U trivial (zc U) U ?_
    obtain⟨q12,h⟩:=h
    refine zp U U trivial (zG U U q12) U ?_
    obtain⟨q13,h⟩:=h
    refine zp U U trivial (ss_slS U (y9 U) xi q13) U ?_
    obtain⟨q14,h⟩:=h
    exact zp U U trivial (ss_cat U U q14) U<|zp U U trivial (ze U) U<|yh<|zA<|ym (zH U (zw U)) U U U ⟨_,_,_,_,h,U,U⟩
   ·replace h:=h.2 (zh q9)
    refine zg<|zk (zl (n:=57) (σ':=[(8,⟨strs ([([48] : List UInt8),([49] : List UInt8),([50] : List UInt8),([53] : List UInt8),([57] : List UInt8),([97] : List UInt8),([98] : List UInt8),([99] : List UInt8),([47] : List UInt8),([124] : List UInt8),([32] : List UInt8),([44] : List UInt8),([45] : List UInt8),([58] : List UInt8),([120] : List UInt8),([121] : List UInt8),([115] : List UInt8),([10] : List UInt8)]),[]⟩),(800,⟨[.lst (bys o3_0),ci o3_1,cu o3_2],[]⟩)]) (env':=[(1,.c (cs t)),(6,.c (cs (el ([([48] : List UInt8),([49] : List UInt8),([50] : List UInt8),([53] : List UInt8),([57] : List UInt8),([97] : List UInt8),([98] : List UInt8),([99] : List UInt8),([47] : List UInt8),([124] : List UInt8),([32] : List UInt8),([44] : List UInt8),([45] : List UInt8),([58] : List UInt8),([120] : List UInt8),([121] : List UInt8),([115] : List UInt8),([10] : List UInt8)]) r1_0))),(7,.c (ci r2_0)),(25,.c (ci r3_0)),(57,.cell 800 0),(58,.c (cs t))]) U U E6)<|zd<|za (yE U U) U<|za (ze U) U<|zf<|zm U (fun q15=>?_) (fun q15=>?_)
    ·replace h:=h.1 (zj q15)
     refine zg<|zk (zl (n:=57) (σ':=[(8,⟨strs ([([48] : List UInt8),([49] : List UInt8),([50] : List UInt8),([53] : List UInt8),([57] : List UInt8),([97] : List UInt8),([98] : List UInt8),([99] : List UInt8),([47] : List UInt8),([124] : List UInt8),([32] : List UInt8),([44] : List UInt8),([45] : List UInt8),([58] : List UInt8),([120] : List UInt8),([121] : List UInt8),([115] : List UInt8),([10] : List UInt8)]),[]⟩),(800,⟨[.lst (bys o3_0),ci o3_1,cu o3_2],[]⟩)]) (env':=[(1,.c (cs t)),(7,.c (ci r2_0)),(57,.cell 800 0),(58,.c (cs t))]) U U E4)<|zP (kd:=kdl [0,0,0,0,0,0,0,0,0]) (ord:=[0,1,2,3,4,5,6,7,8]) [] mixed (by kernel_rfl)<|zp U U trivial (zc U) U<|zp U U trivial (zc U) U ?_
     obtain⟨q16,h⟩:=h
     refine zp U U trivial (ss_slS U xi (y9 U) q16) U<|zp U U trivial (zc U) U<|zp U U trivial (zc U) U ?_
     obtain⟨q17,h⟩:=h
     refine zp U U trivial (zG U U q17) U ?_
     obtain⟨q18,h⟩:=h
     refine zp U U trivial (ss_slS U (y9 U) xi q18) U ?_
     obtain⟨q19,h⟩:=h
     exact zp U U trivial (ss_cat U U q19) U<|zp U U trivial (ze U) U<|yh<|zA<|ym (zH U (zw U)) U U U ⟨_,_,_,_,h,U,U⟩
    ·replace h:=h.2 (zh q15)
     refine zu<|zg<|zk (zl (n:=57) (σ':=[(8,⟨strs ([([48] : List UInt8),([49] : List UInt8),([50] : List UInt8),([53] : List UInt8),([57] : List UInt8),([97] : List UInt8),([98] : List UInt8),([99] : List UInt8),([47] : List UInt8),([124] : List UInt8),([32] : List UInt8),([44] : List UInt8),([45] : List UInt8),([58] : List UInt8),([120] : List UInt8),([121] : List UInt8),([115] : List UInt8),([10] : List UInt8)]),[]⟩),(800,⟨[.lst (bys o3_0),ci o3_1,cu o3_2],[]⟩)]) (env':=[(1,.c (cs t)),(6,.c (cs (el ([([48] : List UInt8),([49] : List UInt8),([50] : List UInt8),([53] : List UInt8),([57] : List UInt8),([97] : List UInt8),([98] : List UInt8),([99] : List UInt8),([47] : List UInt8),([124] : List UInt8),([32] : List UInt8),([44] : List UInt8),([45] : List UInt8),([58] : List UInt8),([120] : List UInt8),([121] : List UInt8),([115] : List UInt8),([10] : List UInt8)]) r1_0))),(7,.c (ci r2_0)),(57,.cell 800 0),(58,.c (cs t))]) U U E5)<|zP (kd:=kdl [0,0,0,0,0,0,0,0,0,0]) (ord:=[0,1,2,3,4,5,6,7,8,9]) [] mixed (by kernel_rfl)<|zp U U trivial (zc U) U<|zp U U trivial (zc U) U ?_
     obtain⟨q20,h⟩:=h
     refine zp U U trivial (ss_slS U xi (y9 U) q20) U<|zp U U trivial (zc U) U ?_
     obtain⟨q21,h⟩:=h
     refine zp U U trivial (ss_cat U U q21) U<|zp U U trivial (zc U) U<|zp U U trivial (zc U) U ?_
     obtain⟨q22,h⟩:=h
     refine zp U U trivial (ss_slS U (y9 U) xi q22) U ?_
     obtain⟨q23,h⟩:=h
     exact zp U U trivial (ss_cat U U q23) U<|zp U U trivial (ze U) U<|yh<|zA<|ym (zH U (zw U)) U U U ⟨_,_,_,_,h,U,U⟩
theorem c_spec_l01Damage (s1:List Int) (s2:Int) (s3:Int) (t:List UInt8) (hp:okS s1 s2 s3/\(t.length:Int)<=1000):AM Tryz.prog 35 [.obox [.lst (bys s1),ci s2,cu s3],cs t] (fun R_ O_=>∃ y0 w0 w1 w2,(((y0.length:Int)<=1100)/\w0 = s1/\okS s1 w1 w2)/\R_ = cs y0/\O_ = [.obox [.lst (bys w0),ci w1,cu w2],cs t]):=
  w_spec_l01Damage s1 s2 s3 t (fun y0 w0 w1 w2=>((y0.length:Int)<=1100)/\w0 = s1/\okS s1 w1 w2) (p_spec_l01Damage s1 s2 s3 t hp)
theorem w_spec_DrawParseRack (code:List Int) (Q:List UInt8->Prop) (h:wp_spec_DrawParseRack code Q):AF Tryz.prog 16 [.lst (bys code)] (fun R_=>∃ y0,Q y0/\R_ = cs y0):=by
  refine zS (zM (n:=18) Tryz.func16 U (by rfl) U (zb U) ?_)
  unfold wp_spec_DrawParseRack at h
  refine zg<|zk (zl (n:=18) (σ':=[]) (env':=[(0,.c (.lst (bys code)))]) U U E1)<|zd<|za (ze U) U<|zf<|zg<|zd<|za (zc U) U ?_
  obtain⟨q1,h⟩:=h
  refine zn (zF (xs:=[.tmp 5]) (ids:=[6]) U U U U (c_spec_l01From code q1) U ?_)
  rintro _ ⟨r1_0,r1_1,r1_2,q2,rfl⟩
  replace h:=h r1_0 r1_1 r1_2 q2
  refine⟨U,?_⟩
  refine za (ze U) U<|zf<|zg<|zd<|za (zc U) U ?_
  obtain⟨q3,h⟩:=h
  refine zn (yp (xs:=[.tmp 7,.const (.int .i64 (6))]) (cs:=[.obox [.lst (bys r1_0),ci r1_1,cu r1_2],ci 6]) (ids:=[8]) U (.inr ⟨U,U⟩) U U U (c_spec_l03Draw r1_0 r1_1 r1_2 6 q3) U U ?_)
  rintro _ _ ⟨r2_0,o2_0,o2_1,o2_2,q4,rfl,rfl⟩
  replace h:=h r2_0 o2_0 o2_1 o2_2 q4
  refine⟨U,U,?_⟩
  refine za (ss_fieldV U U U) U ?_
  obtain⟨q5,h⟩:=h
  refine zn (yU (xs:=[.tmp 9]) (cs:=[.own (orows r2_0)]) (ids:=[]) U (.inr ⟨U,U⟩) U U (yD (yq (yr (fun _=>(yq (yr (fun _=>U) _))) _)) yX) (c_spec_l01Text r2_0 q5) U ?_)
  rintro _ rfl
  refine⟨U,U,?_⟩
  refine za (ze U) U<|zf<|zg<|zg<|zk (zl (n:=18) (σ':=[(8,⟨orows r2_0,[]⟩),(6,⟨[.lst (bys o2_0),ci o2_1,cu o2_2],[]⟩)]) (env':=[(3,.cell 6 0),(4,.c (cs (txtI r2_0)))]) U U E2)<|zd<|za (zc U) U ?_
  obtain⟨q7,h⟩:=h
  refine zn (yp (xs:=[.tmp 11,.const (.int .i64 (3))]) (cs:=[.obox [.lst (bys o2_0),ci o2_1,cu o2_2],ci 3]) (ids:=[]) U (.inr ⟨U,U⟩) U U U (c_spec_l01Next o2_0 o2_1 o2_2 3 q7) U U ?_)
  rintro _ _ ⟨r3_0,o3_0,o3_1,o3_2,q8,rfl,rfl⟩
  replace h:=h r3_0 o3_0 o3_1 o3_2 q8
  refine⟨U,U,?_⟩
  refine za (yE U U) U<|zf<|zm U (fun q9=>?_) (fun q9=>?_)
  ·replace h:=h.1 (zj q9)
   refine zd<|za (zc U) U<|za (zc U) U ?_
   obtain⟨q10,h⟩:=h
   refine zn (yp (xs:=[.tmp 14,.tmp 15]) (cs:=[.obox [.lst (bys o3_0),ci o3_1,cu o3_2],cs (txtI r2_0)]) (ids:=[]) U (.inr ⟨U,U⟩) U U U (c_spec_l01Damage o3_0 o3_1 o3_2 (txtI r2_0) q10) U U ?_)
   rintro _ _ ⟨r4_0,o4_0,o4_1,o4_2,q11,rfl,rfl⟩
   replace h:=h r4_0 o4_0 o4_1 o4_2 q11
   refine⟨U,U,?_⟩
   exact za (ze U) U<|zf<|zg<|zk (zl (n:=18) (σ':=[(8,⟨orows r2_0,[]⟩),(6,⟨[.lst (bys o4_0),ci o4_1,cu o4_2],[]⟩)]) (env':=[(4,.c (cs r4_0))]) U U E1)<|zd<|za (zc U) U<|za (ze U) U<|zf<|zA<|zr (zH U (zw U)) U U ⟨_,(zq _),_,h,U⟩
  ·replace h:=h.2 (zh q9)
   exact zu<|zg<|zd<|za (zc U) U<|za (ze U) U<|zf<|zA<|zr (zH U (zw U)) U U ⟨_,(zq _),_,h,U⟩
theorem c_spec_DrawParseRack (code:List Int) (hp:small code/\bytes code):AF Tryz.prog 16 [.lst (bys code)] (fun R_=>∃ y0,((y0.length:Int)<=1100)/\R_ = cs y0):=
  w_spec_DrawParseRack code (fun y0=>(y0.length:Int)<=1100) (p_spec_DrawParseRack code hp)
def wp_laws_FnRackForms (code:List Int) (Q:Bool->Prop):Prop:=
 ((4096 < (code.length:Int)->
 Q true)/\
 (¬ (4096 < (code.length:Int))->
 (small code/\bytes code)/\
 ∀ (r1_0:List (List Int)) (r1_1:List (List Int)),(drT 7 r1_0/\drT 7 r1_1)->
 (small2 r1_0/\small2 r1_1)/\
 (small2 r1_0/\small2 r1_1)/\
 ((¬ (RisE r1_0 r1_1 = RisE r1_0 r1_1)->
 Q false)/\
 (RisE r1_0 r1_1 = RisE r1_0 r1_1->
 (small (RisT r1_0 r1_1)/\small (RisT r1_0 r1_1))/\
 ((¬ ((RisT r1_0 r1_1) = (RisT r1_0 r1_1))->
 Q false)/\
 ((RisT r1_0 r1_1) = (RisT r1_0 r1_1)->
 ∃ (J1:Prop),
 (((RisE r1_0 r1_1 = 0->
 (isTab r1_0 = true/\small (RisT r1_0 r1_1))/\
 (small2 (imgI r1_0 (RisT r1_0 r1_1))/\small2 r1_1)/\
 ((¬ ((imgI r1_0 (RisT r1_0 r1_1)) = r1_1)->
 Q false)/\
 ((imgI r1_0 (RisT r1_0 r1_1)) = r1_1->
 J1)))/\
 (¬ (RisE r1_0 r1_1 = 0)->
 J1)))/\
 (J1->
 ∃ (J2:Prop),
 (((RisE r1_0 r1_1 = 0->
 (((r1_0.length:Int)<=6->
 (((r1_1.length:Int)<=6->
 (small2 r1_0)/\
 (small2 r1_1)/\
 ((¬ ((if isRk r1_0 then LeaE r1_0 else 1) = 0)->
 Q false)/\
 ((if isRk r1_0 then LeaE r1_0 else 1) = 0->
 ((¬ ((if isRk r1_1 then LeaE r1_1 else 1) = 0)->
 Q false)/\
 ((if isRk r1_1 then LeaE r1_1 else 1) = 0->
 (small2 (if isRk r1_0 then LeaT r1_0 else [])/\small2 (if isRk r1_1 then LeaT r1_1 else []))/\
 ((((decide ((if isRk r1_0 then LeaT r1_0 else []) = (if isRk r1_1 then LeaT r1_1 else []))) == (decide (RisE r1_0 r1_1 = 0))) = false->
 Q false)/\
 (((decide ((if isRk r1_0 then LeaT r1_0 else []) = (if isRk r1_1 then LeaT r1_1 else []))) == (decide (RisE r1_0 r1_1 = 0))) = true->
 J2)))))))/\
 (¬ ((r1_1.length:Int)<=6)->
 J2)))/\
 (¬ ((r1_0.length:Int)<=6)->
 J2)))/\
 (¬ (RisE r1_0 r1_1 = 0)->
 ((RisE r1_0 r1_1 = 4->
 (((r1_0.length:Int)<=6->
 (((r1_1.length:Int)<=6->
 (small2 r1_0)/\
 (small2 r1_1)/\
 ((¬ ((if isRk r1_0 then LeaE r1_0 else 1) = 0)->
 Q false)/\
 ((if isRk r1_0 then LeaE r1_0 else 1) = 0->
 ((¬ ((if isRk r1_1 then LeaE r1_1 else 1) = 0)->
 Q false)/\
 ((if isRk r1_1 then LeaE r1_1 else 1) = 0->
 (small2 (if isRk r1_0 then LeaT r1_0 else [])/\small2 (if isRk r1_1 then LeaT r1_1 else []))/\
 ((((decide ((if isRk r1_0 then LeaT r1_0 else []) = (if isRk r1_1 then LeaT r1_1 else []))) == (decide (RisE r1_0 r1_1 = 0))) = false->
 Q false)/\
 (((decide ((if isRk r1_0 then LeaT r1_0 else []) = (if isRk r1_1 then LeaT r1_1 else []))) == (decide (RisE r1_0 r1_1 = 0))) = true->
 J2)))))))/\
 (¬ ((r1_1.length:Int)<=6)->
 J2)))/\
 (¬ ((r1_0.length:Int)<=6)->
 J2)))/\
 (¬ (RisE r1_0 r1_1 = 4)->
 J2)))))/\
 (J2->
 (small code/\bytes code)/\
 ∀ (r2_0:List (List Int)),(drT 12 r2_0)->
 (small2 r2_0)/\
 (small2 r2_0)/\
 ((¬ ((if isRk r2_0 then (0:Int) else 1) = (if isRk r2_0 then (0:Int) else 1))->
 Q false)/\
 ((if isRk r2_0 then (0:Int) else 1) = (if isRk r2_0 then (0:Int) else 1)->
 ((((if isRk r2_0 then txtI r2_0 else []) == (if isRk r2_0 then txtI r2_0 else [])) = false->
 Q false)/\
 (((if isRk r2_0 then txtI r2_0 else []) == (if isRk r2_0 then txtI r2_0 else [])) = true->
 ∃ (J3:Prop),
 ((((if isRk r2_0 then (0:Int) else 1) = 0->
 (shortS (if isRk r2_0 then txtI r2_0 else []))/\
 ((¬ (prkE (if isRk r2_0 then txtI r2_0 else []) = 0)->
 Q false)/\
 (prkE (if isRk r2_0 then txtI r2_0 else []) = 0->
 (small2 (prkT (if isRk r2_0 then txtI r2_0 else []))/\small2 r2_0)/\
 ((¬ ((prkT (if isRk r2_0 then txtI r2_0 else [])) = r2_0)->
 Q false)/\
 ((prkT (if isRk r2_0 then txtI r2_0 else [])) = r2_0->
 J3)))))/\
 (¬ ((if isRk r2_0 then (0:Int) else 1) = 0)->
 J3)))/\
 (J3->
 (small code/\bytes code)/\
 ∀ (r3_0:List UInt8),((r3_0.length:Int)<=1100)->
 (shortS r3_0)/\
 (shortS r3_0)/\
 ((¬ (prkE r3_0 = prkE r3_0)->
 Q false)/\
 (prkE r3_0 = prkE r3_0->
 (small2 (prkT r3_0)/\small2 (prkT r3_0))/\
 ((¬ ((prkT r3_0) = (prkT r3_0))->
 Q false)/\
 ((prkT r3_0) = (prkT r3_0)->
 ((¬ (prkE r3_0 = 0)->
 Q (decide (((prkT r3_0).length:Int) = 0)))/\
 (prkE r3_0 = 0->
 (small2 (prkT r3_0))/\
 (((if isRk (prkT r3_0) then (0:Int) else 1) = 0->
 Q ((if isRk (prkT r3_0) then txtI (prkT r3_0) else []) == r3_0))/\
 (¬ ((if isRk (prkT r3_0) then (0:Int) else 1) = 0)->
 Q false)))))))))))))))))))))
@[reducible] def fine2 (t:List (List Int)):Prop:=small2 t/\tot t<=1000000000
theorem fine2_nil:fine2 []:=⟨⟨by simp,by simp⟩,by simp [tot]⟩
theorem fine2_ite {c:Prop} [Decidable c] {t:List (List Int)} (h:c->fine2 t):fine2 (if c then t else []):=by
  split
  · exact h (by assumption)
  · exact fine2_nil
theorem tot_le_mul : ∀ (t:List (List Int)) (m:Int),0<=m->(∀ r ∈ t,(r.length:Int)<=m)->tot t<=(t.length:Int) * m
  | [],m,_,_=>by simp [tot]
  | r :: t,m,hm,h=>by
    have h1:=h r List.mem_cons_self
    have h2:=tot_le_mul t m hm fun q hq=>h q (List.mem_cons_of_mem _ hq)
    simp only [tot,List.length_cons,Int.natCast_add,Int.add_mul]
    omega
theorem fine2_of {t:List (List Int)} (h:(t.length:Int)<=1000) (h2 : ∀ r ∈ t,(r.length:Int)<=1000):fine2 t:=by
  refine⟨⟨by show (t.length:Int)<=1000000000; omega,fun r hr=>by have:=h2 r hr; show (r.length:Int)<=1000000000; omega⟩,?_⟩
  have a:=tot_le_mul t 1000 (by omega) h2
  have b:(t.length:Int) * 1000<=1000 * 1000:=by omega
  omega
theorem fine2_isTab {t:List (List Int)} (h:isTab t = true):fine2 t:=fine2_of (by have:=isTab_len h; omega) fun r hr=>by
  obtain⟨i,hi,rfl⟩:=mem_el hr
  have a:=(isTab_row h hi).1; have b:=isTab_len h; omega
theorem drT_small {m:Int} {t:List (List Int)} (hm:m<=1000) (h:drT m t):small2 t:=⟨by show (_:Int)<=_; have:=h.1; omega,fun q hq=>by show (_:Int)<=_; have:=(h.2 q hq).1; omega⟩
theorem bytes_of {code:List Int} (hp:code.length<=9223372036854775807/\∀ z_ ∈ code,0<=z_/\z_<=255) (h : ¬ (4096 < (code.length:Int))):small code/\bytes code:=
  ⟨by show (_:Int)<=_; omega,fun i i0 i1=>hp.2 _ (el_mem ⟨i0,i1⟩)⟩
theorem lea_tab {t:List (List Int)} (ht:isTab t = true) : ∀ (L:List (List Int)) (b:List (List Int)),(∀ p ∈ L,(p.length:Int) = (t.length:Int)/\isPerm p = true)->isTab b = true->isTab (L.foldl (lesT t) b) = true
  | [],b,_,hb=>hb
  | p :: L,b,h,hb=>lea_tab ht L _ (fun q hq=>h q (List.mem_cons_of_mem _ hq)) (lesT_tab ht (h p (by simp)).2 (h p (by simp)).1 hb)
theorem fine_Lea (c:List (List Int)):fine2 (LeaT c):=fine2_ite fun h=>by
  have ht:isTab c = true:=by
    unfold LeaE at h
    split at h
    · assumption
    · cases h
  exact fine2_isTab (lea_tab ht _ _ (fun p hp=>growL_perm (by omega) hp) ht)
theorem small_iso {a b:List (List (List Int))} (h:isoL a b≠[]) (ht:isTab (el a 0) = true):small (el (isoL a b) 0):=by
  have:=isoL_el h
  have:=isTab_len ht
  show (_:Int)<=1000000000; omega
theorem small_Ris (r s:List (List Int)):small (RisT r s):=by
  unfold RisT
  split
  · rename_i h
    unfold RisE at h
    split at h
    · rename_i h2
      refine small_iso (fun e=>?_) (isRk_tab h2.1)
      rw [if_pos e] at h; cases h
    · cases h
  · show (_:Int)<=_; simp
theorem fine_tabl {t:List (List Int)} (h:isTab t = true):fine2 t:=by
  have hn:=isTab_len h
  refine fine2_of (by omega) fun q hq=>?_
  obtain⟨i,hi,rfl⟩:=mem_el hq
  have:=rk_len h hi
  omega
theorem fine_prk (s:List UInt8):fine2 (prkT s):=fine2_ite fun h=>by
  unfold prkE at h
  split at h
  · rename_i g; exact fine_tabl (isRk_tab g.2)
  · cases h
def rf3 (code:List Int) (Q:Bool->Prop):Prop:=
  (small code/\bytes code)/\
  ∀ (s:List UInt8),((s.length:Int)<=1100)->
  (shortS s)/\
  (shortS s)/\
  ((¬ (prkE s = prkE s)->
   Q false)/\
  (prkE s = prkE s->
   (small2 (prkT s)/\small2 (prkT s))/\
   ((¬ ((prkT s) = (prkT s))->
    Q false)/\
   ((prkT s) = (prkT s)->
    ((¬ (prkE s = 0)->
     Q (decide (((prkT s).length:Int) = 0)))/\
    (prkE s = 0->
     (small2 (prkT s))/\
     (((if isRk (prkT s) then (0:Int) else 1) = 0->
      Q ((if isRk (prkT s) then txtI (prkT s) else []) == s))/\
     (¬ ((if isRk (prkT s) then (0:Int) else 1) = 0)->
      Q false))))))))
def rf2 (code:List Int) (Q:Bool->Prop):Prop:=
  (small code/\bytes code)/\
  ∀ (r:List (List Int)),(drT 12 r)->
  (small2 r)/\
  (small2 r)/\
  ((¬ ((if isRk r then (0:Int) else 1) = (if isRk r then (0:Int) else 1))->
   Q false)/\
  ((if isRk r then (0:Int) else 1) = (if isRk r then (0:Int) else 1)->
   ((((if isRk r then txtI r else []) == (if isRk r then txtI r else [])) = false->
    Q false)/\
   (((if isRk r then txtI r else []) == (if isRk r then txtI r else [])) = true->
    ∃ (J3:Prop),
    ((((if isRk r then (0:Int) else 1) = 0->
      (shortS (if isRk r then txtI r else []))/\
      ((¬ (prkE (if isRk r then txtI r else []) = 0)->
       Q false)/\
      (prkE (if isRk r then txtI r else []) = 0->
       (small2 (prkT (if isRk r then txtI r else []))/\small2 r)/\
       ((¬ ((prkT (if isRk r then txtI r else [])) = r)->
        Q false)/\
       ((prkT (if isRk r then txtI r else [])) = r->
        J3)))))/\
     (¬ ((if isRk r then (0:Int) else 1) = 0)->
      J3)))/\
    (J3->
     rf3 code Q)))))
def rf1 (r s:List (List Int)) (J:Prop) (Q:Bool->Prop):Prop:=
  (small2 r)/\
  (small2 s)/\
  ((¬ ((if isRk r then LeaE r else 1) = 0)->
   Q false)/\
  ((if isRk r then LeaE r else 1) = 0->
   ((¬ ((if isRk s then LeaE s else 1) = 0)->
    Q false)/\
   ((if isRk s then LeaE s else 1) = 0->
    (small2 (if isRk r then LeaT r else [])/\small2 (if isRk s then LeaT s else []))/\
    ((((decide ((if isRk r then LeaT r else []) = (if isRk s then LeaT s else []))) == (decide (RisE r s = 0))) = false->
     Q false)/\
    (((decide ((if isRk r then LeaT r else []) = (if isRk s then LeaT s else []))) == (decide (RisE r s = 0))) = true->
     J))))))
theorem prk_codes (s:List UInt8):(prkE s = 0/\prkT s = rtbV s/\rtbB s = true/\isRk (rtbV s) = true)\/(¬ prkE s = 0/\prkT s = []):=by
  by_cases h:prkE s = 0
  · have h':=h
    unfold prkE at h'
    split at h'
    · rename_i g; exact .inl ⟨h,by unfold prkT; rw [if_pos h],g.1,g.2⟩
    · cases h'
  · exact .inr ⟨h,by unfold prkT; rw [if_neg h]⟩
theorem rf3_ok {code:List Int} (hb:small code/\bytes code):rf3 code (fun y0=>y0 = true):=by
  refine⟨hb,fun s hs=>?_⟩
  have sh:shortS s:=by show (s.length:Int)<=2000000; omega
  have sp:small2 (prkT s):=(fine_prk s).1
  refine⟨sh,sh,fun k=>absurd rfl k,fun _=>⟨⟨sp,sp⟩,fun k=>absurd rfl k,fun _=>⟨fun h=>?_,fun h=>⟨sp,?_⟩⟩⟩⟩
  · rcases prk_codes s with g | g
    · exact absurd g.1 h
    · rw [g.2]; rfl
  · rcases prk_codes s with g | g
    · obtain⟨_,g2,g3,g4⟩:=g
      have e:txtI (rtbV s) = s:=by rw [<- (rdi_eq g3).2]; exact txt_rtb g3
      rw [g2,if_pos g4,if_pos g4,e]
      exact⟨fun _=>by simp,fun k=>absurd rfl k⟩
    · exact absurd h g.1
theorem parse_rk {t:List (List Int)} (h:isRk t = true):prkE (txtI t) = 0/\prkT (txtI t) = t:=by
  obtain⟨b,v⟩:=rtb_txt (isRk_tab h)
  have e:rtbV (txtI t) = t:=by rw [<- (rdi_eq b).2,v]
  have z:prkE (txtI t) = 0:=by unfold prkE; rw [e,if_pos ⟨b,h⟩]
  exact⟨z,by unfold prkT; rw [if_pos z,e]⟩
theorem rf2_ok {code:List Int} (hb:small code/\bytes code):rf2 code (fun y0=>y0 = true):=by
  have f3:=rf3_ok hb
  refine⟨hb,fun r hr=>?_⟩
  have sr:small2 r:=drT_small (by omega) hr
  refine⟨sr,sr,fun k=>absurd rfl k,fun _=>⟨fun k=>?_,fun _=>⟨True,⟨fun h=>?_,fun _=>trivial⟩,fun _=>f3⟩⟩⟩
  · simp at k
  · have kr:isRk r = true:=by
      cases hk:isRk r with
      | true=>rfl
      | false=>rw [hk] at h; simp at h
    obtain⟨z,v⟩:=parse_rk kr
    have ht:=isRk_tab kr
    have hx:shortS (txtI r):=by
      have:=txt_len _ (row_le ht)
      have hn2:=isTab_len ht
      show ((txtI r).length:Int)<=2000000
      omega
    rw [if_pos kr,z,v]
    exact⟨hx,fun k=>absurd rfl k,fun _=>⟨⟨sr,sr⟩,fun k=>absurd rfl k,fun _=>trivial⟩⟩
theorem ris_codes {r s:List (List Int)} : (RisE r s = 0/\isRk r = true/\isRk s = true/\isoL [r] [s]≠[]/\RisT r s = el (isoL [r] [s]) 0)\/(RisE r s = 4/\isRk r = true/\isRk s = true/\isoL [r] [s] = [])\/RisE r s = 1:=by
  by_cases h:isRk r = true/\isRk s = true
  · by_cases g:isoL [r] [s] = []
    · exact .inr (.inl ⟨by unfold RisE; rw [if_pos h,if_pos g],h.1,h.2,g⟩)
    · have e:RisE r s = 0:=by unfold RisE; rw [if_pos h,if_neg g]
      exact .inl ⟨e,h.1,h.2,g,by unfold RisT; rw [if_pos e]⟩
  · exact .inr (.inr (by unfold RisE; rw [if_neg h]))
theorem rf1_ok {r s:List (List Int)} (sr:small2 r) (ss:small2 s) (kr:isRk r = true) (ks:isRk s = true) (h:LeaT r = LeaT s↔RisE r s = 0) (a6:(r.length:Int)<=6) (b6:(s.length:Int)<=6):rf1 r s True (fun y0=>y0 = true):=by
  have er:LeaE r = 0:=by unfold LeaE; rw [if_pos (isRk_tab kr),if_neg (by omega)]
  have es:LeaE s = 0:=by unfold LeaE; rw [if_pos (isRk_tab ks),if_neg (by omega)]
  have fr:small2 (LeaT r):=(fine_Lea r).1
  have fs:small2 (LeaT s):=(fine_Lea s).1
  unfold rf1
  rw [if_pos kr,if_pos kr,if_pos ks,if_pos ks,er,es]
  have e:(decide (LeaT r = LeaT s) == decide (RisE r s = 0)) = true:=by
    rw [beq_iff_eq]; exact decide_eq_decide.2 h
  refine⟨sr,ss,fun k=>absurd rfl k,fun _=>⟨fun k=>absurd rfl k,fun _=>⟨⟨fr,fs⟩,fun k=>?_,fun _=>trivial⟩⟩⟩
  rw [e] at k; cases k
theorem p_laws_FnRackForms (code:List Int) (hp:code.length<=9223372036854775807/\∀ z_ ∈ code,0<=z_/\z_<=255):wp_laws_FnRackForms code (fun y0=>y0 = true):=by
  unfold wp_laws_FnRackForms
  refine⟨fun _=>rfl,fun hc=>?_⟩
  have hb:=bytes_of hp hc
  refine⟨hb,fun r s ⟨hr,hs⟩=>?_⟩
  have sr:small2 r:=drT_small (by omega) hr
  have ss:small2 s:=drT_small (by omega) hs
  have pT:small (RisT r s):=small_Ris r s
  have f2:=rf2_ok hb
  have key : ∀ (kr:isRk r = true) (ks:isRk s = true),(isoL [r] [s]≠[]↔RisE r s = 0)->(r.length:Int)<=6->(s.length:Int)<=6->rf1 r s True (fun y0=>y0 = true):=fun kr ks h a6 b6=>by
    have er:LeaE r = 0:=by unfold LeaE; rw [if_pos (isRk_tab kr),if_neg (by omega)]
    have es:LeaE s = 0:=by unfold LeaE; rw [if_pos (isRk_tab ks),if_neg (by omega)]
    exact rf1_ok sr ss kr ks ((lea_iff (isRk_tab kr) (isRk_tab ks) er es).trans h) a6 b6
  refine⟨⟨sr,ss⟩,⟨sr,ss⟩,fun k=>absurd rfl k,fun _=>⟨⟨pT,pT⟩,fun k=>absurd rfl k,fun _=>⟨True,⟨fun h=>?_,fun _=>trivial⟩,fun _=>⟨True,⟨fun h=>?_,fun h=>⟨fun h4=>?_,fun _=>trivial⟩⟩,fun _=>f2⟩⟩⟩⟩
  · rcases ris_codes (r:=r) (s:=s) with ⟨_,kr,ks,g,e0⟩ | ⟨g,_⟩ | g
    · have hm:RisT r s ∈ isoL [r] [s]:=by
        rw [e0]; exact el_mem ⟨by omega,by have:=List.length_pos_iff.2 g; omega⟩
      obtain⟨m1,m2,m3⟩:=(mem_iso (isRk_tab kr) (isRk_tab ks)).1 hm
      have hn:=isTab_len (isRk_tab kr)
      have e:imgI r (RisT r s) = s:=by
        unfold imgI
        rw [if_pos ⟨by omega,by unfold permB; simp only [Bool.and_eq_true,decide_eq_true_eq]; exact⟨⟨by omega,by omega⟩,m2⟩⟩,m3]
      exact⟨⟨isRk_tab kr,pT⟩,⟨by rw [e]; exact ss,ss⟩,fun k=>absurd e k,fun _=>trivial⟩
    · omega
    · omega
  · rcases ris_codes (r:=r) (s:=s) with ⟨_,kr,ks,g,e0⟩ | ⟨g,_⟩ | g
    · exact⟨fun a6=>⟨fun b6=>key kr ks ⟨fun _=>h,fun _=>g⟩ a6 b6,fun _=>trivial⟩,fun _=>trivial⟩
    · omega
    · omega
  · rcases ris_codes (r:=r) (s:=s) with ⟨g,_⟩ | ⟨_,kr,ks,g⟩ | g
    · exact absurd g h
    · exact⟨fun a6=>⟨fun b6=>key kr ks ⟨fun k=>absurd g k,fun k=>absurd k h⟩ a6 b6,fun _=>trivial⟩,fun _=>trivial⟩
    · omega
theorem w_laws_FnRackForms (code:List Int) (Q:Bool->Prop) (h:wp_laws_FnRackForms code Q):AF Tryz.prog 3 [.lst (bys code)] (fun R_=>∃ y0,Q y0/\R_ = cb y0):=by
  refine zS (zM (n:=189) Tryz.func3 U (by rfl) U (zb U) ?_)
  unfold wp_laws_FnRackForms at h
  refine zg<|zk (zl (n:=189) (σ':=[]) (env':=[(0,.c (.lst (bys code)))]) U U E1)<|zd<|za (ze U) U<|zf<|zg<|zg<|zd<|za (zc U) U<|zn (zF (xs:=[.tmp 27]) (ids:=[]) U U U U (c_laws_big code) U ?_)
  rintro _ rfl
  refine⟨U,?_⟩
  refine zf<|zm U (fun q2=>?_) (fun q2=>?_)
  ·replace h:=h.1 (zj q2)
   exact zg<|zk (zl (n:=189) (σ':=[]) (env':=[(2,.c (cb false))]) U U E1)<|zd<|za (ze U) U<|zf<|zA<|zr (zH U (zw U)) U U ⟨_,(zq _),_,h,U⟩
  ·replace h:=h.2 (zh q2)
   refine zu<|zg<|zd<|za (zc U) U ?_
   obtain⟨q3,h⟩:=h
   refine zn (zF (xs:=[.tmp 30]) (ids:=[31,1001]) U U U U (c_spec_DrawRackIsomorphism code q3) U ?_)
   rintro _ ⟨r1_0,r1_1,q4,rfl⟩
   replace h:=h r1_0 r1_1 q4
   refine⟨U,?_⟩
   refine za (zc U) U<|za (zT U U) U<|za (zT U U) U<|zn (yw (id:=3) U (zb U) ⟨U,?_⟩)
   refine zn (yw (id:=4) U (zb U) ⟨U,?_⟩)
   refine zn (yf U U (zb U) U U U ⟨U,?_⟩)
   refine zn (yf U U (zb U) U U U ⟨U,?_⟩)
   refine zf<|zk (zl (n:=189) (σ':=[(4,⟨[.hole],[(0,.ref 1001)]⟩),(3,⟨[.hole],[(0,.ref 31)]⟩),(31,⟨orows r1_0,[]⟩),(1001,⟨orows r1_1,[]⟩)]) (env':=[(0,.c (.lst (bys code))),(3,.cell 3 0),(4,.cell 4 0)]) U U E3)<|zk (yd (id:=31) (fun r=>C.lst (ints r)) U (fun _=>(yq (yr (fun _=>U) _))))<|zk (xa (id:=3) (j:=0) U U (zb U))<|zk (zl (n:=189) (σ':=[(4,⟨[.hole],[(0,.ref 1001)]⟩),(3,⟨[.lst (rows r1_0)],[]⟩),(1001,⟨orows r1_1,[]⟩)]) (env':=[(0,.c (.lst (bys code))),(3,.cell 3 0),(4,.cell 4 0)]) U U E3)<|zk (yd (id:=1001) (fun r=>C.lst (ints r)) U (fun _=>(yq (yr (fun _=>U) _))))<|zk (xa (id:=4) (j:=0) U U (zb U))<|zk (zl (n:=189) (σ':=[(4,⟨[.lst (rows r1_1)],[]⟩),(3,⟨[.lst (rows r1_0)],[]⟩)]) (env':=[(0,.c (.lst (bys code))),(3,.cell 3 0),(4,.cell 4 0)]) U U E3)<|zg<|zd<|za (yP U U U U) U<|za (yP U U U U) U ?_
   obtain⟨q5,h⟩:=h
   refine zn (zF (xs:=[.tmp 35,.tmp 36]) (ids:=[37]) U U U U (c_impl_RackIsomorphism r1_0 r1_1 q5) U ?_)
   rintro _ rfl
   refine⟨U,?_⟩
   refine za (zc U) U<|za (zT U U) U<|za (zT U U) U<|za (ze U) U<|za (ze U) U<|zf<|zk (zl (n:=189) (σ':=[(37,⟨ints (RisT r1_0 r1_1),[]⟩),(4,⟨[.lst (rows r1_1)],[]⟩),(3,⟨[.lst (rows r1_0)],[]⟩)]) (env':=[(0,.c (.lst (bys code))),(3,.cell 3 0),(4,.cell 4 0),(5,.ref 37),(6,.c (ci (RisE r1_0 r1_1)))]) U U E5)<|zk (yd (id:=37) ci U (fun _=>U))<|zk (zl (n:=189) (σ':=[(4,⟨[.lst (rows r1_1)],[]⟩),(3,⟨[.lst (rows r1_0)],[]⟩)]) (env':=[(0,.c (.lst (bys code))),(3,.cell 3 0),(4,.cell 4 0),(5,.c (.lst (ints (RisT r1_0 r1_1)))),(6,.c (ci (RisE r1_0 r1_1)))]) U U E5)<|zg<|zg<|zd<|za (yP U U U U) U<|za (yP U U U U) U ?_
   obtain⟨q7,h⟩:=h
   refine zn (zF (xs:=[.tmp 41,.tmp 42]) (ids:=[]) U U U U (c_spec_RackIsomorphism r1_0 r1_1 q7) U ?_)
   rintro _ rfl
   refine⟨U,?_⟩
   refine za (zc U) U<|za (zT U U) U<|za (zT U U) U<|za (ze U) U<|za (ze U) U<|zf<|zg<|zd<|za (zc U) U<|za (zc U) U<|za (yQ U U) U<|za (zc U) U<|zX (s:=49) U (fun q9=>?_) (fun q9=>?_)
   ·replace h:=h.1 (zh (ya q9))
    refine zC U U q9 U<|zC U U q9 U<|zC U U q9 U<|zC U U q9 U<|za (zU U q9 U) U<|zf<|zm U (fun q10=>?_) (fun q10=>?_)
    ·skip
     exact zg<|zk (zl (n:=189) (σ':=[(4,⟨[.lst (rows r1_1)],[]⟩),(3,⟨[.lst (rows r1_0)],[]⟩)]) (env':=[]) U U trivial)<|zd<|za (ze U) U<|zf<|zA<|zr (zH U (zw U)) U U ⟨_,(zq _),_,h,U⟩
    ·cases q10
   ·replace h:=h.2 (zj (yb q9))
    refine zE U U q9<|za (zc U) U<|zE U U q9<|za (zc U) U<|zE U U q9 ?_
    obtain⟨q11,h⟩:=h
    refine zn (zF (xs:=[.tmp 50,.tmp 51]) (ids:=[]) U U U U (c_laws_likeInts (RisT r1_0 r1_1) (RisT r1_0 r1_1) q11) U ?_)
    rintro _ rfl
    refine⟨U,?_⟩
    refine zE U U q9<|za (yA U) U<|za (zV U q9 U) U<|zf<|zm U (fun q13=>?_) (fun q13=>?_)
    ·replace h:=h.1 (zh (ya q13))
     exact zg<|zk (zl (n:=189) (σ':=[(4,⟨[.lst (rows r1_1)],[]⟩),(3,⟨[.lst (rows r1_0)],[]⟩)]) (env':=[]) U U trivial)<|zd<|za (ze U) U<|zf<|zA<|zr (zH U (zw U)) U U ⟨_,(zq _),_,h,U⟩
    ·replace h:=h.2 (zj (yb q13))
     refine zu ?_
     obtain⟨J1,h,j1⟩:=h
     refine aw_join0 ⟨[(4,⟨[.lst (rows r1_1)],[]⟩),(3,⟨[.lst (rows r1_0)],[]⟩)],[(0,.c (.lst (bys code))),(3,.cell 3 0),(4,.cell 4 0),(6,.c (ci (RisE r1_0 r1_1)))],189⟩ J1 ?_ ?_
     ·skip
      refine zg<|zk (zl (n:=189) (σ':=[(4,⟨[.lst (rows r1_1)],[]⟩),(3,⟨[.lst (rows r1_0)],[]⟩)]) (env':=[(0,.c (.lst (bys code))),(3,.cell 3 0),(4,.cell 4 0),(5,.c (.lst (ints (RisT r1_0 r1_1)))),(6,.c (ci (RisE r1_0 r1_1)))]) U U E5)<|zP (kd:=kdl [0,0,0,0,1,0,2,0,1,2,0,0]) (ord:=[0,1,2,3,5,7,4,8,6,9,10,11]) [] mixed (by kernel_rfl)<|zp U U trivial (zc U) U<|zp U U trivial (yE U U) U<|zp U U trivial (zc U) U<|xh (s:=57) U (fun q14=>?_) (fun q14=>?_)
      ·replace h:=h.1 (zj q14)
       refine zp U U ⟨_,_,U,U,q14⟩ (zD U) U<|zp U U ⟨_,_,U,U,q14⟩ (zc U) U<|zp U U ⟨_,_,U,U,q14⟩ (zD U) U<|zY U U ⟨_,_,U,U,q14⟩ (yB U U U U U) U<|zY U U ⟨_,_,U,U,q14⟩ (yB U U U U U) U ?_
       obtain⟨q15,h⟩:=h
       refine y7 U U ⟨_,_,U,U,q14⟩ U U (zF (xs:=[.tmp 59,.tmp 60]) (ids:=[61]) U U U U (c_laws_image9 r1_0 (RisT r1_0 r1_1) q15) U ?_)
       rintro _ rfl
       refine⟨U,?_⟩
       obtain⟨q17,h⟩:=h
       refine y7 U U ⟨_,_,U,U,q14⟩ U U (yU (xs:=[.tmp 61,.tmp 63]) (cs:=[.own (orows (imgI r1_0 (RisT r1_0 r1_1))),.lst (rows r1_1)]) (ids:=[]) U (.inr ⟨U,U⟩) U U (yD (yq (yr (fun _=>(yq (yr (fun _=>U) _))) _)) (yD U yX)) (c_laws_same9 (imgI r1_0 (RisT r1_0 r1_1)) r1_1 q17) U ?_)
       rintro _ rfl
       refine⟨U,U,?_⟩
       refine zp U U ⟨_,_,U,U,q14⟩ (yA U) U<|zp U U trivial (zU U q14 U) U<|yh<|zk (zl (n:=189) (σ':=[(61,⟨orows (imgI r1_0 (RisT r1_0 r1_1)),[]⟩),(4,⟨[.lst (rows r1_1)],[]⟩),(3,⟨[.lst (rows r1_0)],[]⟩)]) (env':=[(0,.c (.lst (bys code))),(3,.cell 3 0),(4,.cell 4 0),(6,.c (ci (RisE r1_0 r1_1))),(66,.c (cb (!(decide ((imgI r1_0 (RisT r1_0 r1_1)) = r1_1)))))]) U U E5)<|zk (yd (id:=61) (fun r=>C.lst (ints r)) U (fun _=>(yq (yr (fun _=>U) _))))<|zk (zl (n:=189) (σ':=[(4,⟨[.lst (rows r1_1)],[]⟩),(3,⟨[.lst (rows r1_0)],[]⟩)]) (env':=[(0,.c (.lst (bys code))),(3,.cell 3 0),(4,.cell 4 0),(6,.c (ci (RisE r1_0 r1_1))),(66,.c (cb (!(decide ((imgI r1_0 (RisT r1_0 r1_1)) = r1_1)))))]) U U E5)<|zm U (fun q19=>?_) (fun q19=>?_)
       ·replace h:=h.1 (zh (ya q19))
        exact zg<|zk (zl (n:=189) (σ':=[(4,⟨[.lst (rows r1_1)],[]⟩),(3,⟨[.lst (rows r1_0)],[]⟩)]) (env':=[]) U U trivial)<|zd<|za (ze U) U<|zf<|zA<|zr (zH U (zw U)) U U ⟨_,(zq _),_,h,U⟩
       ·replace h:=h.2 (zj (yb q19))
        exact zu<|⟨zv (n:=189) U U E4,h⟩
      ·replace h:=h.2 (zh q14)
       refine zW U U U q14 U<|zW U U U q14 U<|zW U U U q14 U<|zW U U U q14 U<|zW U U U q14 U<|zW U U U q14 U<|zW U U U q14 U<|zW U U U q14 U<|zp U U trivial (zV U q14 U) U<|yh<|zm U (fun q20=>?_) (fun q20=>?_)
       ·cases q20
       ·skip
        exact zu<|⟨zv (n:=189) U U E4,h⟩
     ·rintro q21
      replace h:=j1 q21
      obtain⟨J2,h,j2⟩:=h
      refine aw_join0 ⟨[],[(0,.c (.lst (bys code)))],189⟩ J2 ?_ ?_
      ·skip
       refine zg<|zd<|za (zc U) U<|za (yE U U) U<|za (zc U) U<|zX (s:=69) U (fun q22=>?_) (fun q22=>?_)
       ·replace h:=h.1 (zj q22)
        refine zC U U q22 U<|zC U U q22 U<|za (zU U q22 U) U<|za (zc U) U<|zX (s:=73) U (fun q23=>?_) (fun q23=>?_)
        ·skip
         refine zE U U q23<|za (zD U) U<|zE U U q23<|za (yB U U U U U) U<|zE U U q23<|za (zJ (f:=(fun r=>C.lst (ints r))) U) U<|zE U U q23<|za (ss_leq U U) U<|za (zU U q23 U) U<|za (zc U) U<|zX (s:=79) U (fun q24=>?_) (fun q24=>?_)
         ·replace h:=h.1 (zj q24)
          refine zE U U q24<|za (zD U) U<|zE U U q24<|za (yB U U U U U) U<|zE U U q24<|za (zJ (f:=(fun r=>C.lst (ints r))) U) U<|zE U U q24<|za (ss_leq U U) U<|za (zU U q24 U) U<|zf<|zm U (fun q25=>?_) (fun q25=>?_)
          ·replace h:=h.1 (zj q25)
           refine zg<|zd<|za (yP U U U U) U ?_
           obtain⟨q26,h⟩:=h
           refine zn (zF (xs:=[.tmp 86]) (ids:=[87]) U U U U (c_impl_LeastRack r1_0 q26) U ?_)
           rintro _ rfl
           refine⟨U,?_⟩
           refine za (zc U) U<|za (zT U U) U<|za (zT U U) U<|zn (yw (id:=9) U (zb U) ⟨U,?_⟩)
           refine zn (yf U U (zb U) U U U ⟨U,?_⟩)
           refine za (ze U) U<|zf<|zk (zl (n:=189) (σ':=[(9,⟨[.hole],[(0,.ref 87)]⟩),(87,⟨orows (if isRk r1_0 then LeaT r1_0 else []),[]⟩),(4,⟨[.lst (rows r1_1)],[]⟩),(3,⟨[.lst (rows r1_0)],[]⟩)]) (env':=[(0,.c (.lst (bys code))),(4,.cell 4 0),(6,.c (ci (RisE r1_0 r1_1))),(9,.cell 9 0),(10,.c (ci (if isRk r1_0 then LeaE r1_0 else 1)))]) U U E5)<|zk (yd (id:=87) (fun r=>C.lst (ints r)) U (fun _=>(yq (yr (fun _=>U) _))))<|zk (xa (id:=9) (j:=0) U U (zb U))<|zk (zl (n:=189) (σ':=[(9,⟨[.lst (rows (if isRk r1_0 then LeaT r1_0 else []))],[]⟩),(4,⟨[.lst (rows r1_1)],[]⟩),(3,⟨[.lst (rows r1_0)],[]⟩)]) (env':=[(0,.c (.lst (bys code))),(4,.cell 4 0),(6,.c (ci (RisE r1_0 r1_1))),(9,.cell 9 0),(10,.c (ci (if isRk r1_0 then LeaE r1_0 else 1)))]) U U E5)<|zg<|zd<|za (yP U U U U) U ?_
           obtain⟨q28,h⟩:=h
           refine zn (zF (xs:=[.tmp 91]) (ids:=[92]) U U U U (c_impl_LeastRack r1_1 q28) U ?_)
           rintro _ rfl
           refine⟨U,?_⟩
           refine za (zc U) U<|za (zT U U) U<|za (zT U U) U<|zn (yw (id:=11) U (zb U) ⟨U,?_⟩)
           refine zn (yf U U (zb U) U U U ⟨U,?_⟩)
           refine za (ze U) U<|zf<|zk (zl (n:=189) (σ':=[(11,⟨[.hole],[(0,.ref 92)]⟩),(92,⟨orows (if isRk r1_1 then LeaT r1_1 else []),[]⟩),(9,⟨[.lst (rows (if isRk r1_0 then LeaT r1_0 else []))],[]⟩),(4,⟨[.lst (rows r1_1)],[]⟩),(3,⟨[.lst (rows r1_0)],[]⟩)]) (env':=[(0,.c (.lst (bys code))),(6,.c (ci (RisE r1_0 r1_1))),(9,.cell 9 0),(10,.c (ci (if isRk r1_0 then LeaE r1_0 else 1))),(11,.cell 11 0),(12,.c (ci (if isRk r1_1 then LeaE r1_1 else 1)))]) U U E6)<|zk (yd (id:=92) (fun r=>C.lst (ints r)) U (fun _=>(yq (yr (fun _=>U) _))))<|zk (xa (id:=11) (j:=0) U U (zb U))<|zk (zl (n:=189) (σ':=[(11,⟨[.lst (rows (if isRk r1_1 then LeaT r1_1 else []))],[]⟩),(9,⟨[.lst (rows (if isRk r1_0 then LeaT r1_0 else []))],[]⟩),(4,⟨[.lst (rows r1_1)],[]⟩),(3,⟨[.lst (rows r1_0)],[]⟩)]) (env':=[(0,.c (.lst (bys code))),(6,.c (ci (RisE r1_0 r1_1))),(9,.cell 9 0),(10,.c (ci (if isRk r1_0 then LeaE r1_0 else 1))),(11,.cell 11 0),(12,.c (ci (if isRk r1_1 then LeaE r1_1 else 1)))]) U U E6)<|zg<|zd<|za (zc U) U<|za (yQ U U) U<|za (zc U) U<|zX (s:=97) U (fun q30=>?_) (fun q30=>?_)
           ·replace h:=h.1 (zh (ya q30))
            refine zC U U q30 U<|zC U U q30 U<|za (zU U q30 U) U<|za (zc U) U<|zX (s:=101) U (fun q31=>?_) (fun q31=>?_)
            ·skip
             refine zC U U q31 U<|zC U U q31 U<|zC U U q31 U<|zC U U q31 U<|zC U U q31 U<|zC U U q31 U<|zC U U q31 U<|zC U U q31 U<|za (zU U q31 U) U<|zf<|zm U (fun q32=>?_) (fun q32=>?_)
             ·skip
              exact zg<|zk (zl (n:=189) (σ':=[(11,⟨[.lst (rows (if isRk r1_1 then LeaT r1_1 else []))],[]⟩),(9,⟨[.lst (rows (if isRk r1_0 then LeaT r1_0 else []))],[]⟩),(4,⟨[.lst (rows r1_1)],[]⟩),(3,⟨[.lst (rows r1_0)],[]⟩)]) (env':=[]) U U trivial)<|zd<|za (ze U) U<|zf<|zA<|zr (zH U (zw U)) U U ⟨_,(zq _),_,h,U⟩
             ·cases q32
            ·cases q31
           ·replace h:=h.2 (zj (yb q30))
            refine zE U U q30<|za (zc U) U<|zE U U q30<|za (yQ U U) U<|za (zV U q30 U) U<|za (zc U) U<|zX (s:=101) U (fun q33=>?_) (fun q33=>?_)
            ·replace h:=h.1 (zh (ya q33))
             refine zC U U q33 U<|zC U U q33 U<|zC U U q33 U<|zC U U q33 U<|zC U U q33 U<|zC U U q33 U<|zC U U q33 U<|zC U U q33 U<|za (zU U q33 U) U<|zf<|zm U (fun q34=>?_) (fun q34=>?_)
             ·skip
              exact zg<|zk (zl (n:=189) (σ':=[(11,⟨[.lst (rows (if isRk r1_1 then LeaT r1_1 else []))],[]⟩),(9,⟨[.lst (rows (if isRk r1_0 then LeaT r1_0 else []))],[]⟩),(4,⟨[.lst (rows r1_1)],[]⟩),(3,⟨[.lst (rows r1_0)],[]⟩)]) (env':=[]) U U trivial)<|zd<|za (ze U) U<|zf<|zA<|zr (zH U (zw U)) U U ⟨_,(zq _),_,h,U⟩
             ·cases q34
            ·replace h:=h.2 (zj (yb q33))
             refine zE U U q33<|za (zD U) U<|zE U U q33<|za (yB U U U U U) U<|zE U U q33<|za (zD U) U<|zE U U q33<|za (yB U U U U U) U<|zE U U q33 ?_
             obtain⟨q35,h⟩:=h
             refine zn (zF (xs:=[.tmp 103,.tmp 105]) (ids:=[]) U U U U (c_laws_same9 (if isRk r1_0 then LeaT r1_0 else []) (if isRk r1_1 then LeaT r1_1 else []) q35) U ?_)
             rintro _ rfl
             refine⟨U,?_⟩
             refine zE U U q33<|za (zc U) U<|zE U U q33<|za (yE U U) U<|zE U U q33<|za (ss_neqB U U) U<|za (zV U q33 U) U<|zf<|zm U (fun q37=>?_) (fun q37=>?_)
             ·replace h:=h.1 ((ya q37))
              exact zg<|zk (zl (n:=189) (σ':=[(11,⟨[.lst (rows (if isRk r1_1 then LeaT r1_1 else []))],[]⟩),(9,⟨[.lst (rows (if isRk r1_0 then LeaT r1_0 else []))],[]⟩),(4,⟨[.lst (rows r1_1)],[]⟩),(3,⟨[.lst (rows r1_0)],[]⟩)]) (env':=[]) U U trivial)<|zd<|za (ze U) U<|zf<|zA<|zr (zH U (zw U)) U U ⟨_,(zq _),_,h,U⟩
             ·replace h:=h.2 ((yb q37))
              exact zu<|⟨zQ (yH (id:=11) U U) (zQ (yH (id:=9) U U) (zQ (yH (id:=4) U U) (zQ (yH (id:=3) U U) (zv (n:=189) U U E1)))),h⟩
          ·replace h:=h.2 (zh q25)
           exact zu<|⟨zQ (yH (id:=4) U U) (zQ (yH (id:=3) U U) (zv (n:=189) U U E1)),h⟩
         ·replace h:=h.2 (zh q24)
          refine zC U U q24 U<|zC U U q24 U<|zC U U q24 U<|zC U U q24 U<|za (zV U q24 U) U<|zf<|zm U (fun q38=>?_) (fun q38=>?_)
          ·cases q38
          ·skip
           exact zu<|⟨zQ (yH (id:=4) U U) (zQ (yH (id:=3) U U) (zv (n:=189) U U E1)),h⟩
        ·cases q23
       ·replace h:=h.2 (zh q22)
        refine zE U U q22<|za (zc U) U<|zE U U q22<|za (yE U U) U<|za (zV U q22 U) U<|za (zc U) U<|zX (s:=73) U (fun q39=>?_) (fun q39=>?_)
        ·replace h:=h.1 (zj q39)
         refine zE U U q39<|za (zD U) U<|zE U U q39<|za (yB U U U U U) U<|zE U U q39<|za (zJ (f:=(fun r=>C.lst (ints r))) U) U<|zE U U q39<|za (ss_leq U U) U<|za (zU U q39 U) U<|za (zc U) U<|zX (s:=79) U (fun q40=>?_) (fun q40=>?_)
         ·replace h:=h.1 (zj q40)
          refine zE U U q40<|za (zD U) U<|zE U U q40<|za (yB U U U U U) U<|zE U U q40<|za (zJ (f:=(fun r=>C.lst (ints r))) U) U<|zE U U q40<|za (ss_leq U U) U<|za (zU U q40 U) U<|zf<|zm U (fun q41=>?_) (fun q41=>?_)
          ·replace h:=h.1 (zj q41)
           refine zg<|zd<|za (yP U U U U) U ?_
           obtain⟨q42,h⟩:=h
           refine zn (zF (xs:=[.tmp 86]) (ids:=[87]) U U U U (c_impl_LeastRack r1_0 q42) U ?_)
           rintro _ rfl
           refine⟨U,?_⟩
           refine za (zc U) U<|za (zT U U) U<|za (zT U U) U<|zn (yw (id:=9) U (zb U) ⟨U,?_⟩)
           refine zn (yf U U (zb U) U U U ⟨U,?_⟩)
           refine za (ze U) U<|zf<|zk (zl (n:=189) (σ':=[(9,⟨[.hole],[(0,.ref 87)]⟩),(87,⟨orows (if isRk r1_0 then LeaT r1_0 else []),[]⟩),(4,⟨[.lst (rows r1_1)],[]⟩),(3,⟨[.lst (rows r1_0)],[]⟩)]) (env':=[(0,.c (.lst (bys code))),(4,.cell 4 0),(6,.c (ci (RisE r1_0 r1_1))),(9,.cell 9 0),(10,.c (ci (if isRk r1_0 then LeaE r1_0 else 1)))]) U U E5)<|zk (yd (id:=87) (fun r=>C.lst (ints r)) U (fun _=>(yq (yr (fun _=>U) _))))<|zk (xa (id:=9) (j:=0) U U (zb U))<|zk (zl (n:=189) (σ':=[(9,⟨[.lst (rows (if isRk r1_0 then LeaT r1_0 else []))],[]⟩),(4,⟨[.lst (rows r1_1)],[]⟩),(3,⟨[.lst (rows r1_0)],[]⟩)]) (env':=[(0,.c (.lst (bys code))),(4,.cell 4 0),(6,.c (ci (RisE r1_0 r1_1))),(9,.cell 9 0),(10,.c (ci (if isRk r1_0 then LeaE r1_0 else 1)))]) U U E5)<|zg<|zd<|za (yP U U U U) U ?_
           obtain⟨q44,h⟩:=h
           refine zn (zF (xs:=[.tmp 91]) (ids:=[92]) U U U U (c_impl_LeastRack r1_1 q44) U ?_)
           rintro _ rfl
           refine⟨U,?_⟩
           refine za (zc U) U<|za (zT U U) U<|za (zT U U) U<|zn (yw (id:=11) U (zb U) ⟨U,?_⟩)
           refine zn (yf U U (zb U) U U U ⟨U,?_⟩)
           refine za (ze U) U<|zf<|zk (zl (n:=189) (σ':=[(11,⟨[.hole],[(0,.ref 92)]⟩),(92,⟨orows (if isRk r1_1 then LeaT r1_1 else []),[]⟩),(9,⟨[.lst (rows (if isRk r1_0 then LeaT r1_0 else []))],[]⟩),(4,⟨[.lst (rows r1_1)],[]⟩),(3,⟨[.lst (rows r1_0)],[]⟩)]) (env':=[(0,.c (.lst (bys code))),(6,.c (ci (RisE r1_0 r1_1))),(9,.cell 9 0),(10,.c (ci (if isRk r1_0 then LeaE r1_0 else 1))),(11,.cell 11 0),(12,.c (ci (if isRk r1_1 then LeaE r1_1 else 1)))]) U U E6)<|zk (yd (id:=92) (fun r=>C.lst (ints r)) U (fun _=>(yq (yr (fun _=>U) _))))<|zk (xa (id:=11) (j:=0) U U (zb U))<|zk (zl (n:=189) (σ':=[(11,⟨[.lst (rows (if isRk r1_1 then LeaT r1_1 else []))],[]⟩),(9,⟨[.lst (rows (if isRk r1_0 then LeaT r1_0 else []))],[]⟩),(4,⟨[.lst (rows r1_1)],[]⟩),(3,⟨[.lst (rows r1_0)],[]⟩)]) (env':=[(0,.c (.lst (bys code))),(6,.c (ci (RisE r1_0 r1_1))),(9,.cell 9 0),(10,.c (ci (if isRk r1_0 then LeaE r1_0 else 1))),(11,.cell 11 0),(12,.c (ci (if isRk r1_1 then LeaE r1_1 else 1)))]) U U E6)<|zg<|zd<|za (zc U) U<|za (yQ U U) U<|za (zc U) U<|zX (s:=97) U (fun q46=>?_) (fun q46=>?_)
           ·replace h:=h.1 (zh (ya q46))
            refine zC U U q46 U<|zC U U q46 U<|za (zU U q46 U) U<|za (zc U) U<|zX (s:=101) U (fun q47=>?_) (fun q47=>?_)
            ·skip
             refine zC U U q47 U<|zC U U q47 U<|zC U U q47 U<|zC U U q47 U<|zC U U q47 U<|zC U U q47 U<|zC U U q47 U<|zC U U q47 U<|za (zU U q47 U) U<|zf<|zm U (fun q48=>?_) (fun q48=>?_)
             ·skip
              exact zg<|zk (zl (n:=189) (σ':=[(11,⟨[.lst (rows (if isRk r1_1 then LeaT r1_1 else []))],[]⟩),(9,⟨[.lst (rows (if isRk r1_0 then LeaT r1_0 else []))],[]⟩),(4,⟨[.lst (rows r1_1)],[]⟩),(3,⟨[.lst (rows r1_0)],[]⟩)]) (env':=[]) U U trivial)<|zd<|za (ze U) U<|zf<|zA<|zr (zH U (zw U)) U U ⟨_,(zq _),_,h,U⟩
             ·cases q48
            ·cases q47
           ·replace h:=h.2 (zj (yb q46))
            refine zE U U q46<|za (zc U) U<|zE U U q46<|za (yQ U U) U<|za (zV U q46 U) U<|za (zc U) U<|zX (s:=101) U (fun q49=>?_) (fun q49=>?_)
            ·replace h:=h.1 (zh (ya q49))
             refine zC U U q49 U<|zC U U q49 U<|zC U U q49 U<|zC U U q49 U<|zC U U q49 U<|zC U U q49 U<|zC U U q49 U<|zC U U q49 U<|za (zU U q49 U) U<|zf<|zm U (fun q50=>?_) (fun q50=>?_)
             ·skip
              exact zg<|zk (zl (n:=189) (σ':=[(11,⟨[.lst (rows (if isRk r1_1 then LeaT r1_1 else []))],[]⟩),(9,⟨[.lst (rows (if isRk r1_0 then LeaT r1_0 else []))],[]⟩),(4,⟨[.lst (rows r1_1)],[]⟩),(3,⟨[.lst (rows r1_0)],[]⟩)]) (env':=[]) U U trivial)<|zd<|za (ze U) U<|zf<|zA<|zr (zH U (zw U)) U U ⟨_,(zq _),_,h,U⟩
             ·cases q50
            ·replace h:=h.2 (zj (yb q49))
             refine zE U U q49<|za (zD U) U<|zE U U q49<|za (yB U U U U U) U<|zE U U q49<|za (zD U) U<|zE U U q49<|za (yB U U U U U) U<|zE U U q49 ?_
             obtain⟨q51,h⟩:=h
             refine zn (zF (xs:=[.tmp 103,.tmp 105]) (ids:=[]) U U U U (c_laws_same9 (if isRk r1_0 then LeaT r1_0 else []) (if isRk r1_1 then LeaT r1_1 else []) q51) U ?_)
             rintro _ rfl
             refine⟨U,?_⟩
             refine zE U U q49<|za (zc U) U<|zE U U q49<|za (yE U U) U<|zE U U q49<|za (ss_neqB U U) U<|za (zV U q49 U) U<|zf<|zm U (fun q53=>?_) (fun q53=>?_)
             ·replace h:=h.1 ((ya q53))
              exact zg<|zk (zl (n:=189) (σ':=[(11,⟨[.lst (rows (if isRk r1_1 then LeaT r1_1 else []))],[]⟩),(9,⟨[.lst (rows (if isRk r1_0 then LeaT r1_0 else []))],[]⟩),(4,⟨[.lst (rows r1_1)],[]⟩),(3,⟨[.lst (rows r1_0)],[]⟩)]) (env':=[]) U U trivial)<|zd<|za (ze U) U<|zf<|zA<|zr (zH U (zw U)) U U ⟨_,(zq _),_,h,U⟩
             ·replace h:=h.2 ((yb q53))
              exact zu<|⟨zQ (yH (id:=11) U U) (zQ (yH (id:=9) U U) (zQ (yH (id:=4) U U) (zQ (yH (id:=3) U U) (zv (n:=189) U U E1)))),h⟩
          ·replace h:=h.2 (zh q41)
           exact zu<|⟨zQ (yH (id:=4) U U) (zQ (yH (id:=3) U U) (zv (n:=189) U U E1)),h⟩
         ·replace h:=h.2 (zh q40)
          refine zC U U q40 U<|zC U U q40 U<|zC U U q40 U<|zC U U q40 U<|za (zV U q40 U) U<|zf<|zm U (fun q54=>?_) (fun q54=>?_)
          ·cases q54
          ·skip
           exact zu<|⟨zQ (yH (id:=4) U U) (zQ (yH (id:=3) U U) (zv (n:=189) U U E1)),h⟩
        ·replace h:=h.2 (zh q39)
         refine zC U U q39 U<|zC U U q39 U<|zC U U q39 U<|zC U U q39 U<|za (zV U q39 U) U<|za (zc U) U<|zX (s:=79) U (fun q55=>?_) (fun q55=>?_)
         ·cases q55
         ·skip
          refine zC U U q55 U<|zC U U q55 U<|zC U U q55 U<|zC U U q55 U<|za (zV U q55 U) U<|zf<|zm U (fun q56=>?_) (fun q56=>?_)
          ·cases q56
          ·skip
           exact zu<|⟨zQ (yH (id:=4) U U) (zQ (yH (id:=3) U U) (zv (n:=189) U U E1)),h⟩
      ·rintro q57
       replace h:=j2 q57
       refine zg<|zd<|za (zc U) U ?_
       obtain⟨q58,h⟩:=h
       refine zn (zF (xs:=[.tmp 111]) (ids:=[112]) U U U U (c_spec_DrawRackText code q58) U ?_)
       rintro _ ⟨r2_0,q59,rfl⟩
       replace h:=h r2_0 q59
       refine⟨U,?_⟩
       refine zn (yw (id:=13) U (zb U) ⟨U,?_⟩)
       refine zn (yf U U (zb U) U U U ⟨U,?_⟩)
       refine zf<|zk (zl (n:=189) (σ':=[(13,⟨[.hole],[(0,.ref 112)]⟩),(112,⟨orows r2_0,[]⟩)]) (env':=[(0,.c (.lst (bys code))),(13,.cell 13 0)]) U U E2)<|zk (yd (id:=112) (fun r=>C.lst (ints r)) U (fun _=>(yq (yr (fun _=>U) _))))<|zk (xa (id:=13) (j:=0) U U (zb U))<|zk (zl (n:=189) (σ':=[(13,⟨[.lst (rows r2_0)],[]⟩)]) (env':=[(0,.c (.lst (bys code))),(13,.cell 13 0)]) U U E2)<|zg<|zd<|za (yP U U U U) U ?_
       obtain⟨q60,h⟩:=h
       refine zn (zF (xs:=[.tmp 114]) (ids:=[]) U U U U (c_impl_RackText r2_0 q60) U ?_)
       rintro _ rfl
       refine⟨U,?_⟩
       refine za (zc U) U<|za (zT U U) U<|za (zT U U) U<|za (ze U) U<|za (ze U) U<|zf<|zg<|zg<|zd<|za (yP U U U U) U ?_
       obtain⟨q62,h⟩:=h
       refine zn (zF (xs:=[.tmp 119]) (ids:=[]) U U U U (c_spec_RackText r2_0 q62) U ?_)
       rintro _ rfl
       refine⟨U,?_⟩
       refine za (zc U) U<|za (zT U U) U<|za (zT U U) U<|za (ze U) U<|za (ze U) U<|zf<|zg<|zd<|za (zc U) U<|za (zc U) U<|za (yQ U U) U<|za (zc U) U<|zX (s:=126) U (fun q64=>?_) (fun q64=>?_)
       ·replace h:=h.1 (zh (ya q64))
        refine zC U U q64 U<|zC U U q64 U<|zC U U q64 U<|za (zU U q64 U) U<|zf<|zm U (fun q65=>?_) (fun q65=>?_)
        ·skip
         exact zg<|zk (zl (n:=189) (σ':=[(13,⟨[.lst (rows r2_0)],[]⟩)]) (env':=[]) U U trivial)<|zd<|za (ze U) U<|zf<|zA<|zr (zH U (zw U)) U U ⟨_,(zq _),_,h,U⟩
        ·cases q65
       ·replace h:=h.2 (zj (yb q64))
        refine zE U U q64<|za (zc U) U<|zE U U q64<|za (zc U) U<|zE U U q64<|za (ss_neqS U U) U<|za (zV U q64 U) U<|zf<|zm U (fun q66=>?_) (fun q66=>?_)
        ·replace h:=h.1 ((ya q66))
         exact zg<|zk (zl (n:=189) (σ':=[(13,⟨[.lst (rows r2_0)],[]⟩)]) (env':=[]) U U trivial)<|zd<|za (ze U) U<|zf<|zA<|zr (zH U (zw U)) U U ⟨_,(zq _),_,h,U⟩
        ·replace h:=h.2 ((yb q66))
         refine zu ?_
         obtain⟨J3,h,j3⟩:=h
         refine aw_join0 ⟨[],[(0,.c (.lst (bys code)))],189⟩ J3 ?_ ?_
         ·skip
          refine zg<|zk (zl (n:=189) (σ':=[(13,⟨[.lst (rows r2_0)],[]⟩)]) (env':=[(0,.c (.lst (bys code))),(13,.cell 13 0),(14,.c (cs (if isRk r2_0 then txtI r2_0 else []))),(15,.c (ci (if isRk r2_0 then (0:Int) else 1)))]) U U E4)<|zd<|za (zc U) U<|za (yE U U) U<|zf<|zm U (fun q67=>?_) (fun q67=>?_)
          ·replace h:=h.1 (zj q67)
           refine zg<|zd<|za (zc U) U ?_
           obtain⟨q68,h⟩:=h
           refine zn (zF (xs:=[.tmp 134]) (ids:=[135]) U U U U (c_impl_ParseRack (if isRk r2_0 then txtI r2_0 else []) q68) U ?_)
           rintro _ rfl
           refine⟨U,?_⟩
           refine za (zc U) U<|za (zT U U) U<|za (zT U U) U<|zn (yw (id:=18) U (zb U) ⟨U,?_⟩)
           refine zn (yf U U (zb U) U U U ⟨U,?_⟩)
           refine za (ze U) U<|zf<|zk (zl (n:=189) (σ':=[(18,⟨[.hole],[(0,.ref 135)]⟩),(135,⟨orows (prkT (if isRk r2_0 then txtI r2_0 else [])),[]⟩),(13,⟨[.lst (rows r2_0)],[]⟩)]) (env':=[(0,.c (.lst (bys code))),(13,.cell 13 0),(18,.cell 18 0),(19,.c (ci (prkE (if isRk r2_0 then txtI r2_0 else []))))]) U U E4)<|zk (yd (id:=135) (fun r=>C.lst (ints r)) U (fun _=>(yq (yr (fun _=>U) _))))<|zk (xa (id:=18) (j:=0) U U (zb U))<|zk (zl (n:=189) (σ':=[(18,⟨[.lst (rows (prkT (if isRk r2_0 then txtI r2_0 else [])))],[]⟩),(13,⟨[.lst (rows r2_0)],[]⟩)]) (env':=[(0,.c (.lst (bys code))),(13,.cell 13 0),(18,.cell 18 0),(19,.c (ci (prkE (if isRk r2_0 then txtI r2_0 else []))))]) U U E4)<|zg<|zd<|za (zc U) U<|za (yQ U U) U<|za (zc U) U<|zX (s:=140) U (fun q70=>?_) (fun q70=>?_)
           ·replace h:=h.1 (zh (ya q70))
            refine zC U U q70 U<|zC U U q70 U<|zC U U q70 U<|zC U U q70 U<|zC U U q70 U<|zC U U q70 U<|za (zU U q70 U) U<|zf<|zm U (fun q71=>?_) (fun q71=>?_)
            ·skip
             exact zg<|zk (zl (n:=189) (σ':=[(18,⟨[.lst (rows (prkT (if isRk r2_0 then txtI r2_0 else [])))],[]⟩),(13,⟨[.lst (rows r2_0)],[]⟩)]) (env':=[]) U U trivial)<|zd<|za (ze U) U<|zf<|zA<|zr (zH U (zw U)) U U ⟨_,(zq _),_,h,U⟩
            ·cases q71
           ·replace h:=h.2 (zj (yb q70))
            refine zE U U q70<|za (zD U) U<|zE U U q70<|za (yB U U U U U) U<|zE U U q70<|za (zD U) U<|zE U U q70<|za (yB U U U U U) U<|zE U U q70 ?_
            obtain⟨q72,h⟩:=h
            refine zn (zF (xs:=[.tmp 142,.tmp 144]) (ids:=[]) U U U U (c_laws_same9 (prkT (if isRk r2_0 then txtI r2_0 else [])) r2_0 q72) U ?_)
            rintro _ rfl
            refine⟨U,?_⟩
            refine zE U U q70<|za (yA U) U<|za (zV U q70 U) U<|zf<|zm U (fun q74=>?_) (fun q74=>?_)
            ·replace h:=h.1 (zh (ya q74))
             exact zg<|zk (zl (n:=189) (σ':=[(18,⟨[.lst (rows (prkT (if isRk r2_0 then txtI r2_0 else [])))],[]⟩),(13,⟨[.lst (rows r2_0)],[]⟩)]) (env':=[]) U U trivial)<|zd<|za (ze U) U<|zf<|zA<|zr (zH U (zw U)) U U ⟨_,(zq _),_,h,U⟩
            ·replace h:=h.2 (zj (yb q74))
             exact zu<|⟨zQ (yH (id:=18) U U) (zQ (yH (id:=13) U U) (zv (n:=189) U U E1)),h⟩
          ·replace h:=h.2 (zh q67)
           exact zu<|⟨zQ (yH (id:=13) U U) (zv (n:=189) U U E1),h⟩
         ·rintro q75
          replace h:=j3 q75
          refine zg<|zd<|za (zc U) U ?_
          obtain⟨q76,h⟩:=h
          refine zn (zF (xs:=[.tmp 148]) (ids:=[]) U U U U (c_spec_DrawParseRack code q76) U ?_)
          rintro _ ⟨r3_0,q77,rfl⟩
          replace h:=h r3_0 q77
          refine⟨U,?_⟩
          refine za (ze U) U<|zf<|zg<|zd<|za (zc U) U ?_
          obtain⟨q78,h⟩:=h
          refine zn (zF (xs:=[.tmp 151]) (ids:=[152]) U U U U (c_impl_ParseRack r3_0 q78) U ?_)
          rintro _ rfl
          refine⟨U,?_⟩
          refine za (zc U) U<|za (zT U U) U<|za (zT U U) U<|zn (yw (id:=21) U (zb U) ⟨U,?_⟩)
          refine zn (yf U U (zb U) U U U ⟨U,?_⟩)
          refine za (ze U) U<|zf<|zk (zl (n:=189) (σ':=[(21,⟨[.hole],[(0,.ref 152)]⟩),(152,⟨orows (prkT r3_0),[]⟩)]) (env':=[(20,.c (cs r3_0)),(21,.cell 21 0),(22,.c (ci (prkE r3_0)))]) U U E3)<|zk (yd (id:=152) (fun r=>C.lst (ints r)) U (fun _=>(yq (yr (fun _=>U) _))))<|zk (xa (id:=21) (j:=0) U U (zb U))<|zk (zl (n:=189) (σ':=[(21,⟨[.lst (rows (prkT r3_0))],[]⟩)]) (env':=[(20,.c (cs r3_0)),(21,.cell 21 0),(22,.c (ci (prkE r3_0)))]) U U E3)<|zg<|zg<|zd<|za (zc U) U ?_
          obtain⟨q80,h⟩:=h
          refine zn (zF (xs:=[.tmp 156]) (ids:=[157]) U U U U (c_spec_ParseRack r3_0 q80) U ?_)
          rintro _ rfl
          refine⟨U,?_⟩
          refine za (zc U) U<|za (zT U U) U<|za (zT U U) U<|zn (yw (id:=23) U (zb U) ⟨U,?_⟩)
          refine zn (yf U U (zb U) U U U ⟨U,?_⟩)
          refine za (ze U) U<|zf<|zk (zl (n:=189) (σ':=[(23,⟨[.hole],[(0,.ref 157)]⟩),(157,⟨orows (prkT r3_0),[]⟩),(21,⟨[.lst (rows (prkT r3_0))],[]⟩)]) (env':=[(20,.c (cs r3_0)),(21,.cell 21 0),(22,.c (ci (prkE r3_0))),(23,.cell 23 0),(24,.c (ci (prkE r3_0)))]) U U E5)<|zk (yd (id:=157) (fun r=>C.lst (ints r)) U (fun _=>(yq (yr (fun _=>U) _))))<|zk (xa (id:=23) (j:=0) U U (zb U))<|zk (zl (n:=189) (σ':=[(23,⟨[.lst (rows (prkT r3_0))],[]⟩),(21,⟨[.lst (rows (prkT r3_0))],[]⟩)]) (env':=[(20,.c (cs r3_0)),(21,.cell 21 0),(22,.c (ci (prkE r3_0))),(23,.cell 23 0),(24,.c (ci (prkE r3_0)))]) U U E5)<|zg<|zd<|za (zc U) U<|za (zc U) U<|za (yQ U U) U<|za (zc U) U<|zX (s:=163) U (fun q82=>?_) (fun q82=>?_)
          ·replace h:=h.1 (zh (ya q82))
           refine zC U U q82 U<|zC U U q82 U<|zC U U q82 U<|zC U U q82 U<|zC U U q82 U<|zC U U q82 U<|za (zU U q82 U) U<|zf<|zm U (fun q83=>?_) (fun q83=>?_)
           ·skip
            exact zg<|zk (zl (n:=189) (σ':=[(23,⟨[.lst (rows (prkT r3_0))],[]⟩),(21,⟨[.lst (rows (prkT r3_0))],[]⟩)]) (env':=[]) U U trivial)<|zd<|za (ze U) U<|zf<|zA<|zr (zH U (zw U)) U U ⟨_,(zq _),_,h,U⟩
           ·cases q83
          ·replace h:=h.2 (zj (yb q82))
           refine zE U U q82<|za (zD U) U<|zE U U q82<|za (yB U U U U U) U<|zE U U q82<|za (zD U) U<|zE U U q82<|za (yB U U U U U) U<|zE U U q82 ?_
           obtain⟨q84,h⟩:=h
           refine zn (zF (xs:=[.tmp 165,.tmp 167]) (ids:=[]) U U U U (c_laws_same9 (prkT r3_0) (prkT r3_0) q84) U ?_)
           rintro _ rfl
           refine⟨U,?_⟩
           refine zE U U q82<|za (yA U) U<|za (zV U q82 U) U<|zf<|zm U (fun q86=>?_) (fun q86=>?_)
           ·replace h:=h.1 (zh (ya q86))
            exact zg<|zk (zl (n:=189) (σ':=[(23,⟨[.lst (rows (prkT r3_0))],[]⟩),(21,⟨[.lst (rows (prkT r3_0))],[]⟩)]) (env':=[]) U U trivial)<|zd<|za (ze U) U<|zf<|zA<|zr (zH U (zw U)) U U ⟨_,(zq _),_,h,U⟩
           ·replace h:=h.2 (zj (yb q86))
            refine zu<|zg<|zg<|zk (zl (n:=189) (σ':=[(23,⟨[.lst (rows (prkT r3_0))],[]⟩),(21,⟨[.lst (rows (prkT r3_0))],[]⟩)]) (env':=[(20,.c (cs r3_0)),(21,.cell 21 0),(22,.c (ci (prkE r3_0)))]) U U E3)<|zd<|za (zc U) U<|za (yQ U U) U<|zf<|zm U (fun q87=>?_) (fun q87=>?_)
            ·replace h:=h.1 (zh (ya q87))
             exact zg<|zd<|za (zD U) U<|za (yB U U U U U) U<|za (zJ (f:=(fun r=>C.lst (ints r))) U) U<|za (yE U U) U<|za (ze U) U<|zf<|zA<|zr (zH U (zw U)) U U ⟨_,(zq _),_,h,U⟩
            ·replace h:=h.2 (zj (yb q87))
             refine zu<|zg<|zd<|za (yP U U U U) U ?_
             obtain⟨q88,h⟩:=h
             refine zn (zF (xs:=[.tmp 178]) (ids:=[]) U U U U (c_impl_RackText (prkT r3_0) q88) U ?_)
             rintro _ rfl
             refine⟨U,?_⟩
             refine za (zc U) U<|za (zT U U) U<|za (zT U U) U<|za (ze U) U<|za (ze U) U<|zf<|zg<|zd<|za (zc U) U<|za (yE U U) U<|za (zc U) U<|zX (s:=184) U (fun q90=>?_) (fun q90=>?_)
             ·replace h:=h.1 (zj q90)
              exact zE U U q90<|za (zc U) U<|zE U U q90<|za (zc U) U<|zE U U q90<|za (ss_eqlS U U) U<|za (zU U q90 U) U<|za (ze U) U<|zf<|zA<|zr (zH U (zw U)) U U ⟨_,(zq _),_,h,U⟩
             ·replace h:=h.2 (zh q90)
              exact zC U U q90 U<|zC U U q90 U<|zC U U q90 U<|za (zV U q90 U) U<|za (ze U) U<|zf<|zA<|zr (zH U (zw U)) U U ⟨_,(zq _),_,h,U⟩
theorem c_laws_FnRackForms (code:List Int) (hp:code.length<=9223372036854775807/\∀ z_ ∈ code,0<=z_/\z_<=255):AF Tryz.prog 3 [.lst (bys code)] (fun R_=>R_ = cb true):=
  (w_laws_FnRackForms code (fun y0=>y0 = true) (p_laws_FnRackForms code hp)).mono (by rintro r ⟨_,rfl,rfl⟩; rfl)
end Go.Proofs.YtjolbldlhjfciaaGreatDoor
