/- Contracts of functions that the law FnRackForms reaches: conditions, plain proofs, walks; no condition. -/
import Derived.Test.YtjolbldlhjfciaaGreatDoorKRackFormsg
import Derived.Test.YtjolbldlhjfciaaGreatDoorPP
namespace Go.Proofs.YtjolbldlhjfciaaGreatDoor
set_option maxRecDepth 100000
set_option maxHeartbeats 4000000

def wp_impl_RackIsomorphism (r:List (List Int)) (s:List (List Int)) (Q:List Int->Int->Prop):Prop:=
 (small2 r)/\
 (((isRk r) = false->
 Q ([]) 1)/\
 ((isRk r) = true->
 (small2 s)/\
 (((isRk s) = false->
 Q ([]) 1)/\
 ((isRk s) = true->
 (TabsP ([r])/\TabsP ([s])/\([r]).length = ([s]).length/\1<=([r]).length)/\
 ∃ (H1:Nat->Unit->Prop),H1 0 ()/\
 ((∀ (k1:Nat) (u1_:Unit) (e1:List Int),(isoL ([r]) ([s]))[k1]? = some e1->H1 k1 u1_->
 (small e1)/\
 Q e1 0)/\
 (∀ (u1_:Unit),H1 (isoL ([r]) ([s])).length u1_->
 Q ([]) 4))))))
def wp_spec_RackIsomorphism (r:List (List Int)) (s:List (List Int)) (Q:List Int->Int->Prop):Prop:=
 (small2 r)/\
 (((isRk r) = false->
 Q ([]) 1)/\
 ((isRk r) = true->
 (small2 s)/\
 (((isRk s) = false->
 Q ([]) 1)/\
 ((isRk s) = true->
 (((r.length:Int) = (s.length:Int)->
 (([] : List Int) = []/\TabsP ([r])/\TabsP ([s])/\([r]).length = ([s]).length/\1<=(1:Int)/\(1:Int)<=1000000)/\
 (((((isoL ([r]) ([s])).take (1:Int).toNat).length:Int) = 0->
 Q ([]) 4)/\
 (¬ ((((isoL ([r]) ([s])).take (1:Int).toNat).length:Int) = 0)->
 ((0:Int)<=0/\0 < (((isoL ([r]) ([s])).take (1:Int).toNat).length:Int))/\
 Q (el ((isoL ([r]) ([s])).take (1:Int).toNat) 0) 0)))/\
 (¬ ((r.length:Int) = (s.length:Int))->
 (((([] : List (List Int)).length:Int) = 0->
 Q ([]) 4)/\
 (¬ ((([] : List (List Int)).length:Int) = 0)->
 ((0:Int)<=0/\0 < (([] : List (List Int)).length:Int))/\
 Q (el ([] : List (List Int)) 0) 0))))))))
theorem ris_no {r s:List (List Int)} (h : ¬ (isRk r = true/\isRk s = true)):RisT r s = []/\RisE r s = 1:=by
  have e:RisE r s = 1:=by unfold RisE; rw [if_neg h]
  exact⟨by unfold RisT; rw [e]; rfl,e⟩
theorem ris_nil {r s:List (List Int)} (h1:isRk r = true) (h2:isRk s = true) (h:isoL [r] [s] = []):RisT r s = []/\RisE r s = 4:=by
  have e:RisE r s = 4:=by unfold RisE; rw [if_pos ⟨h1,h2⟩,if_pos h]
  exact⟨by unfold RisT; rw [e]; rfl,e⟩
theorem ris_some {r s:List (List Int)} (h1:isRk r = true) (h2:isRk s = true) (h:isoL [r] [s]≠[]):RisT r s = el (isoL [r] [s]) 0/\RisE r s = 0:=by
  have e:RisE r s = 0:=by unfold RisE; rw [if_pos ⟨h1,h2⟩,if_neg h]
  exact⟨by unfold RisT; rw [e]; rfl,e⟩
theorem iso_first {r s:List (List Int)} (ht:isTab r = true) {k:Nat} {e:List Int} (hk:k = 0) (he:(isoL [r] [s])[k]? = some e):isoL [r] [s]≠[]/\e = el (isoL [r] [s]) 0/\small e:=by
  subst hk
  have hm:=isoL_mem (List.mem_of_getElem? he)
  have hl:e.length = r.length:=hm.1
  have:=isTab_len ht
  refine⟨fun h=>by rw [h] at he; simp at he,?_,by show (e.length:Int)<=1000000000; omega⟩
  unfold el; rw [List.getD_eq_getElem?_getD,show (0:Int).toNat = 0 from rfl,he]; rfl
theorem p_impl_RackIsomorphism (r s:List (List Int)) (hp:small2 r/\small2 s):wp_impl_RackIsomorphism r s (fun y0 y1=>y0 = RisT r s/\y1 = RisE r s):=by
  unfold wp_impl_RackIsomorphism
  refine⟨hp.1,fun h=>?_,fun h1=>⟨hp.2,fun h=>?_,fun h2=>⟨⟨tabs1 (isRk_tab h1),tabs1 (isRk_tab h2),rfl,by simp⟩,fun k _=>k = 0,rfl,fun k _ e he hk=>?_,fun _ hk=>?_⟩⟩⟩
  · have:=ris_no (r:=r) (s:=s) fun k=>by rw [h] at k; exact absurd k.1 (by simp)
    exact⟨this.1.symm,this.2.symm⟩
  · have:=ris_no (r:=r) (s:=s) fun k=>by rw [h] at k; exact absurd k.2 (by simp)
    exact⟨this.1.symm,this.2.symm⟩
  · obtain⟨g1,g2,g3⟩:=iso_first (isRk_tab h1) hk he
    have:=ris_some h1 h2 g1
    exact⟨g3,by rw [this.1]; exact g2,this.2.symm⟩
  · have:=ris_nil h1 h2 (List.eq_nil_of_length_eq_zero hk)
    exact⟨this.1.symm,this.2.symm⟩
theorem p_spec_RackIsomorphism (r s:List (List Int)) (hp:small2 r/\small2 s):wp_spec_RackIsomorphism r s (fun y0 y1=>y0 = RisT r s/\y1 = RisE r s):=by
  unfold wp_spec_RackIsomorphism
  refine⟨hp.1,fun h=>?_,fun h1=>⟨hp.2,fun h=>?_,fun h2=>⟨fun he=>⟨⟨rfl,tabs1 (isRk_tab h1),tabs1 (isRk_tab h2),rfl,by omega,by omega⟩,fun h0=>?_,fun h0=>?_⟩,fun hne=>⟨fun _=>?_,fun h0=>absurd (by simp) h0⟩⟩⟩⟩
  · have:=ris_no (r:=r) (s:=s) fun k=>by rw [h] at k; exact absurd k.1 (by simp)
    exact⟨this.1.symm,this.2.symm⟩
  · have:=ris_no (r:=r) (s:=s) fun k=>by rw [h] at k; exact absurd k.2 (by simp)
    exact⟨this.1.symm,this.2.symm⟩
  · have:=ris_nil h1 h2 (take1.1.1 h0)
    exact⟨this.1.symm,this.2.symm⟩
  · have hne:isoL [r] [s]≠[]:=fun h=>h0 (take1.1.2 h)
    have:=ris_some h1 h2 hne
    exact⟨⟨by omega,by omega⟩,by rw [this.1]; exact take1.2 hne,this.2.symm⟩
  · have:=ris_nil h1 h2 (isoL_ne (a:=[r]) (b:=[s]) hne)
    exact⟨this.1.symm,this.2.symm⟩
theorem c_impl_isomorphisms (ta tb:List (List (List Int))) (_hp:TabsP ta/\TabsP tb/\ta.length = tb.length/\1<=ta.length):AF Tryz.prog 25 [.lst (tabs ta),.lst (tabs tb)] (fun R_=>R_ = .clo 44 [.ptr [.lst (tabs ta)],.ptr [.lst (tabs tb)]]):=by
  refine zM (n:=6) Tryz.func25 U (by rfl) U (zb U)<|zg<|zk (zl (n:=6) (σ':=[]) (env':=[(0,.c (.lst (tabs ta))),(1,.c (.lst (tabs tb)))]) U U E2)<|zd<|zn (y8 U (.inr U) U ⟨U,?_⟩)
  refine zn (y8 U (.inr U) U ⟨U,?_⟩)
  exact za (ze U) U<|zf<|zg<|zd<|za (ss_makeFunc (os:=[.tmp 2,.tmp 3]) U) U<|za (ze U) U<|zf<|zA<|zr (zH U (zw U)) U U U
theorem w_impl_RackIsomorphism (r:List (List Int)) (s:List (List Int)) (Q:List Int->Int->Prop) (h:wp_impl_RackIsomorphism r s Q):AF Tryz.prog 6 [.agg [.lst (rows r)],.agg [.lst (rows s)]] (fun R_=>∃ y0 y1,Q y0 y1/\R_ = .tup [.own (ints y0),ci y1]):=by
  refine zS (af_enterG (n:=25) Tryz.func6 U (by rfl) U (zb U) ?_)
  unfold wp_impl_RackIsomorphism at h
  refine ar_seq<|zk (zl (n:=25) (σ':=[]) (env':=[(0,.c (.agg [.lst (rows r)])),(1,.c (.agg [.lst (rows s)]))]) U U E2)<|zd<|zn (y8 U (.inl U) U ⟨U,?_⟩)
  refine zn (y8 U (.inl U) U ⟨U,?_⟩)
  refine zn (yw (id:=4) U (zb U) ⟨U,?_⟩)
  refine zn (yw (id:=5) U (zb U) ⟨U,?_⟩)
  refine zf<|ar_seq<|zg<|zd<|za (y6 U (zb U)) U ?_
  obtain⟨q1,h⟩:=h
  refine zn (zF (xs:=[.tmp 7]) (ids:=[]) U U U U (c_impl_IsRack r q1) U ?_)
  rintro _ rfl
  refine⟨U,?_⟩
  refine za (yA U) U<|za (zc U) U<|zX (s:=10) U (fun q3=>?_) (fun q3=>?_)
  ·replace h:=h.1 ((ya q3))
   refine zC U U q3 U<|zC U U q3 U<|zC U U q3 U<|za (zU U q3 U) U<|zf<|zm U (fun q4=>?_) (fun q4=>?_)
   ·skip
    refine zg<|zk (zl (n:=25) (σ':=[(5,⟨[ci 0],[]⟩),(4,⟨[cnil],[]⟩)]) (env':=[(4,.cell 4 0),(5,.cell 5 0)]) U U E2)<|zd<|zn (yV U U (zb U) U U ⟨U,?_⟩)
    refine zn (yV U U (zb U) U U ⟨U,?_⟩)
    exact zf<|zA<|retAG_of (zr (yT U (rv_cell U U U) (rv_cell U U U)) U U ⟨_,(yW (zN yK (zN (zq _) yC))),_,_,h,U⟩)
   ·cases q4
  ·replace h:=h.2 ((yb q3))
   refine zE U U q3<|za (y6 U (zb U)) U<|zE U U q3 ?_
   obtain⟨q5,h⟩:=h
   refine zn (zF (xs:=[.tmp 11]) (ids:=[]) U U U U (c_impl_IsRack s q5) U ?_)
   rintro _ rfl
   refine⟨U,?_⟩
   refine zE U U q3<|za (yA U) U<|za (zV U q3 U) U<|zf<|zm U (fun q7=>?_) (fun q7=>?_)
   ·replace h:=h.1 ((ya q7))
    refine zg<|zk (zl (n:=25) (σ':=[(5,⟨[ci 0],[]⟩),(4,⟨[cnil],[]⟩)]) (env':=[(4,.cell 4 0),(5,.cell 5 0)]) U U E2)<|zd<|zn (yV U U (zb U) U U ⟨U,?_⟩)
    refine zn (yV U U (zb U) U U ⟨U,?_⟩)
    exact zf<|zA<|retAG_of (zr (yT U (rv_cell U U U) (rv_cell U U U)) U U ⟨_,(yW (zN yK (zN (zq _) yC))),_,_,h,U⟩)
   ·replace h:=h.2 ((yb q7))
    refine zu<|ar_seqK<|ar_seq<|zk (zl (n:=25) (σ':=[(5,⟨[ci 0],[]⟩),(4,⟨[cnil],[]⟩)]) (env':=[(2,.c (.ptr [.lst (rows r)])),(3,.c (.ptr [.lst (rows s)])),(4,.cell 4 0),(5,.cell 5 0)]) U U E4)<|zd<|za (yJ U) U<|za (zZ U U) U<|zn (zy (id:=17) (ps:=[(0,.tmp 16)]) U U (zb U) U ⟨U,?_⟩)
    refine za (yJ U) U<|za (zZ U U) U<|zn (zy (id:=20) (ps:=[(0,.tmp 19)]) U U (zb U) U ⟨U,?_⟩)
    refine yF (yd (id:=17) (f:=(fun r=>C.lst (rows r))) (l:=([r])) (fun r=>C.lst (rows r)) U (fun _=>U))<|yF (yd (id:=20) (f:=(fun r=>C.lst (rows r))) (l:=([s])) (fun r=>C.lst (rows r)) U (fun _=>U)) ?_
    obtain⟨q8,h⟩:=h
    refine zn (zF (xs:=[.tmp 17,.tmp 20]) (ids:=[]) U U U U (c_impl_isomorphisms ([r]) ([s]) q8) U ?_)
    rintro _ rfl
    refine⟨U,?_⟩
    refine zf<|ar_block<|ar_gh (zl (n:=25) (σ':=[(5,⟨[ci 0],[]⟩),(4,⟨[cnil],[]⟩)]) (env':=[(4,.cell 4 0),(5,.cell 5 0),(21,.c (.clo 44 [.ptr [.lst (tabs ([r]))],.ptr [.lst (tabs ([s]))]]))]) U U E3) ?_
    obtain⟨H1,q10,h⟩:=h
    refine ar_rangeE (en:=(fun p_=>.lst (ints p_))) 5000 [(5004,.cell 4 0),(5005,.cell 5 0),(5021,.c (.clo 44 [.ptr [.lst (tabs ([r]))],.ptr [.lst (tabs ([s]))]]))] (fun (u1_:Unit)=>[(5,⟨[ci 0],[]⟩),(4,⟨[cnil],[]⟩)]) H1 (c_impl_isomorphisms_1 ([r]) ([s]) q8) U U U U U ⟨(),zv (n:=25) U U E3,(by simp [σok,slfL,C.slf,slf_ints,slf_orows,slf_ci,ci,cb]),q10⟩ (fun k1 u1_ e1 q11 q12=>?_) (fun u1_ q12=>?_)
    ·replace h:=h.1 k1 u1_ e1 q11 q12
     refine zk (zl (n:=25) (σ':=[(5,⟨[ci 0],[]⟩),(4,⟨[cnil],[]⟩)]) (env':=[(4,.cell 4 0),(5,.cell 5 0),(21,.c (.clo 44 [.ptr [.lst (tabs ([r]))],.ptr [.lst (tabs ([s]))]])),(22,.c (.lst (ints e1))),(5004,.cell 4 0),(5005,.cell 5 0),(5021,.c (.clo 44 [.ptr [.lst (tabs ([r]))],.ptr [.lst (tabs ([s]))]]))]) U U E7)<|zk (zl (n:=25) (σ':=[(5,⟨[ci 0],[]⟩),(4,⟨[cnil],[]⟩)]) (env':=[(4,.cell 4 0),(5,.cell 5 0),(22,.c (.lst (ints e1))),(5004,.cell 4 0),(5005,.cell 5 0),(5021,.c (.clo 44 [.ptr [.lst (tabs ([r]))],.ptr [.lst (tabs ([s]))]]))]) U U E6)<|zd<|za (ze U) U<|zf<|zt<|zg<|zd<|za (zc U) U ?_
     obtain⟨q13,h⟩:=h
     refine zn (zF (xs:=[.tmp 23]) (ids:=[24]) U U U U (c_k_Clone e1 q13) U ?_)
     rintro _ rfl
     refine⟨U,?_⟩
     refine zn (yV U U (zb U) U U ⟨U,?_⟩)
     refine zn (yV U U (zb U) U U ⟨U,?_⟩)
     refine zf<|zA<|⟨[(5,⟨[ci 0],[]⟩),(4,⟨[.own (ints e1)],[]⟩)],zQ (yu (id:=4) (id2:=24) (j:=0) U U (zb U) U U U) (zv (n:=25) U U E3),(by simp [σok,slfL,C.slf,slf_ints,slf_orows,slf_ci,ci,cb]),?_⟩
     exact retAG_gh (xf (id:=4) (j:=0) 1001 U U U)<|retAG_of (zr (yT U (rv_cell U U U) (rv_cell U U U)) U U ⟨_,(zq _),_,_,h,U⟩)
    ·replace h:=h.2 u1_ q12
     refine ar_aw<|zg<|zk (zl (n:=25) (σ':=[(5,⟨[ci 0],[]⟩),(4,⟨[cnil],[]⟩)]) (env':=[(4,.cell 4 0),(5,.cell 5 0)]) U U E2)<|zd<|zn (yV U U (zb U) U U ⟨U,?_⟩)
     refine zn (yV U U (zb U) U U ⟨U,?_⟩)
     exact zf<|zA<|retAG_of (zr (yT U (rv_cell U U U) (rv_cell U U U)) U U ⟨_,(yW (zN yK (zN (zq _) yC))),_,_,h,U⟩)
theorem c_impl_RackIsomorphism (r:List (List Int)) (s:List (List Int)) (hp:small2 r/\small2 s):AF Tryz.prog 6 [.agg [.lst (rows r)],.agg [.lst (rows s)]] (fun R_=>R_ = .tup [.own (ints (RisT r s)),ci (RisE r s)]):=
  (w_impl_RackIsomorphism r s (fun y0 y1=>y0 = RisT r s/\y1 = RisE r s) (p_impl_RackIsomorphism r s hp)).mono (by rintro r ⟨_,_,⟨rfl,rfl⟩,rfl⟩; rfl)
theorem w_spec_RackIsomorphism (r:List (List Int)) (s:List (List Int)) (Q:List Int->Int->Prop) (h:wp_spec_RackIsomorphism r s Q):AF Tryz.prog 7 [.agg [.lst (rows r)],.agg [.lst (rows s)]] (fun R_=>∃ y0 y1,Q y0 y1/\R_ = .tup [.lst (ints y0),ci y1]):=by
  refine zS (zM (n:=36) Tryz.func7 U (by rfl) U (zb U) ?_)
  unfold wp_spec_RackIsomorphism at h
  refine zg<|zk (zl (n:=36) (σ':=[]) (env':=[(0,.c (.agg [.lst (rows r)])),(1,.c (.agg [.lst (rows s)]))]) U U E2)<|zd<|zn (y8 U (.inl U) U ⟨U,?_⟩)
  refine zn (y8 U (.inl U) U ⟨U,?_⟩)
  refine za (ze U) U<|za (ze U) U<|zf<|zg<|zg<|zd<|za (y6 U (zb U)) U ?_
  obtain⟨q1,h⟩:=h
  refine zn (zF (xs:=[.tmp 7]) (ids:=[]) U U U U (c_spec_l03Is r q1) U ?_)
  rintro _ rfl
  refine⟨U,?_⟩
  refine za (yA U) U<|za (zc U) U<|zX (s:=10) U (fun q3=>?_) (fun q3=>?_)
  ·replace h:=h.1 ((ya q3))
   refine zC U U q3 U<|zC U U q3 U<|zC U U q3 U<|za (zU U q3 U) U<|zf<|zm U (fun q4=>?_) (fun q4=>?_)
   ·skip
    exact zg<|zk (zl (n:=36) (σ':=[]) (env':=[(4,.c (cnil)),(5,.c (ci 0))]) U U E2)<|zd<|za (ze U) U<|za (ze U) U<|zf<|zA<|zr (yT U (zw U) (zw U)) U U ⟨_,(yW (zN xb (zN (zq _) yC))),_,_,h,U⟩
   ·cases q4
  ·replace h:=h.2 ((yb q3))
   refine zE U U q3<|za (y6 U (zb U)) U<|zE U U q3 ?_
   obtain⟨q5,h⟩:=h
   refine zn (zF (xs:=[.tmp 11]) (ids:=[]) U U U U (c_spec_l03Is s q5) U ?_)
   rintro _ rfl
   refine⟨U,?_⟩
   refine zE U U q3<|za (yA U) U<|za (zV U q3 U) U<|zf<|zm U (fun q7=>?_) (fun q7=>?_)
   ·replace h:=h.1 ((ya q7))
    exact zg<|zk (zl (n:=36) (σ':=[]) (env':=[(4,.c (cnil)),(5,.c (ci 0))]) U U E2)<|zd<|za (ze U) U<|za (ze U) U<|zf<|zA<|zr (yT U (zw U) (zw U)) U U ⟨_,(yW (zN xb (zN (zq _) yC))),_,_,h,U⟩
   ·replace h:=h.2 ((yb q7))
    refine zu<|zg<|zk (zl (n:=36) (σ':=[]) (env':=[(2,.c (.ptr [.lst (rows r)])),(3,.c (.ptr [.lst (rows s)]))]) U U E2)<|zd<|zn (zy (id:=15) (ps:=[]) U U (zb U) U ⟨U,?_⟩)
    refine za (ze U) U<|zf<|zg<|zg<|zd<|za (yJ U) U<|za (zZ U U) U<|za (zJ (f:=(fun r=>C.lst (ints r))) U) U<|za (yJ U) U<|za (zZ U U) U<|za (zJ (f:=(fun r=>C.lst (ints r))) U) U<|za (yE U U) U<|zf<|zm U (fun q8=>?_) (fun q8=>?_)
    ·replace h:=h.1 (zj q8)
     refine zd<|za (yJ U) U<|za (zZ U U) U<|zn (zy (id:=25) (ps:=[(0,.tmp 24)]) U U (zb U) U ⟨U,?_⟩)
     refine za (yJ U) U<|za (zZ U U) U<|zn (zy (id:=28) (ps:=[(0,.tmp 27)]) U U (zb U) U ⟨U,?_⟩)
     refine yF (yd (id:=25) (f:=(fun r=>C.lst (rows r))) (l:=([r])) (fun r=>C.lst (rows r)) U (fun _=>U))<|yF (yd (id:=28) (f:=(fun r=>C.lst (rows r))) (l:=([s])) (fun r=>C.lst (rows r)) U (fun _=>U)) ?_
     obtain⟨q9,h⟩:=h
     refine zn (zF (xs:=[.tmp 25,.tmp 28,.const (.slice none 0 0),.const (.int .i64 (1))]) (ids:=[]) U U U U (AF.weak (c_spec_l03Maps ([r]) ([s]) ([] : List Int) 1 q9) (zN (zq _) (zN (zq _) (zN xb (zN (zq _) yC))))) U ?_)
     rintro _ rfl
     refine⟨U,?_⟩
     refine za (ze U) U<|zf<|zg<|zg<|zk (zl (n:=36) (σ':=[(15,⟨orows ([] : List (List Int)),[]⟩)]) (env':=[(6,.c (.lst (rows ((isoL ([r]) ([s])).take (1:Int).toNat))))]) U U E1)<|zd<|za (zc U) U<|za (zJ (f:=(fun r=>C.lst (ints r))) U) U<|za (yE U U) U<|zf<|zm U (fun q11=>?_) (fun q11=>?_)
     ·replace h:=h.1 (zj q11)
      exact zg<|zd<|za (ze U) U<|za (ze U) U<|zf<|zA<|zr (yT U (zw U) (zw U)) U U ⟨_,(yW (zN xb (zN (zq _) yC))),_,_,h,U⟩
     ·replace h:=h.2 (zh q11)
      refine zu<|zg<|zd<|za (zc U) U ?_
      obtain⟨q12,h⟩:=h
      exact za (zB U U q12) U<|za (zx (f:=(fun r=>C.lst (ints r))) U q12) U<|za (ze U) U<|za (ze U) U<|zf<|zA<|zr (yT U (zw U) (zw U)) U U ⟨_,(zq _),_,_,h,U⟩
    ·replace h:=h.2 (zh q8)
     refine zu<|zg<|zg<|zk (zl (n:=36) (σ':=[(15,⟨orows ([] : List (List Int)),[]⟩)]) (env':=[(6,.ref 15)]) U U E1)<|zd<|za (zc U) U<|za (yR (f:=(fun r=>C.own (ints r))) U U) U<|za (yE U U) U<|zf<|zm U (fun q13=>?_) (fun q13=>?_)
     ·replace h:=h.1 (zj q13)
      exact zg<|zd<|za (ze U) U<|za (ze U) U<|zf<|zA<|zr (yT U (zw U) (zw U)) U U ⟨_,(yW (zN xb (zN (zq _) yC))),_,_,h,U⟩
     ·replace h:=h.2 (zh q13)
      refine zu<|zg<|zd<|za (zc U) U ?_
      obtain⟨q14,h⟩:=h
      exact za (zR (f:=(fun r=>C.own (ints r))) U U U q14) U<|yF (xf 1001 (id:=15) (j:=(0:Int).toNat) U (map_get (f:=(fun r=>C.own (ints r))) q14) U)<|za (yt U U xe U) U<|za (ze U) U<|za (ze U) U<|zf<|zk (yd (id:=1001) ci U (fun _=>U))<|zA<|zr (yT U (zw U) (zw U)) U U ⟨_,(zq _),_,_,h,U⟩
theorem c_spec_RackIsomorphism (r:List (List Int)) (s:List (List Int)) (hp:small2 r/\small2 s):AF Tryz.prog 7 [.agg [.lst (rows r)],.agg [.lst (rows s)]] (fun R_=>R_ = .tup [.lst (ints (RisT r s)),ci (RisE r s)]):=
  (w_spec_RackIsomorphism r s (fun y0 y1=>y0 = RisT r s/\y1 = RisE r s) (p_spec_RackIsomorphism r s hp)).mono (by rintro r ⟨_,_,⟨rfl,rfl⟩,rfl⟩; rfl)
section
variable {n:Int} {l:List (List Int)}
end
def wp_strings_IndexByte (s:List UInt8) (c:Int) (Q:Int->Prop):Prop:=
 (0<=c/\c<=255)/\
 Q (idxF s (fun b_=>decide ((b_.toNat:Int) = c)))
def wp_strings_genSplit (s:List UInt8) (sep:List UInt8) (save:Int) (n:Int) (Q:List (List UInt8)->Prop):Prop:=
 ((n = 0->
 False)/\
 (¬ (n = 0)->
 (((sep == ([] : List UInt8)) = true->
 False)/\
 ((sep == ([] : List UInt8)) = false->
 ((n < 0->
 (sep.length = 1)/\
 (InI (((s.filter (fun b_=>decide ((b_.toNat:Int) = byt sep 0))).length:Int) + 1))/\
 (InI ((s.length:Int) + 1))/\
 (0<=(if (s.length:Int) + 1 < ((s.filter (fun b_=>decide ((b_.toNat:Int) = byt sep 0))).length:Int) + 1 then (s.length:Int) + 1 else ((s.filter (fun b_=>decide ((b_.toNat:Int) = byt sep 0))).length:Int) + 1)/\(if (s.length:Int) + 1 < ((s.filter (fun b_=>decide ((b_.toNat:Int) = byt sep 0))).length:Int) + 1 then (s.length:Int) + 1 else ((s.filter (fun b_=>decide ((b_.toNat:Int) = byt sep 0))).length:Int) + 1)<=1000000000)/\
 (InI ((if (s.length:Int) + 1 < ((s.filter (fun b_=>decide ((b_.toNat:Int) = byt sep 0))).length:Int) + 1 then (s.length:Int) + 1 else ((s.filter (fun b_=>decide ((b_.toNat:Int) = byt sep 0))).length:Int) + 1) - 1))/\
 ∃ (H1:List UInt8->Int->List (List UInt8)->Prop) (m1:List UInt8->Int->List (List UInt8)->Nat),
 H1 s 0 (List.replicate (if (s.length:Int) + 1 < ((s.filter (fun b_=>decide ((b_.toNat:Int) = byt sep 0))).length:Int) + 1 then (s.length:Int) + 1 else ((s.filter (fun b_=>decide ((b_.toNat:Int) = byt sep 0))).length:Int) + 1).toNat ([] : List UInt8))/\
 ∀ (v0_1:List UInt8) (v10_1:Int) (o31_1:List (List UInt8)),H1 v0_1 v10_1 o31_1->
 (((v10_1 < (if (s.length:Int) + 1 < ((s.filter (fun b_=>decide ((b_.toNat:Int) = byt sep 0))).length:Int) + 1 then (s.length:Int) + 1 else ((s.filter (fun b_=>decide ((b_.toNat:Int) = byt sep 0))).length:Int) + 1) - 1->
 (sep.length = 1)/\
 ((idxF v0_1 (fun b_=>decide ((b_.toNat:Int) = byt sep 0)) < 0->
 (0<=v10_1/\v10_1 < (o31_1.length:Int))/\
 (InI (v10_1 + 1))/\
 ((0:Int)<=0/\0<=v10_1 + 1/\v10_1 + 1<=((se o31_1 v10_1 v0_1).length:Int))/\
 Q (sl (se o31_1 v10_1 v0_1) 0 (v10_1 + 1)))/\
 (¬ (idxF v0_1 (fun b_=>decide ((b_.toNat:Int) = byt sep 0)) < 0)->
 (InI ((idxF v0_1 (fun b_=>decide ((b_.toNat:Int) = byt sep 0))) + save))/\
 ((0:Int)<=0/\0<=(idxF v0_1 (fun b_=>decide ((b_.toNat:Int) = byt sep 0))) + save/\(idxF v0_1 (fun b_=>decide ((b_.toNat:Int) = byt sep 0))) + save<=(v0_1.length:Int))/\
 (0<=v10_1/\v10_1 < (o31_1.length:Int))/\
 (InI ((idxF v0_1 (fun b_=>decide ((b_.toNat:Int) = byt sep 0))) + (sep.length:Int)))/\
 (0<=(idxF v0_1 (fun b_=>decide ((b_.toNat:Int) = byt sep 0))) + (sep.length:Int)/\(idxF v0_1 (fun b_=>decide ((b_.toNat:Int) = byt sep 0))) + (sep.length:Int)<=(v0_1.length:Int)/\(v0_1.length:Int)<=(v0_1.length:Int))/\
 (InI (v10_1 + 1))/\
 (H1 (sl v0_1 ((idxF v0_1 (fun b_=>decide ((b_.toNat:Int) = byt sep 0))) + (sep.length:Int)) (v0_1.length:Int)) (v10_1 + 1) (se o31_1 v10_1 (sl v0_1 0 ((idxF v0_1 (fun b_=>decide ((b_.toNat:Int) = byt sep 0))) + save)))/\m1 (sl v0_1 ((idxF v0_1 (fun b_=>decide ((b_.toNat:Int) = byt sep 0))) + (sep.length:Int)) (v0_1.length:Int)) (v10_1 + 1) (se o31_1 v10_1 (sl v0_1 0 ((idxF v0_1 (fun b_=>decide ((b_.toNat:Int) = byt sep 0))) + save))) < m1 v0_1 v10_1 o31_1))))/\
 (¬ (v10_1 < (if (s.length:Int) + 1 < ((s.filter (fun b_=>decide ((b_.toNat:Int) = byt sep 0))).length:Int) + 1 then (s.length:Int) + 1 else ((s.filter (fun b_=>decide ((b_.toNat:Int) = byt sep 0))).length:Int) + 1) - 1)->
 (0<=v10_1/\v10_1 < (o31_1.length:Int))/\
 (InI (v10_1 + 1))/\
 ((0:Int)<=0/\0<=v10_1 + 1/\v10_1 + 1<=((se o31_1 v10_1 v0_1).length:Int))/\
 Q (sl (se o31_1 v10_1 v0_1) 0 (v10_1 + 1))))))/\
 (¬ (n < 0)->
 False))))))
def wp_strings_Split (s:List UInt8) (sep:List UInt8) (Q:List (List UInt8)->Prop):Prop:=
 (sep.length = 1/\(0:Int) = 0/\(-1:Int) = -1/\(s.length:Int)<=1000000)/\
 Q (splS s (byt sep 0))
def wp_impl_readDigits (text:List UInt8) (Q:List Int->Bool->Prop):Prop:=
 (0<=(text.length:Int)/\(text.length:Int)<=1000000000)/\
 ∃ (H1:Int->List Int->Prop) (m1:Int->List Int->Nat),
 H1 0 (List.replicate (text.length:Int).toNat (0:Int))/\
 ∀ (v12_1:Int) (o9_1:List Int),H1 v12_1 o9_1->
 (((v12_1 < ((List.replicate (text.length:Int).toNat (0:Int)).length:Int)->
 (0<=v12_1/\v12_1 < (text.length:Int))/\
 (0<=(byt text v12_1)/\(byt text v12_1)<=255)/\
 ((idxF ([48,49,50,51,52,53,54,55,56,57,97,98] : List UInt8) (fun b_=>decide ((b_.toNat:Int) = (byt text v12_1))) < 0->
 Q ([]) false)/\
 (¬ (idxF ([48,49,50,51,52,53,54,55,56,57,97,98] : List UInt8) (fun b_=>decide ((b_.toNat:Int) = (byt text v12_1))) < 0)->
 (0<=v12_1/\v12_1 < (o9_1.length:Int))/\
 (InI (v12_1 + 1))/\
 (H1 (v12_1 + 1) (se o9_1 v12_1 (idxF ([48,49,50,51,52,53,54,55,56,57,97,98] : List UInt8) (fun b_=>decide ((b_.toNat:Int) = (byt text v12_1)))))/\m1 (v12_1 + 1) (se o9_1 v12_1 (idxF ([48,49,50,51,52,53,54,55,56,57,97,98] : List UInt8) (fun b_=>decide ((b_.toNat:Int) = (byt text v12_1))))) < m1 v12_1 o9_1))))/\
 (¬ (v12_1 < ((List.replicate (text.length:Int).toNat (0:Int)).length:Int))->
 Q o9_1 true)))
def wp_impl_readTable (text:List UInt8) (Q:List (List Int)->Bool->Prop):Prop:=
 ((156 < (text.length:Int)->
 Q ([]) false)/\
 (¬ (156 < (text.length:Int))->
 (([47] : List UInt8).length = 1/\(text.length:Int)<=1000000)/\
 ∃ (H1:Int->List (List Int)->Prop) (m1:Int->List (List Int)->Nat),
 H1 0 ([] : List (List Int))/\
 ∀ (v15_1:Int) (o100004_1:List (List Int)),H1 v15_1 o100004_1->
 (((v15_1 < ((splS text (byt ([47] : List UInt8) 0)).length:Int)->
 (0<=v15_1/\v15_1 < ((splS text (byt ([47] : List UInt8) 0)).length:Int))/\
 (small (el (splS text (byt ([47] : List UInt8) 0)) v15_1))/\
 (((rdgB (el (splS text (byt ([47] : List UInt8) 0)) v15_1)) = false->
 Q ([]) false)/\
 ((rdgB (el (splS text (byt ([47] : List UInt8) 0)) v15_1)) = true->
 ((o100004_1.length:Int) + (([rdgT (el (splS text (byt ([47] : List UInt8) 0)) v15_1)]).length:Int)<=1000000000)/\
 (InI (v15_1 + 1))/\
 (H1 (v15_1 + 1) (o100004_1 ++ ([rdgT (el (splS text (byt ([47] : List UInt8) 0)) v15_1)]))/\m1 (v15_1 + 1) (o100004_1 ++ ([rdgT (el (splS text (byt ([47] : List UInt8) 0)) v15_1)])) < m1 v15_1 o100004_1))))/\
 (¬ (v15_1 < ((splS text (byt ([47] : List UInt8) 0)).length:Int))->
 (small2 o100004_1)/\
 Q o100004_1 (isTab o100004_1))))))
def wp_spec_l01Split (text:List UInt8) (c:Int) (Q:List (List UInt8)->Prop):Prop:=
 ∃ (H1:Int->Int->List (List UInt8)->Prop) (m1:Int->Int->List (List UInt8)->Nat),
 H1 0 0 ([] : List (List UInt8))/\
 ∀ (v6_1:Int) (v7_1:Int) (o8_1:List (List UInt8)),H1 v6_1 v7_1 o8_1->
 (((v7_1 < (text.length:Int)->
 (0<=v7_1/\v7_1 < (text.length:Int))/\
 ((byt text v7_1 = c->
 (0<=v6_1/\v6_1<=v7_1/\v7_1<=(text.length:Int))/\
 ((o8_1.length:Int) + (([sl text v6_1 v7_1]).length:Int)<=1000000000)/\
 (InI (v7_1 + 1))/\
 (InI (v7_1 + 1))/\
 (H1 (v7_1 + 1) (v7_1 + 1) (o8_1 ++ ([sl text v6_1 v7_1]))/\m1 (v7_1 + 1) (v7_1 + 1) (o8_1 ++ ([sl text v6_1 v7_1])) < m1 v6_1 v7_1 o8_1))/\
 (¬ (byt text v7_1 = c)->
 (InI (v7_1 + 1))/\
 (H1 v6_1 (v7_1 + 1) o8_1/\m1 v6_1 (v7_1 + 1) o8_1 < m1 v6_1 v7_1 o8_1))))/\
 (¬ (v7_1 < (text.length:Int))->
 (0<=v6_1/\v6_1<=(text.length:Int)/\(text.length:Int)<=(text.length:Int))/\
 ((o8_1.length:Int) + (([sl text v6_1 (text.length:Int)]).length:Int)<=1000000000)/\
 Q (o8_1 ++ ([sl text v6_1 (text.length:Int)])))))
def wp_spec_l01Read (text:List UInt8) (Q:List Int->Bool->Prop):Prop:=
 ∃ (H1:Int->List Int->Prop) (m1:Int->List Int->Nat),
 H1 0 ([] : List Int)/\
 ∀ (v5_1:Int) (o7_1:List Int),H1 v5_1 o7_1->
 (((v5_1 < (text.length:Int)->
 (0<=v5_1/\v5_1 < (text.length:Int))/\
 (InI (byt text v5_1))/\
 (((decide ((48:Int)<=(byt text v5_1)) && decide ((byt text v5_1)<=(57:Int))) = true->
 (InI ((byt text v5_1) - 48))/\
 ((o7_1.length:Int) + (([(byt text v5_1) - 48]).length:Int)<=1000000000)/\
 (InI (v5_1 + 1))/\
 (H1 (v5_1 + 1) (o7_1 ++ ([(byt text v5_1) - 48]))/\m1 (v5_1 + 1) (o7_1 ++ ([(byt text v5_1) - 48])) < m1 v5_1 o7_1))/\
 ((decide ((48:Int)<=(byt text v5_1)) && decide ((byt text v5_1)<=(57:Int))) = false->
 (((decide ((97:Int)<=(byt text v5_1)) && decide ((byt text v5_1)<=(98:Int))) = true->
 (InI ((byt text v5_1) - 97))/\
 (InI (((byt text v5_1) - 97) + 10))/\
 ((o7_1.length:Int) + (([((byt text v5_1) - 97) + 10]).length:Int)<=1000000000)/\
 (InI (v5_1 + 1))/\
 (H1 (v5_1 + 1) (o7_1 ++ ([((byt text v5_1) - 97) + 10]))/\m1 (v5_1 + 1) (o7_1 ++ ([((byt text v5_1) - 97) + 10])) < m1 v5_1 o7_1))/\
 ((decide ((97:Int)<=(byt text v5_1)) && decide ((byt text v5_1)<=(98:Int))) = false->
 Q ([]) false)))))/\
 (¬ (v5_1 < (text.length:Int))->
 Q o7_1 true)))
def wp_spec_l01Parse (text:List UInt8) (Q:List (List Int)->Bool->Prop):Prop:=
 (shortS text)/\
 ∃ (H1:Int->List (List Int)->Prop) (m1:Int->List (List Int)->Nat),
 H1 0 ([] : List (List Int))/\
 ∀ (v6_1:Int) (o11_1:List (List Int)),H1 v6_1 o11_1->
 (((v6_1 < ((splS text (47:Int)).length:Int)->
 (0<=v6_1/\v6_1 < ((splS text (47:Int)).length:Int))/\
 (small (el (splS text (47:Int)) v6_1))/\
 (((rdgB (el (splS text (47:Int)) v6_1)) = false->
 Q ([]) false)/\
 ((rdgB (el (splS text (47:Int)) v6_1)) = true->
 ((o11_1.length:Int) + (([rdgT (el (splS text (47:Int)) v6_1)]).length:Int)<=1000000000)/\
 (InI (v6_1 + 1))/\
 (H1 (v6_1 + 1) (o11_1 ++ ([rdgT (el (splS text (47:Int)) v6_1)]))/\m1 (v6_1 + 1) (o11_1 ++ ([rdgT (el (splS text (47:Int)) v6_1)])) < m1 v6_1 o11_1))))/\
 (¬ (v6_1 < ((splS text (47:Int)).length:Int))->
 (small2 o11_1)/\
 (((isTab o11_1) = false->
 Q ([]) false)/\
 ((isTab o11_1) = true->
 Q o11_1 true)))))
def wp_spec_ParseRack (text:List UInt8) (Q:List (List Int)->Int->Prop):Prop:=
 (shortS text)/\
 (((rtbB text) = false->
 Q ([]) 6)/\
 ((rtbB text) = true->
 (small2 (rtbT text))/\
 (((isRk (rtbT text)) = false->
 Q ([]) 6)/\
 ((isRk (rtbT text)) = true->
 Q (rtbT text) 0))))
def wp_impl_ParseRack (text:List UInt8) (Q:List (List Int)->Int->Prop):Prop:=
 (small text)/\
 (((rtbB text) = false->
 Q ([]) 6)/\
 ((rtbB text) = true->
 (small2 (rdiT text))/\
 (((isRk (rdiT text)) = false->
 Q ([]) 6)/\
 ((isRk (rdiT text)) = true->
 Q (rdiT text) 0))))
theorem p_strings_IndexByte (s:List UInt8) (c:Int) (hp:0<=c/\c<=255):wp_strings_IndexByte s c (fun y0=>y0 = idxF s (fun b_=>decide ((b_.toNat:Int) = c))):=⟨hp,rfl⟩
theorem p_strings_genSplit (s sep:List UInt8) (save n:Int) (hp:sep.length = 1/\save = 0/\n = -1/\(s.length:Int)<=1000000):wp_strings_genSplit s sep save n (fun y0=>y0 = splS s (byt sep 0)):=by
  obtain⟨h1,rfl,rfl,hs⟩:=hp
  have hsep:(sep == ([] : List UInt8)) = false:=by
    cases sep with
    | nil=>simp at h1
    | cons a r=>rfl
  unfold wp_strings_genSplit
  generalize byt sep 0 = c
  have hl:=splS_len (c:=c) s
  have hle:=splS_le s c
  rw [if_neg (by omega : ¬ ((s.length:Int) + 1 < ((s.filter (fun b_=>decide ((b_.toNat:Int) = c))).length:Int) + 1))]
  have hN:((s.filter (fun b_=>decide ((b_.toNat:Int) = c))).length:Int) + 1 = ((splS s c).length:Int):=by omega
  rw [hN]
  have hsl:(sep.length:Int) = 1:=by omega
  rw [hsl]
  refine⟨fun h=>absurd h (by decide),fun _=>⟨fun h=>(by rw [hsep] at h; cases h),fun _=>⟨fun _=>⟨h1,⟨by omega,by omega⟩,⟨by omega,by omega⟩,⟨by omega,by omega⟩,⟨by omega,by omega⟩,?_⟩,fun h=>absurd (by decide) h⟩⟩⟩
  refine⟨fun v i o=>(0<=i/\i < ((splS s c).length:Int))/\o.length = (splS s c).length/\splS s c = o.take i.toNat ++ splS v c/\v.length<=s.length,fun v _ _=>v.length,⟨⟨by omega,by omega⟩,by simp,by simp,Nat.le_refl _⟩,?_⟩
  rintro v i o ⟨⟨i0,i1⟩,ol,oe,vl⟩
  dsimp only
  have hlen:(splS s c).length = i.toNat + (splS v c).length:=by
    have e:=congrArg List.length oe
    rw [List.length_append,List.length_take] at e; omega
  have take1 : ∀ x:List UInt8,(se o i x).take (i.toNat + 1) = o.take i.toNat ++ [x]:=fun x=>by
    have:=take_el (l:=se o i x) (i:=i) ⟨i0,by simp; omega⟩
    rw [show (i + 1).toNat = i.toNat + 1 by omega,el_se_same ⟨i0,by omega⟩] at this
    rw [this]
    unfold se
    rw [List.take_set,List.set_eq_of_length_le (by rw [List.length_take]; omega)]
  refine⟨fun hi=>⟨h1,fun hneg=>?_,fun hpos=>?_⟩,fun hi=>?_⟩
  · exfalso
    have hno:=idx_no hneg
    have:=splS_none (c:=c) (s:=v) fun b hb=>of_decide_eq_false (hno b hb)
    rw [this] at hlen; simp at hlen; omega
  · obtain⟨p,b,r,rfl,hp1,hb,he⟩:=idx_cut hpos
    rw [he]
    have hb:=of_decide_eq_true hb
    have hp1 : ∀ x ∈ p,¬ (x.toNat:Int) = c:=fun x hx=>of_decide_eq_false (hp1 x hx)
    have hcut:=splS_cut (r:=r) hp1 hb
    have e1:sl (p ++ b :: r) ((p.length:Int) + 1) ((p ++ b :: r).length:Int) = r:=by
      unfold sl
      rw [show ((p ++ b :: r).length:Int).toNat = (p ++ b :: r).length by omega,List.take_length,show ((p.length:Int) + 1).toNat = p.length + 1 by omega]
      simp
    have e2:sl (p ++ b :: r) 0 ((p.length:Int) + 0) = p:=by
      unfold sl
      rw [show ((p.length:Int) + 0).toNat = p.length by omega]
      simp
    rw [e1,e2]
    simp only [List.length_append,List.length_cons] at vl hlen ⊢
    refine⟨⟨by omega,by omega⟩,⟨by omega,by omega,by omega⟩,⟨i0,by omega⟩,⟨by omega,by omega⟩,⟨by omega,by omega,by omega⟩,⟨by omega,by omega⟩,⟨⟨by omega,by omega⟩,by simpa using ol,?_,by omega⟩,by omega⟩
    rw [show (i + 1).toNat = i.toNat + 1 by omega,take1,oe,hcut]; simp
  · have hv1:(splS v c).length = 1:=by omega
    have hv:splS v c = [v]:=by
      refine splS_none fun b hb=>?_
      have:=splS_len (c:=c) v
      have hz:(v.filter fun b=>decide ((b.toNat:Int) = c)) = []:=List.eq_nil_of_length_eq_zero (by omega)
      exact of_decide_eq_false (by
        have:=List.filter_eq_nil_iff.1 hz b hb
        simpa using this)
    refine⟨⟨i0,by omega⟩,⟨by omega,by omega⟩,⟨by omega,by omega,by simp; omega⟩,?_⟩
    unfold sl
    rw [show (i + 1).toNat = i.toNat + 1 by omega,take1,oe,hv]; rfl
theorem p_strings_Split (s sep:List UInt8) (hp:sep.length = 1/\(s.length:Int)<=1000000):wp_strings_Split s sep (fun y0=>y0 = splS s (byt sep 0)):=⟨⟨hp.1,rfl,rfl,hp.2⟩,rfl⟩
theorem p_impl_readDigits (text:List UInt8) (hp:small text):wp_impl_readDigits text (fun y0 y1=>y0 = rdgT text/\y1 = rdgB text):=by
  have hs:(text.length:Int)<=1000000000:=hp
  unfold wp_impl_readDigits
  simp only [List.length_replicate]
  refine⟨⟨by omega,hs⟩,fun i o=>(0<=i/\i<=(text.length:Int))/\o.length = text.length/\(Upto i fun j=>el o j = digV (byt text j))/\(Upto i fun j=>0<=digV (byt text j)),fun i _=>((text.length:Int) - i).toNat,⟨⟨by omega,by omega⟩,by simp,upto0,upto0⟩,?_⟩
  rintro i o ⟨⟨i0,i1⟩,ol,oI,oJ⟩
  dsimp only
  have e:=idx_dig (byt_in text i)
  refine⟨fun hi=>⟨⟨i0,by omega⟩,byt_in _ _,fun hneg=>?_,fun hpos=>?_⟩,fun hi=>?_⟩
  · rw [e] at hneg
    have:=rdgB_no (s:=text) (j:=i) ⟨i0,by omega⟩ (by omega)
    exact⟨by unfold rdgT; rw [this]; rfl,this.symm⟩
  · rw [e] at hpos ⊢
    exact⟨⟨i0,by omega⟩,⟨by omega,by omega⟩,⟨⟨by omega,by omega⟩,by simpa using ol,fill1 (f:=fun j=>digV (byt text j)) ⟨i0,by omega⟩ oI rfl,upto1 oJ (by omega)⟩,by omega⟩
  · have hb:rdgB text = true:=rdgB_iff.2 fun j j0 j1=>oJ j j0 (by omega)
    refine⟨?_,hb.symm⟩
    unfold rdgT
    rw [if_pos hb]
    exact ext_el (by simp [ol]) fun j j0 j1=>by rw [rdgV_el ⟨j0,by omega⟩]; exact oI j j0 (by omega)
theorem rd_snoc {P:List (List UInt8)} {i:Int} (h:0<=i/\i < (P.length:Int)):(P.take (i + 1).toNat).map rdgV = (P.take i.toNat).map rdgV ++ [rdgV (el P i)]:=by rw [take_el h]; simp
theorem rd_all {P:List (List UInt8)} {i:Int} (h:0<=i/\i < (P.length:Int)):(P.take (i + 1).toNat).all rdgB = ((P.take i.toNat).all rdgB && rdgB (el P i)):=by rw [take_el h]; simp
theorem rdr_no {P:List (List UInt8)} {i:Int} (h:0<=i/\i < (P.length:Int)) (hb:rdgB (el P i) = false):P.all rdgB = false:=by
  cases ha:P.all rdgB with
  | false=>rfl
  | true=>rw [List.all_eq_true.1 ha _ (el_mem h)] at hb; cases hb
theorem rd_small {text:List UInt8} (hs:(text.length:Int)<=2000000):small2 (rtbV text):=by
  have:=splS_le text 47
  refine⟨by show ((rtbV text).length:Int)<=1000000000; unfold rtbV; rw [List.length_map]; omega,fun r hr=>?_⟩
  unfold rtbV at hr
  obtain⟨x,hx,rfl⟩:=List.mem_map.1 hr
  have:=splS_part x hx
  show ((rdgV x).length:Int)<=1000000000
  rw [rdgV_len]; omega
theorem p_impl_readTable (text:List UInt8) (hp:small text):wp_impl_readTable text (fun y0 y1=>y0 = rdiT text/\y1 = rtbB text):=by
  unfold wp_impl_readTable
  rw [show byt ([47] : List UInt8) 0 = 47 from rfl]
  refine⟨fun h=>?_,fun h=>⟨⟨rfl,by omega⟩,?_⟩⟩
  · refine⟨by unfold rdiT; rw [if_neg (by omega)],?_⟩
    cases hb:rtbB text with
    | false=>rfl
    | true=>have:=rtb_short hb; omega
  have hle:=splS_le text 47
  have hpart : ∀ z,0<=z->z < ((splS text 47).length:Int)->small (el (splS text 47) z):=fun z z0 z1=>by
    have:=splS_part _ (el_mem (l:=splS text 47) ⟨z0,z1⟩)
    show ((el (splS text 47) z).length:Int)<=1000000000
    omega
  refine⟨fun i o=>(0<=i/\i<=((splS text 47).length:Int))/\o = ((splS text 47).take i.toNat).map rdgV/\((splS text 47).take i.toNat).all rdgB = true,fun i _=>(((splS text 47).length:Int) - i).toNat,⟨⟨by omega,by omega⟩,by simp,by simp⟩,?_⟩
  rintro i o ⟨⟨i0,i1⟩,rfl,oI⟩
  dsimp only
  refine⟨fun hi=>⟨⟨i0,hi⟩,hpart i i0 hi,fun hb=>?_,fun hb=>?_⟩,fun hi=>?_⟩
  · have hn:=rdr_no ⟨i0,hi⟩ hb
    exact⟨by unfold rdiT; rw [hn,if_neg (by simp)],by unfold rtbB; rw [hn,Bool.false_and]⟩
  · have hr:rdgT (el (splS text 47) i) = rdgV (el (splS text 47) i):=by unfold rdgT; rw [if_pos hb]
    rw [hr]
    refine⟨by simp; omega,⟨by omega,by omega⟩,⟨⟨by omega,by omega⟩,(rd_snoc ⟨i0,hi⟩).symm,by rw [rd_all ⟨i0,hi⟩,oI,hb]; rfl⟩,by omega⟩
  · have e:(splS text 47).take i.toNat = splS text 47:=List.take_of_length_le (by omega)
    rw [e] at oI ⊢
    refine⟨rd_small (text:=text) (by omega),?_,?_⟩
    · unfold rdiT; rw [if_pos ⟨by omega,oI⟩]; rfl
    · unfold rtbB; rw [oI,Bool.true_and]; rfl
theorem p_spec_l01Split (text:List UInt8) (c:Int) (hp:shortS text):wp_spec_l01Split text c (fun y0=>y0 = splS text c):=by
  have hs:(text.length:Int)<=2000000:=hp
  refine⟨fun a i o=>(0<=a/\a<=i/\i<=(text.length:Int))/\(o.length:Int)<=i/\splS (text.take i.toNat) c = o ++ [sl text a i],fun _ i _=>((text.length:Int) - i).toNat,⟨⟨by omega,by omega,by omega⟩,by simp,by simp [sl,splS_nil]⟩,?_⟩
  rintro a i o ⟨⟨a0,a1,i1⟩,ol,oe⟩
  dsimp only
  refine⟨fun hi=>⟨⟨by omega,hi⟩,fun hb=>?_,fun hb=>?_⟩,fun hi=>?_⟩
  · refine⟨⟨a0,a1,i1⟩,by simp; omega,⟨by omega,by omega⟩,⟨by omega,by omega⟩,⟨⟨by omega,by omega,by omega⟩,by simp; omega,?_⟩,by omega⟩
    rw [take_el ⟨by omega,hi⟩,splS_snoc_sep oe (by rw [<- byt_el]; exact hb)]
    congr 1
    simp [sl]
  · refine⟨⟨by omega,by omega⟩,⟨⟨by omega,by omega,by omega⟩,by omega,?_⟩,by omega⟩
    rw [take_el ⟨by omega,hi⟩,splS_snoc oe (by rw [<- byt_el]; exact hb)]
    congr 2
    unfold sl
    rw [take_el ⟨by omega,hi⟩,List.drop_append_of_le_length (by rw [List.length_take]; omega)]
  · have e:i = (text.length:Int):=by omega
    subst e
    refine⟨⟨a0,a1,by omega⟩,by simp; omega,?_⟩
    rw [<- oe,show ((text.length:Int)).toNat = text.length by omega,List.take_length]
theorem p_spec_l01Read (text:List UInt8) (hp:small text):wp_spec_l01Read text (fun y0 y1=>y0 = rdgT text/\y1 = rdgB text):=by
  have hs:(text.length:Int)<=1000000000:=hp
  refine⟨fun i o=>(0<=i/\i<=(text.length:Int))/\o = rdgV (text.take i.toNat)/\(Upto i fun j=>0<=digV (byt text j)),fun i _=>((text.length:Int) - i).toNat,⟨⟨by omega,by omega⟩,by simp [rdgV],upto0⟩,?_⟩
  rintro i o ⟨⟨i0,i1⟩,rfl,oJ⟩
  dsimp only
  have hb:=byt_in text i
  have hlen:((rdgV (text.take i.toNat)).length:Int) = i:=by rw [rdgV_len,List.length_take]; omega
  have step : ∀ v:Int,i < (text.length:Int)->v = digV (byt text i)->rdgV (text.take i.toNat) ++ [v] = rdgV (text.take (i + 1).toNat):=fun v hi hv=>by
    rw [take_el ⟨i0,hi⟩,hv]; simp [rdgV,byt_el]
  refine⟨fun hi=>⟨⟨i0,hi⟩,⟨by omega,by omega⟩,fun h1=>?_,fun h1=>⟨fun h2=>?_,fun h2=>?_⟩⟩,fun hi=>?_⟩
  · simp only [Bool.and_eq_true,decide_eq_true_eq] at h1
    have e:byt text i - 48 = digV (byt text i):=by unfold digV; rw [if_pos h1]
    exact⟨⟨by omega,by omega⟩,by rw [hlen]; simp; omega,⟨by omega,by omega⟩,⟨⟨by omega,by omega⟩,step _ hi e,upto1 oJ (by omega)⟩,by omega⟩
  · simp only [Bool.and_eq_true,decide_eq_true_eq] at h2
    have e:byt text i - 97 + 10 = digV (byt text i):=by unfold digV; rw [if_neg (by omega),if_pos h2]; omega
    exact⟨⟨by omega,by omega⟩,⟨by omega,by omega⟩,by rw [hlen]; simp; omega,⟨by omega,by omega⟩,⟨⟨by omega,by omega⟩,step _ hi e,upto1 oJ (by omega)⟩,by omega⟩
  · simp only [Bool.and_eq_false_iff,decide_eq_false_iff_not] at h1 h2
    have:=rdgB_no (s:=text) (j:=i) ⟨i0,hi⟩ (by unfold digV; rw [if_neg (by omega),if_neg (by omega)]; omega)
    exact⟨by unfold rdgT; rw [this]; rfl,this.symm⟩
  · have hb:rdgB text = true:=rdgB_iff.2 fun j j0 j1=>oJ j j0 (by omega)
    refine⟨?_,hb.symm⟩
    unfold rdgT
    rw [if_pos hb,List.take_of_length_le (by omega)]
theorem p_spec_l01Parse (text:List UInt8) (hp:shortS text):wp_spec_l01Parse text (fun y0 y1=>y0 = rtbT text/\y1 = rtbB text):=by
  have hs:(text.length:Int)<=2000000:=hp
  have hle:=splS_le text 47
  have hpart : ∀ z,0<=z->z < ((splS text 47).length:Int)->small (el (splS text 47) z):=fun z z0 z1=>by
    have:=splS_part _ (el_mem (l:=splS text 47) ⟨z0,z1⟩)
    show ((el (splS text 47) z).length:Int)<=1000000000
    omega
  refine⟨hp,fun i o=>(0<=i/\i<=((splS text 47).length:Int))/\o = ((splS text 47).take i.toNat).map rdgV/\((splS text 47).take i.toNat).all rdgB = true,fun i _=>(((splS text 47).length:Int) - i).toNat,⟨⟨by omega,by omega⟩,by simp,by simp⟩,?_⟩
  rintro i o ⟨⟨i0,i1⟩,rfl,oI⟩
  dsimp only
  have no:rtbB text = false->([] : List (List Int)) = rtbT text/\false = rtbB text:=fun h=>⟨by unfold rtbT; rw [h]; rfl,h.symm⟩
  refine⟨fun hi=>⟨⟨i0,hi⟩,hpart i i0 hi,fun hb=>?_,fun hb=>?_⟩,fun hi=>?_⟩
  · have hn:=rdr_no ⟨i0,hi⟩ hb
    exact no (by unfold rtbB; rw [hn,Bool.false_and])
  · have hr:rdgT (el (splS text 47) i) = rdgV (el (splS text 47) i):=by unfold rdgT; rw [if_pos hb]
    rw [hr]
    refine⟨by simp; omega,⟨by omega,by omega⟩,⟨⟨by omega,by omega⟩,(rd_snoc ⟨i0,hi⟩).symm,by rw [rd_all ⟨i0,hi⟩,oI,hb]; rfl⟩,by omega⟩
  · have e:(splS text 47).take i.toNat = splS text 47:=List.take_of_length_le (by omega)
    rw [e] at oI ⊢
    have ev:(splS text 47).map rdgV = rtbV text:=rfl
    have eb:rtbB text = isTab (rtbV text):=by unfold rtbB; rw [oI,Bool.true_and]
    rw [ev]
    refine⟨rd_small hs,fun h=>no (by rw [eb,h]),fun h=>?_⟩
    have hb:rtbB text = true:=by rw [eb,h]
    exact⟨by unfold rtbT; rw [if_pos hb],hb.symm⟩
theorem rdi_eq {s:List UInt8} (h:rtbB s = true):rdiT s = rtbV s/\rtbT s = rtbV s:=by
  have h':=h
  unfold rtbB at h'
  rw [Bool.and_eq_true] at h'
  exact⟨by unfold rdiT; rw [if_pos ⟨rtb_short h,h'.1⟩],by unfold rtbT; rw [if_pos h]⟩
theorem short_small {s:List UInt8} (h:shortS s):small s:=by
  have:(s.length:Int)<=2000000:=h
  show (s.length:Int)<=1000000000
  omega
theorem p_spec_ParseRack (text:List UInt8) (hp:shortS text):wp_spec_ParseRack text (fun y0 y1=>y0 = prkT text/\y1 = prkE text):=by
  refine⟨hp,fun h=>?_,fun h=>?_⟩
  · have e:prkE text = 6:=by unfold prkE; rw [h]; simp
    exact⟨by unfold prkT; rw [e]; rfl,e.symm⟩
  · rw [(rdi_eq h).2]
    refine⟨rd_small hp,fun g=>?_,fun g=>?_⟩
    · have e:prkE text = 6:=by unfold prkE; rw [g]; simp
      exact⟨by unfold prkT; rw [e]; rfl,e.symm⟩
    · have e:prkE text = 0:=by unfold prkE; rw [if_pos ⟨h,g⟩]
      exact⟨by unfold prkT; rw [if_pos e],e.symm⟩
theorem p_impl_ParseRack (text:List UInt8) (hp:shortS text):wp_impl_ParseRack text (fun y0 y1=>y0 = prkT text/\y1 = prkE text):=by
  refine⟨short_small hp,fun h=>?_,fun h=>?_⟩
  · have e:prkE text = 6:=by unfold prkE; rw [h]; simp
    exact⟨by unfold prkT; rw [e]; rfl,e.symm⟩
  · rw [(rdi_eq h).1]
    refine⟨rd_small hp,fun g=>?_,fun g=>?_⟩
    · have e:prkE text = 6:=by unfold prkE; rw [g]; simp
      exact⟨by unfold prkT; rw [e]; rfl,e.symm⟩
    · have e:prkE text = 0:=by unfold prkE; rw [if_pos ⟨h,g⟩]
      exact⟨by unfold prkT; rw [if_pos e],e.symm⟩
theorem w_strings_IndexByte (s:List UInt8) (c:Int) (Q:Int->Prop) (h:wp_strings_IndexByte s c Q):AF Tryz.prog 90 [cs s,cy c] (fun R_=>∃ y0,Q y0/\R_ = ci y0):=by
  refine zS (zM (n:=8) Tryz.func90 U (by rfl) U (zb U) ?_)
  unfold wp_strings_IndexByte at h
  refine zg<|zk (zl (n:=8) (σ':=[]) (env':=[(0,.c (cs s)),(1,.c (cy c))]) U U E2)<|zd<|za (ze U) U<|zf<|zg<|zd<|za (zc U) U<|za (zc U) U ?_
  obtain⟨q1,h⟩:=h
  refine zn (zF (xs:=[.tmp 5,.tmp 6]) (ids:=[]) U U U U (c_internal_stringslite_IndexByte s c q1) U ?_)
  rintro _ rfl
  refine⟨U,?_⟩
  exact za (ze U) U<|zf<|zA<|zr (zH U (zw U)) U U ⟨_,(zq _),_,h,U⟩
theorem c_strings_IndexByte (s:List UInt8) (c:Int) (hp:0<=c/\c<=255):AF Tryz.prog 90 [cs s,cy c] (fun R_=>R_ = ci (idxF s (fun b_=>decide ((b_.toNat:Int) = c)))):=
  (w_strings_IndexByte s c (fun y0=>y0 = idxF s (fun b_=>decide ((b_.toNat:Int) = c))) (p_strings_IndexByte s c hp)).mono (by rintro r ⟨_,rfl,rfl⟩; rfl)
theorem w_strings_genSplit (s:List UInt8) (sep:List UInt8) (save:Int) (n:Int) (Q:List (List UInt8)->Prop) (h:wp_strings_genSplit s sep save n Q):AF Tryz.prog 89 [cs s,cs sep,ci save,ci n] (fun R_=>∃ y0,Q y0/\R_ = .lst (strs y0)):=by
  refine zS (zM (n:=66) Tryz.func89 U (by rfl) U (zb U) ?_)
  unfold wp_strings_genSplit at h
  refine zg<|zk (zl (n:=66) (σ':=[]) (env':=[(0,.c (cs s)),(1,.c (cs sep)),(2,.c (ci save)),(3,.c (ci n))]) U U E4)<|zd<|za (ze U) U<|zf<|zg<|zg<|zd<|za (zc U) U<|za (yE U U) U<|zf<|zm U (fun q1=>?_) (fun q1=>?_)
  ·replace h:=h.1 (zj q1)
   exact h.elim
  ·replace h:=h.2 (zh q1)
   refine zu<|zg<|zg<|zd<|za (zc U) U<|za (ss_eqlS U U) U<|zf<|zm U (fun q2=>?_) (fun q2=>?_)
   ·replace h:=h.1 (q2)
    exact h.elim
   ·replace h:=h.2 (q2)
    refine zu<|zg<|zg<|zk (zl (n:=66) (σ':=[]) (env':=[(0,.c (cs s)),(1,.c (cs sep)),(2,.c (ci save)),(3,.c (ci n))]) U U E4)<|zd<|za (zc U) U<|za (zO U U) U<|zf<|zm U (fun q3=>?_) (fun q3=>?_)
    ·replace h:=h.1 (zj q3)
     refine zd<|za (zc U) U<|za (zc U) U ?_
     obtain⟨q4,h⟩:=h
     refine zn (zF (xs:=[.tmp 21,.tmp 22]) (ids:=[]) U U U U (c_strings_Count s sep q4) U ?_)
     rintro _ rfl
     refine⟨U,?_⟩
     obtain⟨q6,h⟩:=h
     refine za (zG U U q6) U<|za (ze U) U<|zf<|zg<|zd<|za (zc U) U<|za (zc U) U<|za (ss_lenS U) U ?_
     obtain⟨q7,h⟩:=h
     refine za (zG U U q7) U<|za (ss_min U U) U<|za (ze U) U<|zf<|zg<|zk (zl (n:=66) (σ':=[]) (env':=[(0,.c (cs s)),(1,.c (cs sep)),(2,.c (ci save)),(3,.c (ci (if (s.length:Int) + 1 < ((s.filter (fun b_=>decide ((b_.toNat:Int) = byt sep 0))).length:Int) + 1 then (s.length:Int) + 1 else ((s.filter (fun b_=>decide ((b_.toNat:Int) = byt sep 0))).length:Int) + 1)))]) U U E4)<|zd<|za (zc U) U ?_
     obtain⟨q8,h⟩:=h
     refine zn (yZ (id:=31) cs ([] : List UInt8) U U U q8 (zb U) U ⟨U,?_⟩)
     refine za (ze U) U<|zf<|zg<|zd<|za (zc U) U ?_
     obtain⟨q9,h⟩:=h
     refine za (yS U U q9) U<|za (ze U) U<|zf<|zg<|zk (zl (n:=66) (σ':=[(31,⟨strs (List.replicate (if (s.length:Int) + 1 < ((s.filter (fun b_=>decide ((b_.toNat:Int) = byt sep 0))).length:Int) + 1 then (s.length:Int) + 1 else ((s.filter (fun b_=>decide ((b_.toNat:Int) = byt sep 0))).length:Int) + 1).toNat ([] : List UInt8)),[]⟩)]) (env':=[(0,.c (cs s)),(1,.c (cs sep)),(2,.c (ci save)),(3,.c (ci ((if (s.length:Int) + 1 < ((s.filter (fun b_=>decide ((b_.toNat:Int) = byt sep 0))).length:Int) + 1 then (s.length:Int) + 1 else ((s.filter (fun b_=>decide ((b_.toNat:Int) = byt sep 0))).length:Int) + 1) - 1))),(9,.ref 31)]) U U E5)<|zd<|za (ze U) U<|zf<|zg<|zt ?_
     obtain⟨H1,m1,q10,h⟩:=h
     refine aw_loop3 (fun (v0_1:List UInt8) (v10_1:Int) (o31_1:List (List UInt8))=>⟨[(31,⟨strs o31_1,[]⟩)],[(0,.c (cs v0_1)),(1,.c (cs sep)),(2,.c (ci save)),(3,.c (ci ((if (s.length:Int) + 1 < ((s.filter (fun b_=>decide ((b_.toNat:Int) = byt sep 0))).length:Int) + 1 then (s.length:Int) + 1 else ((s.filter (fun b_=>decide ((b_.toNat:Int) = byt sep 0))).length:Int) + 1) - 1))),(9,.ref 31),(10,.c (ci v10_1))],66⟩) H1 m1 ⟨s,0,List.replicate (if (s.length:Int) + 1 < ((s.filter (fun b_=>decide ((b_.toNat:Int) = byt sep 0))).length:Int) + 1 then (s.length:Int) + 1 else ((s.filter (fun b_=>decide ((b_.toNat:Int) = byt sep 0))).length:Int) + 1).toNat ([] : List UInt8),zv (n:=66) U U E6,q10⟩ ?_
     rintro v0_1 v10_1 o31_1 q10
     replace h:=h v0_1 v10_1 o31_1 q10
     refine zg<|zg<|zd<|za (zc U) U<|za (zc U) U<|za (zO U U) U<|zf<|zm U (fun q11=>?_) (fun q11=>?_)
     ·replace h:=h.1 (zj q11)
      refine zu<|zt<|zg<|zd<|za (zc U) U<|za (zc U) U ?_
      obtain⟨q12,h⟩:=h
      refine zn (zF (xs:=[.tmp 37,.tmp 38]) (ids:=[]) U U U U (c_strings_Index v0_1 sep q12) U ?_)
      rintro _ rfl
      refine⟨U,?_⟩
      refine za (ze U) U<|zf<|zg<|zg<|zk (zl (n:=66) (σ':=[(31,⟨strs o31_1,[]⟩)]) (env':=[(0,.c (cs v0_1)),(1,.c (cs sep)),(2,.c (ci save)),(3,.c (ci ((if (s.length:Int) + 1 < ((s.filter (fun b_=>decide ((b_.toNat:Int) = byt sep 0))).length:Int) + 1 then (s.length:Int) + 1 else ((s.filter (fun b_=>decide ((b_.toNat:Int) = byt sep 0))).length:Int) + 1) - 1))),(9,.ref 31),(10,.c (ci v10_1)),(11,.c (ci (idxF v0_1 (fun b_=>decide ((b_.toNat:Int) = byt sep 0)))))]) U U E7)<|zd<|za (zc U) U<|za (zO U U) U<|zf<|zm U (fun q14=>?_) (fun q14=>?_)
      ·replace h:=h.1 (zj q14)
       refine zL<|zg<|zd<|za (zc U) U<|za (zc U) U<|za (zc U) U ?_
       obtain⟨q15,h⟩:=h
       refine za (zR (f:=cs) U U U q15) U<|zn (yo U U (yN q15) U U (yO (f:=cs)) U ⟨U,?_⟩)
       refine zf<|zg<|zk (zl (n:=66) (σ':=[(31,⟨strs (se o31_1 v10_1 v0_1),[]⟩)]) (env':=[(9,.ref 31),(10,.c (ci v10_1))]) U U E2)<|zd<|za (zc U) U<|za (zc U) U ?_
       obtain⟨q16,h⟩:=h
       refine za (zG U U q16) U<|yF (yd (id:=31) cs U (fun _=>U)) ?_
       obtain⟨q17,h⟩:=h
       exact za (xc (f:=cs) U U ⟨_,U⟩ q17) U<|za (ze U) U<|zf<|zA<|zr (zH U (zw U)) U U ⟨_,(zq _),_,h,U⟩
      ·replace h:=h.2 (zh q14)
       refine zu<|zg<|zd<|za (zc U) U<|za (zc U) U<|za (zc U) U<|za (zc U) U<|za (zc U) U ?_
       obtain⟨q18,h⟩:=h
       refine za (zG U U q18) U ?_
       obtain⟨q19,h⟩:=h
       refine za (ss_slS U xi (y9 U) q19) U ?_
       obtain⟨q20,h⟩:=h
       refine za (zR (f:=cs) U U U q20) U<|zn (yo U U (yN q20) U U (yO (f:=cs)) U ⟨U,?_⟩)
       refine zf<|zg<|zk (zl (n:=66) (σ':=[(31,⟨strs (se o31_1 v10_1 (sl v0_1 0 ((idxF v0_1 (fun b_=>decide ((b_.toNat:Int) = byt sep 0))) + save))),[]⟩)]) (env':=[(0,.c (cs v0_1)),(1,.c (cs sep)),(2,.c (ci save)),(3,.c (ci ((if (s.length:Int) + 1 < ((s.filter (fun b_=>decide ((b_.toNat:Int) = byt sep 0))).length:Int) + 1 then (s.length:Int) + 1 else ((s.filter (fun b_=>decide ((b_.toNat:Int) = byt sep 0))).length:Int) + 1) - 1))),(9,.ref 31),(10,.c (ci v10_1)),(11,.c (ci (idxF v0_1 (fun b_=>decide ((b_.toNat:Int) = byt sep 0)))))]) U U E7)<|zd<|za (zc U) U<|za (zc U) U<|za (zc U) U<|za (ss_lenS U) U ?_
       obtain⟨q21,h⟩:=h
       refine za (zG U U q21) U ?_
       obtain⟨q22,h⟩:=h
       refine za (ss_slS U (y9 U) xi q22) U<|za (ze U) U<|zf<|zk (zl (n:=66) (σ':=[(31,⟨strs (se o31_1 v10_1 (sl v0_1 0 ((idxF v0_1 (fun b_=>decide ((b_.toNat:Int) = byt sep 0))) + save))),[]⟩)]) (env':=[(0,.c (cs (sl v0_1 ((idxF v0_1 (fun b_=>decide ((b_.toNat:Int) = byt sep 0))) + (sep.length:Int)) (v0_1.length:Int)))),(1,.c (cs sep)),(2,.c (ci save)),(3,.c (ci ((if (s.length:Int) + 1 < ((s.filter (fun b_=>decide ((b_.toNat:Int) = byt sep 0))).length:Int) + 1 then (s.length:Int) + 1 else ((s.filter (fun b_=>decide ((b_.toNat:Int) = byt sep 0))).length:Int) + 1) - 1))),(9,.ref 31),(10,.c (ci v10_1))]) U U E6)<|zd<|za (zc U) U ?_
       obtain⟨q23,h⟩:=h
       exact za (zG U U q23) U<|za (ze U) U<|zf<|⟨sl v0_1 ((idxF v0_1 (fun b_=>decide ((b_.toNat:Int) = byt sep 0))) + (sep.length:Int)) (v0_1.length:Int),v10_1 + 1,se o31_1 v10_1 (sl v0_1 0 ((idxF v0_1 (fun b_=>decide ((b_.toNat:Int) = byt sep 0))) + save)),zv (n:=66) U U E6,h.1,h.2⟩
     ·replace h:=h.2 (zh q11)
      refine zL<|zg<|zd<|za (zc U) U<|za (zc U) U<|za (zc U) U ?_
      obtain⟨q24,h⟩:=h
      refine za (zR (f:=cs) U U U q24) U<|zn (yo U U (yN q24) U U (yO (f:=cs)) U ⟨U,?_⟩)
      refine zf<|zg<|zk (zl (n:=66) (σ':=[(31,⟨strs (se o31_1 v10_1 v0_1),[]⟩)]) (env':=[(9,.ref 31),(10,.c (ci v10_1))]) U U E2)<|zd<|za (zc U) U<|za (zc U) U ?_
      obtain⟨q25,h⟩:=h
      refine za (zG U U q25) U<|yF (yd (id:=31) cs U (fun _=>U)) ?_
      obtain⟨q26,h⟩:=h
      exact za (xc (f:=cs) U U ⟨_,U⟩ q26) U<|za (ze U) U<|zf<|zA<|zr (zH U (zw U)) U U ⟨_,(zq _),_,h,U⟩
    ·replace h:=h.2 (zh q3)
     exact h.elim
theorem c_strings_genSplit (s:List UInt8) (sep:List UInt8) (save:Int) (n:Int) (hp:sep.length = 1/\save = 0/\n = -1/\(s.length:Int)<=1000000):AF Tryz.prog 89 [cs s,cs sep,ci save,ci n] (fun R_=>R_ = .lst (strs (splS s (byt sep 0)))):=
  (w_strings_genSplit s sep save n (fun y0=>y0 = splS s (byt sep 0)) (p_strings_genSplit s sep save n hp)).mono (by rintro r ⟨_,rfl,rfl⟩; rfl)
theorem w_strings_Split (s:List UInt8) (sep:List UInt8) (Q:List (List UInt8)->Prop) (h:wp_strings_Split s sep Q):AF Tryz.prog 56 [cs s,cs sep] (fun R_=>∃ y0,Q y0/\R_ = .lst (strs y0)):=by
  refine zS (zM (n:=8) Tryz.func56 U (by rfl) U (zb U) ?_)
  unfold wp_strings_Split at h
  refine zg<|zk (zl (n:=8) (σ':=[]) (env':=[(0,.c (cs s)),(1,.c (cs sep))]) U U E2)<|zd<|za (ze U) U<|zf<|zg<|zd<|za (zc U) U<|za (zc U) U ?_
  obtain⟨q1,h⟩:=h
  refine zn (zF (xs:=[.tmp 5,.tmp 6,.const (.int .i64 (0)),.const (.int .i64 (-1))]) (ids:=[]) U U U U (c_strings_genSplit s sep 0 (-1) q1) U ?_)
  rintro _ rfl
  refine⟨U,?_⟩
  exact za (ze U) U<|zf<|zA<|zr (zH U (zw U)) U U ⟨_,(zq _),_,h,U⟩
theorem c_strings_Split (s:List UInt8) (sep:List UInt8) (hp:sep.length = 1/\(s.length:Int)<=1000000):AF Tryz.prog 56 [cs s,cs sep] (fun R_=>R_ = .lst (strs (splS s (byt sep 0)))):=
  (w_strings_Split s sep (fun y0=>y0 = splS s (byt sep 0)) (p_strings_Split s sep hp)).mono (by rintro r ⟨_,rfl,rfl⟩; rfl)
theorem w_impl_readDigits (text:List UInt8) (Q:List Int->Bool->Prop) (h:wp_impl_readDigits text Q):AF Tryz.prog 57 [cs text] (fun R_=>∃ y0 y1,Q y0 y1/\R_ = .tup [.own (ints y0),cb y1]):=by
  refine zS (zM (n:=27) Tryz.func57 U (by rfl) U (zb U) ?_)
  unfold wp_impl_readDigits at h
  refine zg<|zk (zl (n:=27) (σ':=[]) (env':=[(0,.c (cs text))]) U U E1)<|zd<|za (ze U) U<|za (ze U) U<|zf<|zg<|zd<|za (zc U) U<|za (ss_lenS U) U ?_
  obtain⟨q1,h⟩:=h
  refine zn (yZ (id:=9) ci (0:Int) U U U q1 (zb U) U ⟨U,?_⟩)
  refine za (ze U) U<|zf<|zg<|zg<|zd<|za (zc U) U<|za (yR (f:=ci) U U) U<|za (zc U) U<|zf<|zt ?_
  obtain⟨H1,m1,q2,h⟩:=h
  refine ye (fun (v12_1:Int) (o9_1:List Int)=>⟨[(9,⟨ints o9_1,[]⟩)],[(0,.c (cs text)),(4,.ref 9),(11,.c (ci ((List.replicate (text.length:Int).toNat (0:Int)).length:Int))),(12,.c (ci v12_1))],27⟩) H1 m1 ⟨0,List.replicate (text.length:Int).toNat (0:Int),zv (n:=27) U U E4,q2⟩ ?_
  rintro v12_1 o9_1 q2
  replace h:=h v12_1 o9_1 q2
  refine zg<|zd<|za (zO U U) U<|zf<|zg<|zm U (fun q3=>?_) (fun q3=>?_)
  ·replace h:=h.1 (zj q3)
   refine zu<|zg<|zt<|zg<|zd<|za (zc U) U<|za (ze U) U<|zf<|zg<|zd<|za (zc U) U<|za (zc U) U ?_
   obtain⟨q4,h⟩:=h
   refine za (ss_indexS (s:=text) U U q4) U ?_
   obtain⟨q5,h⟩:=h
   refine zn (zF (xs:=[.const (.string ⟨#[48,49,50,51,52,53,54,55,56,57,97,98]⟩),.tmp 17]) (ids:=[]) U U U U (c_strings_IndexByte ([48,49,50,51,52,53,54,55,56,57,97,98] : List UInt8) (byt text v12_1) q5) U ?_)
   rintro _ rfl
   refine⟨U,?_⟩
   refine za (ze U) U<|zf<|zg<|zg<|zk (zl (n:=27) (σ':=[(9,⟨ints o9_1,[]⟩)]) (env':=[(0,.c (cs text)),(4,.ref 9),(5,.c (ci v12_1)),(6,.c (ci (idxF ([48,49,50,51,52,53,54,55,56,57,97,98] : List UInt8) (fun b_=>decide ((b_.toNat:Int) = (byt text v12_1)))))),(11,.c (ci ((List.replicate (text.length:Int).toNat (0:Int)).length:Int))),(12,.c (ci v12_1))]) U U E6)<|zd<|za (zc U) U<|za (zO U U) U<|zf<|zm U (fun q7=>?_) (fun q7=>?_)
   ·replace h:=h.1 (zj q7)
    exact zg<|zk (zl (n:=27) (σ':=[(9,⟨ints o9_1,[]⟩)]) (env':=[]) U U trivial)<|zd<|za (ze U) U<|za (ze U) U<|zf<|zA<|zr (yT U (zw U) (zw U)) U U ⟨_,(yW (zN yK (zN (zq _) yC))),_,_,h,U⟩
   ·replace h:=h.2 (zh q7)
    refine zu<|zd<|za (zc U) U<|za (zc U) U<|za (zc U) U ?_
    obtain⟨q8,h⟩:=h
    refine za (zR (f:=ci) U U U q8) U<|zn (yo U U (yN q8) U U (yO (f:=ci)) U ⟨U,?_⟩)
    refine zf<|zk (zl (n:=27) (σ':=[(9,⟨ints (se o9_1 v12_1 (idxF ([48,49,50,51,52,53,54,55,56,57,97,98] : List UInt8) (fun b_=>decide ((b_.toNat:Int) = (byt text v12_1))))),[]⟩)]) (env':=[(0,.c (cs text)),(4,.ref 9),(11,.c (ci ((List.replicate (text.length:Int).toNat (0:Int)).length:Int))),(12,.c (ci v12_1))]) U U E4)<|zd ?_
    obtain⟨q9,h⟩:=h
    exact za (zG U U q9) U<|za (zc U) U<|zf<|⟨v12_1 + 1,se o9_1 v12_1 (idxF ([48,49,50,51,52,53,54,55,56,57,97,98] : List UInt8) (fun b_=>decide ((b_.toNat:Int) = (byt text v12_1)))),zv (n:=27) U U E4,h.1,h.2⟩
  ·replace h:=h.2 (zh q3)
   exact zL<|zg<|zd<|za (zc U) U<|za (ze U) U<|za (ze U) U<|zf<|zA<|zr (yT U (zw U) (zw U)) U U ⟨_,(zq _),_,_,h,U⟩
theorem c_impl_readDigits (text:List UInt8) (hp:small text):AF Tryz.prog 57 [cs text] (fun R_=>R_ = .tup [.own (ints (rdgT text)),cb (rdgB text)]):=
  (w_impl_readDigits text (fun y0 y1=>y0 = rdgT text/\y1 = rdgB text) (p_impl_readDigits text hp)).mono (by rintro r ⟨_,_,⟨rfl,rfl⟩,rfl⟩; rfl)
theorem w_impl_readTable (text:List UInt8) (Q:List (List Int)->Bool->Prop) (h:wp_impl_readTable text Q):AF Tryz.prog 33 [cs text] (fun R_=>∃ y0 y1,Q y0 y1/\R_ = .tup [.own (orows y0),cb y1]):=by
  refine zS (zM (n:=34) Tryz.func33 U (by rfl) U (zb U) ?_)
  unfold wp_impl_readTable at h
  refine zg<|zk (zl (n:=34) (σ':=[]) (env':=[(0,.c (cs text))]) U U E1)<|zd<|za (ze U) U<|za (ze U) U<|zf<|zg<|zg<|zd<|za (zc U) U<|za (ss_lenS U) U<|za (ss_gtr U U) U<|zf<|zm U (fun q1=>?_) (fun q1=>?_)
  ·replace h:=h.1 (zj q1)
   exact zg<|zk (zl (n:=34) (σ':=[]) (env':=[(2,.c (cnil)),(3,.c (cb false))]) U U E2)<|zd<|za (ze U) U<|za (ze U) U<|zf<|zA<|zr (yT U (zw U) (zw U)) U U ⟨_,(yW (zN yK (zN (zq _) yC))),_,_,h,U⟩
  ·replace h:=h.2 (zh q1)
   refine zu<|zg<|zk (zl (n:=34) (σ':=[]) (env':=[(0,.c (cs text))]) U U E1)<|zd<|za (ze U) U<|zf<|zg<|zg<|zd<|za (zc U) U ?_
   obtain⟨q2,h⟩:=h
   refine zn (zF (xs:=[.tmp 12,.const (.string ⟨#[47]⟩)]) (ids:=[]) U U U U (c_strings_Split text ([47] : List UInt8) q2) U ?_)
   rintro _ rfl
   refine⟨U,?_⟩
   refine za (zJ (f:=cs) U) U<|za (zc U) U<|zf<|zt ?_
   obtain⟨H1,m1,q4,h⟩:=h
   refine ye (fun (v15_1:Int) (o100004_1:List (List Int))=>⟨[(100004,⟨orows o100004_1,[]⟩)],[(4,.ref 100004),(13,.c (.lst (strs (splS text (byt ([47] : List UInt8) 0))))),(14,.c (ci ((splS text (byt ([47] : List UInt8) 0)).length:Int))),(15,.c (ci v15_1))],34⟩) H1 m1 ⟨0,([] : List (List Int)),zQ (gh_nilE (i:=4) (id:=100004) U U) (zv (n:=34) U U E4),q4⟩ ?_
   rintro v15_1 o100004_1 q4
   replace h:=h v15_1 o100004_1 q4
   refine zg<|zd<|za (zO U U) U<|zf<|zg<|zm U (fun q5=>?_) (fun q5=>?_)
   ·replace h:=h.1 (zj q5)
    refine zu<|zg<|zt<|zg<|zd ?_
    obtain⟨q6,h⟩:=h
    refine za (zB U U q6) U<|za (zx (f:=cs) U q6) U<|za (ze U) U<|zf<|zg<|zd<|za (zc U) U ?_
    obtain⟨q7,h⟩:=h
    refine zn (zF (xs:=[.tmp 20]) (ids:=[21]) U U U U (c_impl_readDigits (el (splS text (byt ([47] : List UInt8) 0)) v15_1) q7) U ?_)
    rintro _ rfl
    refine⟨U,?_⟩
    refine za (zc U) U<|za (zT U U) U<|za (zT U U) U<|za (ze U) U<|za (ze U) U<|zf<|zg<|zg<|zk (zl (n:=34) (σ':=[(21,⟨ints (rdgT (el (splS text (byt ([47] : List UInt8) 0)) v15_1)),[]⟩),(100004,⟨orows o100004_1,[]⟩)]) (env':=[(4,.ref 100004),(7,.ref 21),(8,.c (cb (rdgB (el (splS text (byt ([47] : List UInt8) 0)) v15_1)))),(13,.c (.lst (strs (splS text (byt ([47] : List UInt8) 0))))),(14,.c (ci ((splS text (byt ([47] : List UInt8) 0)).length:Int))),(15,.c (ci v15_1))]) U U E6)<|zd<|za (zc U) U<|za (yA U) U<|zf<|zm U (fun q9=>?_) (fun q9=>?_)
    ·replace h:=h.1 ((ya q9))
     exact zg<|zk (zl (n:=34) (σ':=[(21,⟨ints (rdgT (el (splS text (byt ([47] : List UInt8) 0)) v15_1)),[]⟩),(100004,⟨orows o100004_1,[]⟩)]) (env':=[]) U U trivial)<|zd<|za (ze U) U<|za (ze U) U<|zf<|zA<|zr (yT U (zw U) (zw U)) U U ⟨_,(yW (zN yK (zN (zq _) yC))),_,_,h,U⟩
    ·replace h:=h.2 ((yb q9))
     refine zu<|zd<|za (zc U) U<|za (zc U) U<|zn (zy (id:=28) (ps:=[(0,.tmp 27)]) U U (zb U) U ⟨U,?_⟩)
     refine yF (yu (id:=28) (id2:=21) (j:=0) U U (zb U) U U U) ?_
     obtain⟨q10,h⟩:=h
     refine zn (yx (fun r=>C.own (ints r)) (l:=o100004_1) (m:=[rdgT (el (splS text (byt ([47] : List UInt8) 0)) v15_1)]) U U U U U (zb U) q10 ⟨U,?_⟩)
     refine za (ze U) U<|zf<|zk (zl (n:=34) (σ':=[(100004,⟨orows (o100004_1 ++ ([rdgT (el (splS text (byt ([47] : List UInt8) 0)) v15_1)])),[]⟩)]) (env':=[(4,.ref 100004),(13,.c (.lst (strs (splS text (byt ([47] : List UInt8) 0))))),(14,.c (ci ((splS text (byt ([47] : List UInt8) 0)).length:Int))),(15,.c (ci v15_1))]) U U E4)<|zd ?_
     obtain⟨q11,h⟩:=h
     exact za (zG U U q11) U<|za (zc U) U<|zf<|⟨v15_1 + 1,o100004_1 ++ ([rdgT (el (splS text (byt ([47] : List UInt8) 0)) v15_1)]),zv (n:=34) U U E4,h.1,h.2⟩
   ·replace h:=h.2 (zh q5)
    refine zL<|zg<|zd<|za (zc U) U<|za (zc U) U ?_
    obtain⟨q12,h⟩:=h
    refine zn (yU (xs:=[.tmp 32]) (cs:=[.own (orows o100004_1)]) (ids:=[]) U (.inr ⟨U,U⟩) U U (yD (yq (yr (fun _=>(yq (yr (fun _=>U) _))) _)) yX) (c_impl_IsTable o100004_1 q12) U ?_)
    rintro _ rfl
    refine⟨U,U,?_⟩
    exact za (ze U) U<|za (ze U) U<|zf<|zA<|zr (yT U (zw U) (zw U)) U U ⟨_,(zq _),_,_,h,U⟩
theorem c_impl_readTable (text:List UInt8) (hp:small text):AF Tryz.prog 33 [cs text] (fun R_=>R_ = .tup [.own (orows (rdiT text)),cb (rtbB text)]):=
  (w_impl_readTable text (fun y0 y1=>y0 = rdiT text/\y1 = rtbB text) (p_impl_readTable text hp)).mono (by rintro r ⟨_,_,⟨rfl,rfl⟩,rfl⟩; rfl)
theorem w_spec_l01Split (text:List UInt8) (c:Int) (Q:List (List UInt8)->Prop) (h:wp_spec_l01Split text c Q):AF Tryz.prog 59 [cs text,cy c] (fun R_=>∃ y0,Q y0/\R_ = .own (strs y0)):=by
  refine zS (zM (n:=35) Tryz.func59 U (by rfl) U (zb U) ?_)
  unfold wp_spec_l01Split at h
  refine zg<|zk (zl (n:=35) (σ':=[]) (env':=[(0,.c (cs text)),(1,.c (cy c))]) U U E2)<|zd<|za (ze U) U<|zf<|zg<|zd<|zn (zy (id:=8) (ps:=[]) U U (zb U) U ⟨U,?_⟩)
  refine za (ze U) U<|zf<|zg<|zd<|za (ze U) U<|zf<|zg<|zg<|zd<|za (ze U) U<|zf<|zt ?_
  obtain⟨H1,m1,q1,h⟩:=h
  refine aw_loop3 (fun (v6_1:Int) (v7_1:Int) (o8_1:List (List UInt8))=>⟨[(8,⟨strs o8_1,[]⟩)],[(0,.c (cs text)),(1,.c (cy c)),(5,.ref 8),(6,.c (ci v6_1)),(7,.c (ci v7_1))],35⟩) H1 m1 ⟨0,0,([] : List (List UInt8)),zv (n:=35) U U E5,q1⟩ ?_
  rintro v6_1 v7_1 o8_1 q1
  replace h:=h v6_1 v7_1 o8_1 q1
  refine zg<|zg<|zd<|za (zc U) U<|za (zc U) U<|za (ss_lenS U) U<|za (zO U U) U<|zf<|zm U (fun q2=>?_) (fun q2=>?_)
  ·replace h:=h.1 (zj q2)
   refine zu<|zg<|zt<|zg<|zd<|za (zc U) U<|za (zc U) U ?_
   obtain⟨q3,h⟩:=h
   refine za (ss_indexS (s:=text) U U q3) U<|za (zc U) U<|za (yE U U) U<|zf<|zm U (fun q4=>?_) (fun q4=>?_)
   ·replace h:=h.1 (zj q4)
    refine zg<|zd<|za (zc U) U<|za (zc U) U<|za (zc U) U<|za (zc U) U ?_
    obtain⟨q5,h⟩:=h
    refine za (ss_slS U (y9 U) (y9 U) q5) U<|zn (zy (id:=25) (ps:=[(0,.tmp 24)]) U U (zb U) U ⟨U,?_⟩)
    obtain⟨q6,h⟩:=h
    refine zn (yx cs (l:=o8_1) (m:=[sl text v6_1 v7_1]) U U U U U (zb U) q6 ⟨U,?_⟩)
    refine za (ze U) U<|zf<|zk (zl (n:=35) (σ':=[(8,⟨strs (o8_1 ++ ([sl text v6_1 v7_1])),[]⟩)]) (env':=[(0,.c (cs text)),(1,.c (cy c)),(5,.ref 8),(6,.c (ci v6_1)),(7,.c (ci v7_1))]) U U E5)<|zd<|za (zc U) U ?_
    obtain⟨q7,h⟩:=h
    refine za (zG U U q7) U<|za (ze U) U<|zf<|zd<|za (zc U) U ?_
    obtain⟨q8,h⟩:=h
    exact za (zG U U q8) U<|za (ze U) U<|zf<|⟨v7_1 + 1,v7_1 + 1,o8_1 ++ ([sl text v6_1 v7_1]),zv (n:=35) U U E5,h.1,h.2⟩
   ·replace h:=h.2 (zh q4)
    refine zu<|zk (zl (n:=35) (σ':=[(8,⟨strs o8_1,[]⟩)]) (env':=[(0,.c (cs text)),(1,.c (cy c)),(5,.ref 8),(6,.c (ci v6_1)),(7,.c (ci v7_1))]) U U E5)<|zd<|za (zc U) U ?_
    obtain⟨q9,h⟩:=h
    exact za (zG U U q9) U<|za (ze U) U<|zf<|⟨v6_1,v7_1 + 1,o8_1,zv (n:=35) U U E5,h.1,h.2⟩
  ·replace h:=h.2 (zh q2)
   refine zL<|zg<|zd<|za (zc U) U<|za (zc U) U<|za (zc U) U ?_
   obtain⟨q10,h⟩:=h
   refine za (ss_slS U (y9 U) xi q10) U<|zn (zy (id:=33) (ps:=[(0,.tmp 32)]) U U (zb U) U ⟨U,?_⟩)
   obtain⟨q11,h⟩:=h
   refine zn (yx cs (l:=o8_1) (m:=[sl text v6_1 (text.length:Int)]) U U U U U (zb U) q11 ⟨U,?_⟩)
   exact za (ze U) U<|zf<|zA<|zr (zH U (zw U)) U U ⟨_,(zq _),_,h,U⟩
theorem c_spec_l01Split (text:List UInt8) (c:Int) (hp:shortS text):AF Tryz.prog 59 [cs text,cy c] (fun R_=>R_ = .own (strs (splS text c))):=
  (w_spec_l01Split text c (fun y0=>y0 = splS text c) (p_spec_l01Split text c hp)).mono (by rintro r ⟨_,rfl,rfl⟩; rfl)
theorem w_spec_l01Read (text:List UInt8) (Q:List Int->Bool->Prop) (h:wp_spec_l01Read text Q):AF Tryz.prog 60 [cs text] (fun R_=>∃ y0 y1,Q y0 y1/\R_ = .tup [.own (ints y0),cb y1]):=by
  refine zS (zM (n:=36) Tryz.func60 U (by rfl) U (zb U) ?_)
  unfold wp_spec_l01Read at h
  refine zg<|zk (zl (n:=36) (σ':=[]) (env':=[(0,.c (cs text))]) U U E1)<|zd<|za (ze U) U<|za (ze U) U<|zf<|zg<|zd<|zn (zy (id:=7) (ps:=[]) U U (zb U) U ⟨U,?_⟩)
  refine za (ze U) U<|zf<|zg<|zg<|zd<|za (ze U) U<|zf<|zt ?_
  obtain⟨H1,m1,q1,h⟩:=h
  refine ye (fun (v5_1:Int) (o7_1:List Int)=>⟨[(7,⟨ints o7_1,[]⟩)],[(0,.c (cs text)),(4,.ref 7),(5,.c (ci v5_1))],36⟩) H1 m1 ⟨0,([] : List Int),zv (n:=36) U U E3,q1⟩ ?_
  rintro v5_1 o7_1 q1
  replace h:=h v5_1 o7_1 q1
  refine zg<|zg<|zd<|za (zc U) U<|za (zc U) U<|za (ss_lenS U) U<|za (zO U U) U<|zf<|zm U (fun q2=>?_) (fun q2=>?_)
  ·replace h:=h.1 (zj q2)
   refine zu<|zg<|zt<|zg<|zd<|za (zc U) U<|za (zc U) U ?_
   obtain⟨q3,h⟩:=h
   refine za (ss_indexS (s:=text) U U q3) U ?_
   obtain⟨q4,h⟩:=h
   refine za (xo U (wrap_in q4.1 q4.2)) U<|za (ze U) U<|zf<|zt<|zg<|zk (zl (n:=36) (σ':=[(7,⟨ints o7_1,[]⟩)]) (env':=[(0,.c (cs text)),(4,.ref 7),(5,.c (ci v5_1)),(6,.c (ci (byt text v5_1)))]) U U E4)<|zd<|za (zc U) U<|zn (zF (xs:=[.tmp 19,.const (.int .i64 (48)),.const (.int .i64 (57))]) (ids:=[]) U U U U (c_spec_l01In (byt text v5_1) 48 57) U ?_)
   rintro _ rfl
   refine⟨U,?_⟩
   refine za (ze U) U<|zf<|zm U (fun q6=>?_) (fun q6=>?_)
   ·replace h:=h.1 (q6)
    refine zd<|za (zc U) U<|za (zc U) U ?_
    obtain⟨q7,h⟩:=h
    refine za (yS U U q7) U<|zn (zy (id:=24) (ps:=[(0,.tmp 23)]) U U (zb U) U ⟨U,?_⟩)
    obtain⟨q8,h⟩:=h
    refine zn (yx ci (l:=o7_1) (m:=[(byt text v5_1) - 48]) U U U U U (zb U) q8 ⟨U,?_⟩)
    refine za (ze U) U<|zf<|zk (zl (n:=36) (σ':=[(7,⟨ints (o7_1 ++ ([(byt text v5_1) - 48])),[]⟩)]) (env':=[(0,.c (cs text)),(4,.ref 7),(5,.c (ci v5_1))]) U U E3)<|zd<|za (zc U) U ?_
    obtain⟨q9,h⟩:=h
    exact za (zG U U q9) U<|za (ze U) U<|zf<|⟨v5_1 + 1,o7_1 ++ ([(byt text v5_1) - 48]),zv (n:=36) U U E3,h.1,h.2⟩
   ·replace h:=h.2 (q6)
    refine zg<|zd<|za (zc U) U<|zn (zF (xs:=[.tmp 27,.const (.int .i64 (97)),.const (.int .i64 (98))]) (ids:=[]) U U U U (c_spec_l01In (byt text v5_1) 97 98) U ?_)
    rintro _ rfl
    refine⟨U,?_⟩
    refine za (ze U) U<|zf<|zm U (fun q11=>?_) (fun q11=>?_)
    ·replace h:=h.1 (q11)
     refine zd<|za (zc U) U<|za (zc U) U ?_
     obtain⟨q12,h⟩:=h
     refine za (yS U U q12) U ?_
     obtain⟨q13,h⟩:=h
     refine za (zG U U q13) U<|zn (zy (id:=33) (ps:=[(0,.tmp 32)]) U U (zb U) U ⟨U,?_⟩)
     obtain⟨q14,h⟩:=h
     refine zn (yx ci (l:=o7_1) (m:=[((byt text v5_1) - 97) + 10]) U U U U U (zb U) q14 ⟨U,?_⟩)
     refine za (ze U) U<|zf<|zk (zl (n:=36) (σ':=[(7,⟨ints (o7_1 ++ ([((byt text v5_1) - 97) + 10])),[]⟩)]) (env':=[(0,.c (cs text)),(4,.ref 7),(5,.c (ci v5_1))]) U U E3)<|zd<|za (zc U) U ?_
     obtain⟨q15,h⟩:=h
     exact za (zG U U q15) U<|za (ze U) U<|zf<|⟨v5_1 + 1,o7_1 ++ ([((byt text v5_1) - 97) + 10]),zv (n:=36) U U E3,h.1,h.2⟩
    ·replace h:=h.2 (q11)
     exact zg<|zk (zl (n:=36) (σ':=[(7,⟨ints o7_1,[]⟩)]) (env':=[]) U U trivial)<|zd<|za (ze U) U<|za (ze U) U<|zf<|zA<|zr (yT U (zw U) (zw U)) U U ⟨_,(yW (zN yK (zN (zq _) yC))),_,_,h,U⟩
  ·replace h:=h.2 (zh q2)
   exact zL<|zg<|zk (zl (n:=36) (σ':=[(7,⟨ints o7_1,[]⟩)]) (env':=[(4,.ref 7)]) U U E1)<|zd<|za (zc U) U<|za (ze U) U<|za (ze U) U<|zf<|zA<|zr (yT U (zw U) (zw U)) U U ⟨_,(zq _),_,_,h,U⟩
theorem c_spec_l01Read (text:List UInt8) (hp:small text):AF Tryz.prog 60 [cs text] (fun R_=>R_ = .tup [.own (ints (rdgT text)),cb (rdgB text)]):=
  (w_spec_l01Read text (fun y0 y1=>y0 = rdgT text/\y1 = rdgB text) (p_spec_l01Read text hp)).mono (by rintro r ⟨_,_,⟨rfl,rfl⟩,rfl⟩; rfl)
theorem w_spec_l01Parse (text:List UInt8) (Q:List (List Int)->Bool->Prop) (h:wp_spec_l01Parse text Q):AF Tryz.prog 36 [cs text] (fun R_=>∃ y0 y1,Q y0 y1/\R_ = .tup [.own (orows y0),cb y1]):=by
  refine zS (zM (n:=36) Tryz.func36 U (by rfl) U (zb U) ?_)
  unfold wp_spec_l01Parse at h
  refine zg<|zk (zl (n:=36) (σ':=[]) (env':=[(0,.c (cs text))]) U U E1)<|zd<|za (ze U) U<|za (ze U) U<|zf<|zg<|zd<|za (zc U) U ?_
  obtain⟨q1,h⟩:=h
  refine zn (zF (xs:=[.tmp 9,.const (.int .u8 (47))]) (ids:=[10]) U U U U (c_spec_l01Split text 47 q1) U ?_)
  rintro _ rfl
  refine⟨U,?_⟩
  refine zn (zy (id:=11) (ps:=[]) U U (zb U) U ⟨U,?_⟩)
  refine za (ze U) U<|za (ze U) U<|zf<|zg<|zg<|zk (zl (n:=36) (σ':=[(11,⟨orows ([] : List (List Int)),[]⟩),(10,⟨strs (splS text (47:Int)),[]⟩)]) (env':=[(4,.ref 10),(5,.ref 11)]) U U E2)<|zd<|za (ze U) U<|zf<|zt ?_
  obtain⟨H1,m1,q3,h⟩:=h
  refine ye (fun (v6_1:Int) (o11_1:List (List Int))=>⟨[(11,⟨orows o11_1,[]⟩),(10,⟨strs (splS text (47:Int)),[]⟩)],[(4,.ref 10),(5,.ref 11),(6,.c (ci v6_1))],36⟩) H1 m1 ⟨0,([] : List (List Int)),zv (n:=36) U U E3,q3⟩ ?_
  rintro v6_1 o11_1 q3
  replace h:=h v6_1 o11_1 q3
  refine zg<|zg<|zd<|za (zc U) U<|za (zc U) U<|za (yR (f:=cs) U U) U<|za (zO U U) U<|zf<|zm U (fun q4=>?_) (fun q4=>?_)
  ·replace h:=h.1 (zj q4)
   refine zu<|zg<|zt<|zg<|zd<|za (zc U) U<|za (zc U) U ?_
   obtain⟨q5,h⟩:=h
   refine za (zR (f:=cs) U U U q5) U<|za (yi (f:=cs) U U q5 U U) U ?_
   obtain⟨q6,h⟩:=h
   refine zn (zF (xs:=[.tmp 22]) (ids:=[23]) U U U U (c_spec_l01Read (el (splS text (47:Int)) v6_1) q6) U ?_)
   rintro _ rfl
   refine⟨U,?_⟩
   refine za (zc U) U<|za (zT U U) U<|za (zT U U) U<|za (ze U) U<|za (ze U) U<|zf<|zg<|zg<|zk (zl (n:=36) (σ':=[(23,⟨ints (rdgT (el (splS text (47:Int)) v6_1)),[]⟩),(11,⟨orows o11_1,[]⟩),(10,⟨strs (splS text (47:Int)),[]⟩)]) (env':=[(4,.ref 10),(5,.ref 11),(6,.c (ci v6_1)),(7,.ref 23),(8,.c (cb (rdgB (el (splS text (47:Int)) v6_1))))]) U U E5)<|zd<|za (zc U) U<|za (yA U) U<|zf<|zm U (fun q8=>?_) (fun q8=>?_)
   ·replace h:=h.1 ((ya q8))
    exact zg<|zk (zl (n:=36) (σ':=[(23,⟨ints (rdgT (el (splS text (47:Int)) v6_1)),[]⟩),(11,⟨orows o11_1,[]⟩),(10,⟨strs (splS text (47:Int)),[]⟩)]) (env':=[]) U U trivial)<|zd<|za (ze U) U<|za (ze U) U<|zf<|zA<|zr (yT U (zw U) (zw U)) U U ⟨_,(yW (zN yK (zN (zq _) yC))),_,_,h,U⟩
   ·replace h:=h.2 ((yb q8))
    refine zu<|zd<|za (zc U) U<|za (zc U) U<|zn (zy (id:=30) (ps:=[(0,.tmp 29)]) U U (zb U) U ⟨U,?_⟩)
    refine yF (yu (id:=30) (id2:=23) (j:=0) U U (zb U) U U U) ?_
    obtain⟨q9,h⟩:=h
    refine zn (yx (fun r=>C.own (ints r)) (l:=o11_1) (m:=[rdgT (el (splS text (47:Int)) v6_1)]) U U U U U (zb U) q9 ⟨U,?_⟩)
    refine za (ze U) U<|zf<|zk (zl (n:=36) (σ':=[(11,⟨orows (o11_1 ++ ([rdgT (el (splS text (47:Int)) v6_1)])),[]⟩),(10,⟨strs (splS text (47:Int)),[]⟩)]) (env':=[(4,.ref 10),(5,.ref 11),(6,.c (ci v6_1))]) U U E3)<|zd<|za (zc U) U ?_
    obtain⟨q10,h⟩:=h
    exact za (zG U U q10) U<|za (ze U) U<|zf<|⟨v6_1 + 1,o11_1 ++ ([rdgT (el (splS text (47:Int)) v6_1)]),zv (n:=36) U U E3,h.1,h.2⟩
  ·replace h:=h.2 (zh q4)
   refine zL<|zg<|zg<|zk (zl (n:=36) (σ':=[(11,⟨orows o11_1,[]⟩),(10,⟨strs (splS text (47:Int)),[]⟩)]) (env':=[(5,.ref 11)]) U U E1)<|zd<|za (zc U) U ?_
   obtain⟨q11,h⟩:=h
   refine zn (yU (xs:=[.tmp 32]) (cs:=[.own (orows o11_1)]) (ids:=[]) U (.inr ⟨U,U⟩) U U (yD (yq (yr (fun _=>(yq (yr (fun _=>U) _))) _)) yX) (c_spec_l01Table o11_1 q11) U ?_)
   rintro _ rfl
   refine⟨U,U,?_⟩
   refine za (yA U) U<|zf<|zm U (fun q13=>?_) (fun q13=>?_)
   ·replace h:=h.1 ((ya q13))
    exact zg<|zk (zl (n:=36) (σ':=[(11,⟨orows o11_1,[]⟩),(10,⟨strs (splS text (47:Int)),[]⟩)]) (env':=[]) U U trivial)<|zd<|za (ze U) U<|za (ze U) U<|zf<|zA<|zr (yT U (zw U) (zw U)) U U ⟨_,(yW (zN yK (zN (zq _) yC))),_,_,h,U⟩
   ·replace h:=h.2 ((yb q13))
    exact zu<|zg<|zd<|za (zc U) U<|za (ze U) U<|za (ze U) U<|zf<|zA<|zr (yT U (zw U) (zw U)) U U ⟨_,(zq _),_,_,h,U⟩
theorem c_spec_l01Parse (text:List UInt8) (hp:shortS text):AF Tryz.prog 36 [cs text] (fun R_=>R_ = .tup [.own (orows (rtbT text)),cb (rtbB text)]):=
  (w_spec_l01Parse text (fun y0 y1=>y0 = rtbT text/\y1 = rtbB text) (p_spec_l01Parse text hp)).mono (by rintro r ⟨_,_,⟨rfl,rfl⟩,rfl⟩; rfl)
theorem w_spec_ParseRack (text:List UInt8) (Q:List (List Int)->Int->Prop) (h:wp_spec_ParseRack text Q):AF Tryz.prog 17 [cs text] (fun R_=>∃ y0 y1,Q y0 y1/\R_ = .tup [.agg [.own (orows y0)],ci y1]):=by
  refine zS (zM (n:=23) Tryz.func17 U (by rfl) U (zb U) ?_)
  unfold wp_spec_ParseRack at h
  refine zg<|zk (zl (n:=23) (σ':=[]) (env':=[(0,.c (cs text))]) U U E1)<|zd<|zn (yw (id:=2) U (zb U) ⟨U,?_⟩)
  refine za (ze U) U<|zf<|zg<|zd<|za (zc U) U ?_
  obtain⟨q1,h⟩:=h
  refine zn (zF (xs:=[.tmp 8]) (ids:=[9]) U U U U (c_spec_l01Parse text q1) U ?_)
  rintro _ rfl
  refine⟨U,?_⟩
  refine za (zc U) U<|za (zT U U) U<|za (zT U U) U<|za (ze U) U<|za (ze U) U<|zf<|zg<|zd<|za (zc U) U<|za (ss_build (ps:=[(0,.tmp 12)]) U U) U<|zn (yw (id:=6) U (zb U) ⟨U,?_⟩)
  refine zn (yf U U (zb U) U U U ⟨U,?_⟩)
  refine zf<|zg<|zg<|zk (zl (n:=23) (σ':=[(6,⟨[.hole],[(0,.ref 9)]⟩),(9,⟨orows (rtbT text),[]⟩),(2,⟨[cnil],[]⟩)]) (env':=[(2,.cell 2 0),(5,.c (cb (rtbB text))),(6,.cell 6 0)]) U U E3)<|zd<|za (zc U) U<|za (yA U) U<|za (zc U) U<|zX (s:=16) U (fun q3=>?_) (fun q3=>?_)
  ·replace h:=h.1 ((ya q3))
   refine zC U U q3 U<|zC U U q3 U<|zC U U q3 U<|za (zU U q3 U) U<|zf<|zm U (fun q4=>?_) (fun q4=>?_)
   ·skip
    refine zg<|zk (zl (n:=23) (σ':=[(6,⟨[.hole],[(0,.ref 9)]⟩),(9,⟨orows (rtbT text),[]⟩),(2,⟨[cnil],[]⟩)]) (env':=[(2,.cell 2 0)]) U U E1)<|zd<|za (ss_build0) U<|zn (yf U U (zb U) U U U ⟨U,?_⟩)
    exact za (ze U) U<|zf<|zA<|zr (yT U (yL U U U) (zw U)) U U ⟨_,(yW (zN (cle_agg (zN yK yC)) (zN (zq _) yC))),_,_,h,U⟩
   ·cases q4
  ·replace h:=h.2 ((yb q3))
   refine zE U U q3<|za (yP U U U U) U<|zE U U q3 ?_
   obtain⟨q5,h⟩:=h
   refine zn (yU (xs:=[.tmp 17]) (cs:=[.agg [.own (orows (rtbT text))]]) (ids:=[]) U (.inr ⟨U,U⟩) U U (yD (fz_agg (yD (yq (yr (fun _=>(yq (yr (fun _=>U) _))) _)) yX)) yX) (c_spec_l03Is (rtbT text) q5) U ?_)
   rintro _ rfl
   refine⟨U,U,?_⟩
   refine zE U U q3<|za (yA U) U<|za (zV U q3 U) U<|zf<|zm U (fun q7=>?_) (fun q7=>?_)
   ·replace h:=h.1 ((ya q7))
    refine zg<|zk (zl (n:=23) (σ':=[(6,⟨[.hole],[(0,.ref 9)]⟩),(9,⟨orows (rtbT text),[]⟩),(2,⟨[cnil],[]⟩)]) (env':=[(2,.cell 2 0)]) U U E1)<|zd<|za (ss_build0) U<|zn (yf U U (zb U) U U U ⟨U,?_⟩)
    exact za (ze U) U<|zf<|zA<|zr (yT U (yL U U U) (zw U)) U U ⟨_,(yW (zN (cle_agg (zN yK yC)) (zN (zq _) yC))),_,_,h,U⟩
   ·replace h:=h.2 ((yb q7))
    refine zu<|zg<|zk (zl (n:=23) (σ':=[(6,⟨[.hole],[(0,.ref 9)]⟩),(9,⟨orows (rtbT text),[]⟩),(2,⟨[cnil],[]⟩)]) (env':=[(2,.cell 2 0),(6,.cell 6 0)]) U U E2)<|zd<|za (yP U U U U) U<|zn (yf U U (zb U) U U U ⟨U,?_⟩)
    exact za (ze U) U<|zf<|zA<|zr (yT U (yL U U U) (zw U)) U U ⟨_,(zq _),_,_,h,U⟩
theorem c_spec_ParseRack (text:List UInt8) (hp:shortS text):AF Tryz.prog 17 [cs text] (fun R_=>R_ = .tup [.agg [.own (orows (prkT text))],ci (prkE text)]):=
  (w_spec_ParseRack text (fun y0 y1=>y0 = prkT text/\y1 = prkE text) (p_spec_ParseRack text hp)).mono (by rintro r ⟨_,_,⟨rfl,rfl⟩,rfl⟩; rfl)
theorem w_impl_ParseRack (text:List UInt8) (Q:List (List Int)->Int->Prop) (h:wp_impl_ParseRack text Q):AF Tryz.prog 15 [cs text] (fun R_=>∃ y0 y1,Q y0 y1/\R_ = .tup [.agg [.own (orows y0)],ci y1]):=by
  refine zS (zM (n:=22) Tryz.func15 U (by rfl) U (zb U) ?_)
  unfold wp_impl_ParseRack at h
  refine zg<|zk (zl (n:=22) (σ':=[]) (env':=[(0,.c (cs text))]) U U E1)<|zd<|zn (yw (id:=2) U (zb U) ⟨U,?_⟩)
  refine za (ze U) U<|zf<|zg<|zd<|za (zc U) U ?_
  obtain⟨q1,h⟩:=h
  refine zn (zF (xs:=[.tmp 7]) (ids:=[8]) U U U U (c_impl_readTable text q1) U ?_)
  rintro _ rfl
  refine⟨U,?_⟩
  refine za (zc U) U<|za (zT U U) U<|za (zT U U) U<|za (ze U) U<|za (ze U) U<|zf<|zg<|zg<|zd<|za (zc U) U<|za (yA U) U<|za (zc U) U<|zX (s:=13) U (fun q3=>?_) (fun q3=>?_)
  ·replace h:=h.1 ((ya q3))
   refine zC U U q3 U<|zC U U q3 U<|zC U U q3 U<|zC U U q3 U<|za (zU U q3 U) U<|zf<|zm U (fun q4=>?_) (fun q4=>?_)
   ·skip
    refine zg<|zk (zl (n:=22) (σ':=[(8,⟨orows (rdiT text),[]⟩),(2,⟨[cnil],[]⟩)]) (env':=[(2,.cell 2 0),(3,.c (ci 0))]) U U E2)<|zd<|za (ss_build0) U<|zn (yf U U (zb U) U U U ⟨U,?_⟩)
    exact za (ze U) U<|zf<|zA<|zr (yT U (yL U U U) (zw U)) U U ⟨_,(yW (zN (cle_agg (zN yK yC)) (zN (zq _) yC))),_,_,h,U⟩
   ·cases q4
  ·replace h:=h.2 ((yb q3))
   refine zE U U q3<|za (zc U) U<|zE U U q3<|za (ss_build (ps:=[(0,.tmp 14)]) U U) U<|zE U U q3 ?_
   obtain⟨q5,h⟩:=h
   refine zn (yU (xs:=[.tmp 15]) (cs:=[.agg [.own (orows (rdiT text))]]) (ids:=[]) U (.inr ⟨U,U⟩) U U (yD (fz_agg (yD (yq (yr (fun _=>(yq (yr (fun _=>U) _))) _)) yX)) yX) (c_impl_IsRack (rdiT text) q5) U ?_)
   rintro _ rfl
   refine⟨U,U,?_⟩
   refine zE U U q3<|za (yA U) U<|za (zV U q3 U) U<|zf<|zm U (fun q7=>?_) (fun q7=>?_)
   ·replace h:=h.1 ((ya q7))
    refine zg<|zk (zl (n:=22) (σ':=[(8,⟨orows (rdiT text),[]⟩),(2,⟨[cnil],[]⟩)]) (env':=[(2,.cell 2 0),(3,.c (ci 0))]) U U E2)<|zd<|za (ss_build0) U<|zn (yf U U (zb U) U U U ⟨U,?_⟩)
    exact za (ze U) U<|zf<|zA<|zr (yT U (yL U U U) (zw U)) U U ⟨_,(yW (zN (cle_agg (zN yK yC)) (zN (zq _) yC))),_,_,h,U⟩
   ·replace h:=h.2 ((yb q7))
    refine zu<|zg<|zk (zl (n:=22) (σ':=[(8,⟨orows (rdiT text),[]⟩),(2,⟨[cnil],[]⟩)]) (env':=[(2,.cell 2 0),(3,.c (ci 0)),(4,.ref 8)]) U U E3)<|zd<|za (zc U) U<|za (ss_build (ps:=[(0,.tmp 20)]) U U) U<|zn (yf U U (zb U) U U U ⟨U,?_⟩)
    exact za (ze U) U<|zf<|zA<|zr (yT U (yL U U U) (zw U)) U U ⟨_,(zq _),_,_,h,U⟩
theorem c_impl_ParseRack (text:List UInt8) (hp:shortS text):AF Tryz.prog 15 [cs text] (fun R_=>R_ = .tup [.agg [.own (orows (prkT text))],ci (prkE text)]):=
  (w_impl_ParseRack text (fun y0 y1=>y0 = prkT text/\y1 = prkE text) (p_impl_ParseRack text hp)).mono (by rintro r ⟨_,_,⟨rfl,rfl⟩,rfl⟩; rfl)
end Go.Proofs.YtjolbldlhjfciaaGreatDoor
