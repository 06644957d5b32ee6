/- Contracts of functions that the law FnRackForms reaches: conditions, plain proofs, walks; no condition. -/
import Derived.Test.YtjolbldlhjfciaaGreatDoorKRackFormsa
import Derived.Test.YtjolbldlhjfciaaGreatDoorPP
namespace Go.Proofs.YtjolbldlhjfciaaGreatDoor
set_option maxRecDepth 100000
set_option maxHeartbeats 4000000

def wp_k_Index (s:List Int) (v:Int) (Q:Int->Prop):Prop:=
 ∃ (H1:Int->Prop) (m1:Int->Nat),
 H1 0/\
 ∀ (v8_1:Int),H1 v8_1->
 (((v8_1 < (s.length:Int)->
 (0<=v8_1/\v8_1 < (s.length:Int))/\
 ((v = el s v8_1->
 Q v8_1)/\
 (¬ (v = el s v8_1)->
 (InI (v8_1 + 1))/\
 (H1 (v8_1 + 1)/\m1 (v8_1 + 1) < m1 v8_1))))/\
 (¬ (v8_1 < (s.length:Int))->
 Q (-1))))
def wp_k_Clone (s:List Int) (Q:List Int->Prop):Prop:=
 ∀ (b1:Bool),(b1 = true->s = [])->
 ((b1 = true->
 Q ([]))/\
 (b1 = false->
 ((([] : List Int).length:Int) + (s.length:Int)<=1000000000)/\
 Q (([] : List Int) ++ s)))
def wp_spec_l01Same (a:List Int) (b:List Int) (Q:Bool->Prop):Prop:=
 ((¬ ((a.length:Int) = (b.length:Int))->
 Q false)/\
 ((a.length:Int) = (b.length:Int)->
 ∃ (H1:Int->Prop) (m1:Int->Nat),
 H1 0/\
 ∀ (v5_1:Int),H1 v5_1->
 (((v5_1 < (a.length:Int)->
 (0<=v5_1/\v5_1 < (a.length:Int))/\
 (0<=v5_1/\v5_1 < (b.length:Int))/\
 ((¬ (el a v5_1 = el b v5_1)->
 Q false)/\
 (el a v5_1 = el b v5_1->
 (InI (v5_1 + 1))/\
 (H1 (v5_1 + 1)/\m1 (v5_1 + 1) < m1 v5_1))))/\
 (¬ (v5_1 < (a.length:Int))->
 Q true)))))
def wp_impl_identity (n:Int) (Q:List Int->Prop):Prop:=
 (0<=n/\n<=1000000000)/\
 ∃ (H1:Int->List Int->Prop) (m1:Int->List Int->Nat),
 H1 0 (List.replicate n.toNat (0:Int))/\
 ∀ (v9_1:Int) (o6_1:List Int),H1 v9_1 o6_1->
 (((v9_1 < ((List.replicate n.toNat (0:Int)).length:Int)->
 (0<=v9_1/\v9_1 < (o6_1.length:Int))/\
 (InI (v9_1 + 1))/\
 (H1 (v9_1 + 1) (se o6_1 v9_1 v9_1)/\m1 (v9_1 + 1) (se o6_1 v9_1 v9_1) < m1 v9_1 o6_1))/\
 (¬ (v9_1 < ((List.replicate n.toNat (0:Int)).length:Int))->
 Q o6_1)))
def wp_spec_l01Then (p:List Int) (q:List Int) (Q:List Int->Prop):Prop:=
 ∃ (H1:Int->List Int->Prop) (m1:Int->List Int->Nat),
 H1 0 ([] : List Int)/\
 ∀ (v6_1:Int) (o7_1:List Int),H1 v6_1 o7_1->
 (((v6_1 < (p.length:Int)->
 (0<=v6_1/\v6_1 < (p.length:Int))/\
 (0<=el p v6_1/\el p v6_1 < (q.length:Int))/\
 ((o7_1.length:Int) + (([el q (el p v6_1)]).length:Int)<=1000000000)/\
 (InI (v6_1 + 1))/\
 (H1 (v6_1 + 1) (o7_1 ++ ([el q (el p v6_1)]))/\m1 (v6_1 + 1) (o7_1 ++ ([el q (el p v6_1)])) < m1 v6_1 o7_1))/\
 (¬ (v6_1 < (p.length:Int))->
 Q o7_1)))
def wp_spec_l01Back (p:List Int) (Q:List Int->Prop):Prop:=
 (0<=(p.length:Int)/\(p.length:Int)<=1000000000)/\
 ∃ (H1:Int->List Int->Prop) (m1:Int->List Int->Nat),
 H1 0 (List.replicate (p.length:Int).toNat (0:Int))/\
 ∀ (v4_1:Int) (o7_1:List Int),H1 v4_1 o7_1->
 (((v4_1 < (p.length:Int)->
 (0<=v4_1/\v4_1 < (p.length:Int))/\
 (0<=el p v4_1/\el p v4_1 < (o7_1.length:Int))/\
 (InI (v4_1 + 1))/\
 (H1 (v4_1 + 1) (se o7_1 (el p v4_1) v4_1)/\m1 (v4_1 + 1) (se o7_1 (el p v4_1) v4_1) < m1 v4_1 o7_1))/\
 (¬ (v4_1 < (p.length:Int))->
 Q o7_1)))
def wp_impl_inverse (p:List Int) (Q:List Int->Prop):Prop:=
 (0<=(p.length:Int)/\(p.length:Int)<=1000000000)/\
 ∃ (H1:Int->List Int->Prop) (m1:Int->List Int->Nat),
 H1 0 (List.replicate (p.length:Int).toNat (0:Int))/\
 ∀ (v11_1:Int) (o8_1:List Int),H1 v11_1 o8_1->
 (((v11_1 < (p.length:Int)->
 (0<=v11_1/\v11_1 < (p.length:Int))/\
 (0<=el p v11_1/\el p v11_1 < (o8_1.length:Int))/\
 (InI (v11_1 + 1))/\
 (H1 (v11_1 + 1) (se o8_1 (el p v11_1) v11_1)/\m1 (v11_1 + 1) (se o8_1 (el p v11_1) v11_1) < m1 v11_1 o8_1))/\
 (¬ (v11_1 < (p.length:Int))->
 Q o8_1)))
def wp_impl_permutationRows_1 (row:List Int) (Q:Bool->Prop):Prop:=
 (small row)/\
 Q (!((isPerm row)))
def wp_impl_permutationRows (t:List (List Int)) (Q:Bool->Prop):Prop:=
 (small t/\∀ r_ ∈ t,(fun z0=>small z0) r_)/\
 Q (!((t.any (fun z0=>!isPerm z0))))
def wp_impl_rackFault (t:List (List Int)) (Q:List Int->Prop):Prop:=
 ∃ (H1:Int->Prop) (m1:Int->Nat),
 H1 0/\
 ∀ (v10_1:Int),H1 v10_1->
 (((v10_1 < (t.length:Int)->
 ∃ (H2:Int->Prop) (m2:Int->Nat),
 H2 0/\
 ∀ (v14_2:Int),H2 v14_2->
 (((v14_2 < (t.length:Int)->
 ∃ (H3:Int->Prop) (m3:Int->Nat),
 H3 0/\
 ∀ (v18_3:Int),H3 v18_3->
 (((v18_3 < (t.length:Int)->
 (0<=v10_1/\v10_1 < (t.length:Int))/\
 (0<=v14_2/\v14_2 < (t.length:Int))/\
 (0<=v10_1/\v10_1 < (t.length:Int))/\
 (0<=v10_1/\v10_1 < (t.length:Int))/\
 (0<=v18_3/\v18_3 < ((el t v14_2).length:Int))/\
 (0<=el (el t v14_2) v18_3/\el (el t v14_2) v18_3 < ((el t v10_1).length:Int))/\
 (0<=v14_2/\v14_2 < ((el t v10_1).length:Int))/\
 (0<=el (el t v10_1) v14_2/\el (el t v10_1) v14_2 < (t.length:Int))/\
 (0<=v18_3/\v18_3 < ((el t v10_1).length:Int))/\
 (0<=el (el t v10_1) v18_3/\el (el t v10_1) v18_3 < ((el t (el (el t v10_1) v14_2)).length:Int))/\
 ((¬ (el (el t v10_1) (el (el t v14_2) v18_3) = el (el t (el (el t v10_1) v14_2)) (el (el t v10_1) v18_3))->
 Q ([v10_1,v14_2,v18_3]))/\
 (el (el t v10_1) (el (el t v14_2) v18_3) = el (el t (el (el t v10_1) v14_2)) (el (el t v10_1) v18_3)->
 (InI (v18_3 + 1))/\
 (H3 (v18_3 + 1)/\m3 (v18_3 + 1) < m3 v18_3))))/\
 (¬ (v18_3 < (t.length:Int))->
 (InI (v14_2 + 1))/\
 (H2 (v14_2 + 1)/\m2 (v14_2 + 1) < m2 v14_2)))))/\
 (¬ (v14_2 < (t.length:Int))->
 (InI (v10_1 + 1))/\
 (H1 (v10_1 + 1)/\m1 (v10_1 + 1) < m1 v10_1)))))/\
 (¬ (v10_1 < (t.length:Int))->
 Q ([]))))
def wp_spec_l03Fault (t:List (List Int)) (Q:List Int->Prop):Prop:=
 ∃ (H1:Int->Prop) (m1:Int->Nat),
 H1 0/\
 ∀ (v4_1:Int),H1 v4_1->
 (((v4_1 < (t.length:Int)->
 ∃ (H2:Int->Prop) (m2:Int->Nat),
 H2 0/\
 ∀ (v5_2:Int),H2 v5_2->
 (((v5_2 < (t.length:Int)->
 ∃ (H3:Int->Prop) (m3:Int->Nat),
 H3 0/\
 ∀ (v6_3:Int),H3 v6_3->
 (((v6_3 < (t.length:Int)->
 (0<=v4_1/\v4_1 < (t.length:Int))/\
 (0<=v5_2/\v5_2 < (t.length:Int))/\
 (0<=v4_1/\v4_1 < (t.length:Int))/\
 (0<=v4_1/\v4_1 < (t.length:Int))/\
 (0<=v6_3/\v6_3 < ((el t v5_2).length:Int))/\
 (0<=el (el t v5_2) v6_3/\el (el t v5_2) v6_3 < ((el t v4_1).length:Int))/\
 (0<=v5_2/\v5_2 < ((el t v4_1).length:Int))/\
 (0<=el (el t v4_1) v5_2/\el (el t v4_1) v5_2 < (t.length:Int))/\
 (0<=v6_3/\v6_3 < ((el t v4_1).length:Int))/\
 (0<=el (el t v4_1) v6_3/\el (el t v4_1) v6_3 < ((el t (el (el t v4_1) v5_2)).length:Int))/\
 ((¬ (el (el t v4_1) (el (el t v5_2) v6_3) = el (el t (el (el t v4_1) v5_2)) (el (el t v4_1) v6_3))->
 Q ([v4_1,v5_2,v6_3]))/\
 (el (el t v4_1) (el (el t v5_2) v6_3) = el (el t (el (el t v4_1) v5_2)) (el (el t v4_1) v6_3)->
 (InI (v6_3 + 1))/\
 (H3 (v6_3 + 1)/\m3 (v6_3 + 1) < m3 v6_3))))/\
 (¬ (v6_3 < (t.length:Int))->
 (InI (v5_2 + 1))/\
 (H2 (v5_2 + 1)/\m2 (v5_2 + 1) < m2 v5_2)))))/\
 (¬ (v5_2 < (t.length:Int))->
 (InI (v4_1 + 1))/\
 (H1 (v4_1 + 1)/\m1 (v4_1 + 1) < m1 v4_1)))))/\
 (¬ (v4_1 < (t.length:Int))->
 Q ([]))))
def wp_impl_IsRack (r:List (List Int)) (Q:Bool->Prop):Prop:=
 (small2 r)/\
 (((isTab r) = true->
 (small2 r)/\
 (((r.all isPerm) = true->
 (((rackF r) = []->
 (isTab r = true)/\
 Q true)/\
 (¬ (rackF r) = []->
 (isTab r = true)/\
 Q false)))/\
 ((r.all isPerm) = false->
 Q false)))/\
 ((isTab r) = false->
 Q false))
def wp_spec_l03Is (r:List (List Int)) (Q:Bool->Prop):Prop:=
 (small2 r)/\
 (((isTab r) = false->
 Q false)/\
 ((isTab r) = true->
 ∃ (H1:Int->Prop) (m1:Int->Nat),
 H1 0/\
 ∀ (v3_1:Int),H1 v3_1->
 (((v3_1 < (r.length:Int)->
 (0<=v3_1/\v3_1 < (r.length:Int))/\
 (small (el r v3_1))/\
 (((permB (el r v3_1)) = false->
 Q false)/\
 ((permB (el r v3_1)) = true->
 (InI (v3_1 + 1))/\
 (H1 (v3_1 + 1)/\m1 (v3_1 + 1) < m1 v3_1))))/\
 (¬ (v3_1 < (r.length:Int))->
 (isTab r = true)/\
 Q (decide (((rackF r).length:Int) = 0)))))))
theorem p_k_Index (s:List Int) (v:Int) (hp:small s):wp_k_Index s v (fun y0=>y0 = idxI s v):=by
  unfold wp_k_Index idxI
  refine⟨fun i=>0<=i/\i<=(s.length:Int)/\Upto i fun j=>(el s j == v) = false,fun i=>((s.length:Int) - i).toNat,⟨by omega,by omega,upto0⟩,?_⟩
  rintro i ⟨h0,h1,hI⟩
  dsimp only
  refine⟨fun hlt=>⟨⟨h0,hlt⟩,fun hf=>(idxF_found ⟨h0,hlt⟩ hI (by simp [hf])).symm,fun ht=>⟨⟨by omega,by omega⟩,⟨by omega,by omega,upto1 hI (by simpa using fun e=>ht e.symm)⟩,by omega⟩⟩,fun hge=>?_⟩
  exact (idxF_none (by rwa [show i = (s.length:Int) by omega] at hI)).symm
theorem p_k_Clone (s:List Int) (hp:small s):wp_k_Clone s (fun y0=>y0 = s):=by
  unfold wp_k_Clone
  exact fun b hb=>⟨fun h=>(hb h).symm,fun _=>⟨by simp; omega,rfl⟩⟩
theorem p_spec_l01Same (a b:List Int) (hp:small a/\small b):wp_spec_l01Same a b (fun y0=>y0 = decide (a = b)):=by
  unfold wp_spec_l01Same
  obtain⟨ha,hb⟩:=hp
  refine⟨fun h=>(decide_eq_false fun e=>h (by rw [e])).symm,fun h=>⟨fun i=>0<=i/\i<=(a.length:Int)/\Upto i fun j=>el a j = el b j,fun i=>((a.length:Int) - i).toNat,⟨by omega,by omega,upto0⟩,?_⟩⟩
  rintro i ⟨h0,h1,hI⟩
  dsimp only
  refine⟨fun hlt=>⟨⟨h0,hlt⟩,⟨h0,by omega⟩,fun hf=>(decide_eq_false fun e=>hf (by rw [e])).symm,fun ht=>⟨⟨by omega,by omega⟩,⟨by omega,by omega,upto1 hI ht⟩,by omega⟩⟩,fun hge=>?_⟩
  exact (decide_eq_true (ext_el (by omega) fun j h2 h3=>hI j h2 (by omega))).symm
theorem p_impl_identity (n:Int) (hp:0<=n/\n<=1000000):wp_impl_identity n (fun y0=>y0 = unitI n):=by
  unfold wp_impl_identity
  simp only [List.length_replicate]
  refine⟨⟨by omega,by omega⟩,fun i o=>0<=i/\i<=n/\o.length = n.toNat/\Upto i fun j=>el o j = j,fun i _=>(n - i).toNat,⟨by omega,by omega,by simp,upto0⟩,?_⟩
  rintro i o ⟨h0,h1,hl,hI⟩
  dsimp only
  exact⟨fun hlt=>by
    refine⟨?_,?_⟩ <;> first
      | exact⟨by omega,by omega⟩
      | exact⟨⟨by omega,by omega⟩,⟨by omega,by omega,by simp [hl],fill1 (f:=fun j=>j) ⟨h0,by omega⟩ hI rfl⟩,by omega⟩
      | exact⟨⟨by omega,by omega⟩,⟨by omega,by omega⟩,⟨by omega,by omega,by simp [hl],fill1 (f:=fun j=>j) ⟨h0,by omega⟩ hI rfl⟩,by omega⟩,fun hge=>eq_ran (f:=id) hl fun j h2 h3=>hI j h2 (by omega)⟩
theorem p_spec_l01Then (p q:List Int) (hp:small p/\∀ x_ ∈ p,0<=x_/\x_ < (q.length:Int)):wp_spec_l01Then p q (fun y0=>y0 = p.map (el q)):=by
  unfold wp_spec_l01Then
  obtain⟨h1,h2⟩:=hp
  refine⟨fun i o=>0<=i/\i<=(p.length:Int)/\o.length = i.toNat/\Upto i fun x=>el o x = el q (el p x),fun i _=>((p.length:Int) - i).toNat,⟨by omega,by omega,by simp,upto0⟩,?_⟩
  rintro i o ⟨i0,i1,il,iI⟩
  dsimp only
  refine⟨fun ilt=>⟨⟨i0,ilt⟩,h2 _ (el_mem ⟨i0,ilt⟩),by simp; omega,⟨by omega,by omega⟩,⟨by omega,by omega,by simp; omega,app1 (f:=fun x=>el q (el p x)) (by omega) iI rfl⟩,by omega⟩,fun ige=>ext_el (by simp; omega) fun j a b=>?_⟩
  rw [el_map ⟨a,by omega⟩]; exact iI j a (by omega)
theorem p_spec_l01Back (p:List Int) (hp:small p/\isPerm p = true):wp_spec_l01Back p (fun y0=>y0 = backI p):=by
  unfold wp_spec_l01Back
  obtain⟨h1,h2⟩:=hp
  refine⟨⟨by omega,h1⟩,fun i o=>0<=i/\i<=(p.length:Int)/\o.length = p.length/\Upto i fun j=>el o (el p j) = j,fun i _=>((p.length:Int) - i).toNat,⟨by omega,by omega,by simp,upto0⟩,?_⟩
  rintro i o ⟨h0,h3,hl,hI⟩
  dsimp only
  refine⟨fun hlt=>?_,fun hge=>backI_uniq h2 hl fun j a b=>hI j a (by omega)⟩
  have hb:=isPerm_el h2 ⟨h0,hlt⟩
  refine⟨⟨h0,hlt⟩,⟨hb.1,by omega⟩,⟨by omega,by omega⟩,⟨by omega,by omega,by simp [hl],upto1 (fun j a b=>?_) (by rw [el_se_same ⟨hb.1,by omega⟩])⟩,by omega⟩
  have hj:=isPerm_el h2 (i:=j) ⟨a,by omega⟩
  rw [el_se_ne hb.1 hj.1 fun e=>by have:=isPerm_inj h2 ⟨h0,hlt⟩ ⟨a,by omega⟩ e; omega]
  exact hI j a b
theorem p_impl_inverse (p:List Int) (hp:small p/\isPerm p = true):wp_impl_inverse p (fun y0=>y0 = backI p):=p_spec_l01Back p hp
theorem p_impl_permutationRows_1 (row:List Int) (hp:small row):wp_impl_permutationRows_1 row (fun y0=>y0 = !isPerm row):=⟨hp,rfl⟩
theorem p_impl_permutationRows (t:List (List Int)) (hp:small2 t):wp_impl_permutationRows t (fun y0=>y0 = t.all isPerm):=by
  refine⟨⟨hp.1,hp.2⟩,?_⟩
  rw [List.not_any_eq_all_not]; simp
theorem p_spec_l03Fault (t:List (List Int)) (hp:isTab t = true):wp_spec_l03Fault t (fun y0=>y0 = rackF t):=by
  unfold wp_spec_l03Fault rackF
  have hn:=isTab_len hp
  have tr:=fun (i:Int) (hi:0<=i/\i < (t.length:Int))=>isTab_row hp hi
  refine⟨fun x=>0<=x/\x<=(t.length:Int)/\Upto x fun a=>∀ b,0<=b->b < (t.length:Int)->∀ c,0<=c->c < (t.length:Int)->rackB t a b c = false,fun x=>((t.length:Int) - x).toNat,⟨by omega,by omega,upto0⟩,?_⟩
  rintro x ⟨x0,x1,xI⟩
  dsimp only
  refine⟨fun xlt=>?_,fun xge=>(first3_none fun a h1 h2=>xI a h1 (by omega)).symm⟩
  refine⟨fun y=>0<=y/\y<=(t.length:Int)/\Upto y fun b=>∀ c,0<=c->c < (t.length:Int)->rackB t x b c = false,fun y=>((t.length:Int) - y).toNat,⟨by omega,by omega,upto0⟩,?_⟩
  rintro y ⟨y0,y1,yI⟩
  dsimp only
  refine⟨fun ylt=>?_,fun yge=>⟨⟨by omega,by omega⟩,⟨by omega,by omega,upto1 xI fun b h1 h2=>yI b h1 (by omega)⟩,by omega⟩⟩
  refine⟨fun z=>0<=z/\z<=(t.length:Int)/\Upto z fun c=>rackB t x y c = false,fun z=>((t.length:Int) - z).toNat,⟨by omega,by omega,upto0⟩,?_⟩
  rintro z ⟨z0,z1,zI⟩
  dsimp only
  refine⟨fun zlt=>?_,fun zge=>⟨⟨by omega,by omega⟩,⟨by omega,by omega,upto1 yI fun c h1 h2=>zI c h1 (by omega)⟩,by omega⟩⟩
  have hx:=tr x ⟨x0,xlt⟩
  have hy:=tr y ⟨y0,ylt⟩
  have xy:=hx.2 y y0 ylt
  have xz:=hx.2 z z0 zlt
  have yz:=hy.2 z z0 zlt
  have r1:=tr _ xy
  refine⟨⟨x0,xlt⟩,⟨y0,ylt⟩,⟨x0,xlt⟩,⟨x0,xlt⟩,⟨z0,by omega⟩,⟨yz.1,by omega⟩,⟨y0,by omega⟩,xy,⟨z0,by omega⟩,⟨xz.1,by omega⟩,fun h=>?_,fun h=>⟨⟨by omega,by omega⟩,⟨by omega,by omega,upto1 zI (by simp [rackB,h])⟩,by omega⟩⟩
  exact (first3_found ⟨x0,xlt⟩ ⟨y0,ylt⟩ ⟨z0,zlt⟩ (by simp [rackB,h]) xI yI zI).symm
theorem p_impl_rackFault (t:List (List Int)) (hp:isTab t = true):wp_impl_rackFault t (fun y0=>y0 = rackF t):=p_spec_l03Fault t hp
theorem isEmpty_iff_nil {l:List Int} : l.isEmpty = decide ((l.length:Int) = 0):=by cases l <;> simp; omega
theorem p_impl_IsRack (r:List (List Int)) (hp:small2 r):wp_impl_IsRack r (fun y0=>y0 = isRk r):=by
  unfold wp_impl_IsRack isRk
  refine⟨hp,fun h=>⟨hp,fun h2=>⟨fun h3=>⟨h,?_⟩,fun h3=>⟨h,?_⟩⟩,fun h2=>?_⟩,fun h=>?_⟩
  · rw [h,h2,h3]; rfl
  · rw [h,h2]; cases e:rackF r with
    | nil=>exact absurd e h3
    | cons x l=>rfl
  · rw [h,h2]; rfl
  · rw [h]; rfl
theorem p_spec_l03Is (r:List (List Int)) (hp:small2 r):wp_spec_l03Is r (fun y0=>y0 = isRk r):=by
  unfold wp_spec_l03Is isRk
  refine⟨hp,fun h=>by rw [h]; rfl,fun h=>?_⟩
  rw [h,<- isTab_perm h,isEmpty_iff_nil]
  refine⟨fun i=>0<=i/\i<=(r.length:Int)/\Upto i fun j=>permB (el r j) = true,fun i=>((r.length:Int) - i).toNat,⟨by omega,by omega,upto0⟩,?_⟩
  rintro i ⟨h0,h3,hI⟩
  dsimp only
  refine⟨fun hlt=>⟨⟨h0,hlt⟩,hp.2 _ (el_mem ⟨h0,hlt⟩),fun hf=>by rw [all_f ⟨h0,hlt⟩ hf]; rfl,fun ht=>⟨⟨by have:=isTab_len h; omega,by have:=isTab_len h; omega⟩,⟨by omega,by omega,upto1 hI ht⟩,by omega⟩⟩,fun hge=>⟨rfl,?_⟩⟩
  rw [all_t (by rwa [show i = (r.length:Int) by omega] at hI)]; rfl
theorem w_k_Index (s:List Int) (v:Int) (Q:Int->Prop) (h:wp_k_Index s v Q):AF Tryz.prog 70 [.lst (ints s),ci v] (fun R_=>∃ y0,Q y0/\R_ = ci y0):=by
  refine zS (zM (n:=19) Tryz.func70 U (by rfl) U (zb U) ?_)
  unfold wp_k_Index at h
  refine zg<|zk (zl (n:=19) (σ':=[]) (env':=[(0,.c (.lst (ints s))),(1,.c (ci v))]) U U E2)<|zd<|za (ze U) U<|zf<|zg<|zg<|zd<|za (zc U) U<|za (zJ (f:=ci) U) U<|za (zc U) U<|zf<|zt ?_
  obtain⟨H1,m1,q1,h⟩:=h
  refine yy (fun (v8_1:Int)=>⟨[],[(0,.c (.lst (ints s))),(1,.c (ci v)),(7,.c (ci (s.length:Int))),(8,.c (ci v8_1))],19⟩) H1 m1 ⟨0,zv (n:=19) U U E4,q1⟩ ?_
  rintro v8_1 q1
  replace h:=h v8_1 q1
  refine zg<|zd<|za (zO U U) U<|zf<|zg<|zm U (fun q2=>?_) (fun q2=>?_)
  ·replace h:=h.1 (zj q2)
   refine zu<|zg<|zt<|zg<|zd<|za (zc U) U<|za (ze U) U<|zf<|zg<|zd<|za (zc U) U<|za (zc U) U<|za (zc U) U ?_
   obtain⟨q3,h⟩:=h
   refine za (zB U U q3) U<|za (zx (f:=ci) U q3) U<|za (yE U U) U<|zf<|zm U (fun q4=>?_) (fun q4=>?_)
   ·replace h:=h.1 (zj q4)
    exact zg<|zk (zl (n:=19) (σ':=[]) (env':=[(5,.c (ci v8_1))]) U U E1)<|zd<|za (zc U) U<|za (ze U) U<|zf<|zA<|zr (zH U (zw U)) U U ⟨_,(zq _),_,h,U⟩
   ·replace h:=h.2 (zh q4)
    refine zu<|zk (zl (n:=19) (σ':=[]) (env':=[(0,.c (.lst (ints s))),(1,.c (ci v)),(7,.c (ci (s.length:Int))),(8,.c (ci v8_1))]) U U E4)<|zd ?_
    obtain⟨q5,h⟩:=h
    exact za (zG U U q5) U<|za (zc U) U<|zf<|⟨v8_1 + 1,zv (n:=19) U U E4,h.1,h.2⟩
  ·replace h:=h.2 (zh q2)
   exact zL<|zg<|zk (zl (n:=19) (σ':=[]) (env':=[]) U U trivial)<|zd<|za (ze U) U<|zf<|zA<|zr (zH U (zw U)) U U ⟨_,(zq _),_,h,U⟩
theorem c_k_Index (s:List Int) (v:Int) (hp:small s):AF Tryz.prog 70 [.lst (ints s),ci v] (fun R_=>R_ = ci (idxI s v)):=
  (w_k_Index s v (fun y0=>y0 = idxI s v) (p_k_Index s v hp)).mono (by rintro r ⟨_,rfl,rfl⟩; rfl)
theorem w_k_Clone (s:List Int) (Q:List Int->Prop) (h:wp_k_Clone s Q):AF Tryz.prog 26 [.lst (ints s)] (fun R_=>∃ y0,Q y0/\R_ = .own (ints y0)):=by
  refine zS (zM (n:=8) Tryz.func26 U (by rfl) U (zb U) ?_)
  unfold wp_k_Clone at h
  refine zg<|zk (zl (n:=8) (σ':=[]) (env':=[(0,.c (.lst (ints s)))]) U U E1)<|zd<|za (ze U) U<|zf<|zg<|zg<|zd<|za (zc U) U<|zn (ws_eqlNilL (f:=ci) U U ?_)
  intro b1 q1
  replace h:=h b1 q1
  refine⟨U,?_⟩
  refine zf<|zm U (fun q2=>?_) (fun q2=>?_)
  ·replace h:=h.1 (q2)
   exact zg<|zk (zl (n:=8) (σ':=[]) (env':=[(2,.c (cnil))]) U U E1)<|zd<|za (ze U) U<|zf<|zA<|zr (zH U (zw U)) U U ⟨_,yK,_,h,U⟩
  ·replace h:=h.2 (q2)
   refine zu<|zg<|zd<|zn (zy (id:=5) (ps:=[]) U U (zb U) U ⟨U,?_⟩)
   refine za (zc U) U ?_
   obtain⟨q3,h⟩:=h
   refine zn (xd ci (l:=([] : List Int)) (m:=s) U U U (zb U) q3 ⟨U,?_⟩)
   exact za (ze U) U<|zf<|zA<|zr (zH U (zw U)) U U ⟨_,(zq _),_,h,U⟩
theorem c_k_Clone (s:List Int) (hp:small s):AF Tryz.prog 26 [.lst (ints s)] (fun R_=>R_ = .own (ints s)):=
  (w_k_Clone s (fun y0=>y0 = s) (p_k_Clone s hp)).mono (by rintro r ⟨_,rfl,rfl⟩; rfl)
theorem w_spec_l01Same (a:List Int) (b:List Int) (Q:Bool->Prop) (h:wp_spec_l01Same a b Q):AF Tryz.prog 75 [.lst (ints a),.lst (ints b)] (fun R_=>∃ y0,Q y0/\R_ = cb y0):=by
  refine zS (zM (n:=26) Tryz.func75 U (by rfl) U (zb U) ?_)
  unfold wp_spec_l01Same at h
  refine zg<|zk (zl (n:=26) (σ':=[]) (env':=[(0,.c (.lst (ints a))),(1,.c (.lst (ints b)))]) U U E2)<|zd<|za (ze U) U<|zf<|zg<|zg<|zd<|za (zc U) U<|za (zJ (f:=ci) U) U<|za (zc U) U<|za (zJ (f:=ci) U) U<|za (yQ U U) U<|zf<|zm U (fun q1=>?_) (fun q1=>?_)
  ·replace h:=h.1 (zh (ya q1))
   exact zg<|zk (zl (n:=26) (σ':=[]) (env':=[(4,.c (cb false))]) U U E1)<|zd<|za (ze U) U<|zf<|zA<|zr (zH U (zw U)) U U ⟨_,(zq _),_,h,U⟩
  ·replace h:=h.2 (zj (yb q1))
   refine zu<|zg<|zg<|zk (zl (n:=26) (σ':=[]) (env':=[(0,.c (.lst (ints a))),(1,.c (.lst (ints b)))]) U U E2)<|zd<|za (ze U) U<|zf<|zt ?_
   obtain⟨H1,m1,q2,h⟩:=h
   refine yy (fun (v5_1:Int)=>⟨[],[(0,.c (.lst (ints a))),(1,.c (.lst (ints b))),(5,.c (ci v5_1))],26⟩) H1 m1 ⟨0,zv (n:=26) U U E3,q2⟩ ?_
   rintro v5_1 q2
   replace h:=h v5_1 q2
   refine zg<|zg<|zd<|za (zc U) U<|za (zc U) U<|za (zJ (f:=ci) U) U<|za (zO U U) U<|zf<|zm U (fun q3=>?_) (fun q3=>?_)
   ·replace h:=h.1 (zj q3)
    refine zu<|zg<|zt<|zg<|zk (zl (n:=26) (σ':=[]) (env':=[(0,.c (.lst (ints a))),(1,.c (.lst (ints b))),(5,.c (ci v5_1))]) U U E3)<|zP (kd:=kdl [0,0,0,1,0,0,0,1,0]) (ord:=[0,1,2,4,5,6,3,7,8]) [] mixed (by kernel_rfl)<|zp U U trivial (zc U) U<|zp U U trivial (zc U) U ?_
    obtain⟨q4,h⟩:=h
    refine zp U U trivial (zB U U q4) U<|zp U U trivial (zc U) U<|zp U U trivial (zc U) U ?_
    obtain⟨q5,h⟩:=h
    refine zp U U trivial (zB U U q5) U<|zY U U trivial (zx (f:=ci) U q4) U<|zY U U trivial (zx (f:=ci) U q5) U<|zp U U trivial (yQ U U) U<|yh<|zm U (fun q6=>?_) (fun q6=>?_)
    ·replace h:=h.1 (zh (ya q6))
     exact zg<|zk (zl (n:=26) (σ':=[]) (env':=[]) U U trivial)<|zd<|za (ze U) U<|zf<|zA<|zr (zH U (zw U)) U U ⟨_,(zq _),_,h,U⟩
    ·replace h:=h.2 (zj (yb q6))
     refine zu<|zk (zl (n:=26) (σ':=[]) (env':=[(0,.c (.lst (ints a))),(1,.c (.lst (ints b))),(5,.c (ci v5_1))]) U U E3)<|zd<|za (zc U) U ?_
     obtain⟨q7,h⟩:=h
     exact za (zG U U q7) U<|za (ze U) U<|zf<|⟨v5_1 + 1,zv (n:=26) U U E3,h.1,h.2⟩
   ·replace h:=h.2 (zh q3)
    exact zL<|zg<|zk (zl (n:=26) (σ':=[]) (env':=[]) U U trivial)<|zd<|za (ze U) U<|zf<|zA<|zr (zH U (zw U)) U U ⟨_,(zq _),_,h,U⟩
theorem c_spec_l01Same (a:List Int) (b:List Int) (hp:small a/\small b):AF Tryz.prog 75 [.lst (ints a),.lst (ints b)] (fun R_=>R_ = cb (decide (a = b))):=
  (w_spec_l01Same a b (fun y0=>y0 = decide (a = b)) (p_spec_l01Same a b hp)).mono (by rintro r ⟨_,rfl,rfl⟩; rfl)
theorem w_impl_identity (n:Int) (Q:List Int->Prop) (h:wp_impl_identity n Q):AF Tryz.prog 77 [ci n] (fun R_=>∃ y0,Q y0/\R_ = .own (ints y0)):=by
  refine zS (zM (n:=18) Tryz.func77 U (by rfl) U (zb U) ?_)
  unfold wp_impl_identity at h
  refine zg<|zk (zl (n:=18) (σ':=[]) (env':=[(0,.c (ci n))]) U U E1)<|zd<|za (ze U) U<|zf<|zg<|zd<|za (zc U) U ?_
  obtain⟨q1,h⟩:=h
  refine zn (yZ (id:=6) ci (0:Int) U U U q1 (zb U) U ⟨U,?_⟩)
  refine za (ze U) U<|zf<|zg<|zg<|zd<|za (zc U) U<|za (yR (f:=ci) U U) U<|za (zc U) U<|zf<|zt ?_
  obtain⟨H1,m1,q2,h⟩:=h
  refine ye (fun (v9_1:Int) (o6_1:List Int)=>⟨[(6,⟨ints o6_1,[]⟩)],[(3,.ref 6),(8,.c (ci ((List.replicate n.toNat (0:Int)).length:Int))),(9,.c (ci v9_1))],18⟩) H1 m1 ⟨0,List.replicate n.toNat (0:Int),zv (n:=18) U U E3,q2⟩ ?_
  rintro v9_1 o6_1 q2
  replace h:=h v9_1 o6_1 q2
  refine zg<|zd<|za (zO U U) U<|zf<|zg<|zm U (fun q3=>?_) (fun q3=>?_)
  ·replace h:=h.1 (zj q3)
   refine zu<|zg<|zt<|zg<|zd<|za (zc U) U<|za (ze U) U<|zf<|zd<|za (zc U) U<|za (zc U) U<|za (zc U) U ?_
   obtain⟨q4,h⟩:=h
   refine za (zR (f:=ci) U U U q4) U<|zn (yo U U (yN q4) U U (yO (f:=ci)) U ⟨U,?_⟩)
   refine zf<|zk (zl (n:=18) (σ':=[(6,⟨ints (se o6_1 v9_1 v9_1),[]⟩)]) (env':=[(3,.ref 6),(8,.c (ci ((List.replicate n.toNat (0:Int)).length:Int))),(9,.c (ci v9_1))]) U U E3)<|zd ?_
   obtain⟨q5,h⟩:=h
   exact za (zG U U q5) U<|za (zc U) U<|zf<|⟨v9_1 + 1,se o6_1 v9_1 v9_1,zv (n:=18) U U E3,h.1,h.2⟩
  ·replace h:=h.2 (zh q3)
   exact zL<|zg<|zd<|za (zc U) U<|za (ze U) U<|zf<|zA<|zr (zH U (zw U)) U U ⟨_,(zq _),_,h,U⟩
theorem c_impl_identity (n:Int) (hp:0<=n/\n<=1000000):AF Tryz.prog 77 [ci n] (fun R_=>R_ = .own (ints (unitI n))):=
  (w_impl_identity n (fun y0=>y0 = unitI n) (p_impl_identity n hp)).mono (by rintro r ⟨_,rfl,rfl⟩; rfl)
theorem w_spec_l01Then (p:List Int) (q:List Int) (Q:List Int->Prop) (h:wp_spec_l01Then p q Q):AF Tryz.prog 94 [.lst (ints p),.lst (ints q)] (fun R_=>∃ y0,Q y0/\R_ = .own (ints y0)):=by
  refine zS (zM (n:=25) Tryz.func94 U (by rfl) U (zb U) ?_)
  unfold wp_spec_l01Then at h
  refine zg<|zk (zl (n:=25) (σ':=[]) (env':=[(0,.c (.lst (ints p))),(1,.c (.lst (ints q)))]) U U E2)<|zd<|za (ze U) U<|zf<|zg<|zd<|zn (zy (id:=7) (ps:=[]) U U (zb U) U ⟨U,?_⟩)
  refine za (ze U) U<|zf<|zg<|zg<|zd<|za (ze U) U<|zf<|zt ?_
  obtain⟨H1,m1,q1,h⟩:=h
  refine ye (fun (v6_1:Int) (o7_1:List Int)=>⟨[(7,⟨ints o7_1,[]⟩)],[(0,.c (.lst (ints p))),(1,.c (.lst (ints q))),(5,.ref 7),(6,.c (ci v6_1))],25⟩) H1 m1 ⟨0,([] : List Int),zv (n:=25) U U E4,q1⟩ ?_
  rintro v6_1 o7_1 q1
  replace h:=h v6_1 o7_1 q1
  refine zg<|zg<|zd<|za (zc U) U<|za (zc U) U<|za (zJ (f:=ci) U) U<|za (zO U U) U<|zf<|zm U (fun q2=>?_) (fun q2=>?_)
  ·replace h:=h.1 (zj q2)
   refine zu<|zg<|zt<|zd<|za (zc U) U<|za (zc U) U<|za (zc U) U<|za (zc U) U ?_
   obtain⟨q3,h⟩:=h
   refine za (zB U U q3) U<|za (zx (f:=ci) U q3) U ?_
   obtain⟨q4,h⟩:=h
   refine za (zB U U q4) U<|za (zx (f:=ci) U q4) U<|zn (zy (id:=22) (ps:=[(0,.tmp 21)]) U U (zb U) U ⟨U,?_⟩)
   obtain⟨q5,h⟩:=h
   refine zn (yx ci (l:=o7_1) (m:=[el q (el p v6_1)]) U U U U U (zb U) q5 ⟨U,?_⟩)
   refine za (ze U) U<|zf<|zk (zl (n:=25) (σ':=[(7,⟨ints (o7_1 ++ ([el q (el p v6_1)])),[]⟩)]) (env':=[(0,.c (.lst (ints p))),(1,.c (.lst (ints q))),(5,.ref 7),(6,.c (ci v6_1))]) U U E4)<|zd<|za (zc U) U ?_
   obtain⟨q6,h⟩:=h
   exact za (zG U U q6) U<|za (ze U) U<|zf<|⟨v6_1 + 1,o7_1 ++ ([el q (el p v6_1)]),zv (n:=25) U U E4,h.1,h.2⟩
  ·replace h:=h.2 (zh q2)
   exact zL<|zg<|zk (zl (n:=25) (σ':=[(7,⟨ints o7_1,[]⟩)]) (env':=[(5,.ref 7)]) U U E1)<|zd<|za (zc U) U<|za (ze U) U<|zf<|zA<|zr (zH U (zw U)) U U ⟨_,(zq _),_,h,U⟩
theorem c_spec_l01Then (p:List Int) (q:List Int) (hp:small p/\∀ x_ ∈ p,0<=x_/\x_ < (q.length:Int)):AF Tryz.prog 94 [.lst (ints p),.lst (ints q)] (fun R_=>R_ = .own (ints (p.map (el q)))):=
  (w_spec_l01Then p q (fun y0=>y0 = p.map (el q)) (p_spec_l01Then p q hp)).mono (by rintro r ⟨_,rfl,rfl⟩; rfl)
theorem w_spec_l01Back (p:List Int) (Q:List Int->Prop) (h:wp_spec_l01Back p Q):AF Tryz.prog 95 [.lst (ints p)] (fun R_=>∃ y0,Q y0/\R_ = .own (ints y0)):=by
  refine zS (zM (n:=22) Tryz.func95 U (by rfl) U (zb U) ?_)
  unfold wp_spec_l01Back at h
  refine zg<|zk (zl (n:=22) (σ':=[]) (env':=[(0,.c (.lst (ints p)))]) U U E1)<|zd<|za (ze U) U<|zf<|zg<|zd<|za (zc U) U<|za (zJ (f:=ci) U) U ?_
  obtain⟨q1,h⟩:=h
  refine zn (yZ (id:=7) ci (0:Int) U U U q1 (zb U) U ⟨U,?_⟩)
  refine za (ze U) U<|zf<|zg<|zg<|zk (zl (n:=22) (σ':=[(7,⟨ints (List.replicate (p.length:Int).toNat (0:Int)),[]⟩)]) (env':=[(0,.c (.lst (ints p))),(3,.ref 7)]) U U E2)<|zd<|za (ze U) U<|zf<|zt ?_
  obtain⟨H1,m1,q2,h⟩:=h
  refine ye (fun (v4_1:Int) (o7_1:List Int)=>⟨[(7,⟨ints o7_1,[]⟩)],[(0,.c (.lst (ints p))),(3,.ref 7),(4,.c (ci v4_1))],22⟩) H1 m1 ⟨0,List.replicate (p.length:Int).toNat (0:Int),zv (n:=22) U U E3,q2⟩ ?_
  rintro v4_1 o7_1 q2
  replace h:=h v4_1 o7_1 q2
  refine zg<|zg<|zd<|za (zc U) U<|za (zc U) U<|za (zJ (f:=ci) U) U<|za (zO U U) U<|zf<|zm U (fun q3=>?_) (fun q3=>?_)
  ·replace h:=h.1 (zj q3)
   refine zu<|zg<|zt<|zd<|za (zc U) U<|za (zc U) U<|za (zc U) U ?_
   obtain⟨q4,h⟩:=h
   refine za (zB U U q4) U<|za (zx (f:=ci) U q4) U<|za (zc U) U ?_
   obtain⟨q5,h⟩:=h
   refine za (zR (f:=ci) U U U q5) U<|zn (yo U U (yN q5) U U (yO (f:=ci)) U ⟨U,?_⟩)
   refine zf<|zk (zl (n:=22) (σ':=[(7,⟨ints (se o7_1 (el p v4_1) v4_1),[]⟩)]) (env':=[(0,.c (.lst (ints p))),(3,.ref 7),(4,.c (ci v4_1))]) U U E3)<|zd<|za (zc U) U ?_
   obtain⟨q6,h⟩:=h
   exact za (zG U U q6) U<|za (ze U) U<|zf<|⟨v4_1 + 1,se o7_1 (el p v4_1) v4_1,zv (n:=22) U U E3,h.1,h.2⟩
  ·replace h:=h.2 (zh q3)
   exact zL<|zg<|zk (zl (n:=22) (σ':=[(7,⟨ints o7_1,[]⟩)]) (env':=[(3,.ref 7)]) U U E1)<|zd<|za (zc U) U<|za (ze U) U<|zf<|zA<|zr (zH U (zw U)) U U ⟨_,(zq _),_,h,U⟩
theorem c_spec_l01Back (p:List Int) (hp:small p/\isPerm p = true):AF Tryz.prog 95 [.lst (ints p)] (fun R_=>R_ = .own (ints (backI p))):=
  (w_spec_l01Back p (fun y0=>y0 = backI p) (p_spec_l01Back p hp)).mono (by rintro r ⟨_,rfl,rfl⟩; rfl)
theorem w_impl_inverse (p:List Int) (Q:List Int->Prop) (h:wp_impl_inverse p Q):AF Tryz.prog 79 [.lst (ints p)] (fun R_=>∃ y0,Q y0/\R_ = .own (ints y0)):=by
  refine zS (zM (n:=22) Tryz.func79 U (by rfl) U (zb U) ?_)
  unfold wp_impl_inverse at h
  refine zg<|zk (zl (n:=22) (σ':=[]) (env':=[(0,.c (.lst (ints p)))]) U U E1)<|zd<|za (ze U) U<|zf<|zg<|zd<|za (zc U) U<|za (zJ (f:=ci) U) U ?_
  obtain⟨q1,h⟩:=h
  refine zn (yZ (id:=8) ci (0:Int) U U U q1 (zb U) U ⟨U,?_⟩)
  refine za (ze U) U<|zf<|zg<|zg<|zd<|za (zc U) U<|za (zJ (f:=ci) U) U<|za (zc U) U<|zf<|zt ?_
  obtain⟨H1,m1,q2,h⟩:=h
  refine ye (fun (v11_1:Int) (o8_1:List Int)=>⟨[(8,⟨ints o8_1,[]⟩)],[(3,.ref 8),(9,.c (.lst (ints p))),(10,.c (ci (p.length:Int))),(11,.c (ci v11_1))],22⟩) H1 m1 ⟨0,List.replicate (p.length:Int).toNat (0:Int),zv (n:=22) U U E4,q2⟩ ?_
  rintro v11_1 o8_1 q2
  replace h:=h v11_1 o8_1 q2
  refine zg<|zd<|za (zO U U) U<|zf<|zg<|zm U (fun q3=>?_) (fun q3=>?_)
  ·replace h:=h.1 (zj q3)
   refine zu<|zg<|zt<|zg<|zd<|za (zc U) U ?_
   obtain⟨q4,h⟩:=h
   refine za (zB U U q4) U<|za (zx (f:=ci) U q4) U<|za (ze U) U<|za (ze U) U<|zf<|zd<|za (zc U) U<|za (zc U) U<|za (zc U) U ?_
   obtain⟨q5,h⟩:=h
   refine za (zR (f:=ci) U U U q5) U<|zn (yo U U (yN q5) U U (yO (f:=ci)) U ⟨U,?_⟩)
   refine zf<|zk (zl (n:=22) (σ':=[(8,⟨ints (se o8_1 (el p v11_1) v11_1),[]⟩)]) (env':=[(3,.ref 8),(9,.c (.lst (ints p))),(10,.c (ci (p.length:Int))),(11,.c (ci v11_1))]) U U E4)<|zd ?_
   obtain⟨q6,h⟩:=h
   exact za (zG U U q6) U<|za (zc U) U<|zf<|⟨v11_1 + 1,se o8_1 (el p v11_1) v11_1,zv (n:=22) U U E4,h.1,h.2⟩
  ·replace h:=h.2 (zh q3)
   exact zL<|zg<|zd<|za (zc U) U<|za (ze U) U<|zf<|zA<|zr (zH U (zw U)) U U ⟨_,(zq _),_,h,U⟩
theorem c_impl_inverse (p:List Int) (hp:small p/\isPerm p = true):AF Tryz.prog 79 [.lst (ints p)] (fun R_=>R_ = .own (ints (backI p))):=
  (w_impl_inverse p (fun y0=>y0 = backI p) (p_impl_inverse p hp)).mono (by rintro r ⟨_,rfl,rfl⟩; rfl)
theorem w_impl_permutationRows_1 (row:List Int) (Q:Bool->Prop) (h:wp_impl_permutationRows_1 row Q):AF Tryz.prog 68 [.lst (ints row)] (fun R_=>∃ y0,Q y0/\R_ = cb y0):=by
  refine zS (zM (n:=6) Tryz.func68 U (by rfl) U (zb U) ?_)
  unfold wp_impl_permutationRows_1 at h
  refine zg<|zk (zl (n:=6) (σ':=[]) (env':=[(0,.c (.lst (ints row)))]) U U E1)<|zd<|za (ze U) U<|zf<|zg<|zd<|za (zc U) U ?_
  obtain⟨q1,h⟩:=h
  refine zn (zF (xs:=[.tmp 3]) (ids:=[]) U U U U (c_impl_isPermuted row q1) U ?_)
  rintro _ rfl
  refine⟨U,?_⟩
  exact za (yA U) U<|za (ze U) U<|zf<|zA<|zr (zH U (zw U)) U U ⟨_,(zq _),_,h,U⟩
theorem c_impl_permutationRows_1 (row:List Int) (hp:small row):AF Tryz.prog 68 [.lst (ints row)] (fun R_=>R_ = cb (!isPerm row)):=
  (w_impl_permutationRows_1 row (fun y0=>y0 = !isPerm row) (p_impl_permutationRows_1 row hp)).mono (by rintro r ⟨_,rfl,rfl⟩; rfl)
theorem w_impl_permutationRows (t:List (List Int)) (Q:Bool->Prop) (h:wp_impl_permutationRows t Q):AF Tryz.prog 42 [.lst (rows t)] (fun R_=>∃ y0,Q y0/\R_ = cb y0):=by
  refine zS (zM (n:=6) Tryz.func42 U (by rfl) U (zb U) ?_)
  unfold wp_impl_permutationRows at h
  refine zg<|zk (zl (n:=6) (σ':=[]) (env':=[(0,.c (.lst (rows t)))]) U U E1)<|zd<|za (ze U) U<|zf<|zg<|zd<|za (zc U) U ?_
  obtain⟨q1,h⟩:=h
  refine zn (zF (xs:=[.tmp 3,.func 68]) (ids:=[]) U U U U (c_k_ContainsFunc_rows t 68 [] (fun z0=>!isPerm z0) (fun z0=>small z0) (fun z0 hD=>c_impl_permutationRows_1 z0 hD) q1) U ?_)
  rintro _ rfl
  refine⟨U,?_⟩
  exact za (yA U) U<|za (ze U) U<|zf<|zA<|zr (zH U (zw U)) U U ⟨_,(zq _),_,h,U⟩
theorem c_impl_permutationRows (t:List (List Int)) (hp:small2 t):AF Tryz.prog 42 [.lst (rows t)] (fun R_=>R_ = cb (t.all isPerm)):=
  (w_impl_permutationRows t (fun y0=>y0 = t.all isPerm) (p_impl_permutationRows t hp)).mono (by rintro r ⟨_,rfl,rfl⟩; rfl)
theorem w_impl_rackFault (t:List (List Int)) (Q:List Int->Prop) (h:wp_impl_rackFault t Q):AF Tryz.prog 43 [.lst (rows t)] (fun R_=>∃ y0,Q y0/\R_ = onil y0):=by
  refine zS (zM (n:=61) Tryz.func43 U (by rfl) U (zb U) ?_)
  unfold wp_impl_rackFault at h
  refine zg<|zk (zl (n:=61) (σ':=[]) (env':=[(0,.c (.lst (rows t)))]) U U E1)<|zd<|za (ze U) U<|zf<|zg<|zd<|za (zc U) U<|za (zJ (f:=(fun r=>C.lst (ints r))) U) U<|za (ze U) U<|zf<|zg<|zg<|zd<|za (zc U) U<|za (zc U) U<|zf<|zt ?_
  obtain⟨H1,m1,q1,h⟩:=h
  refine yy (fun (v10_1:Int)=>⟨[],[(0,.c (.lst (rows t))),(3,.c (ci (t.length:Int))),(9,.c (ci (t.length:Int))),(10,.c (ci v10_1))],61⟩) H1 m1 ⟨0,zv (n:=61) U U E4,q1⟩ ?_
  rintro v10_1 q1
  replace h:=h v10_1 q1
  refine zg<|zd<|za (zO U U) U<|zf<|zg<|zm U (fun q2=>?_) (fun q2=>?_)
  ·replace h:=h.1 (zj q2)
   refine zu<|zg<|zt<|zg<|zd<|za (zc U) U<|za (ze U) U<|zf<|zg<|zd<|za (zc U) U<|za (zc U) U<|zf<|zt ?_
   obtain⟨H2,m2,q3,h⟩:=h
   refine yy (fun (v14_2:Int)=>⟨[],[(0,.c (.lst (rows t))),(3,.c (ci (t.length:Int))),(4,.c (ci v10_1)),(9,.c (ci (t.length:Int))),(10,.c (ci v10_1)),(13,.c (ci (t.length:Int))),(14,.c (ci v14_2))],61⟩) H2 m2 ⟨0,zv (n:=61) U U E7,q3⟩ ?_
   rintro v14_2 q3
   replace h:=h v14_2 q3
   refine zg<|zd<|za (zO U U) U<|zf<|zg<|zm U (fun q4=>?_) (fun q4=>?_)
   ·replace h:=h.1 (zj q4)
    refine zu<|zg<|zt<|zg<|zd<|za (zc U) U<|za (ze U) U<|zf<|zg<|zd<|za (zc U) U<|za (zc U) U<|zf<|zt ?_
    obtain⟨H3,m3,q5,h⟩:=h
    refine yy (fun (v18_3:Int)=>⟨[],[(0,.c (.lst (rows t))),(3,.c (ci (t.length:Int))),(4,.c (ci v10_1)),(5,.c (ci v14_2)),(9,.c (ci (t.length:Int))),(10,.c (ci v10_1)),(13,.c (ci (t.length:Int))),(14,.c (ci v14_2)),(17,.c (ci (t.length:Int))),(18,.c (ci v18_3))],61⟩) H3 m3 ⟨0,zv (n:=61) U U ⟨U,U,U,U,U,U,U,U,U,U,trivial⟩,q5⟩ ?_
    rintro v18_3 q5
    replace h:=h v18_3 q5
    refine zg<|zd<|za (zO U U) U<|zf<|zg<|zm U (fun q6=>?_) (fun q6=>?_)
    ·replace h:=h.1 (zj q6)
     refine zu<|zg<|zt<|zg<|zd<|za (zc U) U<|za (ze U) U<|zf<|zg<|zk (zl (n:=61) (σ':=[]) (env':=[(0,.c (.lst (rows t))),(3,.c (ci (t.length:Int))),(4,.c (ci v10_1)),(5,.c (ci v14_2)),(6,.c (ci v18_3)),(9,.c (ci (t.length:Int))),(10,.c (ci v10_1)),(13,.c (ci (t.length:Int))),(14,.c (ci v14_2)),(17,.c (ci (t.length:Int))),(18,.c (ci v18_3))]) U U ⟨U,U,U,U,U,U,U,U,U,U,U,trivial⟩)<|zP (kd:=kdl [0,0,0,1,0,0,0,1,0,0,1,0,1,0,0,0,0,1,0,0,1,0,1,0,0,0,1,0,0,1,0,1,0]) (ord:=[0,1,2,4,5,6,8,13,14,15,16,18,23,24,25,27,3,7,9,10,11,12,17,19,20,21,22,26,28,29,30,31,32]) [] mixed (by kernel_rfl)<|zp U U trivial (zc U) U<|zp U U trivial (zc U) U ?_
     obtain⟨q7,h⟩:=h
     refine zp U U trivial (zB U U q7) U<|zp U U trivial (zc U) U<|zp U U trivial (zc U) U ?_
     obtain⟨q8,h⟩:=h
     refine zp U U trivial (zB U U q8) U<|zp U U trivial (zc U) U<|zp U U trivial (zc U) U<|zp U U trivial (zc U) U<|zp U U trivial (zc U) U ?_
     obtain⟨q9,h⟩:=h
     refine zp U U trivial (zB U U q9) U<|zp U U trivial (zc U) U<|zp U U trivial (zc U) U<|zp U U trivial (zc U) U ?_
     obtain⟨q10,h⟩:=h
     refine zp U U trivial (zB U U q10) U<|zp U U trivial (zc U) U<|zY U U trivial (zx (f:=(fun r=>C.lst (ints r))) U q7) U<|zY U U trivial (zx (f:=(fun r=>C.lst (ints r))) U q8) U ?_
     obtain⟨q11,h⟩:=h
     refine zp U U trivial (zB U U q11) U<|zY U U trivial (zx (f:=ci) U q11) U ?_
     obtain⟨q12,h⟩:=h
     refine zp U U trivial (zB U U q12) U<|zY U U trivial (zx (f:=ci) U q12) U<|zY U U trivial (zx (f:=(fun r=>C.lst (ints r))) U q9) U ?_
     obtain⟨q13,h⟩:=h
     refine zp U U trivial (zB U U q13) U<|zY U U trivial (zx (f:=ci) U q13) U ?_
     obtain⟨q14,h⟩:=h
     refine zp U U trivial (zB U U q14) U<|zY U U trivial (zx (f:=(fun r=>C.lst (ints r))) U q14) U<|zY U U trivial (zx (f:=(fun r=>C.lst (ints r))) U q10) U ?_
     obtain⟨q15,h⟩:=h
     refine zp U U trivial (zB U U q15) U<|zY U U trivial (zx (f:=ci) U q15) U ?_
     obtain⟨q16,h⟩:=h
     refine zp U U trivial (zB U U q16) U<|zY U U trivial (zx (f:=ci) U q16) U<|zp U U trivial (yQ U U) U<|yh<|zm U (fun q17=>?_) (fun q17=>?_)
     ·replace h:=h.1 (zh (ya q17))
      refine zg<|zk (zl (n:=61) (σ':=[]) (env':=[(4,.c (ci v10_1)),(5,.c (ci v14_2)),(6,.c (ci v18_3))]) U U E3)<|zd<|za (zc U) U<|za (zc U) U<|za (zc U) U<|zn (zy (id:=57) (ps:=[(0,.tmp 54),(1,.tmp 55),(2,.tmp 56)]) U U (zb U) U ⟨U,?_⟩)
      exact za (ze U) U<|zf<|zA<|zr (zH U (zw U)) U U ⟨_,(zq _),_,h,U⟩
     ·replace h:=h.2 (zj (yb q17))
      refine zu<|zk (zl (n:=61) (σ':=[]) (env':=[(0,.c (.lst (rows t))),(3,.c (ci (t.length:Int))),(4,.c (ci v10_1)),(5,.c (ci v14_2)),(9,.c (ci (t.length:Int))),(10,.c (ci v10_1)),(13,.c (ci (t.length:Int))),(14,.c (ci v14_2)),(17,.c (ci (t.length:Int))),(18,.c (ci v18_3))]) U U ⟨U,U,U,U,U,U,U,U,U,U,trivial⟩)<|zd ?_
      obtain⟨q18,h⟩:=h
      exact za (zG U U q18) U<|za (zc U) U<|zf<|⟨v18_3 + 1,zv (n:=61) U U ⟨U,U,U,U,U,U,U,U,U,U,trivial⟩,h.1,h.2⟩
    ·replace h:=h.2 (zh q6)
     refine zL<|zk (zl (n:=61) (σ':=[]) (env':=[(0,.c (.lst (rows t))),(3,.c (ci (t.length:Int))),(4,.c (ci v10_1)),(9,.c (ci (t.length:Int))),(10,.c (ci v10_1)),(13,.c (ci (t.length:Int))),(14,.c (ci v14_2))]) U U E7)<|zd ?_
     obtain⟨q19,h⟩:=h
     exact za (zG U U q19) U<|za (zc U) U<|zf<|⟨v14_2 + 1,zv (n:=61) U U E7,h.1,h.2⟩
   ·replace h:=h.2 (zh q4)
    refine zL<|zk (zl (n:=61) (σ':=[]) (env':=[(0,.c (.lst (rows t))),(3,.c (ci (t.length:Int))),(9,.c (ci (t.length:Int))),(10,.c (ci v10_1))]) U U E4)<|zd ?_
    obtain⟨q20,h⟩:=h
    exact za (zG U U q20) U<|za (zc U) U<|zf<|⟨v10_1 + 1,zv (n:=61) U U E4,h.1,h.2⟩
  ·replace h:=h.2 (zh q2)
   exact zL<|zg<|zk (zl (n:=61) (σ':=[]) (env':=[]) U U trivial)<|zd<|za (ze U) U<|zf<|zA<|zr (zH U (zw U)) U U ⟨_,(zq _),_,h,U⟩
theorem c_impl_rackFault (t:List (List Int)) (hp:isTab t = true):AF Tryz.prog 43 [.lst (rows t)] (fun R_=>R_ = onil (rackF t)):=
  (w_impl_rackFault t (fun y0=>y0 = rackF t) (p_impl_rackFault t hp)).mono (by rintro r ⟨_,rfl,rfl⟩; rfl)
theorem w_spec_l03Fault (t:List (List Int)) (Q:List Int->Prop) (h:wp_spec_l03Fault t Q):AF Tryz.prog 39 [.lst (rows t)] (fun R_=>∃ y0,Q y0/\R_ = .own (ints y0)):=by
  refine zS (zM (n:=61) Tryz.func39 U (by rfl) U (zb U) ?_)
  unfold wp_spec_l03Fault at h
  refine zg<|zk (zl (n:=61) (σ':=[]) (env':=[(0,.c (.lst (rows t)))]) U U E1)<|zd<|za (ze U) U<|zf<|zg<|zd<|za (zc U) U<|za (zJ (f:=(fun r=>C.lst (ints r))) U) U<|za (ze U) U<|zf<|zg<|zg<|zd<|za (ze U) U<|zf<|zt ?_
  obtain⟨H1,m1,q1,h⟩:=h
  refine yy (fun (v4_1:Int)=>⟨[],[(0,.c (.lst (rows t))),(3,.c (ci (t.length:Int))),(4,.c (ci v4_1))],61⟩) H1 m1 ⟨0,zv (n:=61) U U E3,q1⟩ ?_
  rintro v4_1 q1
  replace h:=h v4_1 q1
  refine zg<|zg<|zd<|za (zc U) U<|za (zc U) U<|za (zO U U) U<|zf<|zm U (fun q2=>?_) (fun q2=>?_)
  ·replace h:=h.1 (zj q2)
   refine zu<|zg<|zt<|zg<|zd<|za (ze U) U<|zf<|zt ?_
   obtain⟨H2,m2,q3,h⟩:=h
   refine yy (fun (v5_2:Int)=>⟨[],[(0,.c (.lst (rows t))),(3,.c (ci (t.length:Int))),(4,.c (ci v4_1)),(5,.c (ci v5_2))],61⟩) H2 m2 ⟨0,zv (n:=61) U U E4,q3⟩ ?_
   rintro v5_2 q3
   replace h:=h v5_2 q3
   refine zg<|zg<|zd<|za (zc U) U<|za (zc U) U<|za (zO U U) U<|zf<|zm U (fun q4=>?_) (fun q4=>?_)
   ·replace h:=h.1 (zj q4)
    refine zu<|zg<|zt<|zg<|zd<|za (ze U) U<|zf<|zt ?_
    obtain⟨H3,m3,q5,h⟩:=h
    refine yy (fun (v6_3:Int)=>⟨[],[(0,.c (.lst (rows t))),(3,.c (ci (t.length:Int))),(4,.c (ci v4_1)),(5,.c (ci v5_2)),(6,.c (ci v6_3))],61⟩) H3 m3 ⟨0,zv (n:=61) U U E5,q5⟩ ?_
    rintro v6_3 q5
    replace h:=h v6_3 q5
    refine zg<|zg<|zd<|za (zc U) U<|za (zc U) U<|za (zO U U) U<|zf<|zm U (fun q6=>?_) (fun q6=>?_)
    ·replace h:=h.1 (zj q6)
     refine zu<|zg<|zt<|zg<|zk (zl (n:=61) (σ':=[]) (env':=[(0,.c (.lst (rows t))),(3,.c (ci (t.length:Int))),(4,.c (ci v4_1)),(5,.c (ci v5_2)),(6,.c (ci v6_3))]) U U E5)<|zP (kd:=kdl [0,0,0,1,0,0,0,1,0,0,1,0,1,0,0,0,0,1,0,0,1,0,1,0,0,0,1,0,0,1,0,1,0]) (ord:=[0,1,2,4,5,6,8,13,14,15,16,18,23,24,25,27,3,7,9,10,11,12,17,19,20,21,22,26,28,29,30,31,32]) [] mixed (by kernel_rfl)<|zp U U trivial (zc U) U<|zp U U trivial (zc U) U ?_
     obtain⟨q7,h⟩:=h
     refine zp U U trivial (zB U U q7) U<|zp U U trivial (zc U) U<|zp U U trivial (zc U) U ?_
     obtain⟨q8,h⟩:=h
     refine zp U U trivial (zB U U q8) U<|zp U U trivial (zc U) U<|zp U U trivial (zc U) U<|zp U U trivial (zc U) U<|zp U U trivial (zc U) U ?_
     obtain⟨q9,h⟩:=h
     refine zp U U trivial (zB U U q9) U<|zp U U trivial (zc U) U<|zp U U trivial (zc U) U<|zp U U trivial (zc U) U ?_
     obtain⟨q10,h⟩:=h
     refine zp U U trivial (zB U U q10) U<|zp U U trivial (zc U) U<|zY U U trivial (zx (f:=(fun r=>C.lst (ints r))) U q7) U<|zY U U trivial (zx (f:=(fun r=>C.lst (ints r))) U q8) U ?_
     obtain⟨q11,h⟩:=h
     refine zp U U trivial (zB U U q11) U<|zY U U trivial (zx (f:=ci) U q11) U ?_
     obtain⟨q12,h⟩:=h
     refine zp U U trivial (zB U U q12) U<|zY U U trivial (zx (f:=ci) U q12) U<|zY U U trivial (zx (f:=(fun r=>C.lst (ints r))) U q9) U ?_
     obtain⟨q13,h⟩:=h
     refine zp U U trivial (zB U U q13) U<|zY U U trivial (zx (f:=ci) U q13) U ?_
     obtain⟨q14,h⟩:=h
     refine zp U U trivial (zB U U q14) U<|zY U U trivial (zx (f:=(fun r=>C.lst (ints r))) U q14) U<|zY U U trivial (zx (f:=(fun r=>C.lst (ints r))) U q10) U ?_
     obtain⟨q15,h⟩:=h
     refine zp U U trivial (zB U U q15) U<|zY U U trivial (zx (f:=ci) U q15) U ?_
     obtain⟨q16,h⟩:=h
     refine zp U U trivial (zB U U q16) U<|zY U U trivial (zx (f:=ci) U q16) U<|zp U U trivial (yQ U U) U<|yh<|zm U (fun q17=>?_) (fun q17=>?_)
     ·replace h:=h.1 (zh (ya q17))
      refine zg<|zk (zl (n:=61) (σ':=[]) (env':=[(4,.c (ci v4_1)),(5,.c (ci v5_2)),(6,.c (ci v6_3))]) U U E3)<|zd<|za (zc U) U<|za (zc U) U<|za (zc U) U<|zn (zy (id:=60) (ps:=[(0,.tmp 57),(1,.tmp 58),(2,.tmp 59)]) U U (zb U) U ⟨U,?_⟩)
      exact za (ze U) U<|zf<|zA<|zr (zH U (zw U)) U U ⟨_,(zq _),_,h,U⟩
     ·replace h:=h.2 (zj (yb q17))
      refine zu<|zk (zl (n:=61) (σ':=[]) (env':=[(0,.c (.lst (rows t))),(3,.c (ci (t.length:Int))),(4,.c (ci v4_1)),(5,.c (ci v5_2)),(6,.c (ci v6_3))]) U U E5)<|zd<|za (zc U) U ?_
      obtain⟨q18,h⟩:=h
      exact za (zG U U q18) U<|za (ze U) U<|zf<|⟨v6_3 + 1,zv (n:=61) U U E5,h.1,h.2⟩
    ·replace h:=h.2 (zh q6)
     refine zL<|zd<|za (zc U) U ?_
     obtain⟨q19,h⟩:=h
     exact za (zG U U q19) U<|za (ze U) U<|zf<|⟨v5_2 + 1,zv (n:=61) U U E4,h.1,h.2⟩
   ·replace h:=h.2 (zh q4)
    refine zL<|zd<|za (zc U) U ?_
    obtain⟨q20,h⟩:=h
    exact za (zG U U q20) U<|za (ze U) U<|zf<|⟨v4_1 + 1,zv (n:=61) U U E3,h.1,h.2⟩
  ·replace h:=h.2 (zh q2)
   exact zL<|zg<|zk (zl (n:=61) (σ':=[]) (env':=[]) U U trivial)<|zd<|za (ze U) U<|zf<|zA<|zr (zH U (zw U)) U U ⟨_,yK,_,h,U⟩
theorem c_spec_l03Fault (t:List (List Int)) (hp:isTab t = true):AF Tryz.prog 39 [.lst (rows t)] (fun R_=>R_ = .own (ints (rackF t))):=
  (w_spec_l03Fault t (fun y0=>y0 = rackF t) (p_spec_l03Fault t hp)).mono (by rintro r ⟨_,rfl,rfl⟩; rfl)
theorem w_impl_IsRack (r:List (List Int)) (Q:Bool->Prop) (h:wp_impl_IsRack r Q):AF Tryz.prog 24 [.agg [.lst (rows r)]] (fun R_=>∃ y0,Q y0/\R_ = cb y0):=by
  refine zS (zM (n:=17) Tryz.func24 U (by rfl) U (zb U) ?_)
  unfold wp_impl_IsRack at h
  refine zg<|zk (zl (n:=17) (σ':=[]) (env':=[(0,.c (.agg [.lst (rows r)]))]) U U E1)<|zd<|zn (y8 U (.inl U) U ⟨U,?_⟩)
  refine za (ze U) U<|zf<|zg<|zd<|za (yJ U) U<|za (zZ U U) U ?_
  obtain⟨q1,h⟩:=h
  refine zn (zF (xs:=[.tmp 4]) (ids:=[]) U U U U (c_impl_IsTable r q1) U ?_)
  rintro _ rfl
  refine⟨U,?_⟩
  refine za (zc U) U<|zX (s:=6) U (fun q3=>?_) (fun q3=>?_)
  ·replace h:=h.1 (q3)
   refine zE U U q3<|za (yJ U) U<|zE U U q3<|za (zZ U U) U<|zE U U q3 ?_
   obtain⟨q4,h⟩:=h
   refine zn (zF (xs:=[.tmp 8]) (ids:=[]) U U U U (c_impl_permutationRows r q4) U ?_)
   rintro _ rfl
   refine⟨U,?_⟩
   refine za (zU U q3 U) U<|za (zc U) U<|zX (s:=11) U (fun q6=>?_) (fun q6=>?_)
   ·replace h:=h.1 (q6)
    refine zE U U q6<|za (yJ U) U<|zE U U q6<|za (zZ U U) U<|zE U U q6 ?_
    by_cases q7:(rackF r) = []
    ·replace h:=h.1 q7
     obtain⟨q8,h⟩:=h
     refine zn (zF (xs:=[.tmp 13]) (ids:=[]) U U U U (AF.onil_n (c_impl_rackFault r q8) q7) U ?_)
     rintro _ rfl
     refine⟨U,?_⟩
     exact zE U U q6<|za (ss_eql_nil U U) U<|za (zU U q6 U) U<|za (ze U) U<|zf<|zA<|zr (zH U (zw U)) U U ⟨_,(zq _),_,h,U⟩
    ·replace h:=h.2 q7
     obtain⟨q10,h⟩:=h
     refine zn (zF (xs:=[.tmp 13]) (ids:=[14]) U U U U (AF.onil_o (c_impl_rackFault r q10) q7) U ?_)
     rintro _ rfl
     refine⟨U,?_⟩
     exact zE U U q6<|za (ss_eql_refNil U U (map_ne q7) U) U<|za (zU U q6 U) U<|za (ze U) U<|zf<|zA<|zr (zH U (zw U)) U U ⟨_,(zq _),_,h,U⟩
   ·replace h:=h.2 (q6)
    exact zC U U q6 U<|zC U U q6 U<|zC U U q6 U<|zC U U q6 U<|za (zV U q6 U) U<|za (ze U) U<|zf<|zA<|zr (zH U (zw U)) U U ⟨_,(zq _),_,h,U⟩
  ·replace h:=h.2 (q3)
   refine zC U U q3 U<|zC U U q3 U<|zC U U q3 U<|za (zV U q3 U) U<|za (zc U) U<|zX (s:=11) U (fun q12=>?_) (fun q12=>?_)
   ·cases q12
   ·skip
    exact zC U U q12 U<|zC U U q12 U<|zC U U q12 U<|zC U U q12 U<|za (zV U q12 U) U<|za (ze U) U<|zf<|zA<|zr (zH U (zw U)) U U ⟨_,(zq _),_,h,U⟩
theorem c_impl_IsRack (r:List (List Int)) (hp:small2 r):AF Tryz.prog 24 [.agg [.lst (rows r)]] (fun R_=>R_ = cb (isRk r)):=
  (w_impl_IsRack r (fun y0=>y0 = isRk r) (p_impl_IsRack r hp)).mono (by rintro r ⟨_,rfl,rfl⟩; rfl)
theorem w_spec_l03Is (r:List (List Int)) (Q:Bool->Prop) (h:wp_spec_l03Is r Q):AF Tryz.prog 20 [.agg [.lst (rows r)]] (fun R_=>∃ y0,Q y0/\R_ = cb y0):=by
  refine zS (zM (n:=27) Tryz.func20 U (by rfl) U (zb U) ?_)
  unfold wp_spec_l03Is at h
  refine zg<|zk (zl (n:=27) (σ':=[]) (env':=[(0,.c (.agg [.lst (rows r)]))]) U U E1)<|zd<|zn (y8 U (.inl U) U ⟨U,?_⟩)
  refine za (ze U) U<|zf<|zg<|zg<|zd<|za (yJ U) U<|za (zZ U U) U ?_
  obtain⟨q1,h⟩:=h
  refine zn (zF (xs:=[.tmp 5]) (ids:=[]) U U U U (c_spec_l01Table r q1) U ?_)
  rintro _ rfl
  refine⟨U,?_⟩
  refine za (yA U) U<|zf<|zm U (fun q3=>?_) (fun q3=>?_)
  ·replace h:=h.1 ((ya q3))
   exact zg<|zk (zl (n:=27) (σ':=[]) (env':=[(2,.c (cb false))]) U U E1)<|zd<|za (ze U) U<|zf<|zA<|zr (zH U (zw U)) U U ⟨_,(zq _),_,h,U⟩
  ·replace h:=h.2 ((yb q3))
   refine zu<|zg<|zg<|zk (zl (n:=27) (σ':=[]) (env':=[(1,.c (.ptr [.lst (rows r)]))]) U U E1)<|zd<|za (ze U) U<|zf<|zt ?_
   obtain⟨H1,m1,q4,h⟩:=h
   refine yy (fun (v3_1:Int)=>⟨[],[(1,.c (.ptr [.lst (rows r)])),(3,.c (ci v3_1))],27⟩) H1 m1 ⟨0,zv (n:=27) U U E2,q4⟩ ?_
   rintro v3_1 q4
   replace h:=h v3_1 q4
   refine zg<|zg<|zd<|za (zc U) U<|za (yJ U) U<|za (zZ U U) U<|za (zJ (f:=(fun r=>C.lst (ints r))) U) U<|za (zO U U) U<|zf<|zm U (fun q5=>?_) (fun q5=>?_)
   ·replace h:=h.1 (zj q5)
    refine zu<|zg<|zt<|zg<|zd<|za (yJ U) U<|za (zZ U U) U<|za (zc U) U ?_
    obtain⟨q6,h⟩:=h
    refine za (zB U U q6) U<|za (zx (f:=(fun r=>C.lst (ints r))) U q6) U ?_
    obtain⟨q7,h⟩:=h
    refine zn (zF (xs:=[.tmp 19]) (ids:=[]) U U U U (c_spec_l01Perm (el r v3_1) q7) U ?_)
    rintro _ rfl
    refine⟨U,?_⟩
    refine za (yA U) U<|zf<|zm U (fun q9=>?_) (fun q9=>?_)
    ·replace h:=h.1 ((ya q9))
     exact zg<|zk (zl (n:=27) (σ':=[]) (env':=[]) U U trivial)<|zd<|za (ze U) U<|zf<|zA<|zr (zH U (zw U)) U U ⟨_,(zq _),_,h,U⟩
    ·replace h:=h.2 ((yb q9))
     refine zu<|zk (zl (n:=27) (σ':=[]) (env':=[(1,.c (.ptr [.lst (rows r)])),(3,.c (ci v3_1))]) U U E2)<|zd<|za (zc U) U ?_
     obtain⟨q10,h⟩:=h
     exact za (zG U U q10) U<|za (ze U) U<|zf<|⟨v3_1 + 1,zv (n:=27) U U E2,h.1,h.2⟩
   ·replace h:=h.2 (zh q5)
    refine zL<|zg<|zd<|za (yJ U) U<|za (zZ U U) U ?_
    obtain⟨q11,h⟩:=h
    refine zn (zF (xs:=[.tmp 23]) (ids:=[24]) U U U U (c_spec_l03Fault r q11) U ?_)
    rintro _ rfl
    refine⟨U,?_⟩
    exact za (yR (f:=ci) U U) U<|za (yE U U) U<|za (ze U) U<|zf<|zA<|zr (zH U (zw U)) U U ⟨_,(zq _),_,h,U⟩
theorem c_spec_l03Is (r:List (List Int)) (hp:small2 r):AF Tryz.prog 20 [.agg [.lst (rows r)]] (fun R_=>R_ = cb (isRk r)):=
  (w_spec_l03Is r (fun y0=>y0 = isRk r) (p_spec_l03Is r hp)).mono (by rintro r ⟨_,rfl,rfl⟩; rfl)
def wp_spec_l03Fits (a:List (List (List Int))) (b:List (List (List Int))) (f:List Int) (Q:Bool->Prop):Prop:=
 (InI ((f.length:Int) - 1))/\
 ∃ (H1:Int->Prop) (m1:Int->Nat),
 H1 0/\
 ∀ (v8_1:Int),H1 v8_1->
 (((v8_1 < (a.length:Int)->
 ∃ (H2:Int->Prop) (m2:Int->Nat),
 H2 0/\
 ∀ (v9_2:Int),H2 v9_2->
 (((v9_2<=(f.length:Int) - 1->
 ∃ (H3:Int->Prop) (m3:Int->Nat),
 H3 0/\
 ∀ (v10_3:Int),H3 v10_3->
 (((v10_3<=(f.length:Int) - 1->
 (0<=v8_1/\v8_1 < (a.length:Int))/\
 (0<=v9_2/\v9_2 < ((el a v8_1).length:Int))/\
 (0<=v10_3/\v10_3 < ((el (el a v8_1) v9_2).length:Int))/\
 (((f.length:Int) - 1 < el (el (el a v8_1) v9_2) v10_3->
 (InI (v10_3 + 1))/\
 (H3 (v10_3 + 1)/\m3 (v10_3 + 1) < m3 v10_3))/\
 (¬ ((f.length:Int) - 1 < el (el (el a v8_1) v9_2) v10_3)->
 ((v9_2 < (f.length:Int) - 1->
 ((v10_3 < (f.length:Int) - 1->
 ((el (el (el a v8_1) v9_2) v10_3 < (f.length:Int) - 1->
 (InI (v10_3 + 1))/\
 (H3 (v10_3 + 1)/\m3 (v10_3 + 1) < m3 v10_3))/\
 (¬ (el (el (el a v8_1) v9_2) v10_3 < (f.length:Int) - 1)->
 (0<=el (el (el a v8_1) v9_2) v10_3/\el (el (el a v8_1) v9_2) v10_3 < (f.length:Int))/\
 (0<=v8_1/\v8_1 < (b.length:Int))/\
 (0<=v9_2/\v9_2 < (f.length:Int))/\
 (0<=v10_3/\v10_3 < (f.length:Int))/\
 (0<=el f v9_2/\el f v9_2 < ((el b v8_1).length:Int))/\
 (0<=el f v10_3/\el f v10_3 < ((el (el b v8_1) (el f v9_2)).length:Int))/\
 ((¬ (el f (el (el (el a v8_1) v9_2) v10_3) = el (el (el b v8_1) (el f v9_2)) (el f v10_3))->
 Q false)/\
 (el f (el (el (el a v8_1) v9_2) v10_3) = el (el (el b v8_1) (el f v9_2)) (el f v10_3)->
 (InI (v10_3 + 1))/\
 (H3 (v10_3 + 1)/\m3 (v10_3 + 1) < m3 v10_3))))))/\
 (¬ (v10_3 < (f.length:Int) - 1)->
 (0<=el (el (el a v8_1) v9_2) v10_3/\el (el (el a v8_1) v9_2) v10_3 < (f.length:Int))/\
 (0<=v8_1/\v8_1 < (b.length:Int))/\
 (0<=v9_2/\v9_2 < (f.length:Int))/\
 (0<=v10_3/\v10_3 < (f.length:Int))/\
 (0<=el f v9_2/\el f v9_2 < ((el b v8_1).length:Int))/\
 (0<=el f v10_3/\el f v10_3 < ((el (el b v8_1) (el f v9_2)).length:Int))/\
 ((¬ (el f (el (el (el a v8_1) v9_2) v10_3) = el (el (el b v8_1) (el f v9_2)) (el f v10_3))->
 Q false)/\
 (el f (el (el (el a v8_1) v9_2) v10_3) = el (el (el b v8_1) (el f v9_2)) (el f v10_3)->
 (InI (v10_3 + 1))/\
 (H3 (v10_3 + 1)/\m3 (v10_3 + 1) < m3 v10_3))))))/\
 (¬ (v9_2 < (f.length:Int) - 1)->
 (0<=el (el (el a v8_1) v9_2) v10_3/\el (el (el a v8_1) v9_2) v10_3 < (f.length:Int))/\
 (0<=v8_1/\v8_1 < (b.length:Int))/\
 (0<=v9_2/\v9_2 < (f.length:Int))/\
 (0<=v10_3/\v10_3 < (f.length:Int))/\
 (0<=el f v9_2/\el f v9_2 < ((el b v8_1).length:Int))/\
 (0<=el f v10_3/\el f v10_3 < ((el (el b v8_1) (el f v9_2)).length:Int))/\
 ((¬ (el f (el (el (el a v8_1) v9_2) v10_3) = el (el (el b v8_1) (el f v9_2)) (el f v10_3))->
 Q false)/\
 (el f (el (el (el a v8_1) v9_2) v10_3) = el (el (el b v8_1) (el f v9_2)) (el f v10_3)->
 (InI (v10_3 + 1))/\
 (H3 (v10_3 + 1)/\m3 (v10_3 + 1) < m3 v10_3))))))))/\
 (¬ (v10_3<=(f.length:Int) - 1)->
 (InI (v9_2 + 1))/\
 (H2 (v9_2 + 1)/\m2 (v9_2 + 1) < m2 v9_2)))))/\
 (¬ (v9_2<=(f.length:Int) - 1)->
 (InI (v8_1 + 1))/\
 (H1 (v8_1 + 1)/\m1 (v8_1 + 1) < m1 v8_1)))))/\
 (¬ (v8_1 < (a.length:Int))->
 Q true)))
theorem p_spec_l03Fits (a b:List (List (List Int))) (f:List Int) (hp:fitD a b f):wp_spec_l03Fits a b f (fun y0=>y0 = dec (conA a b f)):=by
  unfold wp_spec_l03Fits
  obtain⟨hsm,hsf,hbl,hall⟩:=hp
  have small12 : ∀ k,0<=k->k < (a.length:Int)->(f.length:Int)<=12:=fun k k0 k1=>by
    obtain⟨h1,_,h3,_⟩:=hall k k0 k1
    have:=isTab_len h1; omega
  refine⟨?_,fun k=>0<=k/\k<=(a.length:Int)/\Upto k fun k=>conP (el a k) (el b k) f,fun k=>((a.length:Int) - k).toNat,⟨by omega,by omega,upto0⟩,?_⟩
  · have:(f.length:Int)<=1000000000:=hsf
    exact⟨by omega,by omega⟩
  rintro k ⟨k0,k1,kI⟩
  dsimp only
  refine⟨fun klt=>?_,fun kge=>(dec_t fun k a b=>kI k a (by omega)).symm⟩
  have f12:=small12 k k0 klt
  obtain⟨hta,htb,hfl,hfe,hprev⟩:=hall k k0 klt
  refine⟨fun x=>0<=x/\x<=(f.length:Int)/\Upto x fun x=>∀ y,0<=y->y < (f.length:Int)->el (el (el a k) x) y < (f.length:Int)->el f (el (el (el a k) x) y) = el (el (el b k) (el f x)) (el f y),fun x=>((f.length:Int) - x).toNat,⟨by omega,by omega,upto0⟩,?_⟩
  rintro x ⟨x0,x1,xI⟩
  dsimp only
  refine⟨fun xlt=>?_,fun xge=>⟨⟨by omega,by omega⟩,⟨by omega,by omega,upto1 kI fun x y p q r s t=>xI x p (by omega) y r s t⟩,by omega⟩⟩
  refine⟨fun y=>0<=y/\y<=(f.length:Int)/\Upto y fun y=>el (el (el a k) x) y < (f.length:Int)->el f (el (el (el a k) x) y) = el (el (el b k) (el f x)) (el f y),fun y=>((f.length:Int) - y).toNat,⟨by omega,by omega,upto0⟩,?_⟩
  rintro y ⟨y0,y1,yI⟩
  dsimp only
  refine⟨fun ylt=>?_,fun yge=>⟨⟨by omega,by omega⟩,⟨by omega,by omega,upto1 xI fun y p q=>yI y p (by omega)⟩,by omega⟩⟩
  have hx:0<=x/\x < ((el a k).length:Int):=⟨x0,by omega⟩
  have e:=rk_el hta hx (y:=y) ⟨y0,by omega⟩
  have l:=rk_len hta hx
  have fx:=hfe _ (el_mem (l:=f) (i:=x) ⟨x0,by omega⟩)
  have fy:=hfe _ (el_mem (l:=f) (i:=y) ⟨y0,by omega⟩)
  have ls:=rk_len htb fx
  have skip:(el (el (el a k) x) y < (f.length:Int)->el f (el (el (el a k) x) y) = el (el (el b k) (el f x)) (el f y))->InI (y + 1)/\(0<=y + 1/\y + 1<=(f.length:Int)/\Upto (y + 1) fun y=>el (el (el a k) x) y < (f.length:Int)->el f (el (el (el a k) x) y) = el (el (el b k) (el f x)) (el f y))/\((f.length:Int) - (y + 1)).toNat < ((f.length:Int) - y).toNat:=fun h=>⟨⟨by omega,by omega⟩,⟨by omega,by omega,upto1 yI h⟩,by omega⟩
  have key : ¬ ((f.length:Int) - 1 < el (el (el a k) x) y)->(0<=el (el (el a k) x) y/\el (el (el a k) x) y < (f.length:Int))/\(0<=k/\k < (b.length:Int))/\(0<=x/\x < (f.length:Int))/\(0<=y/\y < (f.length:Int))/\(0<=el f x/\el f x < ((el b k).length:Int))/\(0<=el f y/\el f y < ((el (el b k) (el f x)).length:Int))/\
      (¬ (el f (el (el (el a k) x) y) = el (el (el b k) (el f x)) (el f y))->false = dec (conA a b f))/\(el f (el (el (el a k) x) y) = el (el (el b k) (el f x)) (el f y)->InI (y + 1)/\(0<=y + 1/\y + 1<=(f.length:Int)/\Upto (y + 1) fun y=>el (el (el a k) x) y < (f.length:Int)->el f (el (el (el a k) x) y) = el (el (el b k) (el f x)) (el f y))/\((f.length:Int) - (y + 1)).toNat < ((f.length:Int) - y).toNat):=fun h1=>
    ⟨⟨e.1,by omega⟩,⟨k0,by omega⟩,⟨x0,by omega⟩,⟨y0,by omega⟩,fx,⟨fy.1,by omega⟩,fun h2=>(dec_f fun hC=>h2 (hC k k0 klt x y x0 (by omega) y0 (by omega) (by omega))).symm,fun h2=>skip fun _=>h2⟩
  refine⟨⟨k0,klt⟩,hx,⟨y0,by omega⟩,fun h1=>skip fun h=>by omega,fun h1=>⟨fun h2=>⟨fun h3=>⟨fun h4=>skip fun _=>hprev x y x0 h2 y0 h3 h4,fun h4=>key h1⟩,fun h3=>key h1⟩,fun h2=>key h1⟩⟩
theorem w_spec_l03Fits (a:List (List (List Int))) (b:List (List (List Int))) (f:List Int) (Q:Bool->Prop) (h:wp_spec_l03Fits a b f Q):AF Tryz.prog 46 [.lst (tabs a),.lst (tabs b),.lst (ints f)] (fun R_=>∃ y0,Q y0/\R_ = cb y0):=by
  refine zS (zM (n:=80) Tryz.func46 U (by rfl) U (zb U) ?_)
  unfold wp_spec_l03Fits at h
  refine zg<|zk (zl (n:=80) (σ':=[]) (env':=[(0,.c (.lst (tabs a))),(1,.c (.lst (tabs b))),(2,.c (.lst (ints f)))]) U U E3)<|zd<|za (ze U) U<|zf<|zg<|zd<|za (zc U) U<|za (zJ (f:=ci) U) U ?_
  obtain⟨q1,h⟩:=h
  refine za (yS U U q1) U<|za (ze U) U<|zf<|zg<|zg<|zd<|za (ze U) U<|zf<|zt ?_
  obtain⟨H1,m1,q2,h⟩:=h
  refine yy (fun (v8_1:Int)=>⟨[],[(0,.c (.lst (tabs a))),(1,.c (.lst (tabs b))),(2,.c (.lst (ints f))),(7,.c (ci ((f.length:Int) - 1))),(8,.c (ci v8_1))],80⟩) H1 m1 ⟨0,zv (n:=80) U U E5,q2⟩ ?_
  rintro v8_1 q2
  replace h:=h v8_1 q2
  refine zg<|zg<|zd<|za (zc U) U<|za (zc U) U<|za (zJ (f:=(fun r=>C.lst (rows r))) U) U<|za (zO U U) U<|zf<|zm U (fun q3=>?_) (fun q3=>?_)
  ·replace h:=h.1 (zj q3)
   refine zu<|zg<|zt<|zg<|zd<|za (ze U) U<|zf<|zt ?_
   obtain⟨H2,m2,q4,h⟩:=h
   refine yy (fun (v9_2:Int)=>⟨[],[(0,.c (.lst (tabs a))),(1,.c (.lst (tabs b))),(2,.c (.lst (ints f))),(7,.c (ci ((f.length:Int) - 1))),(8,.c (ci v8_1)),(9,.c (ci v9_2))],80⟩) H2 m2 ⟨0,zv (n:=80) U U E6,q4⟩ ?_
   rintro v9_2 q4
   replace h:=h v9_2 q4
   refine zg<|zg<|zd<|za (zc U) U<|za (zc U) U<|za (ss_leq U U) U<|zf<|zm U (fun q5=>?_) (fun q5=>?_)
   ·replace h:=h.1 (zj q5)
    refine zu<|zg<|zt<|zg<|zd<|za (ze U) U<|zf<|zt ?_
    obtain⟨H3,m3,q6,h⟩:=h
    refine yy (fun (v10_3:Int)=>⟨[],[(0,.c (.lst (tabs a))),(1,.c (.lst (tabs b))),(2,.c (.lst (ints f))),(7,.c (ci ((f.length:Int) - 1))),(8,.c (ci v8_1)),(9,.c (ci v9_2)),(10,.c (ci v10_3))],80⟩) H3 m3 ⟨0,zv (n:=80) U U E7,q6⟩ ?_
    rintro v10_3 q6
    replace h:=h v10_3 q6
    refine zg<|zg<|zd<|za (zc U) U<|za (zc U) U<|za (ss_leq U U) U<|zf<|zm U (fun q7=>?_) (fun q7=>?_)
    ·replace h:=h.1 (zj q7)
     refine zu<|zg<|zt<|zg<|zd<|za (zc U) U<|za (zc U) U ?_
     obtain⟨q8,h⟩:=h
     refine za (zB U U q8) U<|za (zx (f:=(fun r=>C.lst (rows r))) U q8) U<|za (zc U) U ?_
     obtain⟨q9,h⟩:=h
     refine za (zB U U q9) U<|za (zx (f:=(fun r=>C.lst (ints r))) U q9) U<|za (zc U) U ?_
     obtain⟨q10,h⟩:=h
     refine za (zB U U q10) U<|za (zx (f:=ci) U q10) U<|za (ze U) U<|zf<|zg<|zg<|zd<|za (zc U) U<|za (zc U) U<|za (ss_gtr U U) U<|za (zc U) U<|zX (s:=44) U (fun q11=>?_) (fun q11=>?_)
     ·replace h:=h.1 (zj q11)
      refine zC U U q11 U<|zC U U q11 U<|zC U U q11 U<|run_gfu U U q11 U<|run_gu U U U<|run_gu U U U<|run_gu U U U<|zC U U q11 U<|run_gfu U U q11 U<|run_gu U U U<|run_gu U U U<|run_gu U U U<|zC U U q11 U<|za (zU U q11 U) U<|zf<|zm U (fun q12=>?_) (fun q12=>?_)
      ·skip
       refine zL<|zk (zl (n:=80) (σ':=[]) (env':=[(0,.c (.lst (tabs a))),(1,.c (.lst (tabs b))),(2,.c (.lst (ints f))),(7,.c (ci ((f.length:Int) - 1))),(8,.c (ci v8_1)),(9,.c (ci v9_2)),(10,.c (ci v10_3))]) U U E7)<|zd<|za (zc U) U ?_
       obtain⟨q13,h⟩:=h
       exact za (zG U U q13) U<|za (ze U) U<|zf<|⟨v10_3 + 1,zv (n:=80) U U E7,h.1,h.2⟩
      ·cases q12
     ·replace h:=h.2 (zh q11)
      refine zE U U q11<|za (zc U) U<|zE U U q11<|za (zc U) U<|zE U U q11<|za (zO U U) U<|zE U U q11<|za (zc U) U<|zX (s:=48) U (fun q14=>?_) (fun q14=>?_)
      ·replace h:=h.1 (zj q14)
       refine zE U U q14<|za (zc U) U<|zE U U q14<|za (zc U) U<|zE U U q14<|za (zO U U) U<|zE U U q11<|za (zU U q14 U) U<|zE U U q11<|za (zc U) U<|zX (s:=53) U (fun q15=>?_) (fun q15=>?_)
       ·replace h:=h.1 (zj q15)
        refine zE U U q15<|za (zc U) U<|zE U U q15<|za (zc U) U<|zE U U q15<|za (zO U U) U<|zE U U q11<|za (zU U q15 U) U<|za (zV U q11 U) U<|zf<|zm U (fun q16=>?_) (fun q16=>?_)
        ·replace h:=h.1 (zj q16)
         refine zL<|zk (zl (n:=80) (σ':=[]) (env':=[(0,.c (.lst (tabs a))),(1,.c (.lst (tabs b))),(2,.c (.lst (ints f))),(7,.c (ci ((f.length:Int) - 1))),(8,.c (ci v8_1)),(9,.c (ci v9_2)),(10,.c (ci v10_3)),(45,.c (ci v9_2)),(46,.c (ci ((f.length:Int) - 1))),(47,.c (cb (decide (v9_2 < (f.length:Int) - 1)))),(48,.c (cb (decide (v9_2 < (f.length:Int) - 1)))),(49,.c (ci v10_3)),(50,.c (ci ((f.length:Int) - 1))),(51,.c (cb (decide (v10_3 < (f.length:Int) - 1)))),(52,.c (cb (decide (v10_3 < (f.length:Int) - 1)))),(53,.c (cb (decide (v10_3 < (f.length:Int) - 1)))),(54,.c (ci (el (el (el a v8_1) v9_2) v10_3))),(55,.c (ci ((f.length:Int) - 1))),(56,.c (cb (decide (el (el (el a v8_1) v9_2) v10_3 < (f.length:Int) - 1)))),(57,.c (cb (decide (el (el (el a v8_1) v9_2) v10_3 < (f.length:Int) - 1))))]) U U ⟨U,U,U,U,U,U,U,U,U,U,U,U,U,U,U,U,U,U,U,U,trivial⟩)<|zd<|za (zc U) U ?_
         obtain⟨q17,h⟩:=h
         exact za (zG U U q17) U<|za (ze U) U<|zf<|⟨v10_3 + 1,zv (n:=80) U U E7,h.1,h.2⟩
        ·replace h:=h.2 (zh q16)
         refine zu<|zg<|zk (zl (n:=80) (σ':=[]) (env':=[(0,.c (.lst (tabs a))),(1,.c (.lst (tabs b))),(2,.c (.lst (ints f))),(7,.c (ci ((f.length:Int) - 1))),(8,.c (ci v8_1)),(9,.c (ci v9_2)),(10,.c (ci v10_3)),(11,.c (ci (el (el (el a v8_1) v9_2) v10_3))),(45,.c (ci v9_2)),(46,.c (ci ((f.length:Int) - 1))),(47,.c (cb (decide (v9_2 < (f.length:Int) - 1)))),(48,.c (cb (decide (v9_2 < (f.length:Int) - 1)))),(49,.c (ci v10_3)),(50,.c (ci ((f.length:Int) - 1))),(51,.c (cb (decide (v10_3 < (f.length:Int) - 1)))),(52,.c (cb (decide (v10_3 < (f.length:Int) - 1)))),(53,.c (cb (decide (v10_3 < (f.length:Int) - 1)))),(54,.c (ci (el (el (el a v8_1) v9_2) v10_3))),(55,.c (ci ((f.length:Int) - 1))),(56,.c (cb (decide (el (el (el a v8_1) v9_2) v10_3 < (f.length:Int) - 1)))),(57,.c (cb (decide (el (el (el a v8_1) v9_2) v10_3 < (f.length:Int) - 1))))]) U U ⟨U,U,U,U,U,U,U,U,U,U,U,U,U,U,U,U,U,U,U,U,U,trivial⟩)<|zP (kd:=kdl [0,0,0,1,0,0,0,1,0,0,0,1,0,1,0,0,0,1,0,1,0]) (ord:=[0,1,2,4,5,6,8,9,10,14,15,16,3,7,11,12,13,17,18,19,20]) [] mixed (by kernel_rfl)<|zp U U trivial (zc U) U<|zp U U trivial (zc U) U ?_
         obtain⟨q18,h⟩:=h
         refine zp U U trivial (zB U U q18) U<|zp U U trivial (zc U) U<|zp U U trivial (zc U) U ?_
         obtain⟨q19,h⟩:=h
         refine zp U U trivial (zB U U q19) U<|zp U U trivial (zc U) U<|zp U U trivial (zc U) U ?_
         obtain⟨q20,h⟩:=h
         refine zp U U trivial (zB U U q20) U<|zp U U trivial (zc U) U<|zp U U trivial (zc U) U ?_
         obtain⟨q21,h⟩:=h
         refine zp U U trivial (zB U U q21) U<|zY U U trivial (zx (f:=ci) U q18) U<|zY U U trivial (zx (f:=(fun r=>C.lst (rows r))) U q19) U<|zY U U trivial (zx (f:=ci) U q20) U ?_
         obtain⟨q22,h⟩:=h
         refine zp U U trivial (zB U U q22) U<|zY U U trivial (zx (f:=(fun r=>C.lst (ints r))) U q22) U<|zY U U trivial (zx (f:=ci) U q21) U ?_
         obtain⟨q23,h⟩:=h
         refine zp U U trivial (zB U U q23) U<|zY U U trivial (zx (f:=ci) U q23) U<|zp U U trivial (yQ U U) U<|yh<|zm U (fun q24=>?_) (fun q24=>?_)
         ·replace h:=h.1 (zh (ya q24))
          exact zg<|zk (zl (n:=80) (σ':=[]) (env':=[]) U U trivial)<|zd<|za (ze U) U<|zf<|zA<|zr (zH U (zw U)) U U ⟨_,(zq _),_,h,U⟩
         ·replace h:=h.2 (zj (yb q24))
          refine zu<|zk (zl (n:=80) (σ':=[]) (env':=[(0,.c (.lst (tabs a))),(1,.c (.lst (tabs b))),(2,.c (.lst (ints f))),(7,.c (ci ((f.length:Int) - 1))),(8,.c (ci v8_1)),(9,.c (ci v9_2)),(10,.c (ci v10_3)),(45,.c (ci v9_2)),(46,.c (ci ((f.length:Int) - 1))),(47,.c (cb (decide (v9_2 < (f.length:Int) - 1)))),(48,.c (cb (decide (v9_2 < (f.length:Int) - 1)))),(49,.c (ci v10_3)),(50,.c (ci ((f.length:Int) - 1))),(51,.c (cb (decide (v10_3 < (f.length:Int) - 1)))),(52,.c (cb (decide (v10_3 < (f.length:Int) - 1)))),(53,.c (cb (decide (v10_3 < (f.length:Int) - 1)))),(54,.c (ci (el (el (el a v8_1) v9_2) v10_3))),(55,.c (ci ((f.length:Int) - 1))),(56,.c (cb (decide (el (el (el a v8_1) v9_2) v10_3 < (f.length:Int) - 1)))),(57,.c (cb (decide (el (el (el a v8_1) v9_2) v10_3 < (f.length:Int) - 1))))]) U U ⟨U,U,U,U,U,U,U,U,U,U,U,U,U,U,U,U,U,U,U,U,trivial⟩)<|zd<|za (zc U) U ?_
          obtain⟨q25,h⟩:=h
          exact za (zG U U q25) U<|za (ze U) U<|zf<|⟨v10_3 + 1,zv (n:=80) U U E7,h.1,h.2⟩
       ·replace h:=h.2 (zh q15)
        refine zC U U q15 U<|zC U U q15 U<|zC U U q15 U<|zE U U q11<|za (zV U q15 U) U<|za (zV U q11 U) U<|zf<|zm U (fun q26=>?_) (fun q26=>?_)
        ·cases q26
        ·skip
         refine zu<|zg<|zk (zl (n:=80) (σ':=[]) (env':=[(0,.c (.lst (tabs a))),(1,.c (.lst (tabs b))),(2,.c (.lst (ints f))),(7,.c (ci ((f.length:Int) - 1))),(8,.c (ci v8_1)),(9,.c (ci v9_2)),(10,.c (ci v10_3)),(11,.c (ci (el (el (el a v8_1) v9_2) v10_3))),(45,.c (ci v9_2)),(46,.c (ci ((f.length:Int) - 1))),(47,.c (cb (decide (v9_2 < (f.length:Int) - 1)))),(48,.c (cb (decide (v9_2 < (f.length:Int) - 1)))),(49,.c (ci v10_3)),(50,.c (ci ((f.length:Int) - 1))),(51,.c (cb (decide (v10_3 < (f.length:Int) - 1)))),(52,.c (cb (decide (v10_3 < (f.length:Int) - 1)))),(53,.c (cb (decide (v10_3 < (f.length:Int) - 1)))),(57,.c (cb false))]) U U ⟨U,U,U,U,U,U,U,U,U,U,U,U,U,U,U,U,U,U,trivial⟩)<|zP (kd:=kdl [0,0,0,1,0,0,0,1,0,0,0,1,0,1,0,0,0,1,0,1,0]) (ord:=[0,1,2,4,5,6,8,9,10,14,15,16,3,7,11,12,13,17,18,19,20]) [] mixed (by kernel_rfl)<|zp U U trivial (zc U) U<|zp U U trivial (zc U) U ?_
         obtain⟨q27,h⟩:=h
         refine zp U U trivial (zB U U q27) U<|zp U U trivial (zc U) U<|zp U U trivial (zc U) U ?_
         obtain⟨q28,h⟩:=h
         refine zp U U trivial (zB U U q28) U<|zp U U trivial (zc U) U<|zp U U trivial (zc U) U ?_
         obtain⟨q29,h⟩:=h
         refine zp U U trivial (zB U U q29) U<|zp U U trivial (zc U) U<|zp U U trivial (zc U) U ?_
         obtain⟨q30,h⟩:=h
         refine zp U U trivial (zB U U q30) U<|zY U U trivial (zx (f:=ci) U q27) U<|zY U U trivial (zx (f:=(fun r=>C.lst (rows r))) U q28) U<|zY U U trivial (zx (f:=ci) U q29) U ?_
         obtain⟨q31,h⟩:=h
         refine zp U U trivial (zB U U q31) U<|zY U U trivial (zx (f:=(fun r=>C.lst (ints r))) U q31) U<|zY U U trivial (zx (f:=ci) U q30) U ?_
         obtain⟨q32,h⟩:=h
         refine zp U U trivial (zB U U q32) U<|zY U U trivial (zx (f:=ci) U q32) U<|zp U U trivial (yQ U U) U<|yh<|zm U (fun q33=>?_) (fun q33=>?_)
         ·replace h:=h.1 (zh (ya q33))
          exact zg<|zk (zl (n:=80) (σ':=[]) (env':=[]) U U trivial)<|zd<|za (ze U) U<|zf<|zA<|zr (zH U (zw U)) U U ⟨_,(zq _),_,h,U⟩
         ·replace h:=h.2 (zj (yb q33))
          refine zu<|zk (zl (n:=80) (σ':=[]) (env':=[(0,.c (.lst (tabs a))),(1,.c (.lst (tabs b))),(2,.c (.lst (ints f))),(7,.c (ci ((f.length:Int) - 1))),(8,.c (ci v8_1)),(9,.c (ci v9_2)),(10,.c (ci v10_3)),(45,.c (ci v9_2)),(46,.c (ci ((f.length:Int) - 1))),(47,.c (cb (decide (v9_2 < (f.length:Int) - 1)))),(48,.c (cb (decide (v9_2 < (f.length:Int) - 1)))),(49,.c (ci v10_3)),(50,.c (ci ((f.length:Int) - 1))),(51,.c (cb (decide (v10_3 < (f.length:Int) - 1)))),(52,.c (cb (decide (v10_3 < (f.length:Int) - 1)))),(53,.c (cb (decide (v10_3 < (f.length:Int) - 1)))),(57,.c (cb false))]) U U ⟨U,U,U,U,U,U,U,U,U,U,U,U,U,U,U,U,U,trivial⟩)<|zd<|za (zc U) U ?_
          obtain⟨q34,h⟩:=h
          exact za (zG U U q34) U<|za (ze U) U<|zf<|⟨v10_3 + 1,zv (n:=80) U U E7,h.1,h.2⟩
      ·replace h:=h.2 (zh q14)
       refine zC U U q14 U<|zC U U q14 U<|zC U U q14 U<|zE U U q11<|za (zV U q14 U) U<|zE U U q11<|za (zc U) U<|zX (s:=53) U (fun q35=>?_) (fun q35=>?_)
       ·cases q35
       ·skip
        refine zC U U q35 U<|zC U U q35 U<|zC U U q35 U<|zE U U q11<|za (zV U q35 U) U<|za (zV U q11 U) U<|zf<|zm U (fun q36=>?_) (fun q36=>?_)
        ·cases q36
        ·skip
         refine zu<|zg<|zk (zl (n:=80) (σ':=[]) (env':=[(0,.c (.lst (tabs a))),(1,.c (.lst (tabs b))),(2,.c (.lst (ints f))),(7,.c (ci ((f.length:Int) - 1))),(8,.c (ci v8_1)),(9,.c (ci v9_2)),(10,.c (ci v10_3)),(11,.c (ci (el (el (el a v8_1) v9_2) v10_3))),(45,.c (ci v9_2)),(46,.c (ci ((f.length:Int) - 1))),(47,.c (cb (decide (v9_2 < (f.length:Int) - 1)))),(48,.c (cb (decide (v9_2 < (f.length:Int) - 1)))),(52,.c (cb false)),(53,.c (cb false)),(57,.c (cb false))]) U U ⟨U,U,U,U,U,U,U,U,U,U,U,U,U,U,U,trivial⟩)<|zP (kd:=kdl [0,0,0,1,0,0,0,1,0,0,0,1,0,1,0,0,0,1,0,1,0]) (ord:=[0,1,2,4,5,6,8,9,10,14,15,16,3,7,11,12,13,17,18,19,20]) [] mixed (by kernel_rfl)<|zp U U trivial (zc U) U<|zp U U trivial (zc U) U ?_
         obtain⟨q37,h⟩:=h
         refine zp U U trivial (zB U U q37) U<|zp U U trivial (zc U) U<|zp U U trivial (zc U) U ?_
         obtain⟨q38,h⟩:=h
         refine zp U U trivial (zB U U q38) U<|zp U U trivial (zc U) U<|zp U U trivial (zc U) U ?_
         obtain⟨q39,h⟩:=h
         refine zp U U trivial (zB U U q39) U<|zp U U trivial (zc U) U<|zp U U trivial (zc U) U ?_
         obtain⟨q40,h⟩:=h
         refine zp U U trivial (zB U U q40) U<|zY U U trivial (zx (f:=ci) U q37) U<|zY U U trivial (zx (f:=(fun r=>C.lst (rows r))) U q38) U<|zY U U trivial (zx (f:=ci) U q39) U ?_
         obtain⟨q41,h⟩:=h
         refine zp U U trivial (zB U U q41) U<|zY U U trivial (zx (f:=(fun r=>C.lst (ints r))) U q41) U<|zY U U trivial (zx (f:=ci) U q40) U ?_
         obtain⟨q42,h⟩:=h
         refine zp U U trivial (zB U U q42) U<|zY U U trivial (zx (f:=ci) U q42) U<|zp U U trivial (yQ U U) U<|yh<|zm U (fun q43=>?_) (fun q43=>?_)
         ·replace h:=h.1 (zh (ya q43))
          exact zg<|zk (zl (n:=80) (σ':=[]) (env':=[]) U U trivial)<|zd<|za (ze U) U<|zf<|zA<|zr (zH U (zw U)) U U ⟨_,(zq _),_,h,U⟩
         ·replace h:=h.2 (zj (yb q43))
          refine zu<|zk (zl (n:=80) (σ':=[]) (env':=[(0,.c (.lst (tabs a))),(1,.c (.lst (tabs b))),(2,.c (.lst (ints f))),(7,.c (ci ((f.length:Int) - 1))),(8,.c (ci v8_1)),(9,.c (ci v9_2)),(10,.c (ci v10_3)),(45,.c (ci v9_2)),(46,.c (ci ((f.length:Int) - 1))),(47,.c (cb (decide (v9_2 < (f.length:Int) - 1)))),(48,.c (cb (decide (v9_2 < (f.length:Int) - 1)))),(52,.c (cb false)),(53,.c (cb false)),(57,.c (cb false))]) U U ⟨U,U,U,U,U,U,U,U,U,U,U,U,U,U,trivial⟩)<|zd<|za (zc U) U ?_
          obtain⟨q44,h⟩:=h
          exact za (zG U U q44) U<|za (ze U) U<|zf<|⟨v10_3 + 1,zv (n:=80) U U E7,h.1,h.2⟩
    ·replace h:=h.2 (zh q7)
     refine zL<|zd<|za (zc U) U ?_
     obtain⟨q45,h⟩:=h
     exact za (zG U U q45) U<|za (ze U) U<|zf<|⟨v9_2 + 1,zv (n:=80) U U E6,h.1,h.2⟩
   ·replace h:=h.2 (zh q5)
    refine zL<|zd<|za (zc U) U ?_
    obtain⟨q46,h⟩:=h
    exact za (zG U U q46) U<|za (ze U) U<|zf<|⟨v8_1 + 1,zv (n:=80) U U E5,h.1,h.2⟩
  ·replace h:=h.2 (zh q3)
   exact zL<|zg<|zk (zl (n:=80) (σ':=[]) (env':=[]) U U trivial)<|zd<|za (ze U) U<|zf<|zA<|zr (zH U (zw U)) U U ⟨_,(zq _),_,h,U⟩
theorem c_spec_l03Fits (a:List (List (List Int))) (b:List (List (List Int))) (f:List Int) (hp:fitD a b f):AF Tryz.prog 46 [.lst (tabs a),.lst (tabs b),.lst (ints f)] (fun R_=>R_ = cb (dec (conA a b f))):=
  (w_spec_l03Fits a b f (fun y0=>y0 = dec (conA a b f)) (p_spec_l03Fits a b f hp)).mono (by rintro r ⟨_,rfl,rfl⟩; rfl)
def wp_spec_l01Own2 (lists:List (List Int)) (Q:List (List Int)->Prop):Prop:=
 ∃ (H1:Int->List (List Int)->Prop) (m1:Int->List (List Int)->Nat),
 H1 0 ([] : List (List Int))/\
 ∀ (v4_1:Int) (o5_1:List (List Int)),H1 v4_1 o5_1->
 (((v4_1 < (lists.length:Int)->
 (0<=v4_1/\v4_1 < (lists.length:Int))/\
 (small (el lists v4_1))/\
 ((o5_1.length:Int) + (([(el lists v4_1)]).length:Int)<=1000000000)/\
 (InI (v4_1 + 1))/\
 (H1 (v4_1 + 1) (o5_1 ++ ([(el lists v4_1)]))/\m1 (v4_1 + 1) (o5_1 ++ ([(el lists v4_1)])) < m1 v4_1 o5_1))/\
 (¬ (v4_1 < (lists.length:Int))->
 Q o5_1)))
theorem p_spec_l01Own2 (lists:List (List Int)) (hp:small2 lists):wp_spec_l01Own2 lists (fun y0=>y0 = lists):=by
  unfold wp_spec_l01Own2
  have h1:=hp.1
  refine⟨fun i o=>0<=i/\i<=(lists.length:Int)/\o.length = i.toNat/\Upto i fun x=>el o x = el lists x,fun i _=>((lists.length:Int) - i).toNat,⟨by omega,by omega,by simp,upto0⟩,?_⟩
  rintro i o ⟨i0,i1,il,iI⟩
  dsimp only
  exact⟨fun ilt=>⟨⟨i0,ilt⟩,hp.2 _ (el_mem ⟨i0,ilt⟩),by simp; omega,⟨by omega,by omega⟩,⟨by omega,by omega,by simp; omega,app1 (f:=fun x=>el lists x) (by omega) iI rfl⟩,by omega⟩,fun ige=>ext_el (by omega) fun j a b=>iI j a (by omega)⟩
theorem idxL_self {list:List (List Int)} {i:Int} (hi:0<=i/\i < (list.length:Int)):idxL list (el list i) = i↔∀ j,0<=j->j < i->el list j≠el list i:=by
  constructor
  · intro h j j0 j1 e
    have hex : ∃ m:Nat,(m:Int)<=j/\el list (m:Int) = el list i/\∀ k:Nat,k < m->el list (k:Int)≠el list i:=by
      have key : ∀ n:Nat,(∃ m:Nat,m<=n/\el list (m:Int) = el list i)->∃ m:Nat,m<=n/\el list (m:Int) = el list i/\∀ k:Nat,k < m->el list (k:Int)≠el list i:=by
        intro n
        induction n with
        | zero=>intro ⟨m,hm,e⟩; exact⟨m,hm,e,fun k hk=>by omega⟩
        | succ n ih=>
          intro ⟨m,hm,e⟩
          by_cases hc : ∃ m:Nat,m<=n/\el list (m:Int) = el list i
          · obtain⟨m',a,b,c⟩:=ih hc
            exact⟨m',by omega,b,c⟩
          · exact⟨m,hm,e,fun k hk e2=>hc ⟨k,by omega,e2⟩⟩
      obtain⟨m,a,b,c⟩:=key j.toNat ⟨j.toNat,Nat.le_refl _,by rw [show ((j.toNat:Nat):Int) = j by omega]; exact e⟩
      exact⟨m,by omega,b,c⟩
    obtain⟨m,a,b,c⟩:=hex
    have:=idxF_found (t:=list) (f:=fun own=>decide (own = el list i)) (i:=(m:Int)) ⟨by omega,by omega⟩ (fun k k0 k1=>by
      have:=c k.toNat (by omega)
      rw [show ((k.toNat:Nat):Int) = k by omega] at this
      exact decide_eq_false this) (decide_eq_true b)
    unfold idxL at h
    omega
  · intro h
    exact idxF_found hi (fun j j0 j1=>decide_eq_false (h j j0 j1)) (decide_eq_true rfl)
theorem w_spec_l01Own2 (lists:List (List Int)) (Q:List (List Int)->Prop) (h:wp_spec_l01Own2 lists Q):AF Tryz.prog 40 [.lst (rows lists)] (fun R_=>∃ y0,Q y0/\R_ = .own (orows y0)):=by
  refine zS (zM (n:=21) Tryz.func40 U (by rfl) U (zb U) ?_)
  unfold wp_spec_l01Own2 at h
  refine zg<|zk (zl (n:=21) (σ':=[]) (env':=[(0,.c (.lst (rows lists)))]) U U E1)<|zd<|za (ze U) U<|zf<|zg<|zd<|zn (zy (id:=5) (ps:=[]) U U (zb U) U ⟨U,?_⟩)
  refine za (ze U) U<|zf<|zg<|zg<|zd<|za (ze U) U<|zf<|zt ?_
  obtain⟨H1,m1,q1,h⟩:=h
  refine ye (fun (v4_1:Int) (o5_1:List (List Int))=>⟨[(5,⟨orows o5_1,[]⟩)],[(0,.c (.lst (rows lists))),(3,.ref 5),(4,.c (ci v4_1))],21⟩) H1 m1 ⟨0,([] : List (List Int)),zv (n:=21) U U E3,q1⟩ ?_
  rintro v4_1 o5_1 q1
  replace h:=h v4_1 o5_1 q1
  refine zg<|zg<|zd<|za (zc U) U<|za (zc U) U<|za (zJ (f:=(fun r=>C.lst (ints r))) U) U<|za (zO U U) U<|zf<|zm U (fun q2=>?_) (fun q2=>?_)
  ·replace h:=h.1 (zj q2)
   refine zu<|zg<|zt<|zd<|za (zc U) U<|za (zc U) U<|za (zc U) U ?_
   obtain⟨q3,h⟩:=h
   refine za (zB U U q3) U<|za (zx (f:=(fun r=>C.lst (ints r))) U q3) U ?_
   obtain⟨q4,h⟩:=h
   refine zn (zF (xs:=[.tmp 16]) (ids:=[17]) U U U U (c_spec_l01Own (el lists v4_1) q4) U ?_)
   rintro _ rfl
   refine⟨U,?_⟩
   refine zn (zy (id:=18) (ps:=[(0,.tmp 17)]) U U (zb U) U ⟨U,?_⟩)
   refine yF (yu (id:=18) (id2:=17) (j:=0) U U (zb U) U U U) ?_
   obtain⟨q6,h⟩:=h
   refine zn (yx (fun r=>C.own (ints r)) (l:=o5_1) (m:=[(el lists v4_1)]) U U U U U (zb U) q6 ⟨U,?_⟩)
   refine za (ze U) U<|zf<|zk (zl (n:=21) (σ':=[(5,⟨orows (o5_1 ++ ([(el lists v4_1)])),[]⟩)]) (env':=[(0,.c (.lst (rows lists))),(3,.ref 5),(4,.c (ci v4_1))]) U U E3)<|zd<|za (zc U) U ?_
   obtain⟨q7,h⟩:=h
   exact za (zG U U q7) U<|za (ze U) U<|zf<|⟨v4_1 + 1,o5_1 ++ ([(el lists v4_1)]),zv (n:=21) U U E3,h.1,h.2⟩
  ·replace h:=h.2 (zh q2)
   exact zL<|zg<|zk (zl (n:=21) (σ':=[(5,⟨orows o5_1,[]⟩)]) (env':=[(3,.ref 5)]) U U E1)<|zd<|za (zc U) U<|za (ze U) U<|zf<|zA<|zr (zH U (zw U)) U U ⟨_,(zq _),_,h,U⟩
theorem c_spec_l01Own2 (lists:List (List Int)) (hp:small2 lists):AF Tryz.prog 40 [.lst (rows lists)] (fun R_=>R_ = .own (orows lists)):=
  (w_spec_l01Own2 lists (fun y0=>y0 = lists) (p_spec_l01Own2 lists hp)).mono (by rintro r ⟨_,rfl,rfl⟩; rfl)
def wp_impl_digitsText (list:List Int) (Q:List UInt8->Prop):Prop:=
 (0<=(list.length:Int)/\(list.length:Int)<=1000000000)/\
 ∃ (H1:Int->List Int->Prop) (m1:Int->List Int->Nat),
 H1 0 (List.replicate (list.length:Int).toNat (0:Int))/\
 ∀ (v11_1:Int) (o8_1:List Int),H1 v11_1 o8_1->
 (((v11_1 < (list.length:Int)->
 (0<=v11_1/\v11_1 < (list.length:Int))/\
 (0<=el list v11_1/\el list v11_1 < (([48,49,50,51,52,53,54,55,56,57,97,98] : List UInt8).length:Int))/\
 (0<=v11_1/\v11_1 < (o8_1.length:Int))/\
 (InI (v11_1 + 1))/\
 (H1 (v11_1 + 1) (se o8_1 v11_1 (byt ([48,49,50,51,52,53,54,55,56,57,97,98] : List UInt8) (el list v11_1)))/\m1 (v11_1 + 1) (se o8_1 v11_1 (byt ([48,49,50,51,52,53,54,55,56,57,97,98] : List UInt8) (el list v11_1))) < m1 v11_1 o8_1))/\
 (¬ (v11_1 < (list.length:Int))->
 Q (bs o8_1))))
def wp_impl_tableText (t:List (List Int)) (Q:List UInt8->Prop):Prop:=
 (0<=(t.length:Int)/\(t.length:Int)<=1000000000)/\
 ∃ (H1:Int->List (List UInt8)->Prop) (m1:Int->List (List UInt8)->Nat),
 H1 0 (List.replicate (t.length:Int).toNat ([] : List UInt8))/\
 ∀ (v11_1:Int) (o8_1:List (List UInt8)),H1 v11_1 o8_1->
 (((v11_1 < (t.length:Int)->
 (0<=v11_1/\v11_1 < (t.length:Int))/\
 (small (el t v11_1)/\digs (el t v11_1))/\
 (0<=v11_1/\v11_1 < (o8_1.length:Int))/\
 (InI (v11_1 + 1))/\
 (H1 (v11_1 + 1) (se o8_1 v11_1 (digI (el t v11_1)))/\m1 (v11_1 + 1) (se o8_1 v11_1 (digI (el t v11_1))) < m1 v11_1 o8_1))/\
 (¬ (v11_1 < (t.length:Int))->
 (JoinPre o8_1 ([47] : List UInt8))/\
 Q (joinI o8_1 ([47] : List UInt8)))))
def wp_spec_l01Digit (x:Int) (Q:List UInt8->Prop):Prop:=
 ((x < 10->
 (InI (48 + x))/\
 ((0:Int)<=48 + x/\48 + x<=255)/\
 Q (bs ([48 + x])))/\
 (¬ (x < 10)->
 (InI (97 + x))/\
 (InI ((97 + x) - 10))/\
 ((0:Int)<=(97 + x) - 10/\(97 + x) - 10<=255)/\
 Q (bs ([(97 + x) - 10]))))
def wp_spec_l01Line (list:List Int) (Q:List UInt8->Prop):Prop:=
 ∃ (H1:List UInt8->Int->Prop) (m1:List UInt8->Int->Nat),
 H1 ([] : List UInt8) 0/\
 ∀ (v3_1:List UInt8) (v4_1:Int),H1 v3_1 v4_1->
 (((v4_1 < (list.length:Int)->
 (0<=v4_1/\v4_1 < (list.length:Int))/\
 (0<=(el list v4_1)/\(el list v4_1) < 12)/\
 ((v3_1.length:Int) + ((digI [(el list v4_1)]).length:Int)<=9223372036854775807)/\
 (InI (v4_1 + 1))/\
 (H1 (v3_1 ++ (digI [(el list v4_1)])) (v4_1 + 1)/\m1 (v3_1 ++ (digI [(el list v4_1)])) (v4_1 + 1) < m1 v3_1 v4_1))/\
 (¬ (v4_1 < (list.length:Int))->
 Q v3_1)))
def wp_spec_l01Text (t:List (List Int)) (Q:List UInt8->Prop):Prop:=
 ∃ (H1:List UInt8->Int->Prop) (m1:List UInt8->Int->Nat),
 H1 ([] : List UInt8) 0/\
 ∀ (v3_1:List UInt8) (v4_1:Int),H1 v3_1 v4_1->
 (((v4_1 < (t.length:Int)->
 ((0 < v4_1->
 ((v3_1.length:Int) + (([47] : List UInt8).length:Int)<=9223372036854775807)/\
 (0<=v4_1/\v4_1 < (t.length:Int))/\
 (small (el t v4_1)/\digs (el t v4_1))/\
 (((v3_1 ++ ([47] : List UInt8)).length:Int) + ((digI (el t v4_1)).length:Int)<=9223372036854775807)/\
 (InI (v4_1 + 1))/\
 (H1 ((v3_1 ++ ([47] : List UInt8)) ++ (digI (el t v4_1))) (v4_1 + 1)/\m1 ((v3_1 ++ ([47] : List UInt8)) ++ (digI (el t v4_1))) (v4_1 + 1) < m1 v3_1 v4_1))/\
 (¬ (0 < v4_1)->
 (0<=v4_1/\v4_1 < (t.length:Int))/\
 (small (el t v4_1)/\digs (el t v4_1))/\
 ((v3_1.length:Int) + ((digI (el t v4_1)).length:Int)<=9223372036854775807)/\
 (InI (v4_1 + 1))/\
 (H1 (v3_1 ++ (digI (el t v4_1))) (v4_1 + 1)/\m1 (v3_1 ++ (digI (el t v4_1))) (v4_1 + 1) < m1 v3_1 v4_1))))/\
 (¬ (v4_1 < (t.length:Int))->
 Q v3_1)))
def wp_spec_RackText (r:List (List Int)) (Q:List UInt8->Int->Prop):Prop:=
 (small2 r)/\
 (((isRk r) = false->
 Q ([] : List UInt8) 1)/\
 ((isRk r) = true->
 (isTab r = true)/\
 Q (txtI r) 0))
def wp_impl_RackText (r:List (List Int)) (Q:List UInt8->Int->Prop):Prop:=
 (small2 r)/\
 (((isRk r) = false->
 Q ([] : List UInt8) 1)/\
 ((isRk r) = true->
 (isTab r = true)/\
 Q (txtI r) 0))
theorem digs_tab : ∀ k:Nat,k < 12->UInt8.ofNat (byt ([48,49,50,51,52,53,54,55,56,57,97,98] : List UInt8) (k:Int)).toNat = dgt (k:Int):=by decide
theorem dig_at {x:Int} (h:0<=x/\x < 12):UInt8.ofNat (byt ([48,49,50,51,52,53,54,55,56,57,97,98] : List UInt8) x).toNat = dgt x:=by
  have:=digs_tab x.toNat (by omega)
  rwa [Int.toNat_of_nonneg h.1] at this
theorem p_impl_digitsText (list:List Int) (hp:small list/\digs list):wp_impl_digitsText list (fun y0=>y0 = digI list):=by
  have hs:(list.length:Int)<=1000000000:=hp.1
  refine⟨⟨by omega,hs⟩,fun i o=>0<=i/\i<=(list.length:Int)/\o.length = list.length/\Upto i fun j=>el o j = byt ([48,49,50,51,52,53,54,55,56,57,97,98] : List UInt8) (el list j),fun i _=>((list.length:Int) - i).toNat,⟨by omega,by omega,by simp,upto0⟩,?_⟩
  rintro i o ⟨i0,i1,ol,oI⟩
  dsimp only
  refine⟨fun ilt=>?_,fun ige=>?_⟩
  · exact⟨⟨i0,ilt⟩,by simpa using hp.2 i i0 ilt,⟨i0,by omega⟩,⟨by omega,by omega⟩,⟨by omega,by omega,by simpa using ol,fill1 (f:=fun j=>byt ([48,49,50,51,52,53,54,55,56,57,97,98] : List UInt8) (el list j)) ⟨i0,by omega⟩ oI rfl⟩,by omega⟩
  · refine List.ext_getElem (by simp [bs,ol]) fun k h1 h2=>?_
    have hk:k < list.length:=by simpa [digI] using h2
    have hk2:k < o.length:=by omega
    have e1:el o (k:Int) = o[k]:=by simp [el,hk2]
    have e2:el list (k:Int) = list[k]:=by simp [el,hk]
    have e:=oI (k:Int) (by omega) (by omega)
    have d:=dig_at (hp.2 (k:Int) (by omega) (by omega))
    rw [<- e,e1,e2] at d
    simpa [bs,digI] using d
theorem p_spec_l01Digit (x:Int) (hp:0<=x/\x < 12):wp_spec_l01Digit x (fun y0=>y0 = digI [x]):=
  ⟨fun h=>⟨⟨by omega,by omega⟩,⟨by omega,by omega⟩,by simp [bs,digI,dgt,h]⟩,fun h=>⟨⟨by omega,by omega⟩,⟨by omega,by omega⟩,⟨by omega,by omega⟩,by simp [bs,digI,dgt,h]⟩⟩
theorem p_spec_l01Line (list:List Int) (hp:small list/\digs list):wp_spec_l01Line list (fun y0=>y0 = digI list):=by
  have hs:(list.length:Int)<=1000000000:=hp.1
  refine⟨fun v i=>0<=i/\i<=(list.length:Int)/\v = digI (list.take i.toNat),fun _ i=>((list.length:Int) - i).toNat,⟨by omega,by omega,by simp [digI]⟩,?_⟩
  rintro v i ⟨i0,i1,rfl⟩
  dsimp only
  refine⟨fun ilt=>?_,fun ige=>?_⟩
  · exact⟨⟨i0,ilt⟩,hp.2 i i0 ilt,by simp; omega,⟨by omega,by omega⟩,⟨by omega,by omega,(digI_snoc ⟨i0,ilt⟩).symm⟩,by omega⟩
  · rw [List.take_of_length_le (by omega)]
theorem p_spec_l01Text (t:List (List Int)) (ht:isTab t = true):wp_spec_l01Text t (fun y0=>y0 = txtI t):=by
  have hn:=isTab_len ht
  refine⟨fun v i=>0<=i/\i<=(t.length:Int)/\v = txtI (t.take i.toNat),fun _ i=>((t.length:Int) - i).toNat,⟨by omega,by omega,by simp [txtI,joinI,Lib.join_nil]⟩,?_⟩
  rintro v i ⟨i0,i1,rfl⟩
  dsimp only
  have hv:(txtI (t.take i.toNat)).length<=13 * (t.take i.toNat).length:=txt_len _ fun r hr=>row_le ht r (List.mem_of_mem_take hr)
  rw [List.length_take] at hv
  refine⟨fun ilt=>?_,fun ige=>?_⟩
  · have hl:=rk_len ht (x:=i) ⟨i0,ilt⟩
    refine⟨fun h0=>?_,fun h0=>?_⟩
    · exact⟨by simp; omega,⟨i0,ilt⟩,digs_row ht ⟨i0,ilt⟩,by simp; omega,⟨by omega,by omega⟩,⟨by omega,by omega,(txtI_snoc ⟨h0,ilt⟩).symm⟩,by omega⟩
    · have:i = 0:=by omega
      subst this
      have hz:(txtI ([] : List (List Int))).length = 0:=by simp [txtI,joinI,Lib.join_nil]
      refine⟨⟨i0,ilt⟩,digs_row ht ⟨i0,ilt⟩,by simp; omega,⟨by omega,by omega⟩,⟨by omega,by omega,?_⟩,by omega⟩
      rw [txtI_one ilt]; simp [txtI,joinI,Lib.join_nil]
  · rw [List.take_of_length_le (by omega)]
theorem p_impl_tableText (t:List (List Int)) (ht:isTab t = true):wp_impl_tableText t (fun y0=>y0 = txtI t):=by
  have hn:=isTab_len ht
  refine⟨⟨by omega,by omega⟩,fun i o=>0<=i/\i<=(t.length:Int)/\o.length = t.length/\Upto i fun j=>el o j = digI (el t j),fun i _=>((t.length:Int) - i).toNat,⟨by omega,by omega,by simp,upto0⟩,?_⟩
  rintro i o ⟨i0,i1,ol,oI⟩
  dsimp only
  refine⟨fun ilt=>?_,fun ige=>?_⟩
  · exact⟨⟨i0,ilt⟩,digs_row ht ⟨i0,ilt⟩,⟨i0,by omega⟩,⟨by omega,by omega⟩,⟨by omega,by omega,by simpa using ol,fill1 (f:=fun j=>digI (el t j)) ⟨i0,by omega⟩ oI rfl⟩,by omega⟩
  · have ho:o = t.map digI:=List.ext_getElem (by simp [ol]) fun k h1 h2=>by
      have hk:k < t.length:=by simpa using h2
      have e:el o (k:Int) = digI (el t (k:Int)):=oI (k:Int) (by omega) (by omega)
      have e1:el o (k:Int) = o[k]:=by simp [el,h1]
      have e2:el t (k:Int) = t[k]:=by simp [el,hk]
      rw [e1,e2] at e
      simpa using e
    subst ho
    have:=txt_len t (row_le ht)
    exact⟨⟨by unfold txtI at this; omega,by simp; omega⟩,rfl⟩
theorem p_spec_RackText (r:List (List Int)) (hp:small2 r):wp_spec_RackText r (fun y0 y1=>y0 = (if isRk r then txtI r else [])/\y1 = (if isRk r then 0 else 1)):=
  ⟨hp,fun h=>by simp [h],fun h=>⟨isRk_tab h,by simp [h]⟩⟩
theorem p_impl_RackText (r:List (List Int)) (hp:small2 r):wp_impl_RackText r (fun y0 y1=>y0 = (if isRk r then txtI r else [])/\y1 = (if isRk r then 0 else 1)):=p_spec_RackText r hp
theorem w_impl_digitsText (list:List Int) (Q:List UInt8->Prop) (h:wp_impl_digitsText list Q):AF Tryz.prog 53 [.lst (ints list)] (fun R_=>∃ y0,Q y0/\R_ = cs y0):=by
  refine zS (zM (n:=24) Tryz.func53 U (by rfl) U (zb U) ?_)
  unfold wp_impl_digitsText at h
  refine zg<|zk (zl (n:=24) (σ':=[]) (env':=[(0,.c (.lst (ints list)))]) U U E1)<|zd<|za (ze U) U<|zf<|zg<|zd<|za (zc U) U<|za (zJ (f:=ci) U) U ?_
  obtain⟨q1,h⟩:=h
  refine zn (yZ (id:=8) cy (0:Int) U U U q1 (zb U) U ⟨U,?_⟩)
  refine za (ze U) U<|zf<|zg<|zg<|zd<|za (zc U) U<|za (zJ (f:=ci) U) U<|za (zc U) U<|zf<|zt ?_
  obtain⟨H1,m1,q2,h⟩:=h
  refine ye (fun (v11_1:Int) (o8_1:List Int)=>⟨[(8,⟨bys o8_1,[]⟩)],[(3,.ref 8),(9,.c (.lst (ints list))),(10,.c (ci (list.length:Int))),(11,.c (ci v11_1))],24⟩) H1 m1 ⟨0,List.replicate (list.length:Int).toNat (0:Int),zv (n:=24) U U E4,q2⟩ ?_
  rintro v11_1 o8_1 q2
  replace h:=h v11_1 o8_1 q2
  refine zg<|zd<|za (zO U U) U<|zf<|zg<|zm U (fun q3=>?_) (fun q3=>?_)
  ·replace h:=h.1 (zj q3)
   refine zu<|zg<|zt<|zg<|zd<|za (zc U) U ?_
   obtain⟨q4,h⟩:=h
   refine za (zB U U q4) U<|za (zx (f:=ci) U q4) U<|za (ze U) U<|za (ze U) U<|zf<|zd<|za (zc U) U<|za (zc U) U<|za (zc U) U ?_
   obtain⟨q5,h⟩:=h
   refine za (ss_indexS (s:=([48,49,50,51,52,53,54,55,56,57,97,98] : List UInt8)) U U q5) U ?_
   obtain⟨q6,h⟩:=h
   refine za (zR (f:=cy) U U U q6) U<|zn (yo U U (yN q6) U U (yO (f:=cy)) U ⟨U,?_⟩)
   refine zf<|zk (zl (n:=24) (σ':=[(8,⟨bys (se o8_1 v11_1 (byt ([48,49,50,51,52,53,54,55,56,57,97,98] : List UInt8) (el list v11_1))),[]⟩)]) (env':=[(3,.ref 8),(9,.c (.lst (ints list))),(10,.c (ci (list.length:Int))),(11,.c (ci v11_1))]) U U E4)<|zd ?_
   obtain⟨q7,h⟩:=h
   exact za (zG U U q7) U<|za (zc U) U<|zf<|⟨v11_1 + 1,se o8_1 v11_1 (byt ([48,49,50,51,52,53,54,55,56,57,97,98] : List UInt8) (el list v11_1)),zv (n:=24) U U E4,h.1,h.2⟩
  ·replace h:=h.2 (zh q3)
   exact zL<|zg<|zd<|za (zc U) U<|za (ss_bytesR (l:=o8_1) U U U) U<|za (ze U) U<|zf<|zA<|zr (zH U (zw U)) U U ⟨_,(zq _),_,h,U⟩
theorem c_impl_digitsText (list:List Int) (hp:small list/\digs list):AF Tryz.prog 53 [.lst (ints list)] (fun R_=>R_ = cs (digI list)):=
  (w_impl_digitsText list (fun y0=>y0 = digI list) (p_impl_digitsText list hp)).mono (by rintro r ⟨_,rfl,rfl⟩; rfl)
theorem w_impl_tableText (t:List (List Int)) (Q:List UInt8->Prop) (h:wp_impl_tableText t Q):AF Tryz.prog 31 [.lst (rows t)] (fun R_=>∃ y0,Q y0/\R_ = cs y0):=by
  refine zS (zM (n:=24) Tryz.func31 U (by rfl) U (zb U) ?_)
  unfold wp_impl_tableText at h
  refine zg<|zk (zl (n:=24) (σ':=[]) (env':=[(0,.c (.lst (rows t)))]) U U E1)<|zd<|za (ze U) U<|zf<|zg<|zd<|za (zc U) U<|za (zJ (f:=(fun r=>C.lst (ints r))) U) U ?_
  obtain⟨q1,h⟩:=h
  refine zn (yZ (id:=8) cs ([] : List UInt8) U U U q1 (zb U) U ⟨U,?_⟩)
  refine za (ze U) U<|zf<|zg<|zg<|zd<|za (zc U) U<|za (zJ (f:=(fun r=>C.lst (ints r))) U) U<|za (zc U) U<|zf<|zt ?_
  obtain⟨H1,m1,q2,h⟩:=h
  refine ye (fun (v11_1:Int) (o8_1:List (List UInt8))=>⟨[(8,⟨strs o8_1,[]⟩)],[(3,.ref 8),(9,.c (.lst (rows t))),(10,.c (ci (t.length:Int))),(11,.c (ci v11_1))],24⟩) H1 m1 ⟨0,List.replicate (t.length:Int).toNat ([] : List UInt8),zv (n:=24) U U E4,q2⟩ ?_
  rintro v11_1 o8_1 q2
  replace h:=h v11_1 o8_1 q2
  refine zg<|zd<|za (zO U U) U<|zf<|zg<|zm U (fun q3=>?_) (fun q3=>?_)
  ·replace h:=h.1 (zj q3)
   refine zu<|zg<|zt<|zg<|zd<|za (zc U) U ?_
   obtain⟨q4,h⟩:=h
   refine za (zB U U q4) U<|za (zx (f:=(fun r=>C.lst (ints r))) U q4) U<|za (ze U) U<|za (ze U) U<|zf<|zd<|za (zc U) U<|za (zc U) U<|za (zc U) U ?_
   obtain⟨q5,h⟩:=h
   refine zn (zF (xs:=[.tmp 18]) (ids:=[]) U U U U (c_impl_digitsText (el t v11_1) q5) U ?_)
   rintro _ rfl
   refine⟨U,?_⟩
   obtain⟨q7,h⟩:=h
   refine za (zR (f:=cs) U U U q7) U<|zn (yo U U (yN q7) U U (yO (f:=cs)) U ⟨U,?_⟩)
   refine zf<|zk (zl (n:=24) (σ':=[(8,⟨strs (se o8_1 v11_1 (digI (el t v11_1))),[]⟩)]) (env':=[(3,.ref 8),(9,.c (.lst (rows t))),(10,.c (ci (t.length:Int))),(11,.c (ci v11_1))]) U U E4)<|zd ?_
   obtain⟨q8,h⟩:=h
   exact za (zG U U q8) U<|za (zc U) U<|zf<|⟨v11_1 + 1,se o8_1 v11_1 (digI (el t v11_1)),zv (n:=24) U U E4,h.1,h.2⟩
  ·replace h:=h.2 (zh q3)
   refine zL<|zg<|zd<|za (zc U) U ?_
   obtain⟨q9,h⟩:=h
   refine zn (yU (xs:=[.tmp 22,.const (.string ⟨#[47]⟩)]) (cs:=[.own (strs o8_1),cs ([47] : List UInt8)]) (ids:=[]) U (.inr ⟨U,U⟩) U U (yD (yq (yr (fun _=>U) _)) (yD U yX)) (c_strings_Join o8_1 ([47] : List UInt8) q9) U ?_)
   rintro _ rfl
   refine⟨U,U,?_⟩
   exact za (ze U) U<|zf<|zA<|zr (zH U (zw U)) U U ⟨_,(zq _),_,h,U⟩
theorem c_impl_tableText (t:List (List Int)) (hp:isTab t = true):AF Tryz.prog 31 [.lst (rows t)] (fun R_=>R_ = cs (txtI t)):=
  (w_impl_tableText t (fun y0=>y0 = txtI t) (p_impl_tableText t hp)).mono (by rintro r ⟨_,rfl,rfl⟩; rfl)
theorem w_spec_l01Digit (x:Int) (Q:List UInt8->Prop) (h:wp_spec_l01Digit x Q):AF Tryz.prog 88 [ci x] (fun R_=>∃ y0,Q y0/\R_ = cs y0):=by
  refine zS (zM (n:=16) Tryz.func88 U (by rfl) U (zb U) ?_)
  unfold wp_spec_l01Digit at h
  refine zg<|zk (zl (n:=16) (σ':=[]) (env':=[(0,.c (ci x))]) U U E1)<|zd<|za (ze U) U<|zf<|zg<|zg<|zd<|za (zc U) U<|za (zO U U) U<|zf<|zm U (fun q1=>?_) (fun q1=>?_)
  ·replace h:=h.1 (zj q1)
   refine zg<|zd<|za (zc U) U ?_
   obtain⟨q2,h⟩:=h
   refine za (zG U U q2) U ?_
   obtain⟨q3,h⟩:=h
   refine za (xo U (u8_in q3)) U<|zn (zy (id:=8) (ps:=[(0,.tmp 7)]) U U (zb U) U ⟨U,?_⟩)
   exact za (ss_bytesR (l:=[48 + x]) U U U) U<|za (ze U) U<|zf<|zA<|zr (zH U (zw U)) U U ⟨_,(zq _),_,h,U⟩
  ·replace h:=h.2 (zh q1)
   refine zu<|zg<|zd<|za (zc U) U ?_
   obtain⟨q4,h⟩:=h
   refine za (zG U U q4) U ?_
   obtain⟨q5,h⟩:=h
   refine za (yS U U q5) U ?_
   obtain⟨q6,h⟩:=h
   refine za (xo U (u8_in q6)) U<|zn (zy (id:=14) (ps:=[(0,.tmp 13)]) U U (zb U) U ⟨U,?_⟩)
   exact za (ss_bytesR (l:=[(97 + x) - 10]) U U U) U<|za (ze U) U<|zf<|zA<|zr (zH U (zw U)) U U ⟨_,(zq _),_,h,U⟩
theorem c_spec_l01Digit (x:Int) (hp:0<=x/\x < 12):AF Tryz.prog 88 [ci x] (fun R_=>R_ = cs (digI [x])):=
  (w_spec_l01Digit x (fun y0=>y0 = digI [x]) (p_spec_l01Digit x hp)).mono (by rintro r ⟨_,rfl,rfl⟩; rfl)
theorem w_spec_l01Line (list:List Int) (Q:List UInt8->Prop) (h:wp_spec_l01Line list Q):AF Tryz.prog 55 [.lst (ints list)] (fun R_=>∃ y0,Q y0/\R_ = cs y0):=by
  refine zS (zM (n:=19) Tryz.func55 U (by rfl) U (zb U) ?_)
  unfold wp_spec_l01Line at h
  refine zg<|zk (zl (n:=19) (σ':=[]) (env':=[(0,.c (.lst (ints list)))]) U U E1)<|zd<|za (ze U) U<|zf<|zg<|zd<|za (ze U) U<|zf<|zg<|zg<|zd<|za (ze U) U<|zf<|zt ?_
  obtain⟨H1,m1,q1,h⟩:=h
  refine ye (fun (v3_1:List UInt8) (v4_1:Int)=>⟨[],[(0,.c (.lst (ints list))),(3,.c (cs v3_1)),(4,.c (ci v4_1))],19⟩) H1 m1 ⟨([] : List UInt8),0,zv (n:=19) U U E3,q1⟩ ?_
  rintro v3_1 v4_1 q1
  replace h:=h v3_1 v4_1 q1
  refine zg<|zg<|zd<|za (zc U) U<|za (zc U) U<|za (zJ (f:=ci) U) U<|za (zO U U) U<|zf<|zm U (fun q2=>?_) (fun q2=>?_)
  ·replace h:=h.1 (zj q2)
   refine zu<|zg<|zt<|zd<|za (zc U) U<|za (zc U) U<|za (zc U) U ?_
   obtain⟨q3,h⟩:=h
   refine za (zB U U q3) U<|za (zx (f:=ci) U q3) U ?_
   obtain⟨q4,h⟩:=h
   refine zn (zF (xs:=[.tmp 15]) (ids:=[]) U U U U (c_spec_l01Digit (el list v4_1) q4) U ?_)
   rintro _ rfl
   refine⟨U,?_⟩
   obtain⟨q6,h⟩:=h
   refine za (ss_cat U U q6) U<|za (ze U) U<|zf<|zk (zl (n:=19) (σ':=[]) (env':=[(0,.c (.lst (ints list))),(3,.c (cs (v3_1 ++ (digI [(el list v4_1)])))),(4,.c (ci v4_1))]) U U E3)<|zd<|za (zc U) U ?_
   obtain⟨q7,h⟩:=h
   exact za (zG U U q7) U<|za (ze U) U<|zf<|⟨v3_1 ++ (digI [(el list v4_1)]),v4_1 + 1,zv (n:=19) U U E3,h.1,h.2⟩
  ·replace h:=h.2 (zh q2)
   exact zL<|zg<|zk (zl (n:=19) (σ':=[]) (env':=[(3,.c (cs v3_1))]) U U E1)<|zd<|za (zc U) U<|za (ze U) U<|zf<|zA<|zr (zH U (zw U)) U U ⟨_,(zq _),_,h,U⟩
theorem c_spec_l01Line (list:List Int) (hp:small list/\digs list):AF Tryz.prog 55 [.lst (ints list)] (fun R_=>R_ = cs (digI list)):=
  (w_spec_l01Line list (fun y0=>y0 = digI list) (p_spec_l01Line list hp)).mono (by rintro r ⟨_,rfl,rfl⟩; rfl)
theorem w_spec_l01Text (t:List (List Int)) (Q:List UInt8->Prop) (h:wp_spec_l01Text t Q):AF Tryz.prog 32 [.lst (rows t)] (fun R_=>∃ y0,Q y0/\R_ = cs y0):=by
  refine zS (zM (n:=23) Tryz.func32 U (by rfl) U (zb U) ?_)
  unfold wp_spec_l01Text at h
  refine zg<|zk (zl (n:=23) (σ':=[]) (env':=[(0,.c (.lst (rows t)))]) U U E1)<|zd<|za (ze U) U<|zf<|zg<|zd<|za (ze U) U<|zf<|zg<|zg<|zd<|za (ze U) U<|zf<|zt ?_
  obtain⟨H1,m1,q1,h⟩:=h
  refine ye (fun (v3_1:List UInt8) (v4_1:Int)=>⟨[],[(0,.c (.lst (rows t))),(3,.c (cs v3_1)),(4,.c (ci v4_1))],23⟩) H1 m1 ⟨([] : List UInt8),0,zv (n:=23) U U E3,q1⟩ ?_
  rintro v3_1 v4_1 q1
  replace h:=h v3_1 v4_1 q1
  refine zg<|zg<|zd<|za (zc U) U<|za (zc U) U<|za (zJ (f:=(fun r=>C.lst (ints r))) U) U<|za (zO U U) U<|zf<|zm U (fun q2=>?_) (fun q2=>?_)
  ·replace h:=h.1 (zj q2)
   refine zu<|zg<|zt<|zg<|zg<|zd<|za (zc U) U<|za (ss_gtr U U) U<|zf<|zm U (fun q3=>?_) (fun q3=>?_)
   ·replace h:=h.1 (zj q3)
    refine zk (zl (n:=23) (σ':=[]) (env':=[(0,.c (.lst (rows t))),(3,.c (cs v3_1)),(4,.c (ci v4_1))]) U U E3)<|zd<|za (zc U) U ?_
    obtain⟨q4,h⟩:=h
    refine za (ss_cat U U q4) U<|za (ze U) U<|zf<|zd<|za (zc U) U<|za (zc U) U<|za (zc U) U ?_
    obtain⟨q5,h⟩:=h
    refine za (zB U U q5) U<|za (zx (f:=(fun r=>C.lst (ints r))) U q5) U ?_
    obtain⟨q6,h⟩:=h
    refine zn (zF (xs:=[.tmp 19]) (ids:=[]) U U U U (c_spec_l01Line (el t v4_1) q6) U ?_)
    rintro _ rfl
    refine⟨U,?_⟩
    obtain⟨q8,h⟩:=h
    refine za (ss_cat U U q8) U<|za (ze U) U<|zf<|zk (zl (n:=23) (σ':=[]) (env':=[(0,.c (.lst (rows t))),(3,.c (cs ((v3_1 ++ ([47] : List UInt8)) ++ (digI (el t v4_1))))),(4,.c (ci v4_1))]) U U E3)<|zd<|za (zc U) U ?_
    obtain⟨q9,h⟩:=h
    exact za (zG U U q9) U<|za (ze U) U<|zf<|⟨(v3_1 ++ ([47] : List UInt8)) ++ (digI (el t v4_1)),v4_1 + 1,zv (n:=23) U U E3,h.1,h.2⟩
   ·replace h:=h.2 (zh q3)
    refine zu<|zd<|za (zc U) U<|za (zc U) U<|za (zc U) U ?_
    obtain⟨q10,h⟩:=h
    refine za (zB U U q10) U<|za (zx (f:=(fun r=>C.lst (ints r))) U q10) U ?_
    obtain⟨q11,h⟩:=h
    refine zn (zF (xs:=[.tmp 19]) (ids:=[]) U U U U (c_spec_l01Line (el t v4_1) q11) U ?_)
    rintro _ rfl
    refine⟨U,?_⟩
    obtain⟨q13,h⟩:=h
    refine za (ss_cat U U q13) U<|za (ze U) U<|zf<|zk (zl (n:=23) (σ':=[]) (env':=[(0,.c (.lst (rows t))),(3,.c (cs (v3_1 ++ (digI (el t v4_1))))),(4,.c (ci v4_1))]) U U E3)<|zd<|za (zc U) U ?_
    obtain⟨q14,h⟩:=h
    exact za (zG U U q14) U<|za (ze U) U<|zf<|⟨v3_1 ++ (digI (el t v4_1)),v4_1 + 1,zv (n:=23) U U E3,h.1,h.2⟩
  ·replace h:=h.2 (zh q2)
   exact zL<|zg<|zk (zl (n:=23) (σ':=[]) (env':=[(3,.c (cs v3_1))]) U U E1)<|zd<|za (zc U) U<|za (ze U) U<|zf<|zA<|zr (zH U (zw U)) U U ⟨_,(zq _),_,h,U⟩
theorem c_spec_l01Text (t:List (List Int)) (hp:isTab t = true):AF Tryz.prog 32 [.lst (rows t)] (fun R_=>R_ = cs (txtI t)):=
  (w_spec_l01Text t (fun y0=>y0 = txtI t) (p_spec_l01Text t hp)).mono (by rintro r ⟨_,rfl,rfl⟩; rfl)
theorem w_spec_RackText (r:List (List Int)) (Q:List UInt8->Int->Prop) (h:wp_spec_RackText r Q):AF Tryz.prog 14 [.agg [.lst (rows r)]] (fun R_=>∃ y0 y1,Q y0 y1/\R_ = .tup [cs y0,ci y1]):=by
  refine zS (zM (n:=10) Tryz.func14 U (by rfl) U (zb U) ?_)
  unfold wp_spec_RackText at h
  refine zg<|zk (zl (n:=10) (σ':=[]) (env':=[(0,.c (.agg [.lst (rows r)]))]) U U E1)<|zd<|zn (y8 U (.inl U) U ⟨U,?_⟩)
  refine za (ze U) U<|za (ze U) U<|zf<|zg<|zg<|zd<|za (y6 U (zb U)) U ?_
  obtain⟨q1,h⟩:=h
  refine zn (zF (xs:=[.tmp 4]) (ids:=[]) U U U U (c_spec_l03Is r q1) U ?_)
  rintro _ rfl
  refine⟨U,?_⟩
  refine za (yA U) U<|zf<|zm U (fun q3=>?_) (fun q3=>?_)
  ·replace h:=h.1 ((ya q3))
   exact zg<|zk (zl (n:=10) (σ':=[]) (env':=[(2,.c (cs ([] : List UInt8))),(3,.c (ci 0))]) U U E2)<|zd<|za (ze U) U<|za (ze U) U<|zf<|zA<|zr (yT U (zw U) (zw U)) U U ⟨_,(zq _),_,_,h,U⟩
  ·replace h:=h.2 ((yb q3))
   refine zu<|zg<|zd<|za (yJ U) U<|za (zZ U U) U ?_
   obtain⟨q4,h⟩:=h
   refine zn (zF (xs:=[.tmp 8]) (ids:=[]) U U U U (c_spec_l01Text r q4) U ?_)
   rintro _ rfl
   refine⟨U,?_⟩
   exact za (ze U) U<|za (ze U) U<|zf<|zA<|zr (yT U (zw U) (zw U)) U U ⟨_,(zq _),_,_,h,U⟩
theorem c_spec_RackText (r:List (List Int)) (hp:small2 r):AF Tryz.prog 14 [.agg [.lst (rows r)]] (fun R_=>R_ = .tup [cs (if isRk r then txtI r else []),ci (if isRk r then (0:Int) else 1)]):=
  (w_spec_RackText r (fun y0 y1=>y0 = (if isRk r then txtI r else [])/\y1 = (if isRk r then (0:Int) else 1)) (p_spec_RackText r hp)).mono (by rintro r ⟨_,_,⟨rfl,rfl⟩,rfl⟩; rfl)
theorem w_impl_RackText (r:List (List Int)) (Q:List UInt8->Int->Prop) (h:wp_impl_RackText r Q):AF Tryz.prog 13 [.agg [.lst (rows r)]] (fun R_=>∃ y0 y1,Q y0 y1/\R_ = .tup [cs y0,ci y1]):=by
  refine zS (zM (n:=10) Tryz.func13 U (by rfl) U (zb U) ?_)
  unfold wp_impl_RackText at h
  refine zg<|zk (zl (n:=10) (σ':=[]) (env':=[(0,.c (.agg [.lst (rows r)]))]) U U E1)<|zd<|zn (y8 U (.inl U) U ⟨U,?_⟩)
  refine za (ze U) U<|za (ze U) U<|zf<|zg<|zg<|zd<|za (y6 U (zb U)) U ?_
  obtain⟨q1,h⟩:=h
  refine zn (zF (xs:=[.tmp 4]) (ids:=[]) U U U U (c_impl_IsRack r q1) U ?_)
  rintro _ rfl
  refine⟨U,?_⟩
  refine za (yA U) U<|zf<|zm U (fun q3=>?_) (fun q3=>?_)
  ·replace h:=h.1 ((ya q3))
   exact zg<|zk (zl (n:=10) (σ':=[]) (env':=[(2,.c (cs ([] : List UInt8))),(3,.c (ci 0))]) U U E2)<|zd<|za (ze U) U<|za (ze U) U<|zf<|zA<|zr (yT U (zw U) (zw U)) U U ⟨_,(zq _),_,_,h,U⟩
  ·replace h:=h.2 ((yb q3))
   refine zu<|zg<|zd<|za (yJ U) U<|za (zZ U U) U ?_
   obtain⟨q4,h⟩:=h
   refine zn (zF (xs:=[.tmp 8]) (ids:=[]) U U U U (c_impl_tableText r q4) U ?_)
   rintro _ rfl
   refine⟨U,?_⟩
   exact za (ze U) U<|za (ze U) U<|zf<|zA<|zr (yT U (zw U) (zw U)) U U ⟨_,(zq _),_,_,h,U⟩
theorem c_impl_RackText (r:List (List Int)) (hp:small2 r):AF Tryz.prog 13 [.agg [.lst (rows r)]] (fun R_=>R_ = .tup [cs (if isRk r then txtI r else []),ci (if isRk r then (0:Int) else 1)]):=
  (w_impl_RackText r (fun y0 y1=>y0 = (if isRk r then txtI r else [])/\y1 = (if isRk r then (0:Int) else 1)) (p_impl_RackText r hp)).mono (by rintro r ⟨_,_,⟨rfl,rfl⟩,rfl⟩; rfl)
structure MI (r:List (List Int)) (l:List Int) (m m' : Int):Prop where
  rng:0<=m'/\m' < (2:Int) ^ (r.length:Int).toNat
  le:m<=m'
  sup : ∀ z,0<=z->bitP m z->bitP m' z
  sc : ∀ z,0<=z->bitP m' z->Sc r l z
theorem MI.step {r:List (List Int)} {l:List Int} {m m' k:Int} (h:MI r l m m') (hk:0<=k/\k < (r.length:Int)) (hs:Sc r l k):MI r l m (((m'.toNat ||| (1 * (2:Int) ^ k.toNat).toNat:Nat):Int)):=
  ⟨or_lt2 h.rng hk,by
    have h1:m'.toNat<=(m'.toNat ||| (1 * (2:Int) ^ k.toNat).toNat):=Nat.left_le_or
    have:=h.le; have:=h.rng.1; omega,fun z z0 hz=>(bit_or h.rng.1 hk.1 z0).2 (.inl (h.sup z z0 hz)),fun z z0 hz=>by
    rcases (bit_or h.rng.1 hk.1 z0).1 hz with h1 | h1
    · exact h.sc z z0 h1
    · rw [h1]; exact hs⟩
end Go.Proofs.YtjolbldlhjfciaaGreatDoor
