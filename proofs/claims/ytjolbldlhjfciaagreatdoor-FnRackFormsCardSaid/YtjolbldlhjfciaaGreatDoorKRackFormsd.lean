/- Contracts of functions that the law FnRackForms reaches: conditions, plain proofs, walks; no condition. -/
import Derived.Test.YtjolbldlhjfciaaGreatDoorKRackFormsc
import Derived.Test.YtjolbldlhjfciaaGreatDoorPP
namespace Go.Proofs.YtjolbldlhjfciaaGreatDoor
set_option maxRecDepth 100000
set_option maxHeartbeats 4000000

def wp_spec_l01Grow (n:Int) (start:List Int) (list:List (List Int)) (Q:List (List Int)->Prop):Prop:=
 (((start.length:Int) = n->
 ((list.length:Int) + (([start]).length:Int)<=1000000000)/\
 Q (list ++ ([start])))/\
 (¬ ((start.length:Int) = n)->
 ∃ (H1:Int->List (List Int)->Prop) (m1:Int->List (List Int)->Nat),
 H1 0 list/\
 ∀ (v7_1:Int) (o801_1:List (List Int)),H1 v7_1 o801_1->
 (((v7_1 < n->
 (small start)/\
 (((start.contains v7_1) = false->
 (small start)/\
 ((start.length:Int) + (([v7_1]).length:Int)<=1000000000)/\
 ((n - ((start ++ ([v7_1])).length:Int)).toNat < (n - (start.length:Int)).toNat)/\
 (((start ++ ([v7_1])).length:Int)<=n/\n<=8/\((o801_1 ++ growL n (start ++ ([v7_1]))).length:Int)<=100000000)/\
 (InI (v7_1 + 1))/\
 (H1 (v7_1 + 1) (o801_1 ++ growL n (start ++ ([v7_1])))/\m1 (v7_1 + 1) (o801_1 ++ growL n (start ++ ([v7_1]))) < m1 v7_1 o801_1))/\
 ((start.contains v7_1) = true->
 (InI (v7_1 + 1))/\
 (H1 (v7_1 + 1) o801_1/\m1 (v7_1 + 1) o801_1 < m1 v7_1 o801_1))))/\
 (¬ (v7_1 < n)->
 Q o801_1)))))
def wp_spec_l01Perms (n:Int) (Q:List (List Int)->Prop):Prop:=
 ((([] : List Int).length:Int)<=n/\n<=8/\((([] : List (List Int)) ++ growL n ([] : List Int)).length:Int)<=100000000)/\
 Q (([] : List (List Int)) ++ growL n ([] : List Int))
def wp_spec_l03Image (t:List (List Int)) (p:List Int) (Q:List (List Int)->Prop):Prop:=
 (small2 t)/\
 ∃ (H1:Int->List (List Int)->Prop) (m1:Int->List (List Int)->Nat),
 H1 0 t/\
 ∀ (v6_1:Int) (o9_1:List (List Int)),H1 v6_1 o9_1->
 (((v6_1 < (t.length:Int)->
 ∃ (H2:Int->List (List Int)->Prop) (m2:Int->List (List Int)->Nat),
 H2 0 o9_1/\
 ∀ (v7_2:Int) (o9_2:List (List Int)),H2 v7_2 o9_2->
 (((v7_2 < (t.length:Int)->
 (0<=v6_1/\v6_1 < (p.length:Int))/\
 (0<=v7_2/\v7_2 < (p.length:Int))/\
 (0<=v6_1/\v6_1 < (t.length:Int))/\
 (0<=el p v6_1/\el p v6_1 < (o9_2.length:Int))/\
 (0<=v7_2/\v7_2 < ((el t v6_1).length:Int))/\
 (0<=el (el t v6_1) v7_2/\el (el t v6_1) v7_2 < (p.length:Int))/\
 (0<=el p v7_2/\el p v7_2 < ((el o9_2 (el p v6_1)).length:Int))/\
 (InI (v7_2 + 1))/\
 (H2 (v7_2 + 1) (se o9_2 (el p v6_1) (se (el o9_2 (el p v6_1)) (el p v7_2) (el p (el (el t v6_1) v7_2))))/\m2 (v7_2 + 1) (se o9_2 (el p v6_1) (se (el o9_2 (el p v6_1)) (el p v7_2) (el p (el (el t v6_1) v7_2)))) < m2 v7_2 o9_2))/\
 (¬ (v7_2 < (t.length:Int))->
 (InI (v6_1 + 1))/\
 (H1 (v6_1 + 1) o9_2/\m1 (v6_1 + 1) o9_2 < m1 v6_1 o9_1)))))/\
 (¬ (v6_1 < (t.length:Int))->
 Q o9_1)))
def wp_spec_l03DrawTableW (s1:List Int) (s2:Int) (s3:Int) (most:Int) (Q:List (List Int)->List Int->Int->Int->Prop):Prop:=
 (okS s1 s2 s3/\InI most)/\
 ∀ (r1_0:Int) (o1_0:List Int) (o1_1:Int) (o1_2:Int),(nxP most r1_0/\o1_0 = s1/\okS s1 o1_1 o1_2)->
 (InI (1 + r1_0))/\
 ∃ (J1:List Int->Int->Int->Prop),
 ((okS o1_0 o1_1 o1_2/\InI (5:Int))/\
 ∀ (r2_0:Int) (o2_0:List Int) (o2_1:Int) (o2_2:Int),(nxP (5:Int) r2_0/\o2_0 = o1_0/\okS o1_0 o2_1 o2_2)->
 ((r2_0 = 0->
 (okS o2_0 o2_1 o2_2/\(1 + r1_0)<=1000)/\
 ∀ (r3_0:List Int) (o3_0:List Int) (o3_1:Int) (o3_2:Int),(((r3_0.length:Int) = max (1 + r1_0) 0/\(∀ z_ ∈ r3_0,0<=z_/\z_ < (1 + r1_0))/\r3_0.Nodup)/\o3_0 = o2_0/\okS o2_0 o3_1 o3_2)->
 ∃ (H1:Int->List (List Int)->Prop) (m1:Int->List (List Int)->Nat),
 H1 0 ([] : List (List Int))/\
 ∀ (v8_1:Int) (o37_1:List (List Int)),H1 v8_1 o37_1->
 (((v8_1 < 1 + r1_0->
 (small r3_0)/\
 ((o37_1.length:Int) + (([r3_0]).length:Int)<=1000000000)/\
 (InI (v8_1 + 1))/\
 (H1 (v8_1 + 1) (o37_1 ++ ([r3_0]))/\m1 (v8_1 + 1) (o37_1 ++ ([r3_0])) < m1 v8_1 o37_1))/\
 (¬ (v8_1 < 1 + r1_0)->
 Q o37_1 o3_0 o3_1 o3_2))))/\
 (¬ (r2_0 = 0)->
 ((r2_0 = 1->
 (InI ((1 + r1_0) - 1))/\
 ((0:Int)<=2/\(0:Int) < 1 + r1_0)/\
 (1<=(1 + r1_0)/\(1 + r1_0)<=12/\0<=((1 + r1_0) - 1)/\((1 + r1_0) - 1)<=1000/\0<=(2 % (1 + r1_0))/\(2 % (1 + r1_0))<=1000)/\
 ∀ (r4_0:List (List Int)),(isTab r4_0 = true/\(r4_0.length:Int) = (1 + r1_0))->
 Q r4_0 o2_0 o2_1 o2_2)/\
 (¬ (r2_0 = 1)->
 ((r2_0 = 2->
 ∃ (H2:Int->List Int->Int->Int->Prop) (m2:Int->List Int->Int->Int->Nat),
 H2 0 o2_0 o2_1 o2_2/\
 ∀ (v9_1:Int) (f800_0_1:List Int) (f800_1_1:Int) (f800_2_1:Int),H2 v9_1 f800_0_1 f800_1_1 f800_2_1->
 (((v9_1 < 6->
 (okS f800_0_1 f800_1_1 f800_2_1/\InI (1 + r1_0))/\
 ∀ (r5_0:Int) (o5_0:List Int) (o5_1:Int) (o5_2:Int),(nxP (1 + r1_0) r5_0/\o5_0 = f800_0_1/\okS f800_0_1 o5_1 o5_2)->
 (0<=r5_0/\1<=(1 + r1_0)/\(1 + r1_0)<=1000)/\
 (((!decide (1 < gcdI (1 + r1_0) r5_0)) = true->
 (InI (1 - r5_0))/\
 (InI ((1 - r5_0) + (1 + r1_0)))/\
 ((0:Int)<=(1 - r5_0) + (1 + r1_0)/\(0:Int) < 1 + r1_0)/\
 (1<=(1 + r1_0)/\(1 + r1_0)<=12/\0<=r5_0/\r5_0<=1000/\0<=(((1 - r5_0) + (1 + r1_0)) % (1 + r1_0))/\(((1 - r5_0) + (1 + r1_0)) % (1 + r1_0))<=1000)/\
 ∀ (r6_0:List (List Int)),(isTab r6_0 = true/\(r6_0.length:Int) = (1 + r1_0))->
 Q r6_0 o5_0 o5_1 o5_2)/\
 ((!decide (1 < gcdI (1 + r1_0) r5_0)) = false->
 (InI (v9_1 + 1))/\
 (H2 (v9_1 + 1) o5_0 o5_1 o5_2/\m2 (v9_1 + 1) o5_0 o5_1 o5_2 < m2 v9_1 f800_0_1 f800_1_1 f800_2_1))))/\
 (¬ (v9_1 < 6)->
 J1 f800_0_1 f800_1_1 f800_2_1))))/\
 (¬ (r2_0 = 2)->
 ((r2_0 = 3->
 ((6<=most->
 (0<=(3:Int)/\(3:Int)<=8)/\
 ∃ (J2:List (List Int)->List Int->Int->Int->Prop),
 ((okS o2_0 o2_1 o2_2/\InI (2:Int))/\
 ∀ (r7_0:Int) (o7_0:List Int) (o7_1:Int) (o7_2:Int),(nxP (2:Int) r7_0/\o7_0 = o2_0/\okS o2_0 o7_1 o7_2)->
 ((r7_0 = 0->
 J2 ([[0,2,1],[1,0,2],[2,1,0]] : List (List Int)) o7_0 o7_1 o7_2)/\
 (¬ (r7_0 = 0)->
 J2 (growL (3:Int) []) o7_0 o7_1 o7_2)))/\
 ∀ (w2_v11:List (List Int)) (w2_f800_0:List Int) (w2_f800_1:Int) (w2_f800_2:Int),J2 w2_v11 w2_f800_0 w2_f800_1 w2_f800_2->
 ∃ (H3:Int->List (List Int)->Prop) (m3:Int->List (List Int)->Nat),
 H3 0 ([] : List (List Int))/\
 ∀ (v13_1:Int) (o83_1:List (List Int)),H3 v13_1 o83_1->
 (((v13_1 < (w2_v11.length:Int)->
 ∃ (H4:Int->List Int->Prop) (m4:Int->List Int->Nat),
 H4 0 ([] : List Int)/\
 ∀ (v15_2:Int) (o97_2:List Int),H4 v15_2 o97_2->
 (((v15_2 < (w2_v11.length:Int)->
 (0<=v13_1/\v13_1 < (w2_v11.length:Int))/\
 (0<=v15_2/\v15_2 < (w2_v11.length:Int))/\
 (0<=v13_1/\v13_1 < (w2_v11.length:Int))/\
 (small (el w2_v11 v13_1)/\isPerm (el w2_v11 v13_1) = true)/\
 (small (backI (el w2_v11 v13_1))/\∀ x_ ∈ (backI (el w2_v11 v13_1)),0<=x_/\x_ < ((el w2_v11 v15_2).length:Int))/\
 (small ((backI (el w2_v11 v13_1)).map (el (el w2_v11 v15_2)))/\∀ x_ ∈ ((backI (el w2_v11 v13_1)).map (el (el w2_v11 v15_2))),0<=x_/\x_ < ((el w2_v11 v13_1).length:Int))/\
 ∃ (H5:Int->Prop) (m5:Int->Nat),
 H5 0/\
 ∀ (v17_3:Int),H5 v17_3->
 ((0<=v17_3/\v17_3 < (w2_v11.length:Int))/\
 (small (el w2_v11 v17_3)/\small (((backI (el w2_v11 v13_1)).map (el (el w2_v11 v15_2))).map (el (el w2_v11 v13_1))))/\
 ((¬ ((el w2_v11 v17_3) = (((backI (el w2_v11 v13_1)).map (el (el w2_v11 v15_2))).map (el (el w2_v11 v13_1))))->
 (InI (v17_3 + 1))/\
 (H5 (v17_3 + 1)/\m5 (v17_3 + 1) < m5 v17_3))/\
 ((el w2_v11 v17_3) = (((backI (el w2_v11 v13_1)).map (el (el w2_v11 v15_2))).map (el (el w2_v11 v13_1)))->
 ((o97_2.length:Int) + (([v17_3]).length:Int)<=1000000000)/\
 (InI (v15_2 + 1))/\
 (H4 (v15_2 + 1) (o97_2 ++ ([v17_3]))/\m4 (v15_2 + 1) (o97_2 ++ ([v17_3])) < m4 v15_2 o97_2)))))/\
 (¬ (v15_2 < (w2_v11.length:Int))->
 ((o83_1.length:Int) + (([o97_2]).length:Int)<=1000000000)/\
 (InI (v13_1 + 1))/\
 (H3 (v13_1 + 1) (o83_1 ++ ([o97_2]))/\m3 (v13_1 + 1) (o83_1 ++ ([o97_2])) < m3 v13_1 o83_1)))))/\
 (¬ (v13_1 < (w2_v11.length:Int))->
 Q o83_1 w2_f800_0 w2_f800_1 w2_f800_2))))/\
 (¬ (6<=most)->
 J1 o2_0 o2_1 o2_2)))/\
 (¬ (r2_0 = 3)->
 J1 o2_0 o2_1 o2_2)))))))))/\
 ∀ (w1_f800_0:List Int) (w1_f800_1:Int) (w1_f800_2:Int),J1 w1_f800_0 w1_f800_1 w1_f800_2->
 (okS w1_f800_0 w1_f800_1 w1_f800_2/\InI (1 + r1_0))/\
 ∀ (r8_0:Int) (o8_0:List Int) (o8_1:Int) (o8_2:Int),(nxP (1 + r1_0) r8_0/\o8_0 = w1_f800_0/\okS w1_f800_0 o8_1 o8_2)->
 (InI ((if 1 < r8_0 then r8_0 else 1) - 1))/\
 ((0:Int)<=2/\(0:Int) < (if 1 < r8_0 then r8_0 else 1))/\
 (InI ((1 + r1_0) - r8_0))/\
 (InI ((1 + r1_0) - r8_0))/\
 ((0:Int)<=1/\(0:Int) < (1 + r1_0) - r8_0)/\
 (1<=(if 1 < r8_0 then r8_0 else 1)/\(if 1 < r8_0 then r8_0 else 1)<=12/\0<=((if 1 < r8_0 then r8_0 else 1) - 1)/\((if 1 < r8_0 then r8_0 else 1) - 1)<=1000/\0<=(2 % (if 1 < r8_0 then r8_0 else 1))/\(2 % (if 1 < r8_0 then r8_0 else 1))<=1000)/\
 ∀ (r9_0:List (List Int)),(isTab r9_0 = true/\(r9_0.length:Int) = (if 1 < r8_0 then r8_0 else 1))->
 (1<=((1 + r1_0) - r8_0)/\((1 + r1_0) - r8_0)<=12/\0<=(1 % ((1 + r1_0) - r8_0))/\(1 % ((1 + r1_0) - r8_0))<=1000/\0<=(0:Int)/\(0:Int)<=1000)/\
 ∀ (r10_0:List (List Int)),(isTab r10_0 = true/\(r10_0.length:Int) = ((1 + r1_0) - r8_0))->
 ((r8_0 = 0->
 Q r10_0 o8_0 o8_1 o8_2)/\
 (¬ (r8_0 = 0)->
 (InI ((1 + r1_0) - r8_0))/\
 (okS o8_0 o8_1 o8_2/\((1 + r1_0) - r8_0)<=1000)/\
 ∀ (r11_0:List Int) (o11_0:List Int) (o11_1:Int) (o11_2:Int),(((r11_0.length:Int) = max ((1 + r1_0) - r8_0) 0/\(∀ z_ ∈ r11_0,0<=z_/\z_ < ((1 + r1_0) - r8_0))/\r11_0.Nodup)/\o11_0 = o8_0/\okS o8_0 o11_1 o11_2)->
 ∃ (H6:Int->List (List Int)->Prop) (m6:Int->List (List Int)->Nat),
 H6 0 ([] : List (List Int))/\
 ∀ (v23_1:Int) (o165_1:List (List Int)),H6 v23_1 o165_1->
 (((v23_1 < 1 + r1_0->
 ∃ (H7:Int->List Int->Prop) (m7:Int->List Int->Nat),
 H7 0 ([] : List Int)/\
 ∀ (v25_2:Int) (o171_2:List Int),H7 v25_2 o171_2->
 (((v25_2 < 1 + r1_0->
 ((v23_1 < r8_0->
 ((v25_2 < r8_0->
 (0<=v23_1/\v23_1 < (r9_0.length:Int))/\
 (0<=v25_2/\v25_2 < ((el r9_0 v23_1).length:Int))/\
 ((o171_2.length:Int) + (([el (el r9_0 v23_1) v25_2]).length:Int)<=1000000000)/\
 (InI (v25_2 + 1))/\
 (H7 (v25_2 + 1) (o171_2 ++ ([el (el r9_0 v23_1) v25_2]))/\m7 (v25_2 + 1) (o171_2 ++ ([el (el r9_0 v23_1) v25_2])) < m7 v25_2 o171_2))/\
 (¬ (v25_2 < r8_0)->
 ((r8_0<=v23_1->
 ((r8_0<=v25_2->
 (InI (v23_1 - r8_0))/\
 (0<=v23_1 - r8_0/\v23_1 - r8_0 < (r10_0.length:Int))/\
 (InI (v25_2 - r8_0))/\
 (0<=v25_2 - r8_0/\v25_2 - r8_0 < ((el r10_0 (v23_1 - r8_0)).length:Int))/\
 (0<=el (el r10_0 (v23_1 - r8_0)) (v25_2 - r8_0)/\el (el r10_0 (v23_1 - r8_0)) (v25_2 - r8_0) < (r11_0.length:Int))/\
 (InI (r8_0 + (el r11_0 (el (el r10_0 (v23_1 - r8_0)) (v25_2 - r8_0)))))/\
 ((o171_2.length:Int) + (([r8_0 + (el r11_0 (el (el r10_0 (v23_1 - r8_0)) (v25_2 - r8_0)))]).length:Int)<=1000000000)/\
 (InI (v25_2 + 1))/\
 (H7 (v25_2 + 1) (o171_2 ++ ([r8_0 + (el r11_0 (el (el r10_0 (v23_1 - r8_0)) (v25_2 - r8_0)))]))/\m7 (v25_2 + 1) (o171_2 ++ ([r8_0 + (el r11_0 (el (el r10_0 (v23_1 - r8_0)) (v25_2 - r8_0)))])) < m7 v25_2 o171_2))/\
 (¬ (r8_0<=v25_2)->
 ((o171_2.length:Int) + (([v25_2]).length:Int)<=1000000000)/\
 (InI (v25_2 + 1))/\
 (H7 (v25_2 + 1) (o171_2 ++ ([v25_2]))/\m7 (v25_2 + 1) (o171_2 ++ ([v25_2])) < m7 v25_2 o171_2))))/\
 (¬ (r8_0<=v23_1)->
 ((o171_2.length:Int) + (([v25_2]).length:Int)<=1000000000)/\
 (InI (v25_2 + 1))/\
 (H7 (v25_2 + 1) (o171_2 ++ ([v25_2]))/\m7 (v25_2 + 1) (o171_2 ++ ([v25_2])) < m7 v25_2 o171_2))))))/\
 (¬ (v23_1 < r8_0)->
 ((r8_0<=v23_1->
 ((r8_0<=v25_2->
 (InI (v23_1 - r8_0))/\
 (0<=v23_1 - r8_0/\v23_1 - r8_0 < (r10_0.length:Int))/\
 (InI (v25_2 - r8_0))/\
 (0<=v25_2 - r8_0/\v25_2 - r8_0 < ((el r10_0 (v23_1 - r8_0)).length:Int))/\
 (0<=el (el r10_0 (v23_1 - r8_0)) (v25_2 - r8_0)/\el (el r10_0 (v23_1 - r8_0)) (v25_2 - r8_0) < (r11_0.length:Int))/\
 (InI (r8_0 + (el r11_0 (el (el r10_0 (v23_1 - r8_0)) (v25_2 - r8_0)))))/\
 ((o171_2.length:Int) + (([r8_0 + (el r11_0 (el (el r10_0 (v23_1 - r8_0)) (v25_2 - r8_0)))]).length:Int)<=1000000000)/\
 (InI (v25_2 + 1))/\
 (H7 (v25_2 + 1) (o171_2 ++ ([r8_0 + (el r11_0 (el (el r10_0 (v23_1 - r8_0)) (v25_2 - r8_0)))]))/\m7 (v25_2 + 1) (o171_2 ++ ([r8_0 + (el r11_0 (el (el r10_0 (v23_1 - r8_0)) (v25_2 - r8_0)))])) < m7 v25_2 o171_2))/\
 (¬ (r8_0<=v25_2)->
 ((o171_2.length:Int) + (([v25_2]).length:Int)<=1000000000)/\
 (InI (v25_2 + 1))/\
 (H7 (v25_2 + 1) (o171_2 ++ ([v25_2]))/\m7 (v25_2 + 1) (o171_2 ++ ([v25_2])) < m7 v25_2 o171_2))))/\
 (¬ (r8_0<=v23_1)->
 ((o171_2.length:Int) + (([v25_2]).length:Int)<=1000000000)/\
 (InI (v25_2 + 1))/\
 (H7 (v25_2 + 1) (o171_2 ++ ([v25_2]))/\m7 (v25_2 + 1) (o171_2 ++ ([v25_2])) < m7 v25_2 o171_2))))))/\
 (¬ (v25_2 < 1 + r1_0)->
 ((o165_1.length:Int) + (([o171_2]).length:Int)<=1000000000)/\
 (InI (v23_1 + 1))/\
 (H6 (v23_1 + 1) (o165_1 ++ ([o171_2]))/\m6 (v23_1 + 1) (o165_1 ++ ([o171_2])) < m6 v23_1 o165_1)))))/\
 (¬ (v23_1 < 1 + r1_0)->
 Q o165_1 o11_0 o11_1 o11_2)))))
def wp_spec_l03Draw (s1:List Int) (s2:Int) (s3:Int) (most:Int) (Q:List (List Int)->List Int->Int->Int->Prop):Prop:=
 (okS s1 s2 s3/\1<=most/\most<=12)/\
 ∀ (r1_0:List (List Int)) (o1_0:List Int) (o1_1:Int) (o1_2:Int),((isTab r1_0 = true/\(r1_0.length:Int)<=most)/\o1_0 = s1/\okS s1 o1_1 o1_2)->
 (okS o1_0 o1_1 o1_2/\InI (2:Int))/\
 ∀ (r2_0:Int) (o2_0:List Int) (o2_1:Int) (o2_2:Int),(nxP (2:Int) r2_0/\o2_0 = o1_0/\okS o1_0 o2_1 o2_2)->
 ((r2_0 = 0->
 (okS o2_0 o2_1 o2_2/\(r1_0.length:Int)<=1000)/\
 ∀ (r3_0:List Int) (o3_0:List Int) (o3_1:Int) (o3_2:Int),(((r3_0.length:Int) = max (r1_0.length:Int) 0/\(∀ z_ ∈ r3_0,0<=z_/\z_ < (r1_0.length:Int))/\r3_0.Nodup)/\o3_0 = o2_0/\okS o2_0 o3_1 o3_2)->
 (isTab r1_0 = true/\(r3_0.length:Int) = (r1_0.length:Int)/\∀ z_ ∈ r3_0,0<=z_/\z_ < (r1_0.length:Int))/\
 ∀ (r4_0:List (List Int)),(isTab r4_0 = true/\r4_0.length = r1_0.length/\(isPerm r3_0 = true->∀ u_ v_:Int,(0<=u_/\u_ < (r1_0.length:Int))->(0<=v_/\v_ < (r1_0.length:Int))->el (el r4_0 (el r3_0 u_)) (el r3_0 v_) = el r3_0 (el (el r1_0 u_) v_)))->
 Q r4_0 o3_0 o3_1 o3_2)/\
 (¬ (r2_0 = 0)->
 Q r1_0 o2_0 o2_1 o2_2))
def wp_spec_l03DrawAny (s1:List Int) (s2:Int) (s3:Int) (most:Int) (Q:List (List Int)->List Int->Int->Int->Prop):Prop:=
 (okS s1 s2 s3/\1<=most/\most<=12)/\
 ∀ (r1_0:List (List Int)) (o1_0:List Int) (o1_1:Int) (o1_2:Int),((isTab r1_0 = true/\(r1_0.length:Int)<=most)/\o1_0 = s1/\okS s1 o1_1 o1_2)->
 (okS o1_0 o1_1 o1_2/\InI (24:Int))/\
 ∀ (r2_0:Int) (o2_0:List Int) (o2_1:Int) (o2_2:Int),(nxP (24:Int) r2_0/\o2_0 = o1_0/\okS o1_0 o2_1 o2_2)->
 ((r2_0 = 0->
 (okS o2_0 o2_1 o2_2/\InI (r1_0.length:Int))/\
 ∀ (r3_0:Int) (o3_0:List Int) (o3_1:Int) (o3_2:Int),(nxP (r1_0.length:Int) r3_0/\o3_0 = o2_0/\okS o2_0 o3_1 o3_2)->
 (okS o3_0 o3_1 o3_2/\(r1_0.length:Int)<=1000)/\
 ∀ (r4_0:List Int) (o4_0:List Int) (o4_1:Int) (o4_2:Int),(((r4_0.length:Int) = max (r1_0.length:Int) 0/\(∀ z_ ∈ r4_0,0<=z_/\z_ < (r1_0.length:Int))/\r4_0.Nodup)/\o4_0 = o3_0/\okS o3_0 o4_1 o4_2)->
 (0<=r3_0/\r3_0 < (r1_0.length:Int))/\
 Q (se r1_0 r3_0 r4_0) o4_0 o4_1 o4_2)/\
 (¬ (r2_0 = 0)->
 ((r2_0 = 1->
 (InI ((r1_0.length:Int) + 1))/\
 (okS o2_0 o2_1 o2_2/\InI (r1_0.length:Int))/\
 ∀ (r5_0:Int) (o5_0:List Int) (o5_1:Int) (o5_2:Int),(nxP (r1_0.length:Int) r5_0/\o5_0 = o2_0/\okS o2_0 o5_1 o5_2)->
 (0<=r5_0/\r5_0 < (r1_0.length:Int))/\
 (okS o5_0 o5_1 o5_2/\InI (r1_0.length:Int))/\
 ∀ (r6_0:Int) (o6_0:List Int) (o6_1:Int) (o6_2:Int),(nxP (r1_0.length:Int) r6_0/\o6_0 = o5_0/\okS o5_0 o6_1 o6_2)->
 (okS o6_0 o6_1 o6_2/\InI ((r1_0.length:Int) + 1))/\
 ∀ (r7_0:Int) (o7_0:List Int) (o7_1:Int) (o7_2:Int),(nxP ((r1_0.length:Int) + 1) r7_0/\o7_0 = o6_0/\okS o6_0 o7_1 o7_2)->
 (0<=r6_0/\r6_0 < ((el r1_0 r5_0).length:Int))/\
 Q (se r1_0 r5_0 (se (el r1_0 r5_0) r6_0 r7_0)) o7_0 o7_1 o7_2)/\
 (¬ (r2_0 = 1)->
 ((r2_0 = 2->
 ((0:Int)<=1/\1<=(r1_0.length:Int)/\(r1_0.length:Int)<=(r1_0.length:Int))/\
 Q (sl r1_0 1 (r1_0.length:Int)) o2_0 o2_1 o2_2)/\
 (¬ (r2_0 = 2)->
 Q r1_0 o2_0 o2_1 o2_2))))))
def wp_laws_big (code:List Int) (Q:Bool->Prop):Prop:=
 Q (decide (4096 < (code.length:Int)))
def wtT (n k:Int) (A B:List (List Int)) (p:List Int) (Q:List (List Int)->Prop):Prop:=
       ∃ (H3:Int->List (List Int)->Prop) (m3:Int->List (List Int)->Nat),
       H3 0 ([] : List (List Int))/\
       ∀ (x:Int) (o:List (List Int)),H3 x o->
       (((x < n->
         ∃ (H4:Int->List Int->Prop) (m4:Int->List Int->Nat),
         H4 0 ([] : List Int)/\
         ∀ (y:Int) (r:List Int),H4 y r->
         (((y < n->
           ((x < k->
            ((y < k->
             (0<=x/\x < (A.length:Int))/\
             (0<=y/\y < ((el A x).length:Int))/\
             ((r.length:Int) + (([el (el A x) y]).length:Int)<=1000000000)/\
             (InI (y + 1))/\
             (H4 (y + 1) (r ++ ([el (el A x) y]))/\m4 (y + 1) (r ++ ([el (el A x) y])) < m4 y r))/\
            (¬ (y < k)->
             ((k<=x->
              ((k<=y->
               (InI (x - k))/\
               (0<=x - k/\x - k < (B.length:Int))/\
               (InI (y - k))/\
               (0<=y - k/\y - k < ((el B (x - k)).length:Int))/\
               (0<=el (el B (x - k)) (y - k)/\el (el B (x - k)) (y - k) < (p.length:Int))/\
               (InI (k + (el p (el (el B (x - k)) (y - k)))))/\
               ((r.length:Int) + (([k + (el p (el (el B (x - k)) (y - k)))]).length:Int)<=1000000000)/\
               (InI (y + 1))/\
               (H4 (y + 1) (r ++ ([k + (el p (el (el B (x - k)) (y - k)))]))/\m4 (y + 1) (r ++ ([k + (el p (el (el B (x - k)) (y - k)))])) < m4 y r))/\
              (¬ (k<=y)->
               ((r.length:Int) + (([y]).length:Int)<=1000000000)/\
               (InI (y + 1))/\
               (H4 (y + 1) (r ++ ([y]))/\m4 (y + 1) (r ++ ([y])) < m4 y r))))/\
             (¬ (k<=x)->
              ((r.length:Int) + (([y]).length:Int)<=1000000000)/\
              (InI (y + 1))/\
              (H4 (y + 1) (r ++ ([y]))/\m4 (y + 1) (r ++ ([y])) < m4 y r))))))/\
           (¬ (x < k)->
            ((k<=x->
             ((k<=y->
              (InI (x - k))/\
              (0<=x - k/\x - k < (B.length:Int))/\
              (InI (y - k))/\
              (0<=y - k/\y - k < ((el B (x - k)).length:Int))/\
              (0<=el (el B (x - k)) (y - k)/\el (el B (x - k)) (y - k) < (p.length:Int))/\
              (InI (k + (el p (el (el B (x - k)) (y - k)))))/\
              ((r.length:Int) + (([k + (el p (el (el B (x - k)) (y - k)))]).length:Int)<=1000000000)/\
              (InI (y + 1))/\
              (H4 (y + 1) (r ++ ([k + (el p (el (el B (x - k)) (y - k)))]))/\m4 (y + 1) (r ++ ([k + (el p (el (el B (x - k)) (y - k)))])) < m4 y r))/\
             (¬ (k<=y)->
              ((r.length:Int) + (([y]).length:Int)<=1000000000)/\
              (InI (y + 1))/\
              (H4 (y + 1) (r ++ ([y]))/\m4 (y + 1) (r ++ ([y])) < m4 y r))))/\
            (¬ (k<=x)->
             ((r.length:Int) + (([y]).length:Int)<=1000000000)/\
             (InI (y + 1))/\
             (H4 (y + 1) (r ++ ([y]))/\m4 (y + 1) (r ++ ([y])) < m4 y r))))))/\
          (¬ (y < n)->
           ((o.length:Int) + (([r]).length:Int)<=1000000000)/\
           (InI (x + 1))/\
           (H3 (x + 1) (o ++ ([r]))/\m3 (x + 1) (o ++ ([r])) < m3 x o)))))/\
        (¬ (x < n)->
         Q o)))
def wtC (A:List (List Int)) (Q:List (List Int)->Prop):Prop:=
       ∃ (H5:Int->List (List Int)->Prop) (m5:Int->List (List Int)->Nat),
       H5 0 ([] : List (List Int))/\
       ∀ (x:Int) (o:List (List Int)),H5 x o->
       (((x < (A.length:Int)->
         ∃ (H6:Int->List Int->Prop) (m6:Int->List Int->Nat),
         H6 0 ([] : List Int)/\
         ∀ (y:Int) (r:List Int),H6 y r->
         (((y < (A.length:Int)->
           (0<=x/\x < (A.length:Int))/\
           (0<=y/\y < (A.length:Int))/\
           (0<=x/\x < (A.length:Int))/\
           (small (el A x)/\isPerm (el A x) = true)/\
           (small (backI (el A x))/\∀ x_ ∈ (backI (el A x)),0<=x_/\x_ < ((el A y).length:Int))/\
           (small ((backI (el A x)).map (el (el A y)))/\∀ x_ ∈ ((backI (el A x)).map (el (el A y))),0<=x_/\x_ < ((el A x).length:Int))/\
           ∃ (H7:Int->Prop) (m7:Int->Nat),
           H7 0/\
           ∀ (z:Int),H7 z->
           ((0<=z/\z < (A.length:Int))/\
            (small (el A z)/\small (((backI (el A x)).map (el (el A y))).map (el (el A x))))/\
            ((¬ ((el A z) = (((backI (el A x)).map (el (el A y))).map (el (el A x))))->
             (InI (z + 1))/\
             (H7 (z + 1)/\m7 (z + 1) < m7 z))/\
            ((el A z) = (((backI (el A x)).map (el (el A y))).map (el (el A x)))->
             ((r.length:Int) + (([z]).length:Int)<=1000000000)/\
             (InI (y + 1))/\
             (H6 (y + 1) (r ++ ([z]))/\m6 (y + 1) (r ++ ([z])) < m6 y r)))))/\
          (¬ (y < (A.length:Int))->
           ((o.length:Int) + (([r]).length:Int)<=1000000000)/\
           (InI (x + 1))/\
           (H5 (x + 1) (o ++ ([r]))/\m5 (x + 1) (o ++ ([r])) < m5 x o)))))/\
        (¬ (x < (A.length:Int))->
         Q o)))
theorem tail_ok {n k:Int} {A B:List (List Int)} {p:List Int} {Q:List (List Int)->Prop} (hk:1<=k/\k < n/\n<=12) (hA:isTab A = true/\(A.length:Int) = k) (hB:isTab B = true/\(B.length:Int) = n - k) (hp:(p.length:Int) = n - k/\∀ z ∈ p,0<=z/\z < n - k)
    (hQ : ∀ o,isTab o = true->(o.length:Int) = n->Q o):wtT n k A B p Q:=by
  refine⟨fun x o=>(0<=x/\x<=n)/\(o.length:Int) = x/\∀ r ∈ o,(r.length:Int) = n/\∀ z ∈ r,0<=z/\z < n,fun x _=>(n - x).toNat,⟨⟨by omega,by omega⟩,rfl,by simp⟩,?_⟩
  rintro x o ⟨⟨x0,x1⟩,ol,ho⟩
  dsimp only
  refine⟨fun xn=>?_,fun xn=>hQ o (isTab_rows (by omega) (by omega) ho) (by omega)⟩
  refine⟨fun y r=>(0<=y/\y<=n)/\(r.length:Int) = y/\∀ z ∈ r,0<=z/\z < n,fun y _=>(n - y).toNat,⟨⟨by omega,by omega⟩,rfl,by simp⟩,?_⟩
  rintro y r ⟨⟨y0,y1⟩,rl,hr⟩
  dsimp only
  have nx : ∀ z:Int,0<=z->z < n->y < n->(((r.length:Int) + (([z]).length:Int)<=1000000000)/\InI (y + 1)/\((0<=y + 1/\y + 1<=n)/\((r ++ [z]).length:Int) = y + 1/\∀ w ∈ r ++ [z],0<=w/\w < n)/\(n - (y + 1)).toNat < (n - y).toNat):=fun z z0 z1 yn=>
    ⟨by rw [List.length_singleton]; omega,⟨by omega,by omega⟩,⟨⟨by omega,by omega⟩,by simp; omega,mem_app hr ⟨z0,z1⟩⟩,by omega⟩
  refine⟨fun yn=>?_,fun yn=>⟨by rw [List.length_singleton]; omega,⟨by omega,by omega⟩,⟨⟨by omega,by omega⟩,by simp; omega,mem_app ho ⟨by omega,hr⟩⟩,by omega⟩⟩
  have bb:k<=x->k<=y->_:=fun xk yk=>
    have a:=rk_len hB.1 (x:=x - k) ⟨by omega,by omega⟩
    have v:=rk_el hB.1 (x:=x - k) (y:=y - k) ⟨by omega,by omega⟩ ⟨by omega,by omega⟩
    have pv:=hp.2 _ (el_mem (i:=el (el B (x - k)) (y - k)) ⟨v.1,by omega⟩)
    (⟨(⟨by omega,by omega⟩ : InI (x - k)),(⟨by omega,by omega⟩ : 0<=x - k/\x - k < (B.length:Int)),(⟨by omega,by omega⟩ : InI (y - k)),(⟨by omega,by omega⟩ : 0<=y - k/\y - k < ((el B (x - k)).length:Int)),
      (⟨v.1,by omega⟩ : 0<=el (el B (x - k)) (y - k)/\el (el B (x - k)) (y - k) < (p.length:Int)),(⟨by omega,by omega⟩ : InI (k + el p (el (el B (x - k)) (y - k)))),nx (k + el p (el (el B (x - k)) (y - k))) (by omega) (by omega) yn⟩ :
      InI (x - k)/\(0<=x - k/\x - k < (B.length:Int))/\InI (y - k)/\(0<=y - k/\y - k < ((el B (x - k)).length:Int))/\(0<=el (el B (x - k)) (y - k)/\el (el B (x - k)) (y - k) < (p.length:Int))/\InI (k + el p (el (el B (x - k)) (y - k)))/\(((r.length:Int) + (([k + el p (el (el B (x - k)) (y - k))]).length:Int)<=1000000000)/\InI (y + 1)/\((0<=y + 1/\y + 1<=n)/\((r ++ [k + el p (el (el B (x - k)) (y - k))]).length:Int) = y + 1/\∀ w ∈ r ++ [k + el p (el (el B (x - k)) (y - k))],0<=w/\w < n)/\(n - (y + 1)).toNat < (n - y).toNat))
  refine⟨fun xk=>⟨fun yk=>?_,fun yk=>⟨fun g=>absurd g (by omega),fun _=>nx y y0 yn yn⟩⟩,fun xk=>⟨fun xk'=>⟨fun yk=>bb xk' yk,fun yk=>nx y y0 yn yn⟩,fun g=>absurd g (by omega)⟩⟩
  have a:=rk_len hA.1 (x:=x) ⟨x0,by omega⟩
  have v:=rk_el hA.1 (x:=x) (y:=y) ⟨x0,by omega⟩ ⟨y0,by omega⟩
  exact⟨⟨x0,by omega⟩,⟨y0,by omega⟩,nx _ v.1 (by omega) yn⟩
theorem conj_ok {A:List (List Int)} {Q:List (List Int)->Prop} (h:cj3 A = true) (hQ : ∀ o,isTab o = true->o.length = A.length->Q o):wtC A Q:=by
  simp only [cj3,Bool.and_eq_true,decide_eq_true_eq,List.all_eq_true] at h
  obtain⟨⟨l1,l2⟩,h⟩:=h
  refine⟨fun x o=>(0<=x/\x<=(A.length:Int))/\(o.length:Int) = x/\∀ r ∈ o,(r.length:Int) = (A.length:Int)/\∀ z ∈ r,0<=z/\z < (A.length:Int),fun x _=>((A.length:Int) - x).toNat,⟨⟨by omega,by omega⟩,rfl,by simp⟩,?_⟩
  rintro x o ⟨⟨x0,x1⟩,ol,ho⟩
  dsimp only
  refine⟨fun xn=>?_,fun xn=>hQ o (isTab_rows (by omega) (by omega) ho) (by omega)⟩
  refine⟨fun y r=>(0<=y/\y<=(A.length:Int))/\(r.length:Int) = y/\∀ z ∈ r,0<=z/\z < (A.length:Int),fun y _=>((A.length:Int) - y).toNat,⟨⟨by omega,by omega⟩,rfl,by simp⟩,?_⟩
  rintro y r ⟨⟨y0,y1⟩,rl,hr⟩
  dsimp only
  refine⟨fun yn=>?_,fun yn=>⟨by rw [List.length_singleton]; omega,⟨by omega,by omega⟩,⟨⟨by omega,by omega⟩,by simp; omega,mem_app ho ⟨by omega,hr⟩⟩,by omega⟩⟩
  have hx:=h _ (el_mem (i:=x) ⟨x0,xn⟩)
  have hy:=h _ (el_mem (i:=y) ⟨y0,yn⟩)
  have px:=hx.1.2
  have py:=hy.1.2
  have lb:((backI (el A x)).length:Int) = 3:=by simp; omega
  have pb:=(isPerm_iff.1 (isPerm_backI px)).2
  have hc:=List.contains_iff_mem.1 (hx.2 _ (el_mem (i:=y) ⟨y0,yn⟩))
  refine⟨⟨x0,xn⟩,⟨y0,yn⟩,⟨x0,xn⟩,⟨by show (_:Int)<=_; omega,px⟩,⟨by show (_:Int)<=_; omega,fun z hz=>by have:=pb z hz; omega⟩,⟨by show (_:Int)<=_; rw [List.length_map]; omega,fun z hz=>?_⟩,?_⟩
  · obtain⟨w,hw,rfl⟩:=List.mem_map.1 hz
    have h1:=pb w hw
    have:=(isPerm_iff.1 py).2 _ (el_mem (i:=w) ⟨h1.1,by omega⟩)
    omega
  generalize hC:((backI (el A x)).map (el (el A y))).map (el (el A x)) = c at hc ⊢
  obtain⟨i,hi,hie⟩:=mem_el hc
  refine⟨fun z=>0<=z/\∀ j,0<=j->j < z->el A j≠c,fun z=>((A.length:Int) - z).toNat,⟨by omega,fun j a b=>absurd b (by omega)⟩,?_⟩
  rintro z ⟨z0,hz⟩
  dsimp only
  have zi:z<=i:=by
    rcases Int.lt_or_le i z with g | g
    · exact absurd hie (hz i hi.1 g)
    · exact g
  have hzz:=h _ (el_mem (i:=z) ⟨z0,by omega⟩)
  have lc:c.length = 3:=by rw [<- hC]; simp; omega
  refine⟨⟨z0,by omega⟩,⟨by show (_:Int)<=_; omega,by show (_:Int)<=_; omega⟩,fun hn=>⟨⟨by omega,by omega⟩,⟨by omega,fun j j0 j1=>?_⟩,?_⟩,fun he=>⟨by rw [List.length_singleton]; omega,⟨by omega,by omega⟩,⟨⟨by omega,by omega⟩,by simp; omega,mem_app hr ⟨z0,by omega⟩⟩,by omega⟩⟩
  · rcases Int.lt_or_le j z with g | g
    · exact hz j j0 g
    · rw [show j = z by omega]; exact hn
  · have:z≠i:=fun e=>hn (by rw [e]; exact hie)
    omega
theorem cj3_a:cj3 [[0,2,1],[1,0,2],[2,1,0]] = true:=by decide +kernel
theorem cj3_b:cj3 (growL 3 []) = true:=by decide +kernel
theorem len_growL3:(growL 3 []).length = 6:=by decide +kernel
theorem p_spec_l01Grow (n:Int) (start:List Int) (list:List (List Int)) (hp:(start.length:Int)<=n/\n<=8/\((list ++ growL n start).length:Int)<=100000000):wp_spec_l01Grow n start list (fun y0=>y0 = list ++ growL n start):=by
  obtain⟨h1,h2,h3⟩:=hp
  refine⟨fun e=>?_,fun e=>?_⟩
  · rw [growL_end e] at h3 ⊢
    exact⟨by rw [List.length_append] at h3; omega,rfl⟩
  · have hs:small start:=by show (start.length:Int)<=_; omega
    have hlt:(start.length:Int) < n:=by omega
    refine⟨fun x o=>(0<=x/\x<=n)/\o = list ++ growT n start x,fun x _=>(n - x).toNat,⟨⟨by omega,by omega⟩,by rw [growT_zero,List.append_nil]⟩,?_⟩
    rintro x o ⟨⟨x0,x1⟩,rfl⟩
    dsimp only
    refine⟨fun xn=>⟨hs,fun hc=>?_,fun hc=>?_⟩,fun xn=>by rw [growL_step hlt,show x = n by omega]⟩
    · refine⟨hs,by rw [List.length_singleton]; omega,by simp; omega,⟨by simp; omega,h2,?_⟩,⟨by omega,by omega⟩,⟨⟨by omega,by omega⟩,?_⟩,by omega⟩
      · have:=growT_len (n:=n) (s:=start) (x:=x + 1) (y:=n) ⟨by omega,by omega⟩
        rw [growT_succ x0,hc] at this
        rw [growL_step hlt] at h3
        simp at this h3 ⊢; omega
      · rw [growT_succ x0,hc]; simp
    · exact⟨⟨by omega,by omega⟩,⟨⟨by omega,by omega⟩,by rw [growT_succ x0,hc]; simp⟩,by omega⟩
theorem p_spec_l01Perms (n:Int) (hp:0<=n/\n<=8):wp_spec_l01Perms n (fun y0=>y0 = growL n []):=by
  have:=growL_len8 hp
  refine⟨⟨by simp; omega,hp.2,by rw [List.nil_append]; omega⟩,by rw [List.nil_append]⟩
theorem p_spec_l03DrawTableW (s1:List Int) (s2 s3 most:Int) (hp:okS s1 s2 s3/\1<=most/\most<=12):wp_spec_l03DrawTableW s1 s2 s3 most (fun y0 w0 w1 w2=>(isTab y0 = true/\(y0.length:Int)<=most)/\w0 = s1/\okS s1 w1 w2):=by
  obtain⟨hS,m1,m2⟩:=hp
  refine⟨⟨hS,by omega,by omega⟩,?_⟩
  rintro r o0 o1 o2 ⟨hr,rfl,h1⟩
  have hr2:=hr.2 (by omega)
  refine⟨⟨by omega,by omega⟩,fun c a h=>c = o0/\okS c a h,⟨⟨h1,by omega,by omega⟩,?_⟩,?_⟩
  · rintro c a0 a1 a2 ⟨hc,rfl,h2⟩
    have md : ∀ z:Int,0<=z % (1 + r)/\z % (1 + r) < 1 + r:=fun z=>⟨Int.emod_nonneg _ (by omega),Int.emod_lt_of_pos _ (by omega)⟩
    refine⟨fun _=>⟨⟨h2,by omega⟩,?_⟩,fun _=>⟨fun _=>?_,fun _=>⟨fun _=>?_,fun _=>⟨fun _=>⟨fun hm=>?_,fun _=>⟨rfl,h2⟩⟩,fun _=>⟨rfl,h2⟩⟩⟩⟩⟩
    · rintro p p0 p1 p2 ⟨⟨pl,pz,_⟩,rfl,h3⟩
      refine⟨fun x o=>(0<=x/\x<=1 + r)/\(o.length:Int) = x/\∀ q ∈ o,(q.length:Int) = 1 + r/\∀ z ∈ q,0<=z/\z < 1 + r,fun x _=>(1 + r - x).toNat,⟨⟨by omega,by omega⟩,rfl,by simp⟩,?_⟩
      rintro x o ⟨⟨x0,x1⟩,ol,ho⟩
      dsimp only
      exact⟨fun xn=>⟨by show (_:Int)<=_; omega,by rw [List.length_singleton]; omega,⟨by omega,by omega⟩,⟨⟨by omega,by omega⟩,by simp; omega,mem_app ho ⟨by omega,pz⟩⟩,by omega⟩,fun xn=>⟨⟨isTab_rows (by omega) (by omega) ho,by omega⟩,rfl,h3⟩⟩
    · have:=md 2
      exact⟨⟨by omega,by omega⟩,⟨by omega,by omega⟩,⟨by omega,by omega,by omega,by omega,this.1,by omega⟩,fun t ⟨ht,tl⟩=>⟨⟨ht,by omega⟩,rfl,h2⟩⟩
    · refine⟨fun x c a h=>(0<=x/\x<=6)/\c = a0/\okS c a h,fun x _ _ _=>(6 - x).toNat,⟨⟨by omega,by omega⟩,rfl,h2⟩,?_⟩
      rintro x c a h ⟨⟨x0,x1⟩,rfl,h3⟩
      dsimp only
      refine⟨fun xn=>⟨⟨h3,by omega,by omega⟩,?_⟩,fun xn=>⟨rfl,h3⟩⟩
      rintro q b0 b1 b2 ⟨hq,rfl,h4⟩
      have hq2:=hq.2 (by omega)
      have:=md ((1 - q) + (1 + r))
      exact⟨⟨hq2.1,by omega,by omega⟩,fun _=>⟨⟨by omega,by omega⟩,⟨by omega,by omega⟩,⟨by omega,by omega⟩,⟨by omega,by omega,hq2.1,by omega,this.1,by omega⟩,fun t ⟨ht,tl⟩=>⟨⟨ht,by omega⟩,rfl,h4⟩⟩,fun _=>⟨⟨by omega,by omega⟩,⟨⟨by omega,by omega⟩,rfl,h4⟩,by omega⟩⟩
    · refine⟨⟨by omega,by omega⟩,fun L c a h=>(cj3 L = true/\L.length<=6)/\c = a0/\okS c a h,⟨⟨h2,by omega,by omega⟩,?_⟩,?_⟩
      · rintro q b0 b1 b2 ⟨hq,rfl,h4⟩
        exact⟨fun _=>⟨⟨cj3_a,by decide⟩,rfl,h4⟩,fun _=>⟨⟨cj3_b,by have:=len_growL3; omega⟩,rfl,h4⟩⟩
      · rintro L c a h ⟨⟨hL,ll⟩,rfl,h4⟩
        exact conj_ok (Q:=fun o=>(isTab o = true/\(o.length:Int)<=most)/\c = c/\okS c a h) hL fun o ho ol=>⟨⟨ho,by omega⟩,rfl,h4⟩
  · rintro c a h ⟨rfl,hT⟩
    refine⟨⟨hT,by omega,by omega⟩,?_⟩
    rintro k o0 o1 o2 ⟨hk,rfl,h1⟩
    have hk2:=hk.2 (by omega)
    have mx:1<=(if 1 < k then k else 1)/\(if 1 < k then k else 1)<=12/\(1<=k->(if 1 < k then k else 1) = k):=by split <;> omega
    generalize (if 1 < k then k else 1) = m at *
    have e2:0<=2 % m/\2 % m < m:=⟨Int.emod_nonneg _ (by omega),Int.emod_lt_of_pos _ (by omega)⟩
    have e1:0<=1 % (1 + r - k)/\1 % (1 + r - k) < 1 + r - k:=⟨Int.emod_nonneg _ (by omega),Int.emod_lt_of_pos _ (by omega)⟩
    refine⟨⟨by omega,by omega⟩,⟨by omega,by omega⟩,⟨by omega,by omega⟩,⟨by omega,by omega⟩,⟨by omega,by omega⟩,⟨by omega,by omega,by omega,by omega,e2.1,by omega⟩,?_⟩
    rintro A ⟨hA,lA⟩
    refine⟨⟨by omega,by omega,e1.1,by omega,by omega,by omega⟩,?_⟩
    rintro B ⟨hB,lB⟩
    refine⟨fun _=>⟨⟨hB,by omega⟩,rfl,h1⟩,fun hk0=>⟨⟨by omega,by omega⟩,⟨h1,by omega⟩,?_⟩⟩
    rintro p p0 p1 p2 ⟨⟨pl,pz,_⟩,rfl,h2⟩
    exact tail_ok (Q:=fun o=>(isTab o = true/\(o.length:Int)<=most)/\p0 = p0/\okS p0 p1 p2) ⟨by omega,by omega,by omega⟩ ⟨hA,by omega⟩ ⟨hB,lB⟩ ⟨by omega,pz⟩ fun o ho ol=>⟨⟨ho,by omega⟩,rfl,h2⟩
theorem p_spec_l03Image (t:List (List Int)) (p:List Int) (hp:isTab t = true/\(p.length:Int) = (t.length:Int)/\∀ z_ ∈ p,0<=z_/\z_ < (t.length:Int)):wp_spec_l03Image t p (fun y0=>isTab y0 = true/\y0.length = t.length/\(isPerm p = true->∀ u_ v_:Int,(0<=u_/\u_ < (t.length:Int))->(0<=v_/\v_ < (t.length:Int))->el (el y0 (el p u_)) (el p v_) = el p (el (el t u_) v_))):=by
  obtain⟨ht,hl,hr⟩:=hp
  have hn:=isTab_len ht
  have pe : ∀ {x:Int},0<=x->x < (t.length:Int)->0<=el p x/\el p x < (t.length:Int):=fun h1 h2=>hr _ (el_mem ⟨h1,by omega⟩)
  refine⟨isTab_small ht,fun x o=>(0<=x/\x<=(t.length:Int))/\isTab o = true/\o.length = t.length/\(isPerm p = true->∀ u v:Int,(0<=u/\u < x)->(0<=v/\v < (t.length:Int))->el (el o (el p u)) (el p v) = el p (el (el t u) v)),fun x _=>((t.length:Int) - x).toNat,⟨⟨by omega,by omega⟩,ht,rfl,fun _ u v hu=>by omega⟩,?_⟩
  rintro x o ⟨⟨x0,x1⟩,ho,hol,hv⟩
  dsimp only
  refine⟨fun xlt=>?_,fun xge=>⟨ho,hol,fun hP u v hu=>hv hP u v ⟨hu.1,by omega⟩⟩⟩
  refine⟨fun y o=>(0<=y/\y<=(t.length:Int))/\isTab o = true/\o.length = t.length/\(isPerm p = true->∀ u v:Int,(0<=u/\u < (t.length:Int))->(0<=v/\v < (t.length:Int))->(u < x\/(u = x/\v < y))->el (el o (el p u)) (el p v) = el p (el (el t u) v)),fun y _=>((t.length:Int) - y).toNat,⟨⟨by omega,by omega⟩,ho,hol,fun hP u v hu hv2 hc=>hv hP u v ⟨hu.1,by omega⟩ hv2⟩,?_⟩
  rintro y w ⟨⟨y0,y1⟩,hw,hwl,hv⟩
  dsimp only
  refine⟨fun ylt=>?_,fun yge=>⟨⟨by omega,by omega⟩,⟨⟨by omega,by omega⟩,hw,hwl,fun hP u v hu hv2=>hv hP u v ⟨hu.1,by omega⟩ hv2 (by omega)⟩,by omega⟩⟩
  have a:=pe x0 xlt
  have b:=pe y0 ylt
  have lx:=rk_len ht ⟨x0,xlt⟩
  have v:=rk_el ht (x:=x) (y:=y) ⟨x0,xlt⟩ ⟨y0,ylt⟩
  have c:=pe v.1 v.2
  have lw:=rk_len hw (x:=el p x) ⟨a.1,by omega⟩
  refine⟨⟨x0,by omega⟩,⟨y0,by omega⟩,⟨x0,xlt⟩,⟨a.1,by omega⟩,⟨y0,by omega⟩,⟨v.1,by omega⟩,⟨b.1,by omega⟩,⟨by omega,by omega⟩,⟨⟨by omega,by omega⟩,isTab_se hw ⟨a.1,by omega⟩ ⟨b.1,by omega⟩ ⟨c.1,by omega⟩,by simpa using hwl,fun hP u z hu hz hc=>?_⟩,by omega⟩
  have pu:=pe hu.1 hu.2
  have pz:=pe hz.1 hz.2
  by_cases e:u = x
  · subst e
    rw [el_se_same ⟨a.1,by omega⟩]
    by_cases e2:z = y
    · subst e2; rw [el_se_same ⟨b.1,by omega⟩]
    · rw [el_se_ne b.1 pz.1 (fun e3=>e2 (isPerm_inj hP ⟨hz.1,by omega⟩ ⟨y0,by omega⟩ e3.symm))]
      exact hv hP u z hu hz (.inr ⟨rfl,by omega⟩)
  · rw [el_se_ne a.1 pu.1 (fun e3=>e (isPerm_inj hP ⟨hu.1,by omega⟩ ⟨x0,by omega⟩ e3.symm))]
    exact hv hP u z hu hz (.inl (by omega))
theorem drT_tab {t:List (List Int)} {m:Int} (h:isTab t = true) (hm:(t.length:Int)<=m):drT m t:=by
  have hn:=isTab_len h
  refine⟨hm,fun r hr=>?_⟩
  obtain⟨i,hi,rfl⟩:=mem_el hr
  have hl:=rk_len h hi
  refine⟨by omega,fun z hz=>?_⟩
  obtain⟨j,hj,rfl⟩:=mem_el hz
  have:0<=el (el t i) j/\el (el t i) j < (t.length:Int):=rk_el h hi ⟨hj.1,by omega⟩
  omega
theorem drT_se {t:List (List Int)} {m i:Int} {r:List Int} (h:drT m t) (hr:(r.length:Int)<=12/\∀ z ∈ r,0<=z/\z<=12):drT m (se t i r):=
  ⟨by have:=h.1; simpa using this,fun q hq=>by
    rcases List.mem_or_eq_of_mem_set hq with h1 | h1
    · exact h.2 q h1
    · rw [h1]; exact hr⟩
theorem p_spec_l03Draw (s1:List Int) (s2 s3 most:Int) (hp:okS s1 s2 s3/\1<=most/\most<=12):wp_spec_l03Draw s1 s2 s3 most (fun y0 w0 w1 w2=>(isTab y0 = true/\(y0.length:Int)<=most)/\w0 = s1/\okS s1 w1 w2):=by
  refine⟨hp,?_⟩
  rintro t o0 o1 o2 ⟨ht,rfl,h1⟩
  have hn:=isTab_len ht.1
  refine⟨⟨h1,by omega,by omega⟩,?_⟩
  rintro r p0 p1 p2 ⟨hr,rfl,h2⟩
  refine⟨fun _=>⟨⟨h2,by omega⟩,?_⟩,fun _=>⟨ht,rfl,h2⟩⟩
  rintro p q0 q1 q2 ⟨⟨hl,hz,_⟩,rfl,h3⟩
  refine⟨⟨ht.1,by omega,hz⟩,?_⟩
  rintro u ⟨hu,hul,_⟩
  exact⟨⟨hu,by rw [hul]; exact ht.2⟩,rfl,h3⟩
theorem p_spec_l03DrawAny (s1:List Int) (s2 s3 most:Int) (hp:okS s1 s2 s3/\1<=most/\most<=12):wp_spec_l03DrawAny s1 s2 s3 most (fun y0 w0 w1 w2=>drT most y0/\w0 = s1/\okS s1 w1 w2):=by
  refine⟨hp,?_⟩
  rintro t o0 o1 o2 ⟨ht,rfl,h1⟩
  have hn:=isTab_len ht.1
  have hd:=drT_tab ht.1 ht.2
  refine⟨⟨h1,by omega,by omega⟩,?_⟩
  rintro r p0 p1 p2 ⟨hr,rfl,h2⟩
  refine⟨fun _=>⟨⟨h2,by omega,by omega⟩,?_⟩,fun _=>⟨fun _=>⟨⟨by omega,by omega⟩,⟨h2,by omega,by omega⟩,?_⟩,fun _=>⟨fun _=>⟨⟨by omega,by omega,by omega⟩,⟨?_,fun q hq=>hd.2 q (List.mem_of_mem_take (List.mem_of_mem_drop hq))⟩,rfl,h2⟩,fun _=>⟨hd,rfl,h2⟩⟩⟩⟩
  · rintro i a0 a1 a2 ⟨hi,rfl,h3⟩
    have hi2:=hi.2 (by omega)
    refine⟨⟨h3,by omega⟩,?_⟩
    rintro p b0 b1 b2 ⟨⟨hl,hz,_⟩,rfl,h4⟩
    exact⟨hi2,drT_se hd ⟨by omega,fun z hz'=>by have:=hz z hz'; omega⟩,rfl,h4⟩
  · rintro i a0 a1 a2 ⟨hi,rfl,h3⟩
    have hi2:=hi.2 (by omega)
    refine⟨hi2,⟨h3,by omega,by omega⟩,?_⟩
    rintro j b0 b1 b2 ⟨hj,rfl,h4⟩
    have hj2:=hj.2 (by omega)
    refine⟨⟨h4,by omega,by omega⟩,?_⟩
    rintro v c0 c1 c2 ⟨hv,rfl,h5⟩
    have hv2:=hv.2 (by omega)
    have hl:=rk_len ht.1 hi2
    have hrow:=hd.2 _ (el_mem hi2)
    refine⟨⟨hj2.1,by omega⟩,drT_se hd ⟨by simpa using hrow.1,fun z hz=>?_⟩,rfl,h5⟩
    rcases List.mem_or_eq_of_mem_set hz with h6 | h6
    · exact hrow.2 z h6
    · rw [h6]; omega
  · have:=ht.2; simp [sl]; omega
theorem p_laws_big (code:List Int):wp_laws_big code (fun y0=>y0 = decide (4096 < (code.length:Int))):=rfl
theorem w_spec_l01Grow (n:Int) (start:List Int) (list:List (List Int)) (Q:List (List Int)->Prop) (hrec : ∀ (n' : Int) (start' : List Int) (list' : List (List Int)),(n' - (start'.length:Int)).toNat < (n - (start.length:Int)).toNat->((start'.length:Int)<=n'/\n'<=8/\((list' ++ growL n' start').length:Int)<=100000000)->AM Tryz.prog 106 [ci n',.own (ints start'),.own (orows list')] (fun R_ O_=>R_ = .own (orows (list' ++ growL n' start'))/\O_ = [ci n',.hole,.hole])) (h:wp_spec_l01Grow n start list Q):AM Tryz.prog 106 [ci n,.own (ints start),.own (orows list)] (fun R_ O_=>∃ y0,Q y0/\R_ = .own (orows y0)/\O_ = [ci n,.hole,.hole]):=by
  refine xj (n:=34) (m:=3) Tryz.func106 U (by rfl) U U (zb U) [800,801] U ?_
  unfold wp_spec_l01Grow at h
  refine zk (zl (n:=34) (σ':=[(800,⟨ints start,[]⟩),(801,⟨orows list,[]⟩)]) (env':=[(0,.c (ci n)),(1,.ref 800),(2,.ref 801),(34,.c (ci n))]) U U E4)<|zg<|zk (zl (n:=34) (σ':=[(800,⟨ints start,[]⟩),(801,⟨orows list,[]⟩)]) (env':=[(0,.c (ci n)),(1,.ref 800),(2,.ref 801),(34,.c (ci n))]) U U E4)<|zd<|za (ze U) U<|zf<|zg<|zg<|zd<|za (zc U) U<|za (yR (f:=ci) U U) U<|za (zc U) U<|za (yE U U) U<|zf<|zm U (fun q1=>?_) (fun q1=>?_)
  ·replace h:=h.1 (zj q1)
   refine zg<|zd<|za (zc U) U<|za (zc U) U<|zn (zy (id:=14) (ps:=[(0,.tmp 13)]) U U (zb U) U ⟨U,?_⟩)
   refine yF (yu (id:=14) (id2:=800) (j:=0) U U (zb U) U U U) ?_
   obtain⟨q2,h⟩:=h
   refine zn (yx (fun r=>C.own (ints r)) (l:=list) (m:=[start]) U U U U U (zb U) q2 ⟨U,?_⟩)
   exact za (ze U) U<|zf<|zA<|ym (zH U (zw U)) U U U ⟨_,h,U,U⟩
  ·replace h:=h.2 (zh q1)
   refine zu<|zg<|zg<|zk (zl (n:=34) (σ':=[(800,⟨ints start,[]⟩),(801,⟨orows list,[]⟩)]) (env':=[(0,.c (ci n)),(1,.ref 800),(2,.ref 801),(34,.c (ci n))]) U U E4)<|zd<|za (ze U) U<|zf<|zt ?_
   obtain⟨H1,m1,q3,h⟩:=h
   refine ye (fun (v7_1:Int) (o801_1:List (List Int))=>⟨[(800,⟨ints start,[]⟩),(801,⟨orows o801_1,[]⟩)],[(0,.c (ci n)),(1,.ref 800),(2,.ref 801),(7,.c (ci v7_1)),(34,.c (ci n))],34⟩) H1 m1 ⟨0,list,zv (n:=34) U U E5,q3⟩ ?_
   rintro v7_1 o801_1 q3
   replace h:=h v7_1 o801_1 q3
   refine zg<|zg<|zd<|za (zc U) U<|za (zc U) U<|za (zO U U) U<|zf<|zm U (fun q4=>?_) (fun q4=>?_)
   ·replace h:=h.1 (zj q4)
    refine zu<|zg<|zt<|zg<|zd<|za (zc U) U<|za (zc U) U ?_
    obtain⟨q5,h⟩:=h
    refine zn (yU (xs:=[.tmp 21,.tmp 22]) (cs:=[.own (ints start),ci v7_1]) (ids:=[]) U (.inr ⟨U,U⟩) U U (yD (yq (yr (fun _=>U) _)) (yD U yX)) (c_spec_l01Has start v7_1 q5) U ?_)
    rintro _ rfl
    refine⟨U,U,?_⟩
    refine za (yA U) U<|zf<|zm U (fun q7=>?_) (fun q7=>?_)
    ·replace h:=h.1 ((ya q7))
     refine zk (zl (n:=34) (σ':=[(800,⟨ints start,[]⟩),(801,⟨orows o801_1,[]⟩)]) (env':=[(0,.c (ci n)),(1,.ref 800),(2,.ref 801),(7,.c (ci v7_1)),(34,.c (ci n))]) U U E5)<|zd<|za (zc U) U<|za (zc U) U ?_
     obtain⟨q8,h⟩:=h
     refine zn (yU (xs:=[.tmp 26]) (cs:=[.own (ints start)]) (ids:=[27]) U (.inr ⟨U,U⟩) U U (yD (yq (yr (fun _=>U) _)) yX) (c_spec_l01Own start q8) U ?_)
     rintro _ rfl
     refine⟨(slf_own (xg (f:=ci) (fun _=>U) _)),U,?_⟩
     refine za (zc U) U<|zn (zy (id:=29) (ps:=[(0,.tmp 28)]) U U (zb U) U ⟨U,?_⟩)
     obtain⟨q10,h⟩:=h
     refine zn (yx ci (l:=start) (m:=[v7_1]) U U U U U (zb U) q10 ⟨U,?_⟩)
     refine za (zc U) U ?_
     obtain⟨q11,h⟩:=h
     obtain⟨q12,h⟩:=h
     refine zn (ws_callC (xs:=[.tmp 25,.tmp 30,.tmp 31]) (cs:=[ci n,.own (ints (start ++ ([v7_1]))),.own (orows o801_1)]) (ids:=[32]) U U U U (hrec n (start ++ ([v7_1])) o801_1 q11 q12) U ?_)
     rintro _ _ ⟨rfl,rfl⟩
     refine⟨U,?_⟩
     refine za (ze U) U<|zf<|zk (zl (n:=34) (σ':=[(32,⟨orows (o801_1 ++ growL n (start ++ ([v7_1]))),[]⟩),(800,⟨ints start,[]⟩)]) (env':=[(0,.c (ci n)),(1,.ref 800),(2,.ref 32),(7,.c (ci v7_1)),(34,.c (ci n))]) U U E5)<|zd<|za (zc U) U ?_
     obtain⟨q14,h⟩:=h
     exact za (zG U U q14) U<|za (ze U) U<|zf<|⟨v7_1 + 1,o801_1 ++ growL n (start ++ ([v7_1])),zQ (gh_ren (a:=32) (b:=801) U U) (zQ (zl (n:=34) (σ':=[(801,⟨orows (o801_1 ++ growL n (start ++ ([v7_1]))),[]⟩),(800,⟨ints start,[]⟩)]) (env':=[(0,.c (ci n)),(1,.ref 800),(2,.ref 801),(7,.c (ci (v7_1 + 1))),(34,.c (ci n))]) U U E5) (zQ (xr _) (zv (n:=34) U U E5))),h.1,h.2⟩
    ·replace h:=h.2 ((yb q7))
     refine zu<|zk (zl (n:=34) (σ':=[(800,⟨ints start,[]⟩),(801,⟨orows o801_1,[]⟩)]) (env':=[(0,.c (ci n)),(1,.ref 800),(2,.ref 801),(7,.c (ci v7_1)),(34,.c (ci n))]) U U E5)<|zd<|za (zc U) U ?_
     obtain⟨q15,h⟩:=h
     exact za (zG U U q15) U<|za (ze U) U<|zf<|⟨v7_1 + 1,o801_1,zv (n:=34) U U E5,h.1,h.2⟩
   ·replace h:=h.2 (zh q4)
    exact zL<|zg<|zk (zl (n:=34) (σ':=[(800,⟨ints start,[]⟩),(801,⟨orows o801_1,[]⟩)]) (env':=[(2,.ref 801),(34,.c (ci n))]) U U E2)<|zd<|za (zc U) U<|za (ze U) U<|zf<|zA<|ym (zH U (zw U)) U U U ⟨_,h,U,U⟩
theorem c_spec_l01Grow : ∀ (n:Int) (start:List Int) (list:List (List Int)),((start.length:Int)<=n/\n<=8/\((list ++ growL n start).length:Int)<=100000000)->AM Tryz.prog 106 [ci n,.own (ints start),.own (orows list)] (fun R_ O_=>R_ = .own (orows (list ++ growL n start))/\O_ = [ci n,.hole,.hole]):=by
  have key : ∀ (k_:Nat) (n:Int) (start:List Int) (list:List (List Int)),(n - (start.length:Int)).toNat<=k_->((start.length:Int)<=n/\n<=8/\((list ++ growL n start).length:Int)<=100000000)->AM Tryz.prog 106 [ci n,.own (ints start),.own (orows list)] (fun R_ O_=>R_ = .own (orows (list ++ growL n start))/\O_ = [ci n,.hole,.hole]):=by
    intro k_; induction k_ with
    | zero=>intro n start list hn hp; exact (w_spec_l01Grow n start list (fun y0=>y0 = list ++ growL n start) (fun _ _ _ hlt=>absurd hlt (by omega)) (p_spec_l01Grow n start list hp)).mono (by rintro r o ⟨_,rfl,rfl,rfl⟩; exact⟨rfl,rfl⟩)
    | succ k_ ih=>intro n start list hn hp; exact (w_spec_l01Grow n start list (fun y0=>y0 = list ++ growL n start) (fun n' start' list' hlt=>ih n' start' list' (by omega)) (p_spec_l01Grow n start list hp)).mono (by rintro r o ⟨_,rfl,rfl,rfl⟩; exact⟨rfl,rfl⟩)
  exact fun n start list=>key _ n start list (Nat.le_refl _)
theorem w_spec_l01Perms (n:Int) (Q:List (List Int)->Prop) (h:wp_spec_l01Perms n Q):AF Tryz.prog 93 [ci n] (fun R_=>∃ y0,Q y0/\R_ = .own (orows y0)):=by
  refine zS (zM (n:=7) Tryz.func93 U (by rfl) U (zb U) ?_)
  unfold wp_spec_l01Perms at h
  refine zg<|zk (zl (n:=7) (σ':=[]) (env':=[(0,.c (ci n))]) U U E1)<|zd<|za (ze U) U<|zf<|zg<|zd<|za (zc U) U<|zn (zy (id:=4) (ps:=[]) U U (zb U) U ⟨U,?_⟩)
  refine zn (zy (id:=5) (ps:=[]) U U (zb U) U ⟨U,?_⟩)
  obtain⟨q1,h⟩:=h
  refine zn (ws_callC (xs:=[.tmp 3,.tmp 4,.tmp 5]) (cs:=[ci n,.own (ints ([] : List Int)),.own (orows ([] : List (List Int)))]) (ids:=[6]) U U U U (c_spec_l01Grow n ([] : List Int) ([] : List (List Int)) q1) U ?_)
  rintro _ _ ⟨rfl,rfl⟩
  refine⟨U,?_⟩
  exact za (ze U) U<|zf<|zA<|zr (zH U (zw U)) U U ⟨_,(zq _),_,h,U⟩
theorem c_spec_l01Perms (n:Int) (hp:0<=n/\n<=8):AF Tryz.prog 93 [ci n] (fun R_=>R_ = .own (orows (growL n []))):=
  (w_spec_l01Perms n (fun y0=>y0 = growL n []) (p_spec_l01Perms n hp)).mono (by rintro r ⟨_,rfl,rfl⟩; rfl)
theorem w_spec_l03Image (t:List (List Int)) (p:List Int) (Q:List (List Int)->Prop) (h:wp_spec_l03Image t p Q):AF Tryz.prog 22 [.lst (rows t),.lst (ints p)] (fun R_=>∃ y0,Q y0/\R_ = .own (orows y0)):=by
  refine zS (zM (n:=45) Tryz.func22 U (by rfl) U (zb U) ?_)
  unfold wp_spec_l03Image at h
  refine zg<|zk (zl (n:=45) (σ':=[]) (env':=[(0,.c (.lst (rows t))),(1,.c (.lst (ints p)))]) U U E2)<|zd<|za (ze U) U<|zf<|zg<|zd<|za (zc U) U ?_
  obtain⟨q1,h⟩:=h
  refine zn (zF (xs:=[.tmp 8]) (ids:=[9]) U U U U (c_spec_l01Own2 t q1) U ?_)
  rintro _ rfl
  refine⟨U,?_⟩
  refine za (ze U) U<|zf<|zg<|zg<|zd<|za (ze U) U<|zf<|zt ?_
  obtain⟨H1,m1,q3,h⟩:=h
  refine ye (fun (v6_1:Int) (o9_1:List (List Int))=>⟨[(9,⟨orows o9_1,[]⟩)],[(0,.c (.lst (rows t))),(1,.c (.lst (ints p))),(5,.ref 9),(6,.c (ci v6_1))],45⟩) H1 m1 ⟨0,t,zv (n:=45) U U E4,q3⟩ ?_
  rintro v6_1 o9_1 q3
  replace h:=h v6_1 o9_1 q3
  refine zg<|zg<|zd<|za (zc U) U<|za (zc U) U<|za (zJ (f:=(fun r=>C.lst (ints r))) U) U<|za (zO U U) U<|zf<|zm U (fun q4=>?_) (fun q4=>?_)
  ·replace h:=h.1 (zj q4)
   refine zu<|zg<|zt<|zg<|zk (zl (n:=45) (σ':=[(9,⟨orows o9_1,[]⟩)]) (env':=[(0,.c (.lst (rows t))),(1,.c (.lst (ints p))),(5,.ref 9),(6,.c (ci v6_1))]) U U E4)<|zd<|za (ze U) U<|zf<|zt ?_
   obtain⟨H2,m2,q5,h⟩:=h
   refine ye (fun (v7_2:Int) (o9_2:List (List Int))=>⟨[(9,⟨orows o9_2,[]⟩)],[(0,.c (.lst (rows t))),(1,.c (.lst (ints p))),(5,.ref 9),(6,.c (ci v6_1)),(7,.c (ci v7_2))],45⟩) H2 m2 ⟨0,o9_1,zv (n:=45) U U E5,q5⟩ ?_
   rintro v7_2 o9_2 q5
   replace h:=h v7_2 o9_2 q5
   refine zg<|zg<|zd<|za (zc U) U<|za (zc U) U<|za (zJ (f:=(fun r=>C.lst (ints r))) U) U<|za (zO U U) U<|zf<|zm U (fun q6=>?_) (fun q6=>?_)
   ·replace h:=h.1 (zj q6)
    refine zu<|zg<|zt<|zk (zl (n:=45) (σ':=[(9,⟨orows o9_2,[]⟩)]) (env':=[(0,.c (.lst (rows t))),(1,.c (.lst (ints p))),(5,.ref 9),(6,.c (ci v6_1)),(7,.c (ci v7_2))]) U U E5)<|zP (kd:=kdl [0,0,0,0,1,0,1,0,0,0,1,0,0,0,0,1,0,0,1,0,1,0,3]) (ord:=[0,1,2,3,7,8,9,11,12,13,14,16,4,5,6,10,15,17,18,19,20,21,22]) [] mixed (by kernel_rfl)<|zp U U trivial (zc U) U<|zp U U trivial (zc U) U<|zp U U trivial (zc U) U ?_
    obtain⟨q7,h⟩:=h
    refine zp U U trivial (zB U U q7) U<|zp U U trivial (zc U) U<|zp U U trivial (zc U) U ?_
    obtain⟨q8,h⟩:=h
    refine zp U U trivial (zB U U q8) U<|zp U U trivial (zc U) U<|zp U U trivial (zc U) U<|zp U U trivial (zc U) U ?_
    obtain⟨q9,h⟩:=h
    refine zp U U trivial (zB U U q9) U<|zp U U trivial (zc U) U<|zY U U trivial (zx (f:=ci) U q7) U ?_
    obtain⟨q10,h⟩:=h
    refine zp U U trivial (zR (f:=(fun r=>C.own (ints r))) U U U q10) U<|rd_open 1001 (id:=9) (j:=(el p v6_1).toNat) U (map_get (f:=(fun r=>C.own (ints r))) q10) U U U<|zY U U trivial (yt U U xe U) U<|zY U U trivial (zx (f:=ci) U q8) U<|zY U U trivial (zx (f:=(fun r=>C.lst (ints r))) U q9) U ?_
    obtain⟨q11,h⟩:=h
    refine zp U U trivial (zB U U q11) U<|zY U U trivial (zx (f:=ci) U q11) U ?_
    obtain⟨q12,h⟩:=h
    refine zp U U trivial (zB U U q12) U<|zY U U trivial (zx (f:=ci) U q12) U ?_
    obtain⟨q13,h⟩:=h
    refine zp U U trivial (zR (f:=ci) U U U q13) U<|xq U U trivial (yo U U (yN q13) U U (yO (f:=ci)) U ⟨U,?_⟩)
    refine yh<|zk (zl (n:=45) (σ':=[(1001,⟨ints (se (el o9_2 (el p v6_1)) (el p v7_2) (el p (el (el t v6_1) v7_2))),[]⟩),(9,⟨(orows o9_2).set (el p v6_1).toNat .hole,[((el p v6_1).toNat,.ref 1001)]⟩)]) (env':=[(0,.c (.lst (rows t))),(1,.c (.lst (ints p))),(5,.ref 9),(6,.c (ci v6_1)),(7,.c (ci v7_2))]) U U E5)<|zd<|za (zc U) U ?_
    obtain⟨q14,h⟩:=h
    exact za (zG U U q14) U<|za (ze U) U<|zf<|⟨v7_2 + 1,se o9_2 (el p v6_1) (se (el o9_2 (el p v6_1)) (el p v7_2) (el p (el (el t v6_1) v7_2))),zQ (gh_fillA (id:=9) (id2:=1001) (f:=(fun r=>C.own (ints r))) (v:=se (el o9_2 (el p v6_1)) (el p v7_2) (el p (el (el t v6_1) v7_2))) U xe U q10 U U kr_self) (zv (n:=45) U U E5),h.1,h.2⟩
   ·replace h:=h.2 (zh q6)
    refine zL<|zk (zl (n:=45) (σ':=[(9,⟨orows o9_2,[]⟩)]) (env':=[(0,.c (.lst (rows t))),(1,.c (.lst (ints p))),(5,.ref 9),(6,.c (ci v6_1))]) U U E4)<|zd<|za (zc U) U ?_
    obtain⟨q15,h⟩:=h
    exact za (zG U U q15) U<|za (ze U) U<|zf<|⟨v6_1 + 1,o9_2,zv (n:=45) U U E4,h.1,h.2⟩
  ·replace h:=h.2 (zh q4)
   exact zL<|zg<|zk (zl (n:=45) (σ':=[(9,⟨orows o9_1,[]⟩)]) (env':=[(5,.ref 9)]) U U E1)<|zd<|za (zc U) U<|za (ze U) U<|zf<|zA<|zr (zH U (zw U)) U U ⟨_,(zq _),_,h,U⟩
theorem c_spec_l03Image (t:List (List Int)) (p:List Int) (hp:isTab t = true/\(p.length:Int) = (t.length:Int)/\∀ z_ ∈ p,0<=z_/\z_ < (t.length:Int)):AF Tryz.prog 22 [.lst (rows t),.lst (ints p)] (fun R_=>∃ y0,(isTab y0 = true/\y0.length = t.length/\(isPerm p = true->∀ u_ v_:Int,(0<=u_/\u_ < (t.length:Int))->(0<=v_/\v_ < (t.length:Int))->el (el y0 (el p u_)) (el p v_) = el p (el (el t u_) v_)))/\R_ = .own (orows y0)):=
  w_spec_l03Image t p (fun y0=>isTab y0 = true/\y0.length = t.length/\(isPerm p = true->∀ u_ v_:Int,(0<=u_/\u_ < (t.length:Int))->(0<=v_/\v_ < (t.length:Int))->el (el y0 (el p u_)) (el p v_) = el p (el (el t u_) v_))) (p_spec_l03Image t p hp)
theorem w_spec_l03DrawTableW (s1:List Int) (s2:Int) (s3:Int) (most:Int) (Q:List (List Int)->List Int->Int->Int->Prop) (h:wp_spec_l03DrawTableW s1 s2 s3 most Q):AM Tryz.prog 58 [.obox [.lst (bys s1),ci s2,cu s3],ci most] (fun R_ O_=>∃ y0 w0 w1 w2,Q y0 w0 w1 w2/\R_ = .own (orows y0)/\O_ = [.obox [.lst (bys w0),ci w1,cu w2],ci most]):=by
  refine xj (n:=233) (m:=2) Tryz.func58 U (by rfl) U U (zb U) [800] U ?_
  unfold wp_spec_l03DrawTableW at h
  refine zg<|zk (zl (n:=233) (σ':=[(800,⟨[.lst (bys s1),ci s2,cu s3],[]⟩)]) (env':=[(0,.cell 800 0),(1,.c (ci most)),(233,.cell 800 0),(234,.c (ci most))]) U U E4)<|zd<|za (ze U) U<|zf<|zg<|zd<|za (zc U) U<|za (zc U) U ?_
  obtain⟨q1,h⟩:=h
  refine zn (yp (xs:=[.tmp 26,.tmp 27]) (cs:=[.obox [.lst (bys s1),ci s2,cu s3],ci most]) (ids:=[]) U (.inr ⟨U,U⟩) U U U (c_spec_l01Next s1 s2 s3 most q1) U U ?_)
  rintro _ _ ⟨r1_0,o1_0,o1_1,o1_2,q2,rfl,rfl⟩
  replace h:=h r1_0 o1_0 o1_1 o1_2 q2
  refine⟨U,U,?_⟩
  obtain⟨q3,h⟩:=h
  refine za (zG U U q3) U<|za (ze U) U<|zf ?_
  obtain⟨J1,h,j1⟩:=h
  refine aw_join3 (fun (w1_f800_0:List Int) (w1_f800_1:Int) (w1_f800_2:Int)=>⟨[(800,⟨[.lst (bys w1_f800_0),ci w1_f800_1,cu w1_f800_2],[]⟩)],[(0,.cell 800 0),(5,.c (ci (1 + r1_0))),(233,.cell 800 0),(234,.c (ci most))],233⟩) J1 ?_ ?_
  ·skip
   refine zg<|zd<|za (zc U) U ?_
   obtain⟨q4,h⟩:=h
   refine zn (yp (xs:=[.tmp 30,.const (.int .i64 (5))]) (cs:=[.obox [.lst (bys o1_0),ci o1_1,cu o1_2],ci 5]) (ids:=[]) U (.inr ⟨U,U⟩) U U U (c_spec_l01Next o1_0 o1_1 o1_2 5 q4) U U ?_)
   rintro _ _ ⟨r2_0,o2_0,o2_1,o2_2,q5,rfl,rfl⟩
   replace h:=h r2_0 o2_0 o2_1 o2_2 q5
   refine⟨U,U,?_⟩
   refine zf<|zt<|zg<|zd<|za (yE U U) U<|za (ze U) U<|zf<|zm U (fun q6=>?_) (fun q6=>?_)
   ·replace h:=h.1 (zj q6)
    refine zg<|zk (zl (n:=233) (σ':=[(800,⟨[.lst (bys o2_0),ci o2_1,cu o2_2],[]⟩)]) (env':=[(0,.cell 800 0),(5,.c (ci (1 + r1_0))),(233,.cell 800 0),(234,.c (ci most))]) U U E4)<|zd<|za (zc U) U<|za (zc U) U ?_
    obtain⟨q7,h⟩:=h
    refine zn (yp (xs:=[.tmp 34,.tmp 35]) (cs:=[.obox [.lst (bys o2_0),ci o2_1,cu o2_2],ci (1 + r1_0)]) (ids:=[36]) U (.inr ⟨U,U⟩) U U U (c_spec_l03DrawPerm o2_0 o2_1 o2_2 (1 + r1_0) q7) U U ?_)
    rintro _ _ ⟨r3_0,o3_0,o3_1,o3_2,q8,rfl,rfl⟩
    replace h:=h r3_0 o3_0 o3_1 o3_2 q8
    refine⟨U,U,?_⟩
    refine za (ze U) U<|zf<|zg<|zk (zl (n:=233) (σ':=[(36,⟨ints r3_0,[]⟩),(800,⟨[.lst (bys o3_0),ci o3_1,cu o3_2],[]⟩)]) (env':=[(5,.c (ci (1 + r1_0))),(6,.ref 36),(233,.cell 800 0),(234,.c (ci most))]) U U E4)<|zd<|zn (zy (id:=37) (ps:=[]) U U (zb U) U ⟨U,?_⟩)
    refine za (ze U) U<|zf<|zg<|zg<|zd<|za (ze U) U<|zf<|zt ?_
    obtain⟨H1,m1,q9,h⟩:=h
    refine ye (fun (v8_1:Int) (o37_1:List (List Int))=>⟨[(37,⟨orows o37_1,[]⟩),(36,⟨ints r3_0,[]⟩),(800,⟨[.lst (bys o3_0),ci o3_1,cu o3_2],[]⟩)],[(5,.c (ci (1 + r1_0))),(6,.ref 36),(7,.ref 37),(8,.c (ci v8_1)),(233,.cell 800 0),(234,.c (ci most))],233⟩) H1 m1 ⟨0,([] : List (List Int)),zv (n:=233) U U E6,q9⟩ ?_
    rintro v8_1 o37_1 q9
    replace h:=h v8_1 o37_1 q9
    refine zg<|zg<|zd<|za (zc U) U<|za (zc U) U<|za (zO U U) U<|zf<|zm U (fun q10=>?_) (fun q10=>?_)
    ·replace h:=h.1 (zj q10)
     refine zu<|zg<|zt<|zd<|za (zc U) U<|za (zc U) U ?_
     obtain⟨q11,h⟩:=h
     refine zn (yU (xs:=[.tmp 44]) (cs:=[.own (ints r3_0)]) (ids:=[45]) U (.inr ⟨U,U⟩) U U (yD (yq (yr (fun _=>U) _)) yX) (c_spec_l01Own r3_0 q11) U ?_)
     rintro _ rfl
     refine⟨(slf_own (xg (f:=ci) (fun _=>U) _)),U,?_⟩
     refine zn (zy (id:=46) (ps:=[(0,.tmp 45)]) U U (zb U) U ⟨U,?_⟩)
     refine yF (yu (id:=46) (id2:=45) (j:=0) U U (zb U) U U U) ?_
     obtain⟨q13,h⟩:=h
     refine zn (yx (fun r=>C.own (ints r)) (l:=o37_1) (m:=[r3_0]) U U U U U (zb U) q13 ⟨U,?_⟩)
     refine za (ze U) U<|zf<|zk (zl (n:=233) (σ':=[(37,⟨orows (o37_1 ++ ([r3_0])),[]⟩),(36,⟨ints r3_0,[]⟩),(800,⟨[.lst (bys o3_0),ci o3_1,cu o3_2],[]⟩)]) (env':=[(5,.c (ci (1 + r1_0))),(6,.ref 36),(7,.ref 37),(8,.c (ci v8_1)),(233,.cell 800 0),(234,.c (ci most))]) U U E6)<|zd<|za (zc U) U ?_
     obtain⟨q14,h⟩:=h
     exact za (zG U U q14) U<|za (ze U) U<|zf<|⟨v8_1 + 1,o37_1 ++ ([r3_0]),zv (n:=233) U U E6,h.1,h.2⟩
    ·replace h:=h.2 (zh q10)
     exact zL<|zg<|zk (zl (n:=233) (σ':=[(37,⟨orows o37_1,[]⟩),(36,⟨ints r3_0,[]⟩),(800,⟨[.lst (bys o3_0),ci o3_1,cu o3_2],[]⟩)]) (env':=[(7,.ref 37),(233,.cell 800 0),(234,.c (ci most))]) U U E3)<|zd<|za (zc U) U<|za (ze U) U<|zf<|zA<|ym (zH U (zw U)) U U U ⟨_,_,_,_,h,U,U⟩
   ·replace h:=h.2 (zh q6)
    refine zg<|zd<|za (yE U U) U<|za (ze U) U<|zf<|zm U (fun q15=>?_) (fun q15=>?_)
    ·replace h:=h.1 (zj q15)
     refine zg<|zk (zl (n:=233) (σ':=[(800,⟨[.lst (bys o2_0),ci o2_1,cu o2_2],[]⟩)]) (env':=[(4,.c (cnil)),(5,.c (ci (1 + r1_0))),(233,.cell 800 0),(234,.c (ci most))]) U U E4)<|zd<|za (zc U) U<|za (zc U) U ?_
     obtain⟨q16,h⟩:=h
     refine za (yS U U q16) U<|za (zc U) U ?_
     obtain⟨q17,h⟩:=h
     refine za (ss_rem U U q17) U ?_
     obtain⟨q18,h⟩:=h
     refine zn (zF (xs:=[.tmp 51,.tmp 53,.tmp 55]) (ids:=[56]) U U U U (c_spec_l03AlexanderW (1 + r1_0) ((1 + r1_0) - 1) (2 % (1 + r1_0)) q18) U ?_)
     rintro _ ⟨r4_0,q19,rfl⟩
     replace h:=h r4_0 q19
     refine⟨U,?_⟩
     exact za (ze U) U<|zf<|zA<|ym (zH U (zw U)) U U U ⟨_,_,_,_,h,U,U⟩
    ·replace h:=h.2 (zh q15)
     refine zg<|zk (zl (n:=233) (σ':=[(800,⟨[.lst (bys o2_0),ci o2_1,cu o2_2],[]⟩)]) (env':=[(0,.cell 800 0),(1,.c (ci most)),(5,.c (ci (1 + r1_0))),(31,.c (ci r2_0)),(233,.cell 800 0),(234,.c (ci most))]) U U E6)<|zd<|za (yE U U) U<|za (ze U) U<|zf<|zm U (fun q20=>?_) (fun q20=>?_)
     ·replace h:=h.1 (zj q20)
      refine zg<|zd<|za (ze U) U<|zf<|zt ?_
      obtain⟨H2,m2,q21,h⟩:=h
      refine aw_loop4 (fun (v9_1:Int) (f800_0_1:List Int) (f800_1_1:Int) (f800_2_1:Int)=>⟨[(800,⟨[.lst (bys f800_0_1),ci f800_1_1,cu f800_2_1],[]⟩)],[(0,.cell 800 0),(5,.c (ci (1 + r1_0))),(9,.c (ci v9_1)),(233,.cell 800 0),(234,.c (ci most))],233⟩) H2 m2 ⟨0,o2_0,o2_1,o2_2,zv (n:=233) U U E5,q21⟩ ?_
      rintro v9_1 f800_0_1 f800_1_1 f800_2_1 q21
      replace h:=h v9_1 f800_0_1 f800_1_1 f800_2_1 q21
      refine zg<|zg<|zd<|za (zc U) U<|za (zO U U) U<|zf<|zm U (fun q22=>?_) (fun q22=>?_)
      ·replace h:=h.1 (zj q22)
       refine zu<|zg<|zt<|zg<|zd<|za (zc U) U<|za (zc U) U ?_
       obtain⟨q23,h⟩:=h
       refine zn (yp (xs:=[.tmp 63,.tmp 64]) (cs:=[.obox [.lst (bys f800_0_1),ci f800_1_1,cu f800_2_1],ci (1 + r1_0)]) (ids:=[]) U (.inr ⟨U,U⟩) U U U (c_spec_l01Next f800_0_1 f800_1_1 f800_2_1 (1 + r1_0) q23) U U ?_)
       rintro _ _ ⟨r5_0,o5_0,o5_1,o5_2,q24,rfl,rfl⟩
       replace h:=h r5_0 o5_0 o5_1 o5_2 q24
       refine⟨U,U,?_⟩
       refine za (ze U) U<|zf<|zg<|zd<|za (zc U) U<|za (zc U) U ?_
       obtain⟨q25,h⟩:=h
       refine zn (zF (xs:=[.tmp 66,.tmp 67]) (ids:=[]) U U U U (c_spec_l03Coprime r5_0 (1 + r1_0) q25) U ?_)
       rintro _ rfl
       refine⟨U,?_⟩
       refine zf<|zm U (fun q27=>?_) (fun q27=>?_)
       ·replace h:=h.1 (q27)
        refine zg<|zd<|za (zc U) U<|za (zc U) U<|za (zc U) U ?_
        obtain⟨q28,h⟩:=h
        refine za (yS U U q28) U<|za (zc U) U ?_
        obtain⟨q29,h⟩:=h
        refine za (zG U U q29) U<|za (zc U) U ?_
        obtain⟨q30,h⟩:=h
        refine za (ss_rem U U q30) U ?_
        obtain⟨q31,h⟩:=h
        refine zn (zF (xs:=[.tmp 69,.tmp 70,.tmp 76]) (ids:=[77]) U U U U (c_spec_l03AlexanderW (1 + r1_0) r5_0 (((1 - r5_0) + (1 + r1_0)) % (1 + r1_0)) q31) U ?_)
        rintro _ ⟨r6_0,q32,rfl⟩
        replace h:=h r6_0 q32
        refine⟨U,?_⟩
        exact za (ze U) U<|zf<|zA<|ym (zH U (zw U)) U U U ⟨_,_,_,_,h,U,U⟩
       ·replace h:=h.2 (q27)
        refine zu<|zk (zl (n:=233) (σ':=[(800,⟨[.lst (bys o5_0),ci o5_1,cu o5_2],[]⟩)]) (env':=[(0,.cell 800 0),(5,.c (ci (1 + r1_0))),(9,.c (ci v9_1)),(233,.cell 800 0),(234,.c (ci most))]) U U E5)<|zd<|za (zc U) U ?_
        obtain⟨q33,h⟩:=h
        exact za (zG U U q33) U<|za (ze U) U<|zf<|⟨v9_1 + 1,o5_0,o5_1,o5_2,zv (n:=233) U U E5,h.1,h.2⟩
      ·replace h:=h.2 (zh q22)
       exact zL<|⟨f800_0_1,f800_1_1,f800_2_1,zv (n:=233) U U E4,h⟩
     ·replace h:=h.2 (zh q20)
      refine zg<|zd<|za (yE U U) U<|za (ze U) U<|zf<|zm U (fun q34=>?_) (fun q34=>?_)
      ·replace h:=h.1 (zj q34)
       refine zg<|zd<|za (zc U) U<|za (xl U U) U<|zf<|zm U (fun q35=>?_) (fun q35=>?_)
       ·replace h:=h.1 (zj q35)
        refine zg<|zk (zl (n:=233) (σ':=[(800,⟨[.lst (bys o2_0),ci o2_1,cu o2_2],[]⟩)]) (env':=[(0,.cell 800 0),(233,.cell 800 0),(234,.c (ci most))]) U U E3)<|zd ?_
        obtain⟨q36,h⟩:=h
        refine zn (zF (xs:=[.const (.int .i64 (3))]) (ids:=[82]) U U U U (c_spec_l01Perms 3 q36) U ?_)
        rintro _ rfl
        refine⟨U,?_⟩
        refine zn (zy (id:=83) (ps:=[]) U U (zb U) U ⟨U,?_⟩)
        refine za (ze U) U<|za (ze U) U<|zf<|zk (yd (id:=82) (fun r=>C.lst (ints r)) U (fun _=>(yq (yr (fun _=>U) _)))) ?_
        obtain⟨J2,h,j2⟩:=h
        refine aw_join4 (fun (w2_v11:List (List Int)) (w2_f800_0:List Int) (w2_f800_1:Int) (w2_f800_2:Int)=>⟨[(83,⟨orows ([] : List (List Int)),[]⟩),(800,⟨[.lst (bys w2_f800_0),ci w2_f800_1,cu w2_f800_2],[]⟩)],[(11,.c (.lst (rows w2_v11))),(12,.ref 83),(233,.cell 800 0),(234,.c (ci most))],233⟩) J2 ?_ ?_
        ·skip
         refine zg<|zd<|za (zc U) U ?_
         obtain⟨q38,h⟩:=h
         refine zn (yp (xs:=[.tmp 84,.const (.int .i64 (2))]) (cs:=[.obox [.lst (bys o2_0),ci o2_1,cu o2_2],ci 2]) (ids:=[]) U (.inr ⟨U,U⟩) U U U (c_spec_l01Next o2_0 o2_1 o2_2 2 q38) U U ?_)
         rintro _ _ ⟨r7_0,o7_0,o7_1,o7_2,q39,rfl,rfl⟩
         replace h:=h r7_0 o7_0 o7_1 o7_2 q39
         refine⟨U,U,?_⟩
         refine za (yE U U) U<|zf<|zm U (fun q40=>?_) (fun q40=>?_)
         ·replace h:=h.1 (zj q40)
          refine zk (zl (n:=233) (σ':=[(83,⟨orows ([] : List (List Int)),[]⟩),(800,⟨[.lst (bys o7_0),ci o7_1,cu o7_2],[]⟩)]) (env':=[(11,.c (.lst (rows (growL (3:Int) [])))),(12,.ref 83),(233,.cell 800 0),(234,.c (ci most))]) U U E4)<|zd<|zn (zy (id:=87) (ps:=[(0,.const (.int .i64 (0))),(1,.const (.int .i64 (2))),(2,.const (.int .i64 (1)))]) U U (zb U) U ⟨U,?_⟩)
          refine zn (zy (id:=88) (ps:=[(0,.const (.int .i64 (1))),(1,.const (.int .i64 (0))),(2,.const (.int .i64 (2)))]) U U (zb U) U ⟨U,?_⟩)
          refine zn (zy (id:=89) (ps:=[(0,.const (.int .i64 (2))),(1,.const (.int .i64 (1))),(2,.const (.int .i64 (0)))]) U U (zb U) U ⟨U,?_⟩)
          refine zn (zy (id:=90) (ps:=[(0,.tmp 87),(1,.tmp 88),(2,.tmp 89)]) U U (zb U) U ⟨U,?_⟩)
          exact za (ze U) U<|zf<|⟨([[0,2,1],[1,0,2],[2,1,0]] : List (List Int)),o7_0,o7_1,o7_2,zQ (yu (id:=90) (id2:=87) (j:=0) U U (zb U) U U U) (zQ (yu (id:=90) (id2:=88) (j:=1) U U (zb U) U U U) (zQ (yu (id:=90) (id2:=89) (j:=2) U U (zb U) U U U) (zQ (zl (n:=233) (σ':=[(90,⟨orows ([[0,2,1],[1,0,2],[2,1,0]] : List (List Int)),[]⟩),(83,⟨orows ([] : List (List Int)),[]⟩),(800,⟨[.lst (bys o7_0),ci o7_1,cu o7_2],[]⟩)]) (env':=[(11,.ref 90),(12,.ref 83),(90,.ref 90),(233,.cell 800 0),(234,.c (ci most))]) U U E5) (zQ (yd (id:=90) (f:=(fun r=>C.own (ints r))) (l:=([[0,2,1],[1,0,2],[2,1,0]] : List (List Int))) (fun r=>C.lst (ints r)) U (fun _=>(yq (yr (fun _=>U) _)))) (zv (n:=233) U U E4))))),h⟩
         ·replace h:=h.2 (zh q40)
          exact zu<|⟨growL (3:Int) [],o7_0,o7_1,o7_2,zv (n:=233) U U E4,h⟩
        ·rintro w2_v11 w2_f800_0 w2_f800_1 w2_f800_2 q41
         replace h:=j2 w2_v11 w2_f800_0 w2_f800_1 w2_f800_2 q41
         refine zg<|zg<|zd<|za (ze U) U<|zf<|zt ?_
         obtain⟨H3,m3,q42,h⟩:=h
         refine ye (fun (v13_1:Int) (o83_1:List (List Int))=>⟨[(83,⟨orows o83_1,[]⟩),(800,⟨[.lst (bys w2_f800_0),ci w2_f800_1,cu w2_f800_2],[]⟩)],[(11,.c (.lst (rows w2_v11))),(12,.ref 83),(13,.c (ci v13_1)),(233,.cell 800 0),(234,.c (ci most))],233⟩) H3 m3 ⟨0,([] : List (List Int)),zv (n:=233) U U E5,q42⟩ ?_
         rintro v13_1 o83_1 q42
         replace h:=h v13_1 o83_1 q42
         refine zg<|zg<|zd<|za (zc U) U<|za (zc U) U<|za (zJ (f:=(fun r=>C.lst (ints r))) U) U<|za (zO U U) U<|zf<|zm U (fun q43=>?_) (fun q43=>?_)
         ·replace h:=h.1 (zj q43)
          refine zu<|zg<|zt<|zg<|zk (zl (n:=233) (σ':=[(83,⟨orows o83_1,[]⟩),(800,⟨[.lst (bys w2_f800_0),ci w2_f800_1,cu w2_f800_2],[]⟩)]) (env':=[(11,.c (.lst (rows w2_v11))),(12,.ref 83),(13,.c (ci v13_1)),(233,.cell 800 0),(234,.c (ci most))]) U U E5)<|zd<|zn (zy (id:=97) (ps:=[]) U U (zb U) U ⟨U,?_⟩)
          refine za (ze U) U<|zf<|zg<|zg<|zd<|za (ze U) U<|zf<|zt ?_
          obtain⟨H4,m4,q44,h⟩:=h
          refine ye (fun (v15_2:Int) (o97_2:List Int)=>⟨[(97,⟨ints o97_2,[]⟩),(83,⟨orows o83_1,[]⟩),(800,⟨[.lst (bys w2_f800_0),ci w2_f800_1,cu w2_f800_2],[]⟩)],[(11,.c (.lst (rows w2_v11))),(12,.ref 83),(13,.c (ci v13_1)),(14,.ref 97),(15,.c (ci v15_2)),(233,.cell 800 0),(234,.c (ci most))],233⟩) H4 m4 ⟨0,([] : List Int),zv (n:=233) U U E7,q44⟩ ?_
          rintro v15_2 o97_2 q44
          replace h:=h v15_2 o97_2 q44
          refine zg<|zg<|zd<|za (zc U) U<|za (zc U) U<|za (zJ (f:=(fun r=>C.lst (ints r))) U) U<|za (zO U U) U<|zf<|zm U (fun q45=>?_) (fun q45=>?_)
          ·replace h:=h.1 (zj q45)
           refine zu<|zg<|zt<|zg<|zk (zl (n:=233) (σ':=[(97,⟨ints o97_2,[]⟩),(83,⟨orows o83_1,[]⟩),(800,⟨[.lst (bys w2_f800_0),ci w2_f800_1,cu w2_f800_2],[]⟩)]) (env':=[(11,.c (.lst (rows w2_v11))),(12,.ref 83),(13,.c (ci v13_1)),(14,.ref 97),(15,.c (ci v15_2)),(233,.cell 800 0),(234,.c (ci most))]) U U E7)<|zP (kd:=kdl [0,0,0,1,2,0,0,0,1,2,0,0,0,1,2,0]) (ord:=[0,1,2,5,6,7,10,11,12,3,8,13,4,9,14,15]) [] mixed (by kernel_rfl)<|zp U U trivial (zc U) U<|zp U U trivial (zc U) U ?_
           obtain⟨q46,h⟩:=h
           refine zp U U trivial (zB U U q46) U<|zp U U trivial (zc U) U<|zp U U trivial (zc U) U ?_
           obtain⟨q47,h⟩:=h
           refine zp U U trivial (zB U U q47) U<|zp U U trivial (zc U) U<|zp U U trivial (zc U) U ?_
           obtain⟨q48,h⟩:=h
           refine zp U U trivial (zB U U q48) U<|zY U U trivial (zx (f:=(fun r=>C.lst (ints r))) U q46) U<|zY U U trivial (zx (f:=(fun r=>C.lst (ints r))) U q47) U<|zY U U trivial (zx (f:=(fun r=>C.lst (ints r))) U q48) U ?_
           obtain⟨q49,h⟩:=h
           refine y7 U U trivial U U (zF (xs:=[.tmp 107]) (ids:=[108]) U U U U (c_spec_l01Back (el w2_v11 v13_1) q49) U ?_)
           rintro _ rfl
           refine⟨U,?_⟩
           obtain⟨q51,h⟩:=h
           refine y7 U U trivial U U (yU (xs:=[.tmp 108,.tmp 112]) (cs:=[.own (ints (backI (el w2_v11 v13_1))),.lst (ints (el w2_v11 v15_2))]) (ids:=[113]) U (.inr ⟨U,U⟩) U U (yD (yq (yr (fun _=>U) _)) (yD U yX)) (c_spec_l01Then (backI (el w2_v11 v13_1)) (el w2_v11 v15_2) q51) U ?_)
           rintro _ rfl
           refine⟨(slf_own (xg (f:=ci) (fun _=>U) _)),U,?_⟩
           obtain⟨q53,h⟩:=h
           refine y7 U U trivial U U (yU (xs:=[.tmp 113,.tmp 117]) (cs:=[.own (ints ((backI (el w2_v11 v13_1)).map (el (el w2_v11 v15_2)))),.lst (ints (el w2_v11 v13_1))]) (ids:=[118]) U (.inr ⟨U,U⟩) U U (yD (yq (yr (fun _=>U) _)) (yD U yX)) (c_spec_l01Then ((backI (el w2_v11 v13_1)).map (el (el w2_v11 v15_2))) (el w2_v11 v13_1) q53) U ?_)
           rintro _ rfl
           refine⟨(slf_own (xg (f:=ci) (fun _=>U) _)),U,?_⟩
           refine zp U U trivial (ze U) U<|yh<|zg<|zk (zl (n:=233) (σ':=[(118,⟨ints (((backI (el w2_v11 v13_1)).map (el (el w2_v11 v15_2))).map (el (el w2_v11 v13_1))),[]⟩),(113,⟨ints ((backI (el w2_v11 v13_1)).map (el (el w2_v11 v15_2))),[]⟩),(108,⟨ints (backI (el w2_v11 v13_1)),[]⟩),(97,⟨ints o97_2,[]⟩),(83,⟨orows o83_1,[]⟩),(800,⟨[.lst (bys w2_f800_0),ci w2_f800_1,cu w2_f800_2],[]⟩)]) (env':=[(11,.c (.lst (rows w2_v11))),(12,.ref 83),(13,.c (ci v13_1)),(14,.ref 97),(15,.c (ci v15_2)),(16,.ref 118),(233,.cell 800 0),(234,.c (ci most))]) U U E8)<|zd<|za (ze U) U<|zf<|zg<|zt<|zk (yd (id:=113) ci U (fun _=>U))<|zk (yd (id:=108) ci U (fun _=>U)) ?_
           obtain⟨H5,m5,q55,h⟩:=h
           refine yy (fun (v17_3:Int)=>⟨[(118,⟨ints (((backI (el w2_v11 v13_1)).map (el (el w2_v11 v15_2))).map (el (el w2_v11 v13_1))),[]⟩),(97,⟨ints o97_2,[]⟩),(83,⟨orows o83_1,[]⟩),(800,⟨[.lst (bys w2_f800_0),ci w2_f800_1,cu w2_f800_2],[]⟩)],[(11,.c (.lst (rows w2_v11))),(12,.ref 83),(13,.c (ci v13_1)),(14,.ref 97),(15,.c (ci v15_2)),(16,.ref 118),(17,.c (ci v17_3)),(233,.cell 800 0),(234,.c (ci most))],233⟩) H5 m5 ⟨0,zv (n:=233) U U E9,q55⟩ ?_
           rintro v17_3 q55
           replace h:=h v17_3 q55
           refine zg<|zg<|zd<|za (zc U) U<|za (zc U) U ?_
           obtain⟨q56,h⟩:=h
           refine za (zB U U q56) U<|za (zx (f:=(fun r=>C.lst (ints r))) U q56) U<|za (zc U) U ?_
           obtain⟨q57,h⟩:=h
           refine zn (yU (xs:=[.tmp 122,.tmp 123]) (cs:=[.lst (ints (el w2_v11 v17_3)),.own (ints (((backI (el w2_v11 v13_1)).map (el (el w2_v11 v15_2))).map (el (el w2_v11 v13_1))))]) (ids:=[]) U (.inr ⟨U,U⟩) U U (yD U (yD (yq (yr (fun _=>U) _)) yX)) (c_spec_l01Same (el w2_v11 v17_3) (((backI (el w2_v11 v13_1)).map (el (el w2_v11 v15_2))).map (el (el w2_v11 v13_1))) q57) U ?_)
           rintro _ rfl
           refine⟨U,U,?_⟩
           refine za (yA U) U<|zf<|zm U (fun q59=>?_) (fun q59=>?_)
           ·replace h:=h.1 (zh (ya q59))
            refine zu<|zt<|zk (zl (n:=233) (σ':=[(118,⟨ints (((backI (el w2_v11 v13_1)).map (el (el w2_v11 v15_2))).map (el (el w2_v11 v13_1))),[]⟩),(97,⟨ints o97_2,[]⟩),(83,⟨orows o83_1,[]⟩),(800,⟨[.lst (bys w2_f800_0),ci w2_f800_1,cu w2_f800_2],[]⟩)]) (env':=[(11,.c (.lst (rows w2_v11))),(12,.ref 83),(13,.c (ci v13_1)),(14,.ref 97),(15,.c (ci v15_2)),(16,.ref 118),(17,.c (ci v17_3)),(233,.cell 800 0),(234,.c (ci most))]) U U E9)<|zd<|za (zc U) U ?_
            obtain⟨q60,h⟩:=h
            exact za (zG U U q60) U<|za (ze U) U<|zf<|⟨v17_3 + 1,zv (n:=233) U U E9,h.1,h.2⟩
           ·replace h:=h.2 (zj (yb q59))
            refine zL<|zk (zl (n:=233) (σ':=[(118,⟨ints (((backI (el w2_v11 v13_1)).map (el (el w2_v11 v15_2))).map (el (el w2_v11 v13_1))),[]⟩),(97,⟨ints o97_2,[]⟩),(83,⟨orows o83_1,[]⟩),(800,⟨[.lst (bys w2_f800_0),ci w2_f800_1,cu w2_f800_2],[]⟩)]) (env':=[(11,.c (.lst (rows w2_v11))),(12,.ref 83),(13,.c (ci v13_1)),(14,.ref 97),(15,.c (ci v15_2)),(17,.c (ci v17_3)),(233,.cell 800 0),(234,.c (ci most))]) U U E8)<|zd<|za (zc U) U<|za (zc U) U<|zn (zy (id:=130) (ps:=[(0,.tmp 129)]) U U (zb U) U ⟨U,?_⟩)
            obtain⟨q61,h⟩:=h
            refine zn (yx ci (l:=o97_2) (m:=[v17_3]) U U U U U (zb U) q61 ⟨U,?_⟩)
            refine za (ze U) U<|zf<|zk (zl (n:=233) (σ':=[(118,⟨ints (((backI (el w2_v11 v13_1)).map (el (el w2_v11 v15_2))).map (el (el w2_v11 v13_1))),[]⟩),(97,⟨ints (o97_2 ++ ([v17_3])),[]⟩),(83,⟨orows o83_1,[]⟩),(800,⟨[.lst (bys w2_f800_0),ci w2_f800_1,cu w2_f800_2],[]⟩)]) (env':=[(11,.c (.lst (rows w2_v11))),(12,.ref 83),(13,.c (ci v13_1)),(14,.ref 97),(15,.c (ci v15_2)),(233,.cell 800 0),(234,.c (ci most))]) U U E7)<|zd<|za (zc U) U ?_
            obtain⟨q62,h⟩:=h
            exact za (zG U U q62) U<|za (ze U) U<|zf<|⟨v15_2 + 1,o97_2 ++ ([v17_3]),zQ (yd (id:=118) ci U (fun _=>U)) (zv (n:=233) U U E7),h.1,h.2⟩
          ·replace h:=h.2 (zh q45)
           refine zL<|zk (zl (n:=233) (σ':=[(97,⟨ints o97_2,[]⟩),(83,⟨orows o83_1,[]⟩),(800,⟨[.lst (bys w2_f800_0),ci w2_f800_1,cu w2_f800_2],[]⟩)]) (env':=[(11,.c (.lst (rows w2_v11))),(12,.ref 83),(13,.c (ci v13_1)),(14,.ref 97),(233,.cell 800 0),(234,.c (ci most))]) U U E6)<|zd<|za (zc U) U<|za (zc U) U<|zn (zy (id:=134) (ps:=[(0,.tmp 133)]) U U (zb U) U ⟨U,?_⟩)
           refine yF (yu (id:=134) (id2:=97) (j:=0) U U (zb U) U U U) ?_
           obtain⟨q63,h⟩:=h
           refine zn (yx (fun r=>C.own (ints r)) (l:=o83_1) (m:=[o97_2]) U U U U U (zb U) q63 ⟨U,?_⟩)
           refine za (ze U) U<|zf<|zk (zl (n:=233) (σ':=[(83,⟨orows (o83_1 ++ ([o97_2])),[]⟩),(800,⟨[.lst (bys w2_f800_0),ci w2_f800_1,cu w2_f800_2],[]⟩)]) (env':=[(11,.c (.lst (rows w2_v11))),(12,.ref 83),(13,.c (ci v13_1)),(233,.cell 800 0),(234,.c (ci most))]) U U E5)<|zd<|za (zc U) U ?_
           obtain⟨q64,h⟩:=h
           exact za (zG U U q64) U<|za (ze U) U<|zf<|⟨v13_1 + 1,o83_1 ++ ([o97_2]),zv (n:=233) U U E5,h.1,h.2⟩
         ·replace h:=h.2 (zh q43)
          exact zL<|zg<|zk (zl (n:=233) (σ':=[(83,⟨orows o83_1,[]⟩),(800,⟨[.lst (bys w2_f800_0),ci w2_f800_1,cu w2_f800_2],[]⟩)]) (env':=[(12,.ref 83),(233,.cell 800 0),(234,.c (ci most))]) U U E3)<|zd<|za (zc U) U<|za (ze U) U<|zf<|zA<|ym (zH U (zw U)) U U U ⟨_,_,_,_,h,U,U⟩
       ·replace h:=h.2 (zh q35)
        exact zu<|⟨o2_0,o2_1,o2_2,zv (n:=233) U U E4,h⟩
      ·replace h:=h.2 (zh q34)
       exact zu<|⟨o2_0,o2_1,o2_2,zv (n:=233) U U E4,h⟩
  ·rintro w1_f800_0 w1_f800_1 w1_f800_2 q65
   replace h:=j1 w1_f800_0 w1_f800_1 w1_f800_2 q65
   refine zg<|zd<|za (zc U) U<|za (zc U) U ?_
   obtain⟨q66,h⟩:=h
   refine zn (yp (xs:=[.tmp 137,.tmp 138]) (cs:=[.obox [.lst (bys w1_f800_0),ci w1_f800_1,cu w1_f800_2],ci (1 + r1_0)]) (ids:=[]) U (.inr ⟨U,U⟩) U U U (c_spec_l01Next w1_f800_0 w1_f800_1 w1_f800_2 (1 + r1_0) q66) U U ?_)
   rintro _ _ ⟨r8_0,o8_0,o8_1,o8_2,q67,rfl,rfl⟩
   replace h:=h r8_0 o8_0 o8_1 o8_2 q67
   refine⟨U,U,?_⟩
   refine za (ze U) U<|zf<|zg<|zk (zl (n:=233) (σ':=[(800,⟨[.lst (bys o8_0),ci o8_1,cu o8_2],[]⟩)]) (env':=[(0,.cell 800 0),(5,.c (ci (1 + r1_0))),(18,.c (ci r8_0)),(233,.cell 800 0),(234,.c (ci most))]) U U E5)<|zP (kd:=kdl [0,0,0,0,0,0,0,0,2,0,0,0,0,0,0,0,2,0,0]) (ord:=[0,1,2,3,4,5,6,7,9,10,11,12,13,14,15,8,16,17,18]) [] mixed (by kernel_rfl)<|zp U U trivial (zc U) U<|zp U U trivial (ss_max U U) U<|zp U U trivial (zc U) U<|zp U U trivial (ss_max U U) U ?_
   obtain⟨q68,h⟩:=h
   refine zp U U trivial (yS U U q68) U<|zp U U trivial (zc U) U<|zp U U trivial (ss_max U U) U ?_
   obtain⟨q69,h⟩:=h
   refine zp U U trivial (ss_rem U U q69) U<|zp U U trivial (zc U) U<|zp U U trivial (zc U) U ?_
   obtain⟨q70,h⟩:=h
   refine zp U U trivial (yS U U q70) U<|zp U U trivial (zc U) U<|zp U U trivial (zc U) U ?_
   obtain⟨q71,h⟩:=h
   refine zp U U trivial (yS U U q71) U ?_
   obtain⟨q72,h⟩:=h
   refine zp U U trivial (ss_rem U U q72) U ?_
   obtain⟨q73,h⟩:=h
   refine y7 U U trivial U U (zF (xs:=[.tmp 141,.tmp 144,.tmp 147]) (ids:=[148]) U U U U (c_spec_l03AlexanderW (if 1 < r8_0 then r8_0 else 1) ((if 1 < r8_0 then r8_0 else 1) - 1) (2 % (if 1 < r8_0 then r8_0 else 1)) q73) U ?_)
   rintro _ ⟨r9_0,q74,rfl⟩
   replace h:=h r9_0 q74
   refine⟨U,?_⟩
   obtain⟨q75,h⟩:=h
   refine y7 U U trivial U U (zF (xs:=[.tmp 151,.tmp 155,.const (.int .i64 (0))]) (ids:=[156]) U U U U (c_spec_l03AlexanderW ((1 + r1_0) - r8_0) (1 % ((1 + r1_0) - r8_0)) 0 q75) U ?_)
   rintro _ ⟨r10_0,q76,rfl⟩
   replace h:=h r10_0 q76
   refine⟨U,?_⟩
   refine zp U U trivial (ze U) U<|zp U U trivial (ze U) U<|yh<|zg<|zg<|zk (zl (n:=233) (σ':=[(156,⟨orows r10_0,[]⟩),(148,⟨orows r9_0,[]⟩),(800,⟨[.lst (bys o8_0),ci o8_1,cu o8_2],[]⟩)]) (env':=[(0,.cell 800 0),(5,.c (ci (1 + r1_0))),(18,.c (ci r8_0)),(19,.ref 148),(20,.ref 156),(233,.cell 800 0),(234,.c (ci most))]) U U E7)<|zd<|za (zc U) U<|za (yE U U) U<|zf<|zm U (fun q77=>?_) (fun q77=>?_)
   ·replace h:=h.1 (zj q77)
    exact zg<|zk (zl (n:=233) (σ':=[(156,⟨orows r10_0,[]⟩),(148,⟨orows r9_0,[]⟩),(800,⟨[.lst (bys o8_0),ci o8_1,cu o8_2],[]⟩)]) (env':=[(20,.ref 156),(233,.cell 800 0),(234,.c (ci most))]) U U E3)<|zd<|za (zc U) U<|za (ze U) U<|zf<|zA<|ym (zH U (zw U)) U U U ⟨_,_,_,_,h,U,U⟩
   ·replace h:=h.2 (zh q77)
    refine zu<|zg<|zd<|za (zc U) U<|za (zc U) U<|za (zc U) U ?_
    obtain⟨q78,h⟩:=h
    refine za (yS U U q78) U ?_
    obtain⟨q79,h⟩:=h
    refine zn (yp (xs:=[.tmp 160,.tmp 163]) (cs:=[.obox [.lst (bys o8_0),ci o8_1,cu o8_2],ci ((1 + r1_0) - r8_0)]) (ids:=[164]) U (.inr ⟨U,U⟩) U U U (c_spec_l03DrawPerm o8_0 o8_1 o8_2 ((1 + r1_0) - r8_0) q79) U U ?_)
    rintro _ _ ⟨r11_0,o11_0,o11_1,o11_2,q80,rfl,rfl⟩
    replace h:=h r11_0 o11_0 o11_1 o11_2 q80
    refine⟨U,U,?_⟩
    refine za (ze U) U<|zf<|zg<|zd<|zn (zy (id:=165) (ps:=[]) U U (zb U) U ⟨U,?_⟩)
    refine za (ze U) U<|zf<|zk (yd (id:=148) (fun r=>C.lst (ints r)) U (fun _=>(yq (yr (fun _=>U) _))))<|zk (yd (id:=156) (fun r=>C.lst (ints r)) U (fun _=>(yq (yr (fun _=>U) _))))<|zg<|zg<|zk (zl (n:=233) (σ':=[(165,⟨orows ([] : List (List Int)),[]⟩),(164,⟨ints r11_0,[]⟩),(800,⟨[.lst (bys o11_0),ci o11_1,cu o11_2],[]⟩)]) (env':=[(5,.c (ci (1 + r1_0))),(18,.c (ci r8_0)),(19,.c (.lst (rows r9_0))),(20,.c (.lst (rows r10_0))),(21,.ref 164),(22,.ref 165),(233,.cell 800 0),(234,.c (ci most))]) U U E8)<|zd<|za (ze U) U<|zf<|zt ?_
    obtain⟨H6,m6,q81,h⟩:=h
    refine ye (fun (v23_1:Int) (o165_1:List (List Int))=>⟨[(165,⟨orows o165_1,[]⟩),(164,⟨ints r11_0,[]⟩),(800,⟨[.lst (bys o11_0),ci o11_1,cu o11_2],[]⟩)],[(5,.c (ci (1 + r1_0))),(18,.c (ci r8_0)),(19,.c (.lst (rows r9_0))),(20,.c (.lst (rows r10_0))),(21,.ref 164),(22,.ref 165),(23,.c (ci v23_1)),(233,.cell 800 0),(234,.c (ci most))],233⟩) H6 m6 ⟨0,([] : List (List Int)),zv (n:=233) U U E9,q81⟩ ?_
    rintro v23_1 o165_1 q81
    replace h:=h v23_1 o165_1 q81
    refine zg<|zg<|zd<|za (zc U) U<|za (zc U) U<|za (zO U U) U<|zf<|zm U (fun q82=>?_) (fun q82=>?_)
    ·replace h:=h.1 (zj q82)
     refine zu<|zg<|zt<|zg<|zd<|zn (zy (id:=171) (ps:=[]) U U (zb U) U ⟨U,?_⟩)
     refine za (ze U) U<|zf<|zg<|zg<|zd<|za (ze U) U<|zf<|zt ?_
     obtain⟨H7,m7,q83,h⟩:=h
     refine ye (fun (v25_2:Int) (o171_2:List Int)=>⟨[(171,⟨ints o171_2,[]⟩),(165,⟨orows o165_1,[]⟩),(164,⟨ints r11_0,[]⟩),(800,⟨[.lst (bys o11_0),ci o11_1,cu o11_2],[]⟩)],[(5,.c (ci (1 + r1_0))),(18,.c (ci r8_0)),(19,.c (.lst (rows r9_0))),(20,.c (.lst (rows r10_0))),(21,.ref 164),(22,.ref 165),(23,.c (ci v23_1)),(24,.ref 171),(25,.c (ci v25_2)),(233,.cell 800 0),(234,.c (ci most))],233⟩) H7 m7 ⟨0,([] : List Int),zv (n:=233) U U ⟨U,U,U,U,U,U,U,U,U,U,U,trivial⟩,q83⟩ ?_
     rintro v25_2 o171_2 q83
     replace h:=h v25_2 o171_2 q83
     refine zg<|zg<|zd<|za (zc U) U<|za (zc U) U<|za (zO U U) U<|zf<|zm U (fun q84=>?_) (fun q84=>?_)
     ·replace h:=h.1 (zj q84)
      refine zu<|zg<|zt<|zt<|zg<|zd<|za (zc U) U<|za (zc U) U<|za (zO U U) U<|za (zc U) U<|zX (s:=185) U (fun q85=>?_) (fun q85=>?_)
      ·replace h:=h.1 (zj q85)
       refine zE U U q85<|za (zc U) U<|zE U U q85<|za (zc U) U<|zE U U q85<|za (zO U U) U<|za (zU U q85 U) U<|za (ze U) U<|zf<|zm U (fun q86=>?_) (fun q86=>?_)
       ·replace h:=h.1 (zj q86)
        refine zd<|za (zc U) U<|za (zc U) U<|za (zc U) U ?_
        obtain⟨q87,h⟩:=h
        refine za (zB U U q87) U<|za (zx (f:=(fun r=>C.lst (ints r))) U q87) U<|za (zc U) U ?_
        obtain⟨q88,h⟩:=h
        refine za (zB U U q88) U<|za (zx (f:=ci) U q88) U<|zn (zy (id:=198) (ps:=[(0,.tmp 197)]) U U (zb U) U ⟨U,?_⟩)
        obtain⟨q89,h⟩:=h
        refine zn (yx ci (l:=o171_2) (m:=[el (el r9_0 v23_1) v25_2]) U U U U U (zb U) q89 ⟨U,?_⟩)
        refine za (ze U) U<|zf<|zk (zl (n:=233) (σ':=[(171,⟨ints (o171_2 ++ ([el (el r9_0 v23_1) v25_2])),[]⟩),(165,⟨orows o165_1,[]⟩),(164,⟨ints r11_0,[]⟩),(800,⟨[.lst (bys o11_0),ci o11_1,cu o11_2],[]⟩)]) (env':=[(5,.c (ci (1 + r1_0))),(18,.c (ci r8_0)),(19,.c (.lst (rows r9_0))),(20,.c (.lst (rows r10_0))),(21,.ref 164),(22,.ref 165),(23,.c (ci v23_1)),(24,.ref 171),(25,.c (ci v25_2)),(186,.c (ci v25_2)),(187,.c (ci r8_0)),(188,.c (cb (decide (v25_2 < r8_0)))),(233,.cell 800 0),(234,.c (ci most))]) U U ⟨U,U,U,U,U,U,U,U,U,U,U,U,U,U,trivial⟩)<|zd<|za (zc U) U ?_
        obtain⟨q90,h⟩:=h
        exact za (zG U U q90) U<|za (ze U) U<|zf<|⟨v25_2 + 1,o171_2 ++ ([el (el r9_0 v23_1) v25_2]),zv (n:=233) U U ⟨U,U,U,U,U,U,U,U,U,U,U,trivial⟩,h.1,h.2⟩
       ·replace h:=h.2 (zh q86)
        refine zg<|zd<|za (zc U) U<|za (zc U) U<|za (xl U U) U<|za (zc U) U<|zX (s:=204) U (fun q91=>?_) (fun q91=>?_)
        ·replace h:=h.1 (zj q91)
         refine zE U U q91<|za (zc U) U<|zE U U q91<|za (zc U) U<|zE U U q91<|za (xl U U) U<|za (zU U q91 U) U<|za (ze U) U<|zf<|zm U (fun q92=>?_) (fun q92=>?_)
         ·replace h:=h.1 (zj q92)
          refine zd<|za (zc U) U<|za (zc U) U<|za (zc U) U<|za (zc U) U<|za (zc U) U<|za (zc U) U ?_
          obtain⟨q93,h⟩:=h
          refine za (yS U U q93) U ?_
          obtain⟨q94,h⟩:=h
          refine za (zB U U q94) U<|za (zx (f:=(fun r=>C.lst (ints r))) U q94) U<|za (zc U) U<|za (zc U) U ?_
          obtain⟨q95,h⟩:=h
          refine za (yS U U q95) U ?_
          obtain⟨q96,h⟩:=h
          refine za (zB U U q96) U<|za (zx (f:=ci) U q96) U ?_
          obtain⟨q97,h⟩:=h
          refine za (zR (f:=ci) U U U q97) U<|za (yi (f:=ci) U U q97 U U) U ?_
          obtain⟨q98,h⟩:=h
          refine za (zG U U q98) U<|zn (zy (id:=226) (ps:=[(0,.tmp 225)]) U U (zb U) U ⟨U,?_⟩)
          obtain⟨q99,h⟩:=h
          refine zn (yx ci (l:=o171_2) (m:=[r8_0 + (el r11_0 (el (el r10_0 (v23_1 - r8_0)) (v25_2 - r8_0)))]) U U U U U (zb U) q99 ⟨U,?_⟩)
          refine za (ze U) U<|zf<|zk (zl (n:=233) (σ':=[(171,⟨ints (o171_2 ++ ([r8_0 + (el r11_0 (el (el r10_0 (v23_1 - r8_0)) (v25_2 - r8_0)))])),[]⟩),(165,⟨orows o165_1,[]⟩),(164,⟨ints r11_0,[]⟩),(800,⟨[.lst (bys o11_0),ci o11_1,cu o11_2],[]⟩)]) (env':=[(5,.c (ci (1 + r1_0))),(18,.c (ci r8_0)),(19,.c (.lst (rows r9_0))),(20,.c (.lst (rows r10_0))),(21,.ref 164),(22,.ref 165),(23,.c (ci v23_1)),(24,.ref 171),(25,.c (ci v25_2)),(186,.c (ci v25_2)),(187,.c (ci r8_0)),(188,.c (cb (decide (v25_2 < r8_0)))),(205,.c (ci v25_2)),(206,.c (ci r8_0)),(207,.c (cb (decide (r8_0<=v25_2)))),(233,.cell 800 0),(234,.c (ci most))]) U U ⟨U,U,U,U,U,U,U,U,U,U,U,U,U,U,U,U,U,trivial⟩)<|zd<|za (zc U) U ?_
          obtain⟨q100,h⟩:=h
          exact za (zG U U q100) U<|za (ze U) U<|zf<|⟨v25_2 + 1,o171_2 ++ ([r8_0 + (el r11_0 (el (el r10_0 (v23_1 - r8_0)) (v25_2 - r8_0)))]),zv (n:=233) U U ⟨U,U,U,U,U,U,U,U,U,U,U,trivial⟩,h.1,h.2⟩
         ·replace h:=h.2 (zh q92)
          refine zk (zl (n:=233) (σ':=[(171,⟨ints o171_2,[]⟩),(165,⟨orows o165_1,[]⟩),(164,⟨ints r11_0,[]⟩),(800,⟨[.lst (bys o11_0),ci o11_1,cu o11_2],[]⟩)]) (env':=[(5,.c (ci (1 + r1_0))),(18,.c (ci r8_0)),(19,.c (.lst (rows r9_0))),(20,.c (.lst (rows r10_0))),(21,.ref 164),(22,.ref 165),(23,.c (ci v23_1)),(24,.ref 171),(25,.c (ci v25_2)),(186,.c (ci v25_2)),(187,.c (ci r8_0)),(188,.c (cb (decide (v25_2 < r8_0)))),(205,.c (ci v25_2)),(206,.c (ci r8_0)),(207,.c (cb (decide (r8_0<=v25_2)))),(233,.cell 800 0),(234,.c (ci most))]) U U ⟨U,U,U,U,U,U,U,U,U,U,U,U,U,U,U,U,U,trivial⟩)<|zd<|za (zc U) U<|za (zc U) U<|zn (zy (id:=179) (ps:=[(0,.tmp 178)]) U U (zb U) U ⟨U,?_⟩)
          obtain⟨q101,h⟩:=h
          refine zn (yx ci (l:=o171_2) (m:=[v25_2]) U U U U U (zb U) q101 ⟨U,?_⟩)
          refine za (ze U) U<|zf<|zk (zl (n:=233) (σ':=[(171,⟨ints (o171_2 ++ ([v25_2])),[]⟩),(165,⟨orows o165_1,[]⟩),(164,⟨ints r11_0,[]⟩),(800,⟨[.lst (bys o11_0),ci o11_1,cu o11_2],[]⟩)]) (env':=[(5,.c (ci (1 + r1_0))),(18,.c (ci r8_0)),(19,.c (.lst (rows r9_0))),(20,.c (.lst (rows r10_0))),(21,.ref 164),(22,.ref 165),(23,.c (ci v23_1)),(24,.ref 171),(25,.c (ci v25_2)),(186,.c (ci v25_2)),(187,.c (ci r8_0)),(188,.c (cb (decide (v25_2 < r8_0)))),(205,.c (ci v25_2)),(206,.c (ci r8_0)),(207,.c (cb (decide (r8_0<=v25_2)))),(233,.cell 800 0),(234,.c (ci most))]) U U ⟨U,U,U,U,U,U,U,U,U,U,U,U,U,U,U,U,U,trivial⟩)<|zd<|za (zc U) U ?_
          obtain⟨q102,h⟩:=h
          exact za (zG U U q102) U<|za (ze U) U<|zf<|⟨v25_2 + 1,o171_2 ++ ([v25_2]),zv (n:=233) U U ⟨U,U,U,U,U,U,U,U,U,U,U,trivial⟩,h.1,h.2⟩
        ·replace h:=h.2 (zh q91)
         refine zC U U q91 U<|zC U U q91 U<|zC U U q91 U<|za (zV U q91 U) U<|za (ze U) U<|zf<|zm U (fun q103=>?_) (fun q103=>?_)
         ·cases q103
         ·skip
          refine zk (zl (n:=233) (σ':=[(171,⟨ints o171_2,[]⟩),(165,⟨orows o165_1,[]⟩),(164,⟨ints r11_0,[]⟩),(800,⟨[.lst (bys o11_0),ci o11_1,cu o11_2],[]⟩)]) (env':=[(5,.c (ci (1 + r1_0))),(18,.c (ci r8_0)),(19,.c (.lst (rows r9_0))),(20,.c (.lst (rows r10_0))),(21,.ref 164),(22,.ref 165),(23,.c (ci v23_1)),(24,.ref 171),(25,.c (ci v25_2)),(186,.c (ci v25_2)),(187,.c (ci r8_0)),(188,.c (cb (decide (v25_2 < r8_0)))),(233,.cell 800 0),(234,.c (ci most))]) U U ⟨U,U,U,U,U,U,U,U,U,U,U,U,U,U,trivial⟩)<|zd<|za (zc U) U<|za (zc U) U<|zn (zy (id:=179) (ps:=[(0,.tmp 178)]) U U (zb U) U ⟨U,?_⟩)
          obtain⟨q104,h⟩:=h
          refine zn (yx ci (l:=o171_2) (m:=[v25_2]) U U U U U (zb U) q104 ⟨U,?_⟩)
          refine za (ze U) U<|zf<|zd<|za (zc U) U ?_
          obtain⟨q105,h⟩:=h
          exact za (zG U U q105) U<|za (ze U) U<|zf<|⟨v25_2 + 1,o171_2 ++ ([v25_2]),zv (n:=233) U U ⟨U,U,U,U,U,U,U,U,U,U,U,trivial⟩,h.1,h.2⟩
      ·replace h:=h.2 (zh q85)
       refine zC U U q85 U<|zC U U q85 U<|zC U U q85 U<|za (zV U q85 U) U<|za (ze U) U<|zf<|zm U (fun q106=>?_) (fun q106=>?_)
       ·cases q106
       ·skip
        refine zg<|zd<|za (zc U) U<|za (zc U) U<|za (xl U U) U<|za (zc U) U<|zX (s:=204) U (fun q107=>?_) (fun q107=>?_)
        ·replace h:=h.1 (zj q107)
         refine zE U U q107<|za (zc U) U<|zE U U q107<|za (zc U) U<|zE U U q107<|za (xl U U) U<|za (zU U q107 U) U<|za (ze U) U<|zf<|zm U (fun q108=>?_) (fun q108=>?_)
         ·replace h:=h.1 (zj q108)
          refine zd<|za (zc U) U<|za (zc U) U<|za (zc U) U<|za (zc U) U<|za (zc U) U<|za (zc U) U ?_
          obtain⟨q109,h⟩:=h
          refine za (yS U U q109) U ?_
          obtain⟨q110,h⟩:=h
          refine za (zB U U q110) U<|za (zx (f:=(fun r=>C.lst (ints r))) U q110) U<|za (zc U) U<|za (zc U) U ?_
          obtain⟨q111,h⟩:=h
          refine za (yS U U q111) U ?_
          obtain⟨q112,h⟩:=h
          refine za (zB U U q112) U<|za (zx (f:=ci) U q112) U ?_
          obtain⟨q113,h⟩:=h
          refine za (zR (f:=ci) U U U q113) U<|za (yi (f:=ci) U U q113 U U) U ?_
          obtain⟨q114,h⟩:=h
          refine za (zG U U q114) U<|zn (zy (id:=226) (ps:=[(0,.tmp 225)]) U U (zb U) U ⟨U,?_⟩)
          obtain⟨q115,h⟩:=h
          refine zn (yx ci (l:=o171_2) (m:=[r8_0 + (el r11_0 (el (el r10_0 (v23_1 - r8_0)) (v25_2 - r8_0)))]) U U U U U (zb U) q115 ⟨U,?_⟩)
          refine za (ze U) U<|zf<|zk (zl (n:=233) (σ':=[(171,⟨ints (o171_2 ++ ([r8_0 + (el r11_0 (el (el r10_0 (v23_1 - r8_0)) (v25_2 - r8_0)))])),[]⟩),(165,⟨orows o165_1,[]⟩),(164,⟨ints r11_0,[]⟩),(800,⟨[.lst (bys o11_0),ci o11_1,cu o11_2],[]⟩)]) (env':=[(5,.c (ci (1 + r1_0))),(18,.c (ci r8_0)),(19,.c (.lst (rows r9_0))),(20,.c (.lst (rows r10_0))),(21,.ref 164),(22,.ref 165),(23,.c (ci v23_1)),(24,.ref 171),(25,.c (ci v25_2)),(205,.c (ci v25_2)),(206,.c (ci r8_0)),(207,.c (cb (decide (r8_0<=v25_2)))),(233,.cell 800 0),(234,.c (ci most))]) U U ⟨U,U,U,U,U,U,U,U,U,U,U,U,U,U,trivial⟩)<|zd<|za (zc U) U ?_
          obtain⟨q116,h⟩:=h
          exact za (zG U U q116) U<|za (ze U) U<|zf<|⟨v25_2 + 1,o171_2 ++ ([r8_0 + (el r11_0 (el (el r10_0 (v23_1 - r8_0)) (v25_2 - r8_0)))]),zv (n:=233) U U ⟨U,U,U,U,U,U,U,U,U,U,U,trivial⟩,h.1,h.2⟩
         ·replace h:=h.2 (zh q108)
          refine zk (zl (n:=233) (σ':=[(171,⟨ints o171_2,[]⟩),(165,⟨orows o165_1,[]⟩),(164,⟨ints r11_0,[]⟩),(800,⟨[.lst (bys o11_0),ci o11_1,cu o11_2],[]⟩)]) (env':=[(5,.c (ci (1 + r1_0))),(18,.c (ci r8_0)),(19,.c (.lst (rows r9_0))),(20,.c (.lst (rows r10_0))),(21,.ref 164),(22,.ref 165),(23,.c (ci v23_1)),(24,.ref 171),(25,.c (ci v25_2)),(205,.c (ci v25_2)),(206,.c (ci r8_0)),(207,.c (cb (decide (r8_0<=v25_2)))),(233,.cell 800 0),(234,.c (ci most))]) U U ⟨U,U,U,U,U,U,U,U,U,U,U,U,U,U,trivial⟩)<|zd<|za (zc U) U<|za (zc U) U<|zn (zy (id:=179) (ps:=[(0,.tmp 178)]) U U (zb U) U ⟨U,?_⟩)
          obtain⟨q117,h⟩:=h
          refine zn (yx ci (l:=o171_2) (m:=[v25_2]) U U U U U (zb U) q117 ⟨U,?_⟩)
          refine za (ze U) U<|zf<|zd<|za (zc U) U ?_
          obtain⟨q118,h⟩:=h
          exact za (zG U U q118) U<|za (ze U) U<|zf<|⟨v25_2 + 1,o171_2 ++ ([v25_2]),zv (n:=233) U U ⟨U,U,U,U,U,U,U,U,U,U,U,trivial⟩,h.1,h.2⟩
        ·replace h:=h.2 (zh q107)
         refine zC U U q107 U<|zC U U q107 U<|zC U U q107 U<|za (zV U q107 U) U<|za (ze U) U<|zf<|zm U (fun q119=>?_) (fun q119=>?_)
         ·cases q119
         ·skip
          refine zk (zl (n:=233) (σ':=[(171,⟨ints o171_2,[]⟩),(165,⟨orows o165_1,[]⟩),(164,⟨ints r11_0,[]⟩),(800,⟨[.lst (bys o11_0),ci o11_1,cu o11_2],[]⟩)]) (env':=[(5,.c (ci (1 + r1_0))),(18,.c (ci r8_0)),(19,.c (.lst (rows r9_0))),(20,.c (.lst (rows r10_0))),(21,.ref 164),(22,.ref 165),(23,.c (ci v23_1)),(24,.ref 171),(25,.c (ci v25_2)),(233,.cell 800 0),(234,.c (ci most))]) U U ⟨U,U,U,U,U,U,U,U,U,U,U,trivial⟩)<|zd<|za (zc U) U<|za (zc U) U<|zn (zy (id:=179) (ps:=[(0,.tmp 178)]) U U (zb U) U ⟨U,?_⟩)
          obtain⟨q120,h⟩:=h
          refine zn (yx ci (l:=o171_2) (m:=[v25_2]) U U U U U (zb U) q120 ⟨U,?_⟩)
          refine za (ze U) U<|zf<|zd<|za (zc U) U ?_
          obtain⟨q121,h⟩:=h
          exact za (zG U U q121) U<|za (ze U) U<|zf<|⟨v25_2 + 1,o171_2 ++ ([v25_2]),zv (n:=233) U U ⟨U,U,U,U,U,U,U,U,U,U,U,trivial⟩,h.1,h.2⟩
     ·replace h:=h.2 (zh q84)
      refine zL<|zd<|za (zc U) U<|za (zc U) U<|zn (zy (id:=230) (ps:=[(0,.tmp 229)]) U U (zb U) U ⟨U,?_⟩)
      refine yF (yu (id:=230) (id2:=171) (j:=0) U U (zb U) U U U) ?_
      obtain⟨q122,h⟩:=h
      refine zn (yx (fun r=>C.own (ints r)) (l:=o165_1) (m:=[o171_2]) U U U U U (zb U) q122 ⟨U,?_⟩)
      refine za (ze U) U<|zf<|zk (zl (n:=233) (σ':=[(165,⟨orows (o165_1 ++ ([o171_2])),[]⟩),(164,⟨ints r11_0,[]⟩),(800,⟨[.lst (bys o11_0),ci o11_1,cu o11_2],[]⟩)]) (env':=[(5,.c (ci (1 + r1_0))),(18,.c (ci r8_0)),(19,.c (.lst (rows r9_0))),(20,.c (.lst (rows r10_0))),(21,.ref 164),(22,.ref 165),(23,.c (ci v23_1)),(233,.cell 800 0),(234,.c (ci most))]) U U E9)<|zd<|za (zc U) U ?_
      obtain⟨q123,h⟩:=h
      exact za (zG U U q123) U<|za (ze U) U<|zf<|⟨v23_1 + 1,o165_1 ++ ([o171_2]),zv (n:=233) U U E9,h.1,h.2⟩
    ·replace h:=h.2 (zh q82)
     exact zL<|zg<|zk (zl (n:=233) (σ':=[(165,⟨orows o165_1,[]⟩),(164,⟨ints r11_0,[]⟩),(800,⟨[.lst (bys o11_0),ci o11_1,cu o11_2],[]⟩)]) (env':=[(22,.ref 165),(233,.cell 800 0),(234,.c (ci most))]) U U E3)<|zd<|za (zc U) U<|za (ze U) U<|zf<|zA<|ym (zH U (zw U)) U U U ⟨_,_,_,_,h,U,U⟩
theorem c_spec_l03DrawTableW (s1:List Int) (s2:Int) (s3:Int) (most:Int) (hp:okS s1 s2 s3/\1<=most/\most<=12):AM Tryz.prog 58 [.obox [.lst (bys s1),ci s2,cu s3],ci most] (fun R_ O_=>∃ y0 w0 w1 w2,((isTab y0 = true/\(y0.length:Int)<=most)/\w0 = s1/\okS s1 w1 w2)/\R_ = .own (orows y0)/\O_ = [.obox [.lst (bys w0),ci w1,cu w2],ci most]):=
  w_spec_l03DrawTableW s1 s2 s3 most (fun y0 w0 w1 w2=>(isTab y0 = true/\(y0.length:Int)<=most)/\w0 = s1/\okS s1 w1 w2) (p_spec_l03DrawTableW s1 s2 s3 most hp)
theorem w_spec_l03Draw (s1:List Int) (s2:Int) (s3:Int) (most:Int) (Q:List (List Int)->List Int->Int->Int->Prop) (h:wp_spec_l03Draw s1 s2 s3 most Q):AM Tryz.prog 34 [.obox [.lst (bys s1),ci s2,cu s3],ci most] (fun R_ O_=>∃ y0 w0 w1 w2,Q y0 w0 w1 w2/\R_ = .agg [.own (orows y0)]/\O_ = [.obox [.lst (bys w0),ci w1,cu w2],ci most]):=by
  refine xj (n:=20) (m:=2) Tryz.func34 U (by rfl) U U (zb U) [800] U ?_
  unfold wp_spec_l03Draw at h
  refine zg<|zk (zl (n:=20) (σ':=[(800,⟨[.lst (bys s1),ci s2,cu s3],[]⟩)]) (env':=[(0,.cell 800 0),(1,.c (ci most)),(20,.cell 800 0),(21,.c (ci most))]) U U E4)<|zd<|zn (yw (id:=4) U (zb U) ⟨U,?_⟩)
  refine zf<|zg<|zd<|za (zc U) U<|za (zc U) U ?_
  obtain⟨q1,h⟩:=h
  refine zn (yp (xs:=[.tmp 6,.tmp 7]) (cs:=[.obox [.lst (bys s1),ci s2,cu s3],ci most]) (ids:=[8]) U (.inr ⟨U,U⟩) U U U (c_spec_l03DrawTableW s1 s2 s3 most q1) U U ?_)
  rintro _ _ ⟨r1_0,o1_0,o1_1,o1_2,q2,rfl,rfl⟩
  replace h:=h r1_0 o1_0 o1_1 o1_2 q2
  refine⟨U,U,?_⟩
  refine za (ze U) U<|zf<|zg<|zg<|zk (zl (n:=20) (σ':=[(8,⟨orows r1_0,[]⟩),(4,⟨[cnil],[]⟩),(800,⟨[.lst (bys o1_0),ci o1_1,cu o1_2],[]⟩)]) (env':=[(0,.cell 800 0),(4,.cell 4 0),(5,.ref 8),(20,.cell 800 0),(21,.c (ci most))]) U U E5)<|zd<|za (zc U) U ?_
  obtain⟨q3,h⟩:=h
  refine zn (yp (xs:=[.tmp 9,.const (.int .i64 (2))]) (cs:=[.obox [.lst (bys o1_0),ci o1_1,cu o1_2],ci 2]) (ids:=[]) U (.inr ⟨U,U⟩) U U U (c_spec_l01Next o1_0 o1_1 o1_2 2 q3) U U ?_)
  rintro _ _ ⟨r2_0,o2_0,o2_1,o2_2,q4,rfl,rfl⟩
  replace h:=h r2_0 o2_0 o2_1 o2_2 q4
  refine⟨U,U,?_⟩
  refine za (yE U U) U<|zf<|zm U (fun q5=>?_) (fun q5=>?_)
  ·replace h:=h.1 (zj q5)
   refine zd<|za (zc U) U<|za (zc U) U<|za (zc U) U<|za (yR (f:=(fun r=>C.own (ints r))) U U) U ?_
   obtain⟨q6,h⟩:=h
   refine zn (yp (xs:=[.tmp 13,.tmp 15]) (cs:=[.obox [.lst (bys o2_0),ci o2_1,cu o2_2],ci (r1_0.length:Int)]) (ids:=[16]) U (.inr ⟨U,U⟩) U U U (c_spec_l03DrawPerm o2_0 o2_1 o2_2 (r1_0.length:Int) q6) U U ?_)
   rintro _ _ ⟨r3_0,o3_0,o3_1,o3_2,q7,rfl,rfl⟩
   replace h:=h r3_0 o3_0 o3_1 o3_2 q7
   refine⟨U,U,?_⟩
   obtain⟨q8,h⟩:=h
   refine zn (yU (xs:=[.tmp 12,.tmp 16]) (cs:=[.own (orows r1_0),.own (ints r3_0)]) (ids:=[17]) U (.inr ⟨U,U⟩) U U (yD (yq (yr (fun _=>(yq (yr (fun _=>U) _))) _)) (yD (yq (yr (fun _=>U) _)) yX)) (c_spec_l03Image r1_0 r3_0 q8) U ?_)
   rintro _ ⟨r4_0,q9,rfl⟩
   replace h:=h r4_0 q9
   refine⟨(slf_own (xg (f:=(fun r=>C.own (ints r))) (fun _=>(slf_own (xg (f:=ci) (fun _=>U) _))) _)),U,?_⟩
   refine za (ze U) U<|zf<|zg<|zk (zl (n:=20) (σ':=[(17,⟨orows r4_0,[]⟩),(16,⟨ints r3_0,[]⟩),(8,⟨orows r1_0,[]⟩),(4,⟨[cnil],[]⟩),(800,⟨[.lst (bys o3_0),ci o3_1,cu o3_2],[]⟩)]) (env':=[(4,.cell 4 0),(5,.ref 17),(20,.cell 800 0),(21,.c (ci most))]) U U E4)<|zd<|za (zc U) U<|za (ss_build (ps:=[(0,.tmp 18)]) U U) U<|zn (yf U U (zb U) U U U ⟨U,?_⟩)
   exact zf<|zA<|ym (zH U (yL U U U)) U U U ⟨_,_,_,_,h,U,U⟩
  ·replace h:=h.2 (zh q5)
   refine zu<|zg<|zk (zl (n:=20) (σ':=[(8,⟨orows r1_0,[]⟩),(4,⟨[cnil],[]⟩),(800,⟨[.lst (bys o2_0),ci o2_1,cu o2_2],[]⟩)]) (env':=[(4,.cell 4 0),(5,.ref 8),(20,.cell 800 0),(21,.c (ci most))]) U U E4)<|zd<|za (zc U) U<|za (ss_build (ps:=[(0,.tmp 18)]) U U) U<|zn (yf U U (zb U) U U U ⟨U,?_⟩)
   exact zf<|zA<|ym (zH U (yL U U U)) U U U ⟨_,_,_,_,h,U,U⟩
theorem c_spec_l03Draw (s1:List Int) (s2:Int) (s3:Int) (most:Int) (hp:okS s1 s2 s3/\1<=most/\most<=12):AM Tryz.prog 34 [.obox [.lst (bys s1),ci s2,cu s3],ci most] (fun R_ O_=>∃ y0 w0 w1 w2,((isTab y0 = true/\(y0.length:Int)<=most)/\w0 = s1/\okS s1 w1 w2)/\R_ = .agg [.own (orows y0)]/\O_ = [.obox [.lst (bys w0),ci w1,cu w2],ci most]):=
  w_spec_l03Draw s1 s2 s3 most (fun y0 w0 w1 w2=>(isTab y0 = true/\(y0.length:Int)<=most)/\w0 = s1/\okS s1 w1 w2) (p_spec_l03Draw s1 s2 s3 most hp)
theorem w_spec_l03DrawAny (s1:List Int) (s2:Int) (s3:Int) (most:Int) (Q:List (List Int)->List Int->Int->Int->Prop) (h:wp_spec_l03DrawAny s1 s2 s3 most Q):AM Tryz.prog 19 [.obox [.lst (bys s1),ci s2,cu s3],ci most] (fun R_ O_=>∃ y0 w0 w1 w2,Q y0 w0 w1 w2/\R_ = .agg [.own (orows y0)]/\O_ = [.obox [.lst (bys w0),ci w1,cu w2],ci most]):=by
  refine xj (n:=50) (m:=2) Tryz.func19 U (by rfl) U U (zb U) [800] U ?_
  unfold wp_spec_l03DrawAny at h
  refine zg<|zk (zl (n:=50) (σ':=[(800,⟨[.lst (bys s1),ci s2,cu s3],[]⟩)]) (env':=[(0,.cell 800 0),(1,.c (ci most)),(50,.cell 800 0),(51,.c (ci most))]) U U E4)<|zd<|zn (yw (id:=4) U (zb U) ⟨U,?_⟩)
  refine zf<|zg<|zd<|za (zc U) U<|za (zc U) U ?_
  obtain⟨q1,h⟩:=h
  refine zn (yp (xs:=[.tmp 7,.tmp 8]) (cs:=[.obox [.lst (bys s1),ci s2,cu s3],ci most]) (ids:=[9]) U (.inr ⟨U,U⟩) U U U (c_spec_l03Draw s1 s2 s3 most q1) U U ?_)
  rintro _ _ ⟨r1_0,o1_0,o1_1,o1_2,q2,rfl,rfl⟩
  replace h:=h r1_0 o1_0 o1_1 o1_2 q2
  refine⟨U,U,?_⟩
  refine zn (yw (id:=5) U (zb U) ⟨U,?_⟩)
  refine zn (yf U U (zb U) U U U ⟨U,?_⟩)
  refine zf<|zg<|zd<|za (zD U) U<|za (yt U U U U) U<|za (yR (f:=(fun r=>C.own (ints r))) U U) U<|za (ze U) U<|zf<|zg<|zg<|zk (zl (n:=50) (σ':=[(5,⟨[.hole],[(0,.ref 9)]⟩),(9,⟨orows r1_0,[]⟩),(4,⟨[cnil],[]⟩),(800,⟨[.lst (bys o1_0),ci o1_1,cu o1_2],[]⟩)]) (env':=[(0,.cell 800 0),(4,.cell 4 0),(5,.cell 5 0),(6,.c (ci (r1_0.length:Int))),(50,.cell 800 0),(51,.c (ci most))]) U U E6)<|zd<|za (zc U) U ?_
  obtain⟨q3,h⟩:=h
  refine zn (yp (xs:=[.tmp 13,.const (.int .i64 (24))]) (cs:=[.obox [.lst (bys o1_0),ci o1_1,cu o1_2],ci 24]) (ids:=[]) U (.inr ⟨U,U⟩) U U U (c_spec_l01Next o1_0 o1_1 o1_2 24 q3) U U ?_)
  rintro _ _ ⟨r2_0,o2_0,o2_1,o2_2,q4,rfl,rfl⟩
  replace h:=h r2_0 o2_0 o2_1 o2_2 q4
  refine⟨U,U,?_⟩
  refine zf<|zt<|zg<|zd<|za (yE U U) U<|za (ze U) U<|zf<|zm U (fun q5=>?_) (fun q5=>?_)
  ·replace h:=h.1 (zj q5)
   refine zk (zl (n:=50) (σ':=[(5,⟨[.hole],[(0,.ref 9)]⟩),(9,⟨orows r1_0,[]⟩),(4,⟨[cnil],[]⟩),(800,⟨[.lst (bys o2_0),ci o2_1,cu o2_2],[]⟩)]) (env':=[(0,.cell 800 0),(4,.cell 4 0),(5,.cell 5 0),(6,.c (ci (r1_0.length:Int))),(50,.cell 800 0),(51,.c (ci most))]) U U E6)<|zP (kd:=kdl [0,1,0,0,2,0,0,2,0,3]) (ord:=[0,2,3,5,6,1,4,7,8,9]) [800] mixed (by kernel_rfl)<|zp U U trivial (zD U) U<|zp U U trivial (zc U) U<|zp U U trivial (zc U) U<|zp U U trivial (zc U) U<|zp U U trivial (zc U) U<|zY U U trivial (yt U U U U) U ?_
   obtain⟨q6,h⟩:=h
   refine y7 U U trivial U U (yp (xs:=[.tmp 19,.tmp 20]) (cs:=[.obox [.lst (bys o2_0),ci o2_1,cu o2_2],ci (r1_0.length:Int)]) (ids:=[]) U (.inr ⟨U,U⟩) U U U (c_spec_l01Next o2_0 o2_1 o2_2 (r1_0.length:Int) q6) U U ?_)
   rintro _ _ ⟨r3_0,o3_0,o3_1,o3_2,q7,rfl,rfl⟩
   replace h:=h r3_0 o3_0 o3_1 o3_2 q7
   refine⟨U,U,?_⟩
   obtain⟨q8,h⟩:=h
   refine y7 U U trivial U U (yp (xs:=[.tmp 22,.tmp 23]) (cs:=[.obox [.lst (bys o3_0),ci o3_1,cu o3_2],ci (r1_0.length:Int)]) (ids:=[24]) U (.inr ⟨U,U⟩) U U U (c_spec_l03DrawPerm o3_0 o3_1 o3_2 (r1_0.length:Int) q8) U U ?_)
   rintro _ _ ⟨r4_0,o4_0,o4_1,o4_2,q9,rfl,rfl⟩
   replace h:=h r4_0 o4_0 o4_1 o4_2 q9
   refine⟨U,U,?_⟩
   obtain⟨q10,h⟩:=h
   refine zp U U trivial (zR (f:=(fun r=>C.own (ints r))) U U U q10) U<|xq U U trivial (ws_storeV U U (yN q10) U U U U ⟨U,?_⟩)
   refine yh<|zg<|zk (zl (n:=50) (σ':=[(24,⟨ints r4_0,[]⟩),(5,⟨[.hole],[(0,.ref 9)]⟩),(9,⟨(orows r1_0).set r3_0.toNat .hole,[(r3_0.toNat,.ref 24)]⟩),(4,⟨[cnil],[]⟩),(800,⟨[.lst (bys o4_0),ci o4_1,cu o4_2],[]⟩)]) (env':=[(4,.cell 4 0),(5,.cell 5 0),(50,.cell 800 0),(51,.c (ci most))]) U U E4)<|zd<|za (yP U U U U) U<|zn (yf U U (zb U) U U U ⟨U,?_⟩)
   exact zf<|zk (gh_fillA (id:=9) (id2:=24) (f:=(fun r=>C.own (ints r))) (v:=r4_0) U xe U q10 U U kr_self)<|zA<|ym (zH U (yL U U U)) U U U ⟨_,_,_,_,h,U,U⟩
  ·replace h:=h.2 (zh q5)
   refine zg<|zk (zl (n:=50) (σ':=[(5,⟨[.hole],[(0,.ref 9)]⟩),(9,⟨orows r1_0,[]⟩),(4,⟨[cnil],[]⟩),(800,⟨[.lst (bys o2_0),ci o2_1,cu o2_2],[]⟩)]) (env':=[(0,.cell 800 0),(4,.cell 4 0),(5,.cell 5 0),(6,.c (ci (r1_0.length:Int))),(14,.c (ci r2_0)),(50,.cell 800 0),(51,.c (ci most))]) U U E7)<|zd<|za (yE U U) U<|za (ze U) U<|zf<|zm U (fun q11=>?_) (fun q11=>?_)
   ·replace h:=h.1 (zj q11)
    refine zk (zl (n:=50) (σ':=[(5,⟨[.hole],[(0,.ref 9)]⟩),(9,⟨orows r1_0,[]⟩),(4,⟨[cnil],[]⟩),(800,⟨[.lst (bys o2_0),ci o2_1,cu o2_2],[]⟩)]) (env':=[(0,.cell 800 0),(4,.cell 4 0),(5,.cell 5 0),(6,.c (ci (r1_0.length:Int))),(50,.cell 800 0),(51,.c (ci most))]) U U E6)<|zP (kd:=kdl [0,1,0,0,2,0,1,0,0,2,0,0,0,2,0,3]) (ord:=[0,2,3,7,8,10,11,12,1,4,5,6,9,13,14,15]) [800] mixed (by kernel_rfl)<|zp U U trivial (zD U) U<|zp U U trivial (zc U) U<|zp U U trivial (zc U) U<|zp U U trivial (zc U) U<|zp U U trivial (zc U) U<|zp U U trivial (zc U) U<|zp U U trivial (zc U) U ?_
    obtain⟨q12,h⟩:=h
    refine zp U U trivial (zG U U q12) U<|zY U U trivial (yt U U U U) U ?_
    obtain⟨q13,h⟩:=h
    refine y7 U U trivial U U (yp (xs:=[.tmp 30,.tmp 31]) (cs:=[.obox [.lst (bys o2_0),ci o2_1,cu o2_2],ci (r1_0.length:Int)]) (ids:=[]) U (.inr ⟨U,U⟩) U U U (c_spec_l01Next o2_0 o2_1 o2_2 (r1_0.length:Int) q13) U U ?_)
    rintro _ _ ⟨r5_0,o5_0,o5_1,o5_2,q14,rfl,rfl⟩
    replace h:=h r5_0 o5_0 o5_1 o5_2 q14
    refine⟨U,U,?_⟩
    obtain⟨q15,h⟩:=h
    refine zp U U trivial (zR (f:=(fun r=>C.own (ints r))) U U U q15) U<|rd_open 1001 (id:=9) (j:=r5_0.toNat) U (map_get (f:=(fun r=>C.own (ints r))) q15) U U U<|zY U U trivial (yt U U xe U) U ?_
    obtain⟨q16,h⟩:=h
    refine y7 U U trivial U U (yp (xs:=[.tmp 35,.tmp 36]) (cs:=[.obox [.lst (bys o5_0),ci o5_1,cu o5_2],ci (r1_0.length:Int)]) (ids:=[]) U (.inr ⟨U,U⟩) U U U (c_spec_l01Next o5_0 o5_1 o5_2 (r1_0.length:Int) q16) U U ?_)
    rintro _ _ ⟨r6_0,o6_0,o6_1,o6_2,q17,rfl,rfl⟩
    replace h:=h r6_0 o6_0 o6_1 o6_2 q17
    refine⟨U,U,?_⟩
    obtain⟨q18,h⟩:=h
    refine y7 U U trivial U U (yp (xs:=[.tmp 38,.tmp 40]) (cs:=[.obox [.lst (bys o6_0),ci o6_1,cu o6_2],ci ((r1_0.length:Int) + 1)]) (ids:=[]) U (.inr ⟨U,U⟩) U U U (c_spec_l01Next o6_0 o6_1 o6_2 ((r1_0.length:Int) + 1) q18) U U ?_)
    rintro _ _ ⟨r7_0,o7_0,o7_1,o7_2,q19,rfl,rfl⟩
    replace h:=h r7_0 o7_0 o7_1 o7_2 q19
    refine⟨U,U,?_⟩
    obtain⟨q20,h⟩:=h
    refine zp U U trivial (zR (f:=ci) U U U q20) U<|xq U U trivial (yo U U (yN q20) U U (yO (f:=ci)) U ⟨U,?_⟩)
    refine yh<|zg<|zk (zl (n:=50) (σ':=[(1001,⟨ints (se (el r1_0 r5_0) r6_0 r7_0),[]⟩),(5,⟨[.hole],[(0,.ref 9)]⟩),(9,⟨(orows r1_0).set r5_0.toNat .hole,[(r5_0.toNat,.ref 1001)]⟩),(4,⟨[cnil],[]⟩),(800,⟨[.lst (bys o7_0),ci o7_1,cu o7_2],[]⟩)]) (env':=[(4,.cell 4 0),(5,.cell 5 0),(50,.cell 800 0),(51,.c (ci most))]) U U E4)<|zd<|za (yP U U U U) U<|zn (yf U U (zb U) U U U ⟨U,?_⟩)
    exact zf<|zk (gh_fillA (id:=9) (id2:=1001) (f:=(fun r=>C.own (ints r))) (v:=se (el r1_0 r5_0) r6_0 r7_0) U xe U q15 U U kr_self)<|zA<|ym (zH U (yL U U U)) U U U ⟨_,_,_,_,h,U,U⟩
   ·replace h:=h.2 (zh q11)
    refine zg<|zk (zl (n:=50) (σ':=[(5,⟨[.hole],[(0,.ref 9)]⟩),(9,⟨orows r1_0,[]⟩),(4,⟨[cnil],[]⟩),(800,⟨[.lst (bys o2_0),ci o2_1,cu o2_2],[]⟩)]) (env':=[(4,.cell 4 0),(5,.cell 5 0),(14,.c (ci r2_0)),(50,.cell 800 0),(51,.c (ci most))]) U U E5)<|zd<|za (yE U U) U<|za (ze U) U<|zf<|zm U (fun q21=>?_) (fun q21=>?_)
    ·replace h:=h.1 (zj q21)
     refine zd<|za (zD U) U<|za (yt U U U U) U ?_
     obtain⟨q22,h⟩:=h
     refine zn (ws_slR (f:=(fun r=>C.own (ints r))) U U (y9 U) xi q22 ⟨U,?_⟩)
     refine za (zD U) U<|zn (yV U U (zb U) U U ⟨U,?_⟩)
     refine zf<|zg<|zk (zl (n:=50) (σ':=[(5,⟨[.hole],[(0,.ref 9)]⟩),(9,⟨orows (sl r1_0 1 (r1_0.length:Int)),[]⟩),(4,⟨[cnil],[]⟩),(800,⟨[.lst (bys o2_0),ci o2_1,cu o2_2],[]⟩)]) (env':=[(4,.cell 4 0),(5,.cell 5 0),(50,.cell 800 0),(51,.c (ci most))]) U U E4)<|zd<|za (yP U U U U) U<|zn (yf U U (zb U) U U U ⟨U,?_⟩)
     exact zf<|zA<|ym (zH U (yL U U U)) U U U ⟨_,_,_,_,h,U,U⟩
    ·replace h:=h.2 (zh q21)
     refine zu<|zg<|zk (zl (n:=50) (σ':=[(5,⟨[.hole],[(0,.ref 9)]⟩),(9,⟨orows r1_0,[]⟩),(4,⟨[cnil],[]⟩),(800,⟨[.lst (bys o2_0),ci o2_1,cu o2_2],[]⟩)]) (env':=[(4,.cell 4 0),(5,.cell 5 0),(50,.cell 800 0),(51,.c (ci most))]) U U E4)<|zd<|za (yP U U U U) U<|zn (yf U U (zb U) U U U ⟨U,?_⟩)
     exact zf<|zA<|ym (zH U (yL U U U)) U U U ⟨_,_,_,_,h,U,U⟩
theorem c_spec_l03DrawAny (s1:List Int) (s2:Int) (s3:Int) (most:Int) (hp:okS s1 s2 s3/\1<=most/\most<=12):AM Tryz.prog 19 [.obox [.lst (bys s1),ci s2,cu s3],ci most] (fun R_ O_=>∃ y0 w0 w1 w2,(drT most y0/\w0 = s1/\okS s1 w1 w2)/\R_ = .agg [.own (orows y0)]/\O_ = [.obox [.lst (bys w0),ci w1,cu w2],ci most]):=
  w_spec_l03DrawAny s1 s2 s3 most (fun y0 w0 w1 w2=>drT most y0/\w0 = s1/\okS s1 w1 w2) (p_spec_l03DrawAny s1 s2 s3 most hp)
theorem w_laws_big (code:List Int) (Q:Bool->Prop) (h:wp_laws_big code Q):AF Tryz.prog 4 [.lst (bys code)] (fun R_=>∃ y0,Q y0/\R_ = cb y0):=by
  refine zS (zM (n:=6) Tryz.func4 U (by rfl) U (zb U) ?_)
  unfold wp_laws_big at h
  exact zg<|zk (zl (n:=6) (σ':=[]) (env':=[(0,.c (.lst (bys code)))]) U U E1)<|zd<|za (ze U) U<|zf<|zg<|zd<|za (zc U) U<|za (zJ (f:=cy) U) U<|za (ss_gtr U U) U<|za (ze U) U<|zf<|zA<|zr (zH U (zw U)) U U ⟨_,(zq _),_,h,U⟩
theorem c_laws_big (code:List Int)  : AF Tryz.prog 4 [.lst (bys code)] (fun R_=>R_ = cb (decide (4096 < (code.length:Int)))):=
  (w_laws_big code (fun y0=>y0 = decide (4096 < (code.length:Int))) (p_laws_big code)).mono (by rintro r ⟨_,rfl,rfl⟩; rfl)
end Go.Proofs.YtjolbldlhjfciaaGreatDoor
