/- Contracts of functions that the law FnRackForms reaches: conditions, plain proofs, walks; no condition. -/
import Derived.Test.YtjolbldlhjfciaaGreatDoorKRackFormsf
import Derived.Test.YtjolbldlhjfciaaGreatDoorPP
namespace Go.Proofs.YtjolbldlhjfciaaGreatDoor
set_option maxRecDepth 100000
set_option maxHeartbeats 4000000

def wp_spec_l03MarkW (t:List (List (List Int))) (colours:List Int) (x:Int) (Q:List Int->Prop):Prop:=
 (0<=x/\x < (colours.length:Int))/\
 ∃ (H1:Int->List Int->Prop) (m1:Int->List Int->Nat),
 H1 0 ([el colours x])/\
 ∀ (v9_1:Int) (o28_1:List Int),H1 v9_1 o28_1->
 (((v9_1 < (t.length:Int)->
 ∃ (H2:Int->List Int->Prop) (m2:Int->List Int->Nat),
 H2 0 ([] : List Int)/\
 ∀ (v11_2:Int) (o35_2:List Int),H2 v11_2 o35_2->
 (((v11_2 < (colours.length:Int)->
 (0<=v9_1/\v9_1 < (t.length:Int))/\
 (0<=v9_1/\v9_1 < (t.length:Int))/\
 (0<=x/\x < ((el t v9_1).length:Int))/\
 (0<=v11_2/\v11_2 < ((el (el t v9_1) x).length:Int))/\
 (0<=v11_2/\v11_2 < ((el t v9_1).length:Int))/\
 (0<=x/\x < ((el (el t v9_1) v11_2).length:Int))/\
 ∃ (J33:Int->Prop),
 (((el (el (el t v9_1) x) v11_2 = v11_2->
 J33 1)/\
 (¬ (el (el (el t v9_1) x) v11_2 = v11_2)->
 J33 0)))/\
 ∀ (w33_v14:Int),J33 w33_v14->
 ∃ (J34:Int->Prop),
 (((el (el (el t v9_1) v11_2) x = v11_2->
 (InI (w33_v14 + 2))/\
 J34 (w33_v14 + 2))/\
 (¬ (el (el (el t v9_1) v11_2) x = v11_2)->
 J34 w33_v14)))/\
 ∀ (w34_v14:Int),J34 w34_v14->
 ∃ (J35:Int->Prop),
 (((el (el (el t v9_1) x) v11_2 = x->
 (InI (w34_v14 + 4))/\
 J35 (w34_v14 + 4))/\
 (¬ (el (el (el t v9_1) x) v11_2 = x)->
 J35 w34_v14)))/\
 ∀ (w35_v14:Int),J35 w35_v14->
 ∃ (J36:Int->Prop),
 (((el (el (el t v9_1) v11_2) x = x->
 (InI (w35_v14 + 8))/\
 J36 (w35_v14 + 8))/\
 (¬ (el (el (el t v9_1) v11_2) x = x)->
 J36 w35_v14)))/\
 ∀ (w36_v14:Int),J36 w36_v14->
 (0<=v11_2/\v11_2 < (colours.length:Int))/\
 (0<=el (el (el t v9_1) x) v11_2/\el (el (el t v9_1) x) v11_2 < (colours.length:Int))/\
 (0<=el (el (el t v9_1) v11_2) x/\el (el (el t v9_1) v11_2) x < (colours.length:Int))/\
 (InI ((el colours v11_2) * 64))/\
 (InI (((el colours v11_2) * 64) + (el colours (el (el (el t v9_1) x) v11_2))))/\
 (InI ((((el colours v11_2) * 64) + (el colours (el (el (el t v9_1) x) v11_2))) * 64))/\
 (InI (((((el colours v11_2) * 64) + (el colours (el (el (el t v9_1) x) v11_2))) * 64) + (el colours (el (el (el t v9_1) v11_2) x))))/\
 (InI ((((((el colours v11_2) * 64) + (el colours (el (el (el t v9_1) x) v11_2))) * 64) + (el colours (el (el (el t v9_1) v11_2) x))) * 16))/\
 (InI (((((((el colours v11_2) * 64) + (el colours (el (el (el t v9_1) x) v11_2))) * 64) + (el colours (el (el (el t v9_1) v11_2) x))) * 16) + w36_v14))/\
 ((o35_2.length:Int) + (([((((((el colours v11_2) * 64) + (el colours (el (el (el t v9_1) x) v11_2))) * 64) + (el colours (el (el (el t v9_1) v11_2) x))) * 16) + w36_v14]).length:Int)<=1000000000)/\
 (InI (v11_2 + 1))/\
 (H2 (v11_2 + 1) (o35_2 ++ ([((((((el colours v11_2) * 64) + (el colours (el (el (el t v9_1) x) v11_2))) * 64) + (el colours (el (el (el t v9_1) v11_2) x))) * 16) + w36_v14]))/\m2 (v11_2 + 1) (o35_2 ++ ([((((((el colours v11_2) * 64) + (el colours (el (el (el t v9_1) x) v11_2))) * 64) + (el colours (el (el (el t v9_1) v11_2) x))) * 16) + w36_v14])) < m2 v11_2 o35_2))/\
 (¬ (v11_2 < (colours.length:Int))->
 (0<=(colours.length:Int)/\(colours.length:Int)<=1000000000)/\
 ∃ (H3:Int->List Int->Prop) (m3:Int->List Int->Nat),
 H3 0 (List.replicate (colours.length:Int).toNat (0:Int))/\
 ∀ (v16_3:Int) (o102_3:List Int),H3 v16_3 o102_3->
 (((v16_3 < (colours.length:Int)->
 ∃ (H4:Int->List Int->Prop) (m4:Int->List Int->Nat),
 H4 0 o102_3/\
 ∀ (v17_4:Int) (o102_4:List Int),H4 v17_4 o102_4->
 (((v17_4 < (colours.length:Int)->
 (0<=v9_1/\v9_1 < (t.length:Int))/\
 (0<=v16_3/\v16_3 < ((el t v9_1).length:Int))/\
 (0<=v17_4/\v17_4 < ((el (el t v9_1) v16_3).length:Int))/\
 ((el (el (el t v9_1) v16_3) v17_4 = x->
 (0<=v16_3/\v16_3 < (o102_4.length:Int))/\
 (InI ((el o102_4 v16_3) + 1))/\
 (0<=v16_3/\v16_3 < (o102_4.length:Int))/\
 (InI (v17_4 + 1))/\
 (H4 (v17_4 + 1) (se o102_4 v16_3 ((el o102_4 v16_3) + 1))/\m4 (v17_4 + 1) (se o102_4 v16_3 ((el o102_4 v16_3) + 1)) < m4 v17_4 o102_4))/\
 (¬ (el (el (el t v9_1) v16_3) v17_4 = x)->
 (InI (v17_4 + 1))/\
 (H4 (v17_4 + 1) o102_4/\m4 (v17_4 + 1) o102_4 < m4 v17_4 o102_4))))/\
 (¬ (v17_4 < (colours.length:Int))->
 (InI (v16_3 + 1))/\
 (H3 (v16_3 + 1) o102_4/\m3 (v16_3 + 1) o102_4 < m3 v16_3 o102_3)))))/\
 (¬ (v16_3 < (colours.length:Int))->
 ∃ (H5:Int->List Int->Prop) (m5:Int->List Int->Nat),
 H5 0 o35_2/\
 ∀ (v18_4:Int) (o35_4:List Int),H5 v18_4 o35_4->
 (((v18_4 < (colours.length:Int)->
 (0<=v18_4/\v18_4 < (colours.length:Int))/\
 (0<=v18_4/\v18_4 < (o102_3.length:Int))/\
 (InI ((el colours v18_4) * 64))/\
 (InI (1099511627776 + ((el colours v18_4) * 64)))/\
 (InI ((1099511627776 + ((el colours v18_4) * 64)) + (el o102_3 v18_4)))/\
 ((o35_4.length:Int) + (([(1099511627776 + ((el colours v18_4) * 64)) + (el o102_3 v18_4)]).length:Int)<=1000000000)/\
 (InI (v18_4 + 1))/\
 (H5 (v18_4 + 1) (o35_4 ++ ([(1099511627776 + ((el colours v18_4) * 64)) + (el o102_3 v18_4)]))/\m5 (v18_4 + 1) (o35_4 ++ ([(1099511627776 + ((el colours v18_4) * 64)) + (el o102_3 v18_4)])) < m5 v18_4 o35_4))/\
 (¬ (v18_4 < (colours.length:Int))->
 ∃ (H6:Int->List Int->Prop) (m6:Int->List Int->Nat),
 H6 1 o35_4/\
 ∀ (v19_5:Int) (o35_5:List Int),H6 v19_5 o35_5->
 (((v19_5 < (o35_5.length:Int)->
 ∃ (H7:Int->List Int->Prop) (m7:Int->List Int->Nat),
 H7 v19_5 o35_5/\
 ∀ (v20_6:Int) (o35_6:List Int),H7 v20_6 o35_6->
 (((0 < v20_6->
 (0<=v20_6/\v20_6 < (o35_6.length:Int))/\
 (InI (v20_6 - 1))/\
 (0<=v20_6 - 1/\v20_6 - 1 < (o35_6.length:Int))/\
 ((el o35_6 v20_6 < el o35_6 (v20_6 - 1)->
 (0<=v20_6/\v20_6 < (o35_6.length:Int))/\
 (InI (v20_6 - 1))/\
 (0<=v20_6 - 1/\v20_6 - 1 < (o35_6.length:Int))/\
 (0<=v20_6/\v20_6 < (o35_6.length:Int))/\
 (InI (v20_6 - 1))/\
 (0<=v20_6 - 1/\v20_6 - 1 < ((se o35_6 v20_6 (el o35_6 (v20_6 - 1))).length:Int))/\
 (InI (v20_6 - 1))/\
 (H7 (v20_6 - 1) (se (se o35_6 v20_6 (el o35_6 (v20_6 - 1))) (v20_6 - 1) (el o35_6 v20_6))/\m7 (v20_6 - 1) (se (se o35_6 v20_6 (el o35_6 (v20_6 - 1))) (v20_6 - 1) (el o35_6 v20_6)) < m7 v20_6 o35_6))/\
 (¬ (el o35_6 v20_6 < el o35_6 (v20_6 - 1))->
 (InI (v19_5 + 1))/\
 (H6 (v19_5 + 1) o35_6/\m6 (v19_5 + 1) o35_6 < m6 v19_5 o35_5))))/\
 (¬ (0 < v20_6)->
 (InI (v19_5 + 1))/\
 (H6 (v19_5 + 1) o35_6/\m6 (v19_5 + 1) o35_6 < m6 v19_5 o35_5)))))/\
 (¬ (v19_5 < (o35_5.length:Int))->
 ((o28_1.length:Int) + (o35_5.length:Int)<=1000000000)/\
 (InI (v9_1 + 1))/\
 (H1 (v9_1 + 1) (o28_1 ++ o35_5)/\m1 (v9_1 + 1) (o28_1 ++ o35_5) < m1 v9_1 o28_1))))))))))))))/\
 (¬ (v9_1 < (t.length:Int))->
 Q o28_1)))
def wp_spec_l03Refine (a:List (List (List Int))) (b:List (List (List Int))) (first:List Int) (second:List Int) (Q:List Int->List Int->Bool->Prop):Prop:=
 ∃ (H1:List Int->List Int->Int->Prop) (m1:List Int->List Int->Int->Nat),
 H1 first second 0/\
 ∀ (v2_1:List Int) (v3_1:List Int) (v12_1:Int),H1 v2_1 v3_1 v12_1->
 (∃ (H2:Int->List (List Int)->Prop) (m2:Int->List (List Int)->Nat),
 H2 0 ([] : List (List Int))/\
 ∀ (v14_2:Int) (o27_2:List (List Int)),H2 v14_2 o27_2->
 (((v14_2 < (first.length:Int)->
 (MkD a v2_1 v14_2)/\
 ((o27_2.length:Int) + (([mrkI a v2_1 v14_2]).length:Int)<=1000000000)/\
 (InI (v14_2 + 1))/\
 (H2 (v14_2 + 1) (o27_2 ++ ([mrkI a v2_1 v14_2]))/\m2 (v14_2 + 1) (o27_2 ++ ([mrkI a v2_1 v14_2])) < m2 v14_2 o27_2))/\
 (¬ (v14_2 < (first.length:Int))->
 ∃ (H3:Int->List (List Int)->Prop) (m3:Int->List (List Int)->Nat),
 H3 0 o27_2/\
 ∀ (v15_3:Int) (o27_3:List (List Int)),H3 v15_3 o27_3->
 (((v15_3 < (first.length:Int)->
 (MkD b v3_1 v15_3)/\
 ((o27_3.length:Int) + (([mrkI b v3_1 v15_3]).length:Int)<=1000000000)/\
 (InI (v15_3 + 1))/\
 (H3 (v15_3 + 1) (o27_3 ++ ([mrkI b v3_1 v15_3]))/\m3 (v15_3 + 1) (o27_3 ++ ([mrkI b v3_1 v15_3])) < m3 v15_3 o27_3))/\
 (¬ (v15_3 < (first.length:Int))->
 ∃ (H4:List (List Int)->Int->Prop) (m4:List (List Int)->Int->Nat),
 H4 ([] : List (List Int)) 0/\
 ∀ (v16_4:List (List Int)) (v17_4:Int),H4 v16_4 v17_4->
 (((v17_4 < (o27_3.length:Int)->
 ∃ (H5:Int->Prop) (m5:Int->Nat),
 H5 0/\
 ∀ (v18_5:Int),H5 v18_5->
 (((v18_5 < (v16_4.length:Int)->
 (0<=v18_5/\v18_5 < (v16_4.length:Int))/\
 (0<=v17_4/\v17_4 < (o27_3.length:Int))/\
 (small (el v16_4 v18_5)/\small (el o27_3 v17_4))/\
 ((cmpG cmp1 (el v16_4 v18_5) (el o27_3 v17_4) < 0->
 (InI (v18_5 + 1))/\
 (H5 (v18_5 + 1)/\m5 (v18_5 + 1) < m5 v18_5))/\
 (¬ (cmpG cmp1 (el v16_4 v18_5) (el o27_3 v17_4) < 0)->
 ((v18_5 < (v16_4.length:Int)->
 (0<=v18_5/\v18_5 < (v16_4.length:Int))/\
 (0<=v17_4/\v17_4 < (o27_3.length:Int))/\
 (small (el v16_4 v18_5)/\small (el o27_3 v17_4))/\
 (((el v16_4 v18_5) = (el o27_3 v17_4)->
 (InI (v17_4 + 1))/\
 (H4 v16_4 (v17_4 + 1)/\m4 v16_4 (v17_4 + 1) < m4 v16_4 v17_4))/\
 (¬ ((el v16_4 v18_5) = (el o27_3 v17_4))->
 (0<=v17_4/\v17_4 < (o27_3.length:Int))/\
 (0<=v18_5/\v18_5<=(v16_4.length:Int)/\(v16_4.length:Int)<=(v16_4.length:Int))/\
 ((([el o27_3 v17_4]).length:Int) + ((sl v16_4 v18_5 (v16_4.length:Int)).length:Int)<=1000000000)/\
 ((0:Int)<=0/\0<=v18_5/\v18_5<=(v16_4.length:Int))/\
 ((([] : List (List Int)).length:Int) + ((sl v16_4 0 v18_5).length:Int)<=1000000000)/\
 (((([] : List (List Int)) ++ (sl v16_4 0 v18_5)).length:Int) + ((([el o27_3 v17_4]) ++ (sl v16_4 v18_5 (v16_4.length:Int))).length:Int)<=1000000000)/\
 (InI (v17_4 + 1))/\
 (H4 ((([] : List (List Int)) ++ (sl v16_4 0 v18_5)) ++ (([el o27_3 v17_4]) ++ (sl v16_4 v18_5 (v16_4.length:Int)))) (v17_4 + 1)/\m4 ((([] : List (List Int)) ++ (sl v16_4 0 v18_5)) ++ (([el o27_3 v17_4]) ++ (sl v16_4 v18_5 (v16_4.length:Int)))) (v17_4 + 1) < m4 v16_4 v17_4))))/\
 (¬ (v18_5 < (v16_4.length:Int))->
 (0<=v17_4/\v17_4 < (o27_3.length:Int))/\
 (0<=v18_5/\v18_5<=(v16_4.length:Int)/\(v16_4.length:Int)<=(v16_4.length:Int))/\
 ((([el o27_3 v17_4]).length:Int) + ((sl v16_4 v18_5 (v16_4.length:Int)).length:Int)<=1000000000)/\
 ((0:Int)<=0/\0<=v18_5/\v18_5<=(v16_4.length:Int))/\
 ((([] : List (List Int)).length:Int) + ((sl v16_4 0 v18_5).length:Int)<=1000000000)/\
 (((([] : List (List Int)) ++ (sl v16_4 0 v18_5)).length:Int) + ((([el o27_3 v17_4]) ++ (sl v16_4 v18_5 (v16_4.length:Int))).length:Int)<=1000000000)/\
 (InI (v17_4 + 1))/\
 (H4 ((([] : List (List Int)) ++ (sl v16_4 0 v18_5)) ++ (([el o27_3 v17_4]) ++ (sl v16_4 v18_5 (v16_4.length:Int)))) (v17_4 + 1)/\m4 ((([] : List (List Int)) ++ (sl v16_4 0 v18_5)) ++ (([el o27_3 v17_4]) ++ (sl v16_4 v18_5 (v16_4.length:Int)))) (v17_4 + 1) < m4 v16_4 v17_4))))))/\
 (¬ (v18_5 < (v16_4.length:Int))->
 ((v18_5 < (v16_4.length:Int)->
 (0<=v18_5/\v18_5 < (v16_4.length:Int))/\
 (0<=v17_4/\v17_4 < (o27_3.length:Int))/\
 (small (el v16_4 v18_5)/\small (el o27_3 v17_4))/\
 (((el v16_4 v18_5) = (el o27_3 v17_4)->
 (InI (v17_4 + 1))/\
 (H4 v16_4 (v17_4 + 1)/\m4 v16_4 (v17_4 + 1) < m4 v16_4 v17_4))/\
 (¬ ((el v16_4 v18_5) = (el o27_3 v17_4))->
 (0<=v17_4/\v17_4 < (o27_3.length:Int))/\
 (0<=v18_5/\v18_5<=(v16_4.length:Int)/\(v16_4.length:Int)<=(v16_4.length:Int))/\
 ((([el o27_3 v17_4]).length:Int) + ((sl v16_4 v18_5 (v16_4.length:Int)).length:Int)<=1000000000)/\
 ((0:Int)<=0/\0<=v18_5/\v18_5<=(v16_4.length:Int))/\
 ((([] : List (List Int)).length:Int) + ((sl v16_4 0 v18_5).length:Int)<=1000000000)/\
 (((([] : List (List Int)) ++ (sl v16_4 0 v18_5)).length:Int) + ((([el o27_3 v17_4]) ++ (sl v16_4 v18_5 (v16_4.length:Int))).length:Int)<=1000000000)/\
 (InI (v17_4 + 1))/\
 (H4 ((([] : List (List Int)) ++ (sl v16_4 0 v18_5)) ++ (([el o27_3 v17_4]) ++ (sl v16_4 v18_5 (v16_4.length:Int)))) (v17_4 + 1)/\m4 ((([] : List (List Int)) ++ (sl v16_4 0 v18_5)) ++ (([el o27_3 v17_4]) ++ (sl v16_4 v18_5 (v16_4.length:Int)))) (v17_4 + 1) < m4 v16_4 v17_4))))/\
 (¬ (v18_5 < (v16_4.length:Int))->
 (0<=v17_4/\v17_4 < (o27_3.length:Int))/\
 (0<=v18_5/\v18_5<=(v16_4.length:Int)/\(v16_4.length:Int)<=(v16_4.length:Int))/\
 ((([el o27_3 v17_4]).length:Int) + ((sl v16_4 v18_5 (v16_4.length:Int)).length:Int)<=1000000000)/\
 ((0:Int)<=0/\0<=v18_5/\v18_5<=(v16_4.length:Int))/\
 ((([] : List (List Int)).length:Int) + ((sl v16_4 0 v18_5).length:Int)<=1000000000)/\
 (((([] : List (List Int)) ++ (sl v16_4 0 v18_5)).length:Int) + ((([el o27_3 v17_4]) ++ (sl v16_4 v18_5 (v16_4.length:Int))).length:Int)<=1000000000)/\
 (InI (v17_4 + 1))/\
 (H4 ((([] : List (List Int)) ++ (sl v16_4 0 v18_5)) ++ (([el o27_3 v17_4]) ++ (sl v16_4 v18_5 (v16_4.length:Int)))) (v17_4 + 1)/\m4 ((([] : List (List Int)) ++ (sl v16_4 0 v18_5)) ++ (([el o27_3 v17_4]) ++ (sl v16_4 v18_5 (v16_4.length:Int)))) (v17_4 + 1) < m4 v16_4 v17_4)))))))/\
 (¬ (v17_4 < (o27_3.length:Int))->
 (0<=(v16_4.length:Int)/\(v16_4.length:Int)<=1000000000)/\
 ∃ (H6:Int->List Int->List Int->Prop) (m6:Int->List Int->List Int->Nat),
 H6 0 (List.replicate (v16_4.length:Int).toNat (0:Int)) ([] : List Int)/\
 ∀ (v22_5:Int) (o109_5:List Int) (o110_5:List Int),H6 v22_5 o109_5 o110_5->
 (((v22_5 < (o27_3.length:Int)->
 ∃ (H7:Int->Prop) (m7:Int->Nat),
 H7 0/\
 ∀ (v23_6:Int),H7 v23_6->
 ((0<=v23_6/\v23_6 < (v16_4.length:Int))/\
 (0<=v22_5/\v22_5 < (o27_3.length:Int))/\
 (small (el v16_4 v23_6)/\small (el o27_3 v22_5))/\
 ((¬ ((el v16_4 v23_6) = (el o27_3 v22_5))->
 (InI (v23_6 + 1))/\
 (H7 (v23_6 + 1)/\m7 (v23_6 + 1) < m7 v23_6))/\
 ((el v16_4 v23_6) = (el o27_3 v22_5)->
 ((o110_5.length:Int) + (([v23_6]).length:Int)<=1000000000)/\
 ((v22_5 < (first.length:Int)->
 (0<=v23_6/\v23_6 < (o109_5.length:Int))/\
 (InI ((el o109_5 v23_6) + 1))/\
 (0<=v23_6/\v23_6 < (o109_5.length:Int))/\
 (InI (v22_5 + 1))/\
 (H6 (v22_5 + 1) (se o109_5 v23_6 ((el o109_5 v23_6) + 1)) (o110_5 ++ ([v23_6]))/\m6 (v22_5 + 1) (se o109_5 v23_6 ((el o109_5 v23_6) + 1)) (o110_5 ++ ([v23_6])) < m6 v22_5 o109_5 o110_5))/\
 (¬ (v22_5 < (first.length:Int))->
 (0<=v23_6/\v23_6 < (o109_5.length:Int))/\
 (InI ((el o109_5 v23_6) - 1))/\
 (0<=v23_6/\v23_6 < (o109_5.length:Int))/\
 (InI (v22_5 + 1))/\
 (H6 (v22_5 + 1) (se o109_5 v23_6 ((el o109_5 v23_6) - 1)) (o110_5 ++ ([v23_6]))/\m6 (v22_5 + 1) (se o109_5 v23_6 ((el o109_5 v23_6) - 1)) (o110_5 ++ ([v23_6])) < m6 v22_5 o109_5 o110_5)))))))/\
 (¬ (v22_5 < (o27_3.length:Int))->
 ∃ (H8:Int->Prop) (m8:Int->Nat),
 H8 0/\
 ∀ (v24_6:Int),H8 v24_6->
 (((v24_6 < (o109_5.length:Int)->
 (0<=v24_6/\v24_6 < (o109_5.length:Int))/\
 ((¬ (el o109_5 v24_6 = 0)->
 Q ([]) ([]) false)/\
 (el o109_5 v24_6 = 0->
 (InI (v24_6 + 1))/\
 (H8 (v24_6 + 1)/\m8 (v24_6 + 1) < m8 v24_6))))/\
 (¬ (v24_6 < (o109_5.length:Int))->
 ((0:Int)<=0/\0<=(first.length:Int)/\(first.length:Int)<=(o110_5.length:Int))/\
 (0<=(first.length:Int)/\(first.length:Int)<=(o110_5.length:Int)/\(o110_5.length:Int)<=(o110_5.length:Int))/\
 (((v16_4.length:Int) = v12_1->
 Q (sl o110_5 0 (first.length:Int)) (sl o110_5 (first.length:Int) (o110_5.length:Int)) true)/\
 (¬ ((v16_4.length:Int) = v12_1)->
 (H1 (sl o110_5 0 (first.length:Int)) (sl o110_5 (first.length:Int) (o110_5.length:Int)) (v16_4.length:Int)/\m1 (sl o110_5 0 (first.length:Int)) (sl o110_5 (first.length:Int) (o110_5.length:Int)) (v16_4.length:Int) < m1 v2_1 v3_1 v12_1)))))))))))))))))))
def wp_spec_l03Seek (a:List (List (List Int))) (b:List (List (List Int))) (f:List Int) (first:List Int) (second:List Int) (most:Int) (out:List (List Int)) (Q:List (List Int)->Prop):Prop:=
 (((f.length:Int) = (first.length:Int)->
 (small f)/\
 ((out.length:Int) + (([f]).length:Int)<=1000000000)/\
 Q (out ++ ([f])))/\
 (¬ ((f.length:Int) = (first.length:Int))->
 ∃ (H1:Int->List (List Int)->Prop) (m1:Int->List (List Int)->Nat),
 H1 0 out/\
 ∀ (v16_1:Int) (o800_1:List (List Int)),H1 v16_1 o800_1->
 (((v16_1 < (second.length:Int)->
 (((o800_1.length:Int) < most->
 (small f)/\
 ((f.length:Int) + (([v16_1]).length:Int)<=1000000000)/\
 (small f)/\
 (((f.contains v16_1) = true->
 (InI (v16_1 + 1))/\
 (H1 (v16_1 + 1) o800_1/\m1 (v16_1 + 1) o800_1 < m1 v16_1 o800_1))/\
 ((f.contains v16_1) = false->
 (0<=(f.length:Int)/\(f.length:Int) < (first.length:Int))/\
 (0<=v16_1/\v16_1 < (second.length:Int))/\
 ((¬ (el first (f.length:Int) = el second v16_1)->
 (InI (v16_1 + 1))/\
 (H1 (v16_1 + 1) o800_1/\m1 (v16_1 + 1) o800_1 < m1 v16_1 o800_1))/\
 (el first (f.length:Int) = el second v16_1->
 (fitD a b (f ++ ([v16_1])))/\
 (((dec (conA a b (f ++ ([v16_1])))) = false->
 (InI (v16_1 + 1))/\
 (H1 (v16_1 + 1) o800_1/\m1 (v16_1 + 1) o800_1 < m1 v16_1 o800_1))/\
 ((dec (conA a b (f ++ ([v16_1])))) = true->
 (small first)/\
 (small second)/\
 (0<=(f.length:Int)/\(f.length:Int) < (first.length:Int))/\
 (0<=v16_1/\v16_1 < (second.length:Int))/\
 (RfD a b (se first (f.length:Int) 60) (se second v16_1 60))/\
 ∀ (r1_0:List Int) (r1_1:List Int) (r1_2:Bool),(RfP a b (se first (f.length:Int) 60) (se second v16_1 60) r1_0 r1_1 r1_2)->
 ((r1_2 = true->
 (((el a 0).length - (f ++ ([v16_1])).length) < ((el a 0).length - f.length))/\
 (SkD a b (f ++ ([v16_1])) r1_0 r1_1 most o800_1)/\
 (InI (v16_1 + 1))/\
 (H1 (v16_1 + 1) (o800_1 ++ (extL a b (padM (f ++ ([v16_1])) r1_0)).take (most - (o800_1.length:Int)).toNat)/\m1 (v16_1 + 1) (o800_1 ++ (extL a b (padM (f ++ ([v16_1])) r1_0)).take (most - (o800_1.length:Int)).toNat) < m1 v16_1 o800_1))/\
 (r1_2 = false->
 (InI (v16_1 + 1))/\
 (H1 (v16_1 + 1) o800_1/\m1 (v16_1 + 1) o800_1 < m1 v16_1 o800_1))))))))))/\
 (¬ ((o800_1.length:Int) < most)->
 Q o800_1)))/\
 (¬ (v16_1 < (second.length:Int))->
 Q o800_1)))))
def wp_spec_l03Maps (a:List (List (List Int))) (b:List (List (List Int))) (f:List Int) (most:Int) (Q:List (List Int)->Prop):Prop:=
 ((0:Int)<=0/\0 < (a.length:Int))/\
 ((0:Int)<=0/\0 < (b.length:Int))/\
 ((¬ (((el a 0).length:Int) = ((el b 0).length:Int))->
 Q ([]))/\
 (((el a 0).length:Int) = ((el b 0).length:Int)->
 ((0:Int)<=0/\0 < (a.length:Int))/\
 ((0:Int)<=0/\0 < (a.length:Int))/\
 (0<=((el a 0).length:Int)/\((el a 0).length:Int)<=1000000000)/\
 (0<=((el a 0).length:Int)/\((el a 0).length:Int)<=1000000000)/\
 ((0 < (f.length:Int)->
 (fitD a b f)/\
 (((dec (conA a b f)) = false->
 Q ([]))/\
 ((dec (conA a b f)) = true->
 ((0:Int)<=0/\0 < ((List.replicate ((el a 0).length:Int).toNat (0:Int)).length:Int))/\
 ((0:Int)<=0/\0 < ((List.replicate ((el a 0).length:Int).toNat (0:Int)).length:Int))/\
 (RfD a b (se (List.replicate ((el a 0).length:Int).toNat (0:Int)) 0 60) (se (List.replicate ((el a 0).length:Int).toNat (0:Int)) 0 60))/\
 ∀ (r1_0:List Int) (r1_1:List Int) (r1_2:Bool),(RfP a b (se (List.replicate ((el a 0).length:Int).toNat (0:Int)) 0 60) (se (List.replicate ((el a 0).length:Int).toNat (0:Int)) 0 60) r1_0 r1_1 r1_2)->
 ((r1_2 = false->
 Q ([]))/\
 (r1_2 = true->
 (SkD a b f r1_0 r1_1 most ([] : List (List Int)))/\
 Q (([] : List (List Int)) ++ (extL a b (padM f r1_0)).take (most - (([] : List (List Int)).length:Int)).toNat))))))/\
 (¬ (0 < (f.length:Int))->
 (RfD a b (List.replicate ((el a 0).length:Int).toNat (0:Int)) (List.replicate ((el a 0).length:Int).toNat (0:Int)))/\
 ∀ (r2_0:List Int) (r2_1:List Int) (r2_2:Bool),(RfP a b (List.replicate ((el a 0).length:Int).toNat (0:Int)) (List.replicate ((el a 0).length:Int).toNat (0:Int)) r2_0 r2_1 r2_2)->
 ((r2_2 = false->
 Q ([]))/\
 (r2_2 = true->
 (SkD a b f r2_0 r2_1 most ([] : List (List Int)))/\
 Q (([] : List (List Int)) ++ (extL a b (padM f r2_0)).take (most - (([] : List (List Int)).length:Int)).toNat)))))))
theorem p_spec_l03MarkW (t:List (List (List Int))) (c:List Int) (x:Int) (hp:MkD t c x):wp_spec_l03MarkW t c x (fun y0=>y0 = mrkI t c x):=by
  obtain⟨⟨t1,t2,t3⟩,⟨cl,cc⟩,hx⟩:=hp
  have ht:=isTab_len (t3 0 (by omega) (by omega)).1
  have tin : ∀ {k u v:Int},(0<=k/\k < (t.length:Int))->(0<=u/\u < (c.length:Int))->(0<=v/\v < (c.length:Int))->u < ((el t k).length:Int)/\v < ((el (el t k) u).length:Int)/\0<=el (el (el t k) u) v/\el (el (el t k) u) v < (c.length:Int):=fun hk hu hv=>by
    obtain⟨h1,h2⟩:=t3 _ hk.1 hk.2
    have:=isTab_row h1 (i:=_) ⟨hu.1,by omega⟩
    have h3:=this.2 _ hv.1 (by omega)
    exact⟨by omega,by omega,h3.1,by omega⟩
  have cin : ∀ {u:Int},(0<=u/\u < (c.length:Int))->0<=el c u/\el c u<=100:=fun hu=>cc _ hu.1 (by omega)
  unfold wp_spec_l03MarkW
  have lenK : ∀ k,((mkK t c x k).length:Int) = (c.length:Int) + (c.length:Int):=fun k=>by
    unfold mkK; rw [srt_len,List.length_append,length_ran,length_ran]; omega
  refine⟨hx,fun k o=>(0<=k/\k<=(t.length:Int))/\o = [el c x] ++ (ran k (mkK t c x)).flatten/\(o.length:Int)<=1 + k * 24,fun k _=>((t.length:Int) - k).toNat,⟨⟨by omega,by omega⟩,by simp [ran],by simp⟩,?_⟩
  rintro k o ⟨⟨k0,k1⟩,ho,hol⟩
  dsimp only
  refine⟨fun klt=>?_,fun kge=>by rw [ho,show k = (t.length:Int) by omega]; rfl⟩
  refine⟨fun y q=>(0<=y/\y<=(c.length:Int))/\(q.length:Int) = y/\Upto y fun j=>el q j = mkA t c k x j,fun y _=>((c.length:Int) - y).toNat,⟨⟨by omega,by omega⟩,by simp,upto0⟩,?_⟩
  rintro y q ⟨⟨y0,y1⟩,ql,qI⟩
  dsimp only
  refine⟨fun ylt=>?_,fun yge=>?_⟩
  · have g1:=tin ⟨k0,klt⟩ hx ⟨y0,ylt⟩
    have g2:=tin ⟨k0,klt⟩ ⟨y0,ylt⟩ hx
    have c1:=cin ⟨y0,ylt⟩
    have c2:=cin g1.2.2
    have c3:=cin g2.2.2
    have o1:0<=(if el3 t k x y = y then (1:Int) else 0)/\(if el3 t k x y = y then (1:Int) else 0)<=1:=by split <;> omega
    have o2:0<=(if el3 t k y x = y then (2:Int) else 0)/\(if el3 t k y x = y then (2:Int) else 0)<=2:=by split <;> omega
    have o3:0<=(if el3 t k x y = x then (4:Int) else 0)/\(if el3 t k x y = x then (4:Int) else 0)<=4:=by split <;> omega
    have o4:0<=(if el3 t k y x = x then (8:Int) else 0)/\(if el3 t k y x = x then (8:Int) else 0)<=8:=by split <;> omega
    refine⟨⟨k0,klt⟩,⟨k0,klt⟩,⟨hx.1,g1.1⟩,⟨y0,g1.2.1⟩,⟨y0,g2.1⟩,⟨hx.1,g2.2.1⟩,fun o=>o = (if el3 t k x y = y then 1 else 0),⟨fun h=>(if_pos h).symm,fun h=>(if_neg h).symm⟩,?_⟩
    rintro o rfl
    refine⟨fun o=>o = (if el3 t k x y = y then 1 else 0) + (if el3 t k y x = y then 2 else 0),⟨fun h=>⟨⟨by omega,by omega⟩,by rw [if_pos (show el3 t k y x = y from h)]⟩,fun h=>by rw [if_neg (show ¬ el3 t k y x = y from h),Int.add_zero]⟩,?_⟩
    rintro o rfl
    refine⟨fun o=>o = (if el3 t k x y = y then 1 else 0) + (if el3 t k y x = y then 2 else 0) + (if el3 t k x y = x then 4 else 0),⟨fun h=>⟨⟨by omega,by omega⟩,by rw [if_pos (show el3 t k x y = x from h)]⟩,fun h=>by rw [if_neg (show ¬ el3 t k x y = x from h),Int.add_zero]⟩,?_⟩
    rintro o rfl
    refine⟨fun o=>o = mkO t k x y,⟨fun h=>⟨⟨by omega,by omega⟩,by unfold mkO; rw [if_pos (show el3 t k y x = x from h)]⟩,fun h=>by unfold mkO; rw [if_neg (show ¬ el3 t k y x = x from h),Int.add_zero]⟩,?_⟩
    rintro o rfl
    have hb:0<=mkO t k x y/\mkO t k x y<=15:=by unfold mkO; omega
    refine⟨⟨y0,ylt⟩,g1.2.2,g2.2.2,⟨by omega,by omega⟩,⟨by omega,by omega⟩,⟨by omega,by omega⟩,⟨by omega,by omega⟩,⟨by omega,by omega⟩,⟨by omega,by omega⟩,by simp; omega,⟨by omega,by omega⟩,⟨⟨by omega,by omega⟩,by simp; omega,app1 (f:=mkA t c k x) (by omega) qI rfl⟩,by omega⟩
  have hq:q = ran (c.length:Int) (mkA t c k x):=eq_ran (by omega) fun j a b=>qI j a (by omega)
  refine⟨⟨by omega,by omega⟩,?_⟩
  -- how often x stands in each row
  refine⟨fun y o=>(0<=y/\y<=(c.length:Int))/\o.length = c.length/\(Upto y fun j=>el o j = mkC t (c.length:Int) k x j)/\∀ j,y<=j->j < (c.length:Int)->el o j = 0,fun y _=>((c.length:Int) - y).toNat,⟨⟨by omega,by omega⟩,by simp,upto0,fun j a b=>el_rep ⟨by omega,by omega⟩⟩,?_⟩
  rintro y o2 ⟨⟨y0,y1⟩,ol,oI,oZ⟩
  dsimp only
  refine⟨fun ylt=>?_,fun yge=>?_⟩
  · refine⟨fun z o=>(0<=z/\z<=(c.length:Int))/\o.length = c.length/\(Upto y fun j=>el o j = mkC t (c.length:Int) k x j)/\(∀ j,y < j->j < (c.length:Int)->el o j = 0)/\el o y = mkC t z k x y,fun z _=>((c.length:Int) - z).toNat,
      ⟨⟨by omega,by omega⟩,ol,oI,fun j a b=>oZ j (by omega) b,by rw [oZ y (by omega) ylt]; simp [mkC,ran]⟩,?_⟩
    rintro z o3 ⟨⟨z0,z1⟩,ol,oI,oZ,oy⟩
    dsimp only
    refine⟨fun zlt=>?_,fun zge=>⟨⟨by omega,by omega⟩,⟨⟨by omega,by omega⟩,ol,upto1 oI (by rw [oy,show z = (c.length:Int) by omega]),fun j a b=>oZ j (by omega) b⟩,by omega⟩⟩
    have g:=tin ⟨k0,klt⟩ ⟨y0,ylt⟩ ⟨z0,zlt⟩
    have hs:mkC t (z + 1) k x y = mkC t z k x y + (if el3 t k y z = x then 1 else 0):=by
      unfold mkC
      rw [ran_succ _ z0,List.filter_append,List.length_append]
      by_cases e:el3 t k y z = x
      · rw [if_pos e]; simp [e]
      · rw [if_neg e]; simp [e]
    have hcb:0<=mkC t z k x y/\mkC t z k x y<=z:=by
      unfold mkC
      have:=List.length_filter_le (fun z=>decide (el3 t k y z = x)) (ran z id)
      rw [length_ran] at this
      omega
    refine⟨⟨k0,klt⟩,⟨y0,g.1⟩,⟨z0,g.2.1⟩,fun he=>?_,fun hne=>⟨⟨by omega,by omega⟩,⟨⟨by omega,by omega⟩,ol,oI,oZ,by rw [hs,if_neg (show ¬ el3 t k y z = x from hne),oy]; omega⟩,by omega⟩⟩
    refine⟨⟨y0,by omega⟩,⟨by omega,by omega⟩,⟨y0,by omega⟩,⟨by omega,by omega⟩,⟨⟨by omega,by omega⟩,by simp [ol],fun j a b=>?_,fun j a b=>?_,?_⟩,by omega⟩
    · show el (se _ _ _) j = _
      rw [el_se_ne y0 a (by omega)]; exact oI j a b
    · rw [el_se_ne y0 (by omega) (by omega)]; exact oZ j a b
    · rw [el_se_same ⟨y0,by omega⟩,hs,if_pos (show el3 t k y z = x from he),oy]
  have hcb : ∀ j,0<=j->j < (c.length:Int)->0<=el o2 j/\el o2 j<=(c.length:Int):=fun j a b=>by
    rw [oI j a (by omega)]
    unfold mkC
    have:=List.length_filter_le (fun z=>decide (el3 t k j z = x)) (ran (c.length:Int) id)
    rw [length_ran] at this
    omega
  refine⟨fun y q2=>(0<=y/\y<=(c.length:Int))/\q2 = ran (c.length:Int) (mkA t c k x) ++ ran y (mkB t c k x),fun y _=>((c.length:Int) - y).toNat,⟨⟨by omega,by omega⟩,by rw [hq]; simp [ran]⟩,?_⟩
  rintro y q2 ⟨⟨y0,y1⟩,rfl⟩
  dsimp only
  refine⟨fun ylt=>?_,fun yge=>?_⟩
  · have h1:=hcb y y0 ylt
    have c1:=cin ⟨y0,ylt⟩
    refine⟨⟨y0,ylt⟩,⟨y0,by omega⟩,⟨by omega,by omega⟩,⟨by omega,by omega⟩,⟨by omega,by omega⟩,?_,⟨by omega,by omega⟩,⟨⟨by omega,by omega⟩,?_⟩,by omega⟩
    · rw [List.length_append,length_ran,length_ran]; simp; omega
    · rw [ran_succ _ y0,List.append_assoc,oI y y0 (by omega)]; rfl
  have hy:y = (c.length:Int):=by omega
  subst hy
  generalize hL:ran (c.length:Int) (mkA t c k x) ++ ran (c.length:Int) (mkB t c k x) = L at *
  have hLl:(L.length:Int) = (c.length:Int) + (c.length:Int):=by rw [<- hL,List.length_append,length_ran,length_ran]; omega
  -- the sort
  refine⟨fun i o=>(1<=i/\i<=(L.length:Int))/\o.Perm L/\∀ m,1<=m->m < i->el o (m - 1)<=el o m,fun i _=>((L.length:Int) - i).toNat,⟨⟨by omega,by omega⟩,List.Perm.refl _,fun m _ _=>by omega⟩,?_⟩
  rintro i s ⟨⟨i1,i2⟩,hP,hS⟩
  dsimp only
  have hsl:=hP.length_eq
  refine⟨fun ilt=>?_,fun ige=>⟨by omega,⟨by omega,by omega⟩,⟨⟨by omega,by omega⟩,?_,?_⟩,by omega⟩⟩
  · refine⟨fun j q=>(0<=j/\j<=i)/\q.Perm L/\(∀ m,1<=m->m<=i->m≠j->el q (m - 1)<=el q m)/\(1<=j->j < i->el q (j - 1)<=el q (j + 1)),fun j _=>j.toNat,⟨⟨by omega,by omega⟩,hP,fun m m1 m2 hne=>hS m m1 (by omega),fun _ h=>by omega⟩,?_⟩
    rintro j q ⟨⟨j0,j1⟩,hQ,hA,hB⟩
    dsimp only
    have hql:=hQ.length_eq
    have next:(∀ m,1<=m->m < i + 1->el q (m - 1)<=el q m)->InI (i + 1)/\(((1<=i + 1/\i + 1<=(L.length:Int))/\q.Perm L/\∀ m,1<=m->m < i + 1->el q (m - 1)<=el q m)/\((L.length:Int) - (i + 1)).toNat < ((L.length:Int) - i).toNat):=fun h=>
      ⟨⟨by omega,by omega⟩,⟨⟨by omega,by omega⟩,hQ,h⟩,by omega⟩
    refine⟨fun jlt=>⟨⟨by omega,by omega⟩,⟨by omega,by omega⟩,⟨by omega,by omega⟩,fun hc=>?_,fun hc=>next fun m m1 m2=>?_⟩,fun jge=>next fun m m1 m2=>hA m m1 (by omega) (by omega)⟩
    · refine⟨⟨by omega,by omega⟩,⟨by omega,by omega⟩,⟨by omega,by omega⟩,⟨by omega,by omega⟩,⟨by omega,by omega⟩,⟨by omega,by simp; omega⟩,⟨by omega,by omega⟩,⟨⟨by omega,by omega⟩,(swap_nb ⟨by omega,by omega⟩).trans hQ,fun m m1 m2 hne=>?_,fun h1 h2=>?_⟩,by omega⟩
      · rw [swap_nb_el ⟨by omega,by omega⟩ (by omega),swap_nb_el ⟨by omega,by omega⟩ (by omega),if_neg hne]
        by_cases e:m = j
        · subst e
          rw [if_pos rfl,if_pos rfl]; omega
        · rw [if_neg e,if_neg (by omega)]
          by_cases e2:m = j + 1
          · subst e2
            rw [if_pos (by omega)]
            exact hB (by omega) (by omega)
          · rw [if_neg (by omega)]
            exact hA m m1 m2 e
      · rw [swap_nb_el ⟨by omega,by omega⟩ (by omega),swap_nb_el ⟨by omega,by omega⟩ (by omega),if_neg (by omega),if_neg (by omega),if_neg (by omega),if_pos (by omega)]
        exact hA (j - 1) (by omega) (by omega) (by omega)
    · by_cases e:m = j
      · subst e; omega
      · exact hA m m1 (by omega) e
  · have hs:s = mkK t c x k:=by
      unfold mkK; rw [hL]
      exact srt_uniq hP (adj_le fun m m0 m1=>by have:=hS (m + 1) (by omega) (by omega); rwa [Int.add_sub_cancel] at this)
    rw [ho,hs,ran_succ _ k0]; simp
  · rw [List.length_append,hsl]; omega
theorem ran_add {α:Type} {m n:Int} (hm:0<=m) (hn:0<=n) (f:Int->α):ran (m + n) f = ran m f ++ ran n fun j=>f (m + j):=by
  unfold ran
  rw [show (m + n).toNat = m.toNat + n.toNat by omega,List.range_add,List.map_append,List.map_map]
  congr 1
  refine List.map_congr_left fun j _=>?_
  show f _ = f _
  congr 1
  simp; omega
theorem len_flat {n:Int} : ∀ (l:List (List Int)),(∀ r ∈ l,(r.length:Int) = n)->(l.flatten.length:Int) = (l.length:Int) * n
  | [],_=>by simp
  | r :: l,h=>by
    have:=len_flat l fun z hz=>h z (List.mem_cons_of_mem _ hz)
    have:=h r List.mem_cons_self
    rw [List.flatten_cons,List.length_append,List.length_cons]
    have e:((l.length:Int) + 1) * n = (l.length:Int) * n + n:=by rw [Int.add_mul,Int.one_mul]
    have e2:((l.length + 1:Nat):Int) = (l.length:Int) + 1:=by omega
    rw [e2,e]; omega
theorem mrk_len (t:List (List (List Int))) (c:List Int) (x:Int):((mrkI t c x).length:Int) = 1 + (t.length:Int) * ((c.length:Int) + (c.length:Int)):=by
  unfold mrkI
  rw [List.length_append,List.length_singleton]
  have:=len_flat (n:=(c.length:Int) + (c.length:Int)) (ran (t.length:Int) (mkK t c x)) fun r hr=>by
    obtain⟨i,_,e⟩:=List.mem_map.1 (show r ∈ (List.range _).map _ from hr)
    have e:=e.symm; subst e
    show ((mkK t c x _).length:Int) = _
    unfold mkK; rw [srt_len,List.length_append,length_ran,length_ran]; omega
  rw [len_ran (by omega)] at this
  omega
theorem mrk_head (t:List (List (List Int))) (c:List Int) (x:Int):el (mrkI t c x) 0 = el c x:=by
  unfold mrkI; exact el_cons_0
def cntU (n:Int) (q:Int->Int) (i v:Int):Int:=(((ran i id).filter fun j=>decide (j < n/\q j = v)).length:Int)
def cntV (n:Int) (q:Int->Int) (i v:Int):Int:=(((ran i id).filter fun j=>decide (n<=j/\q j = v)).length:Int)
theorem cntU_one {n:Int} {q:Int->Int} {i v:Int} (hi:0<=i):cntU n q (i + 1) v = cntU n q i v + (if i < n/\q i = v then 1 else 0):=by
  unfold cntU
  rw [ran_succ _ hi,List.filter_append,List.length_append]
  by_cases e:i < n/\q i = v
  · rw [if_pos e]; simp [e]
  · rw [if_neg e]; simp [e]
theorem cntV_one {n:Int} {q:Int->Int} {i v:Int} (hi:0<=i):cntV n q (i + 1) v = cntV n q i v + (if n<=i/\q i = v then 1 else 0):=by
  unfold cntV
  rw [ran_succ _ hi,List.filter_append,List.length_append]
  by_cases e:n<=i/\q i = v
  · rw [if_pos e]; simp [e]
  · rw [if_neg e]; simp [e]
theorem cnt_bd (n:Int) (q:Int->Int) {i:Int} (hi:0<=i) (v:Int):(0<=cntU n q i v/\cntU n q i v<=i)/\0<=cntV n q i v/\cntV n q i v<=i:=by
  unfold cntU cntV
  have h1:=List.length_filter_le (fun j=>decide (j < n/\q j = v)) (ran i id)
  have h2:=List.length_filter_le (fun j=>decide (n<=j/\q j = v)) (ran i id)
  rw [length_ran] at h1 h2
  omega
theorem cnt_same {p:List Int} (hp:isPerm p = true) {q:Int->Int} (h : ∀ x,0<=x->x < (p.length:Int)->q x = q ((p.length:Int) + el p x)) (v:Int):cntU (p.length:Int) q ((p.length:Int) + (p.length:Int)) v = cntV (p.length:Int) q ((p.length:Int) + (p.length:Int)) v:=by
  unfold cntU cntV
  rw [ran_add (by omega) (by omega),List.filter_append,List.filter_append,List.length_append,List.length_append]
  have e1:(ran (p.length:Int) fun j=>id ((p.length:Int) + j)) = (ran (p.length:Int) id).map fun j=>(p.length:Int) + j:=by unfold ran; rw [List.map_map]; rfl
  have f1:(ran (p.length:Int) id).filter (fun j=>decide (j < (p.length:Int)/\q j = v)) = (ran (p.length:Int) id).filter fun j=>decide (q ((p.length:Int) + el p j) = v):=
    List.filter_congr fun j hj=>by
      have hj:=mem_ran.1 hj
      rw [h j hj.1 hj.2]
      exact decide_eq_decide.2 ⟨fun k=>k.2,fun k=>⟨hj.2,k⟩⟩
  have f2:(ran (p.length:Int) id).filter (fun j=>decide ((p.length:Int)<=j/\q j = v)) = []:=List.filter_eq_nil_iff.2 fun j hj=>by
    have hj:=mem_ran.1 hj
    simp; omega
  have f3:((ran (p.length:Int) id).map fun j=>(p.length:Int) + j).filter (fun j=>decide (j < (p.length:Int)/\q j = v)) = []:=List.filter_eq_nil_iff.2 fun j hj=>by
    obtain⟨m,hm,rfl⟩:=List.mem_map.1 hj
    have hm:=mem_ran.1 hm
    simp; omega
  have f4:(((ran (p.length:Int) id).map fun j=>(p.length:Int) + j).filter (fun j=>decide ((p.length:Int)<=j/\q j = v))).length = ((ran (p.length:Int) id).filter fun j=>decide (q ((p.length:Int) + j) = v)).length:=by
    rw [List.filter_map,List.length_map]
    congr 1
    refine List.filter_congr fun j hj=>?_
    have hj:=mem_ran.1 hj
    exact decide_eq_decide.2 ⟨fun k=>k.2,fun k=>⟨by show (p.length:Int)<=(p.length:Int) + j; omega,k⟩⟩
  rw [e1,f1,f2,f3,f4,cnt_perm hp fun j=>decide (q ((p.length:Int) + j) = v)]
  simp
def FulC (n num:Int) (c d:List Int):Prop:=∀ v,0<=v->v < num->(∃ x,(0<=x/\x < n)/\el c x = v)\/∃ x,(0<=x/\x < n)/\el d x = v
theorem p_spec_l03Refine (a b:List (List (List Int))) (c d:List Int) (hp:RfD a b c d):wp_spec_l03Refine a b c d (fun y0 y1 y2=>RfP a b c d y0 y1 y2):=by
  obtain⟨hta,htb,hab,hn0,hc,hd⟩:=hp
  have ht:=isTab_len (hta.2.2 0 (by omega) (by have:=hta.1; omega)).1
  have hcl:(c.length:Int) = ((el a 0).length:Int):=hc.1
  have hka:=hta.2.1
  unfold wp_spec_l03Refine
  unfold RfP
  rw [<- hcl] at hc hd ht ⊢
  generalize hn:(c.length:Int) = n at *
  have inA : ∀ k,0<=k->k < (a.length:Int)->∀ x y,(0<=x/\x < n)->(0<=y/\y < n)->0<=el3 a k x y/\el3 a k x y < n:=fun k k0 k1 x y hx hy=>by
    obtain⟨h1,h2⟩:=hta.2.2 k k0 k1
    have h3:=(isTab_row h1 (i:=x) ⟨hx.1,by omega⟩).2 y hy.1 (by omega)
    exact⟨h3.1,by show el (el (el a k) x) y < _; omega⟩
  refine⟨fun c1 d1 num=>(ColD n c1/\ColD n d1)/\(0<=num/\num<=24)/\FulC n num c1 d1/\∀ p,(p.length:Int) = n->IsoP a b p->Keep p c d->Keep p c1 d1,fun _ _ num=>(25 - num).toNat,⟨⟨hc,hd⟩,⟨by omega,by omega⟩,fun v _ _=>by omega,fun _ _ _ h=>h⟩,?_⟩
  rintro c1 d1 num ⟨⟨hc1,hd1⟩,⟨m0,m1⟩,hF,hK⟩
  dsimp only
  have lenA : ∀ x,((mrkI a c1 x).length:Int) = 1 + (a.length:Int) * (n + n):=fun x=>by rw [mrk_len,hc1.1]
  have lenB : ∀ x,((mrkI b d1 x).length:Int) = 1 + (a.length:Int) * (n + n):=fun x=>by rw [mrk_len,hd1.1,hab]
  have lenS:1 + (a.length:Int) * (n + n)<=1000000:=by
    have:(a.length:Int) * (n + n)<=1000 * 24:=Int.mul_le_mul hka (by omega) (by omega) (by omega)
    omega
  have lenP:0<=(a.length:Int) * (n + n):=Int.mul_nonneg (by omega) (by omega)
  -- the marks
  refine⟨fun i o=>(0<=i/\i<=n)/\o = ran i (mrkI a c1),fun i _=>(n - i).toNat,⟨⟨by omega,by omega⟩,by simp [ran]⟩,?_⟩
  rintro i o ⟨⟨i0,i1⟩,rfl⟩
  dsimp only
  refine⟨fun ilt=>⟨⟨hta,by rw [<- hcl]; exact hc1,i0,by rw [hc1.1]; exact ilt⟩,by rw [length_ran]; simp; omega,⟨by omega,by omega⟩,⟨⟨by omega,by omega⟩,(ran_succ _ i0).symm⟩,by omega⟩,fun ige=>?_⟩
  have hi:i = n:=by omega
  subst hi
  refine⟨fun j o=>(0<=j/\j<=i)/\o = ran i (mrkI a c1) ++ ran j (mrkI b d1),fun j _=>(i - j).toNat,⟨⟨by omega,by omega⟩,by simp [ran]⟩,?_⟩
  rintro j o ⟨⟨j0,j1⟩,rfl⟩
  dsimp only
  refine⟨fun jlt=>⟨⟨htb,by rw [<- hn0,<- hcl]; exact hd1,j0,by rw [hd1.1]; exact jlt⟩,by rw [List.length_append,length_ran,length_ran]; simp; omega,⟨by omega,by omega⟩,⟨⟨by omega,by omega⟩,by rw [ran_succ _ j0,List.append_assoc]⟩,by omega⟩,fun jge=>?_⟩
  have hj:j = i:=by omega
  subst hj
  have hM1 : ∀ x,0<=x->x < j->el (ran j (mrkI a c1) ++ ran j (mrkI b d1)) x = mrkI a c1 x:=fun x x0 x1=>by
    rw [el_append_l ⟨x0,by rw [length_ran]; omega⟩,el_ran ⟨x0,x1⟩]
  have hM2 : ∀ x,0<=x->x < j->el (ran j (mrkI a c1) ++ ran j (mrkI b d1)) (j + x) = mrkI b d1 x:=fun x x0 x1=>by
    have e:((ran j (mrkI a c1)).length:Int) = j:=len_ran (by omega)
    rw [el_append_r (by omega),e,show j + x - j = x by omega,el_ran ⟨x0,x1⟩]
  have hML:((ran j (mrkI a c1) ++ ran j (mrkI b d1)).length:Int) = j + j:=by rw [List.length_append,length_ran,length_ran]; omega
  generalize ran j (mrkI a c1) ++ ran j (mrkI b d1) = M at *
  generalize hm0:(1 + (a.length:Int) * (j + j)).toNat = L0 at *
  have hMl : ∀ x,0<=x->x < j + j->(el M x).length = L0:=fun x x0 x1=>by
    by_cases e:x < j
    · rw [hM1 x x0 e]; have:=lenA x; omega
    · have h2:=hM2 (x - j) (by omega) (by omega)
      rw [show j + (x - j) = x by omega] at h2
      rw [h2]; have:=lenB (x - j); omega
  have hsm : ∀ {z:List Int},z.length = L0->small z:=fun h=>by show _<=(1000000000:Int); omega
  -- the kinds
  refine⟨fun K i=>(0<=i/\i<=j + j)/\(LexS L0 K/\(K.length:Int)<=i)/\∀ z,z ∈ K↔∃ m,(0<=m/\m < i)/\el M m = z,fun _ i=>(j + j - i).toNat,⟨⟨by omega,by omega⟩,⟨⟨List.Pairwise.nil,fun x h=>by simp at h⟩,by simp⟩,fun z=>⟨fun h=>by simp at h,fun⟨m,hm,_⟩=>by omega⟩⟩,?_⟩
  rintro K i ⟨⟨i0,i1⟩,⟨hS,hKl⟩,hKm⟩
  dsimp only
  refine⟨fun ilt=>?_,fun ige=>?_⟩
  · have hx:=hMl i i0 (by omega)
    have hxs:=hsm hx
    have hKs : ∀ {m:Int},0<=m->m < (K.length:Int)->small (el K m):=fun m0 m1=>hsm (hS.2 _ (el_mem ⟨m0,m1⟩))
    have hlen : ∀ {m:Int},0<=m->m < (K.length:Int)->(el K m).length = (el M i).length:=fun m0 m1=>by rw [hS.2 _ (el_mem ⟨m0,m1⟩),hx]
    refine⟨fun r=>(0<=r/\r<=(K.length:Int))/\∀ m,0<=m->m < r->cmpG cmp1 (el K m) (el M i) < 0,fun r=>((K.length:Int) - r).toNat,⟨⟨by omega,by omega⟩,fun m _ _=>by omega⟩,?_⟩
    rintro r ⟨⟨r0,r1⟩,hR⟩
    dsimp only
    have grow : ∀ K' : List (List Int),(∀ z,z ∈ K'↔z = el M i\/z ∈ K)->∀ z,z ∈ K'↔∃ m,(0<=m/\m < i + 1)/\el M m = z:=fun K' h z=>by
      rw [h,hKm]
      constructor
      · rintro (e | ⟨m,hm,e⟩)
        · exact⟨i,⟨i0,by omega⟩,e.symm⟩
        · exact⟨m,⟨hm.1,by omega⟩,e⟩
      · rintro⟨m,hm,e⟩
        by_cases hmi:m = i
        · subst hmi; exact .inl e.symm
        · exact .inr ⟨m,⟨hm.1,by omega⟩,e⟩
    have put:(r < (K.length:Int)->el K r≠el M i/\¬ cmpG cmp1 (el K r) (el M i) < 0)->(0<=i/\i < (M.length:Int))/\(0<=r/\r<=(K.length:Int)/\(K.length:Int)<=(K.length:Int))/\((([el M i]).length:Int) + ((sl K r (K.length:Int)).length:Int)<=1000000000)/\((0:Int)<=0/\0<=r/\r<=(K.length:Int))/\
        ((([] : List (List Int)).length:Int) + ((sl K 0 r).length:Int)<=1000000000)/\(((([] : List (List Int)) ++ (sl K 0 r)).length:Int) + ((([el M i]) ++ (sl K r (K.length:Int))).length:Int)<=1000000000)/\(InI (i + 1))/\
        (((0<=i + 1/\i + 1<=j + j)/\(LexS L0 ((([] : List (List Int)) ++ (sl K 0 r)) ++ (([el M i]) ++ (sl K r (K.length:Int))))/\(((([] : List (List Int)) ++ (sl K 0 r)) ++ (([el M i]) ++ (sl K r (K.length:Int)))).length:Int)<=i + 1)/\
          ∀ z,z ∈ (([] : List (List Int)) ++ (sl K 0 r)) ++ (([el M i]) ++ (sl K r (K.length:Int)))↔∃ m,(0<=m/\m < i + 1)/\el M m = z)/\(j + j - (i + 1)).toNat < (j + j - i).toNat):=fun hne=>by
      have l1:=length_sl (l:=K) (a:=0) (b:=r) ⟨by omega,r0,r1⟩
      have l2:=length_sl (l:=K) (a:=r) (b:=(K.length:Int)) ⟨r0,r1,by omega⟩
      have lo:0 < r->lexL (el K (r - 1)) (el M i):=fun h0=>(cmp_lex (hlen (by omega) (by omega))).1 (hR (r - 1) (by omega) (by omega))
      have hi:r < (K.length:Int)->lexL (el M i) (el K r):=fun hlt=>(lexL_total (hlen r0 hlt).symm (Ne.symm (hne hlt).1)).resolve_right fun c=>(hne hlt).2 ((cmp_lex (hlen r0 hlt)).2 c)
      obtain⟨P1,P2⟩:=lexS_put (k:=r) hS hx ⟨r0,r1⟩ lo hi
      have e:(([] : List (List Int)) ++ (sl K 0 r)) ++ (([el M i]) ++ (sl K r (K.length:Int))) = sl K 0 r ++ el M i :: sl K r (K.length:Int):=by simp
      rw [e]
      exact⟨⟨i0,by omega⟩,⟨r0,r1,by omega⟩,by simp; omega,⟨by omega,r0,r1⟩,by simp; omega,by simp; omega,⟨by omega,by omega⟩,⟨⟨by omega,by omega⟩,⟨P1,by simp; omega⟩,grow _ P2⟩,by omega⟩
    refine⟨fun rlt=>⟨⟨r0,rlt⟩,⟨i0,by omega⟩,⟨hKs r0 rlt,hxs⟩,fun hc=>⟨⟨by omega,by omega⟩,⟨⟨by omega,by omega⟩,fun m m0 m1=>?_⟩,by omega⟩,fun hc=>⟨fun _=>⟨⟨r0,rlt⟩,⟨i0,by omega⟩,⟨hKs r0 rlt,hxs⟩,fun he=>⟨⟨by omega,by omega⟩,⟨⟨by omega,by omega⟩,⟨hS,by omega⟩,grow K fun z=>⟨.inr,fun k=>k.elim (fun e=>by rw [e,<- he]; exact el_mem ⟨r0,rlt⟩) id⟩⟩,by omega⟩,fun hne=>put fun _=>⟨hne,hc⟩⟩,fun hge=>absurd rlt hge⟩⟩,
      fun rge=>⟨fun rlt=>absurd rlt rge,fun _=>put fun rlt=>absurd rlt rge⟩⟩
    by_cases e:m = r
    · subst e; exact hc
    · exact hR m m0 (by omega)
  have hi:i = j + j:=by omega
  subst hi
  have hKn:=hS.nodup
  have hin : ∀ x,0<=x->x < j + j->el M x ∈ K:=fun x x0 x1=>(hKm _).2 ⟨x,⟨x0,x1⟩,rfl⟩
  have hidx : ∀ x,0<=x->x < j + j->0<=idxL K (el M x)/\idxL K (el M x) < (K.length:Int):=fun x x0 x1=>idxL_mem (hin x x0 x1)
  -- what an isomorphism does
  have hiso : ∀ p,(p.length:Int) = j->IsoP a b p->Keep p c d->∀ x,0<=x->x < j->el M x = el M (j + el p x):=fun p p1 p2 p3 x x0 x1=>by
    have hb:=isPerm_el p2.1 (i:=x) ⟨x0,by omega⟩
    rw [hM1 x x0 x1,hM2 _ hb.1 (by omega)]
    exact mrk_iso p2 (by omega) (fun k k0 k1 u v hu hv=>by have:=inA k k0 k1 u v ⟨hu.1,by omega⟩ ⟨hv.1,by omega⟩; omega) (by have:=hc1.1; omega) (by have:=hd1.1; omega) (hK p p1 p2 p3) ⟨x0,by omega⟩
  have hK1:num<=(K.length:Int):=by
    have:=nodup_len (ran num id) (K.map fun z=>el z 0) (nodup_ran num) fun v hv=>by
      have hv:=mem_ran.1 hv
      rw [List.mem_map]
      rcases hF v hv.1 hv.2 with ⟨x,hx,e⟩ | ⟨x,hx,e⟩
      · exact⟨el M x,hin x hx.1 (by omega),by rw [hM1 x hx.1 hx.2,mrk_head]; exact e⟩
      · exact⟨el M (j + x),hin _ (by omega) (by omega),by rw [hM2 x hx.1 hx.2,mrk_head]; exact e⟩
    rw [length_ran,List.length_map] at this
    omega
  refine⟨⟨by omega,by omega⟩,?_⟩
  refine⟨fun i cnt col=>(0<=i/\i<=j + j)/\cnt.length = K.length/\col = ran i (fun x=>idxL K (el M x))/\∀ v,0<=v->v < (K.length:Int)->el cnt v = cntU j (fun x=>idxL K (el M x)) i v - cntV j (fun x=>idxL K (el M x)) i v,fun i _ _=>(j + j - i).toNat,
    ⟨⟨by omega,by omega⟩,by simp,by simp [ran],fun v v0 v1=>by rw [el_rep ⟨v0,by omega⟩]; simp [cntU,cntV,ran]⟩,?_⟩
  rintro i cnt col ⟨⟨i0,i1⟩,hcn,rfl,hcv⟩
  dsimp only
  refine⟨fun ilt=>?_,fun ige=>?_⟩
  · refine⟨fun r=>(0<=r/\r < (K.length:Int))/\∀ m,0<=m->m < r->el K m≠el M i,fun r=>((K.length:Int) - r).toNat,⟨⟨by omega,by have:=hidx i i0 (by omega); omega⟩,fun m _ _=>by omega⟩,?_⟩
    rintro r ⟨⟨r0,r1⟩,hR⟩
    dsimp only
    refine⟨⟨r0,r1⟩,⟨i0,by omega⟩,⟨hsm (hS.2 _ (el_mem ⟨r0,r1⟩)),hsm (hMl i i0 (by omega))⟩,fun hne=>?_,fun he=>?_⟩
    · obtain⟨m,hm,e⟩:=mem_el (hin i i0 (by omega))
      have:r < m:=by
        rcases Int.lt_trichotomy r m with g | g | g
        · exact g
        · subst g; exact absurd e hne
        · exact absurd e (hR m hm.1 g)
      refine⟨⟨by omega,by omega⟩,⟨⟨by omega,by omega⟩,fun q q0 q1=>?_⟩,by omega⟩
      by_cases e2:q = r
      · subst e2; exact hne
      · exact hR q q0 (by omega)
    · have hid:idxL K (el M i) = r:=idxF_found ⟨r0,r1⟩ (fun m m0 m1=>decide_eq_false (hR m m0 m1)) (decide_eq_true he)
      have hb:=cnt_bd j (fun x=>idxL K (el M x)) i0 r
      have hv:=hcv r r0 r1
      have step : ∀ w,(w = el cnt r + 1/\i < j\/w = el cnt r - 1/\j<=i)->(InI (i + 1))/\(((0<=i + 1/\i + 1<=j + j)/\(se cnt r w).length = K.length/\ran i (fun x=>idxL K (el M x)) ++ ([r]) = ran (i + 1) (fun x=>idxL K (el M x))/\
          ∀ v,0<=v->v < (K.length:Int)->el (se cnt r w) v = cntU j (fun x=>idxL K (el M x)) (i + 1) v - cntV j (fun x=>idxL K (el M x)) (i + 1) v)/\(j + j - (i + 1)).toNat < (j + j - i).toNat):=fun w hw=>by
        refine⟨⟨by omega,by omega⟩,⟨⟨by omega,by omega⟩,by simp [hcn],by rw [ran_succ _ i0,hid],fun v v0 v1=>?_⟩,by omega⟩
        rw [cntU_one i0,cntV_one i0,hid]
        by_cases e:v = r
        · subst e
          rw [el_se_same ⟨v0,by omega⟩]
          rcases hw with ⟨rfl,g⟩ | ⟨rfl,g⟩
          · rw [if_pos ⟨g,rfl⟩,if_neg (by omega)]; omega
          · rw [if_neg (by omega),if_pos ⟨g,rfl⟩]; omega
        · rw [el_se_ne r0 v0 (Ne.symm e),if_neg (fun k=>e k.2.symm),if_neg (fun k=>e k.2.symm),hcv v v0 v1]; omega
      refine⟨by rw [length_ran]; simp; omega,fun hlt=>⟨⟨r0,by omega⟩,⟨by omega,by omega⟩,⟨r0,by omega⟩,step _ (.inl ⟨rfl,hlt⟩)⟩,fun hge=>⟨⟨r0,by omega⟩,⟨by omega,by omega⟩,⟨r0,by omega⟩,step _ (.inr ⟨rfl,by omega⟩)⟩⟩
  have hi:i = j + j:=by omega
  subst hi
  have zero : ∀ p,(p.length:Int) = j->IsoP a b p->Keep p c d->∀ v,0<=v->v < (K.length:Int)->el cnt v = 0:=fun p p1 p2 p3 v v0 v1=>by
    have:=cnt_same p2.1 (q:=fun x=>idxL K (el M x)) (fun x x0 x1=>by
      show idxL K (el M x) = idxL K (el M ((p.length:Int) + el p x))
      rw [p1,hiso p p1 p2 p3 x x0 (by omega)]) v
    rw [p1] at this
    rw [hcv v v0 v1,this]; omega
  refine⟨fun i=>(0<=i/\i<=(K.length:Int)),fun i=>((K.length:Int) - i).toNat,⟨by omega,by omega⟩,?_⟩
  rintro i ⟨i0,i1⟩
  dsimp only
  refine⟨fun ilt=>⟨⟨i0,by omega⟩,fun hne=>⟨fun h=>absurd h (by simp),fun p p1 p2 p3=>absurd (zero p p1 p2 p3 i i0 (by omega)) hne⟩,fun _=>⟨⟨by omega,by omega⟩,⟨by omega,by omega⟩,by omega⟩⟩,fun ige=>?_⟩
  have hcl2:((ran (j + j) fun x=>idxL K (el M x)).length:Int) = j + j:=len_ran (by omega)
  have s0 : ∀ x,0<=x->x < j->el (sl (ran (j + j) fun x=>idxL K (el M x)) 0 j) x = idxL K (el M x):=fun x x0 x1=>by
    rw [el_sl (by omega) x0 (by omega),Int.zero_add,el_ran ⟨x0,by omega⟩]
  have s1 : ∀ x,0<=x->x < j->el (sl (ran (j + j) fun x=>idxL K (el M x)) j (((ran (j + j) fun x=>idxL K (el M x)).length:Int))) x = idxL K (el M (j + x)):=fun x x0 x1=>by
    rw [el_sl (by omega) x0 (by omega),el_ran ⟨by omega,by omega⟩]
  have l0:=length_sl (l:=ran (j + j) fun x=>idxL K (el M x)) (a:=0) (b:=j) ⟨by omega,by omega,by omega⟩
  have l1:=length_sl (l:=ran (j + j) fun x=>idxL K (el M x)) (a:=j) (b:=((ran (j + j) fun x=>idxL K (el M x)).length:Int)) ⟨by omega,by omega,by omega⟩
  refine⟨⟨by omega,by omega,by omega⟩,⟨by omega,by omega,by omega⟩,?_⟩
  generalize sl (ran (j + j) fun x=>idxL K (el M x)) j (((ran (j + j) fun x=>idxL K (el M x)).length:Int)) = r1 at *
  generalize sl (ran (j + j) fun x=>idxL K (el M x)) 0 j = r0 at *
  have C0:ColD j r0:=⟨by omega,fun x x0 x1=>by have:=hidx x x0 (by omega); rw [s0 x x0 x1]; omega⟩
  have C1:ColD j r1:=⟨by omega,fun x x0 x1=>by have:=hidx (j + x) (by omega) (by omega); rw [s1 x x0 x1]; omega⟩
  have KP : ∀ p,(p.length:Int) = j->IsoP a b p->Keep p c d->Keep p r0 r1:=fun p p1 p2 p3 x x0 x1=>by
    have hb:=isPerm_el p2.1 (i:=x) ⟨x0,by omega⟩
    rw [s0 x x0 (by omega),s1 _ hb.1 (by omega),hiso p p1 p2 p3 x x0 (by omega)]
  refine⟨fun _=>⟨fun _=>⟨C0,C1⟩,fun p p1 p2 p3=>⟨rfl,KP p p1 p2 p3⟩⟩,fun hne=>⟨⟨⟨C0,C1⟩,⟨by omega,by omega⟩,fun v v0 v1=>?_,KP⟩,by omega⟩⟩
  obtain⟨m,hm,e⟩:=(hKm _).1 (el_mem (l:=K) ⟨v0,v1⟩)
  have hid:idxL K (el M m) = v:=by rw [e]; exact (idxL_self ⟨v0,v1⟩).2 fun q q0 q1=>nodup_el.1 hKn q v q0 q1 v1
  by_cases g:m < j
  · exact .inl ⟨m,⟨hm.1,g⟩,by rw [s0 m hm.1 g,hid]⟩
  · exact .inr ⟨m - j,⟨by omega,by omega⟩,by rw [s1 _ (by omega) (by omega),show j + (m - j) = m by omega,hid]⟩
section
variable {a b:List (List (List Int))} {f c c' p:List Int}
theorem padM_len (h:(f.length:Int)<=(c.length:Int)):(padM f c).length = c.length:=by
  unfold padM; rw [List.length_append,List.length_replicate]; omega
theorem padM_l {i:Int} (h:0<=i/\i < (f.length:Int)):el (padM f c) i = el f i:=el_append_l h
theorem padM_r {i:Int} (h:(f.length:Int)<=i/\i < (c.length:Int)):el (padM f c) i = -1:=by
  unfold padM; rw [el_append_r h.1]; exact el_rep ⟨by omega,by omega⟩
theorem ext_pad (h:(f.length:Int)<=(c.length:Int)) (h0 : ∀ x ∈ f,0<=x):ExtI (padM f c) p↔∀ x,0<=x->x < (f.length:Int)->el p x = el f x:=by
  have hl:=padM_len h
  constructor
  · intro g x x0 x1
    rw [g x x0 (by omega) (by rw [padM_l ⟨x0,x1⟩]; exact h0 _ (el_mem ⟨x0,x1⟩)),padM_l ⟨x0,x1⟩]
  · intro g x x0 x1 x2
    by_cases e:x < (f.length:Int)
    · rw [padM_l ⟨x0,e⟩]; exact g x x0 e
    · rw [padM_r ⟨by omega,by omega⟩] at x2; omega
theorem mem_pad (h:(f.length:Int)<=(c.length:Int)) (h0 : ∀ x ∈ f,0<=x):p ∈ extL a b (padM f c)↔p.length = c.length/\IsoP a b p/\∀ x,0<=x->x < (f.length:Int)->el p x = el f x:=by
  rw [mem_ext,padM_len h,ext_pad h h0]
theorem app_ag {v:Int} : (∀ x,0<=x->x < ((f ++ [v]).length:Int)->el p x = el (f ++ [v]) x)↔(∀ x,0<=x->x < (f.length:Int)->el p x = el f x)/\el p (f.length:Int) = v:=by
  constructor
  · intro h
    refine⟨fun x x0 x1=>by rw [h x x0 (by simp; omega),el_append_l ⟨x0,x1⟩],by rw [h _ (by omega) (by simp; omega),el_append_last rfl]⟩
  · rintro⟨h1,h2⟩ x x0 x1
    by_cases e:x < (f.length:Int)
    · rw [el_append_l ⟨x0,e⟩]; exact h1 x x0 e
    · have e:x = (f.length:Int):=by simp at x1; omega
      rw [el_append_last e,e]; exact h2
theorem exB_pad {v:Int} (h:(f.length:Int) + 1<=(c.length:Int)) (h0 : ∀ x ∈ f,0<=x) (v0:0<=v) (hc:c'.length = c.length):exB a b (padM f c) (f.length:Int) v = extL a b (padM (f ++ [v]) c'):=by
  have h0' : ∀ x ∈ f ++ [v],0<=x:=fun x hx=>(List.mem_append.1 hx).elim (h0 x) fun k=>by rw [List.mem_singleton.1 k]; exact v0
  have hl' : ((f ++ [v]).length:Int)<=(c'.length:Int):=by simp; omega
  have l1:=padM_len hl'
  have l2:=padM_len (f:=f) (c:=c) (by omega)
  have hlx:LexS (padM f c).length (extL a b (padM (f ++ [v]) c')):=by have:=ext_lex (a:=a) (b:=b) (f:=padM (f ++ [v]) c'); rwa [l1,hc,<- l2] at this
  refine lexS_uniq (ext_lex.filter _) hlx fun p=>?_
  show p ∈ exB a b (padM f c) (f.length:Int) v↔_
  rw [mem_exB,mem_pad (by omega) h0,mem_pad hl' h0',app_ag,hc]
  exact⟨fun k=>⟨k.1.1,k.1.2.1,k.1.2.2,k.2⟩,fun k=>⟨⟨k.1,k.2.1,k.2.2.1⟩,k.2.2.2⟩⟩
theorem con_of_iso (hI:IsoP a b p) (hf:(f.length:Int)<=(p.length:Int)) (ha : ∀ k,0<=k->k < (a.length:Int)->isTab (el a k) = true/\(el a k).length = p.length) (h : ∀ x,0<=x->x < (f.length:Int)->el p x = el f x):conA a b f:=fun k k0 k1 x y x0 x1 y0 y1 z1=>by
  have hk:=ha k k0 k1
  have z0:=((isTab_row hk.1 (i:=x) ⟨x0,by omega⟩).2 y y0 (by omega)).1
  have:=hI.2 k k0 k1 x y ⟨x0,by omega⟩ ⟨y0,by omega⟩
  rw [h x x0 x1,h y y0 y1] at this
  rw [<- h _ z0 z1]; exact this
theorem ext_full (hf:f.length = c.length) (hp:isPerm f = true) (ha : ∀ k,0<=k->k < (a.length:Int)->isTab (el a k) = true/\(el a k).length = c.length) (hc:conA a b f):extL a b (padM f c) = [f]:=by
  have h0 : ∀ x ∈ f,0<=x:=fun x hx=>((isPerm_iff.1 hp).2 x hx).1
  have hl:=padM_len (f:=f) (c:=c) (by omega)
  have hi:IsoP a b f:=⟨hp,fun k k0 k1 x y hx hy=>by
    have hk:=ha k k0 k1
    have z:=(isTab_row hk.1 (i:=x) ⟨hx.1,by omega⟩).2 y hy.1 (by omega)
    exact hc k k0 k1 x y hx.1 hx.2 hy.1 hy.2 (by omega)⟩
  refine lexS_uniq (n:=c.length) (by have:=ext_lex (a:=a) (b:=b) (f:=padM f c); rwa [hl] at this) ⟨List.pairwise_singleton _ _,fun x hx=>by rw [List.mem_singleton.1 hx]; exact hf⟩ fun p=>?_
  rw [mem_pad (by omega) h0,List.mem_singleton]
  constructor
  · rintro⟨h1,_,h3⟩; exact ext_el (by omega) fun i i0 i1=>h3 i i0 (by omega)
  · rintro rfl; exact⟨hf,hi,fun _ _ _=>rfl⟩
end
theorem p_spec_l03Seek (a b:List (List (List Int))) (f c d:List Int) (most:Int) (out:List (List Int)) (hp:SkD a b f c d most out) :
    wp_spec_l03Seek a b f c d most out (fun y0=>y0 = out ++ (extL a b (padM f c)).take (most - (out.length:Int)).toNat):=by
  obtain⟨⟨hta,htb,hab,hn0,hc,hd⟩,⟨hfl,hfn,hfr⟩,hco,⟨ho1,ho2⟩,hke⟩:=hp
  have ht:=isTab_len (hta.2.2 0 (by omega) (by have:=hta.1; omega)).1
  have hka:=hta.2.1
  have hcl:(c.length:Int) = ((el a 0).length:Int):=hc.1
  have hdl:d.length = c.length:=by have:=hd.1; omega
  have haa : ∀ k,0<=k->k < (a.length:Int)->isTab (el a k) = true/\(el a k).length = c.length:=fun k k0 k1=>⟨(hta.2.2 k k0 k1).1,by have:=(hta.2.2 k k0 k1).2; omega⟩
  have hbb : ∀ k,0<=k->k < (a.length:Int)->isTab (el b k) = true/\(el b k).length = c.length:=fun k k0 k1=>⟨(htb.2.2 k k0 (by omega)).1,by have:=(htb.2.2 k k0 (by omega)).2; omega⟩
  have hf0 : ∀ x ∈ f,0<=x:=fun x hx=>(hfr x hx).1
  have hsf:small f:=by show _<=(1000000000:Int); omega
  unfold wp_spec_l03Seek
  refine⟨fun he=>⟨hsf,by simp; omega,?_⟩,fun hne=>?_⟩
  · rw [ext_full (by omega) (isPerm_iff.2 ⟨hfn,fun x hx=>by have:=hfr x hx; omega⟩) haa hco,List.take_of_length_le (by simp; omega)]
  have hpl:=padM_len hfl
  have hx:0<=(f.length:Int)/\(f.length:Int) < ((padM f c).length:Int):=⟨by omega,by omega⟩
  have hbe : ∀ y,0<=y->y < (f.length:Int)->0<=el (padM f c) y:=fun y y0 y1=>by rw [padM_l ⟨y0,y1⟩]; exact hf0 _ (el_mem ⟨y0,y1⟩)
  refine⟨fun v o=>(0<=v/\v<=(c.length:Int))/\o = out ++ (exA a b (padM f c) (f.length:Int) v).take (most - (out.length:Int)).toNat,fun v _=>((c.length:Int) - v).toNat,⟨⟨by omega,by omega⟩,by rw [exA_zero hx]; simp⟩,?_⟩
  rintro v o ⟨⟨v0,v1⟩,ho⟩
  dsimp only
  refine⟨fun vlt=>⟨fun olt=>?_,fun oge=>?_⟩,fun vge=>?_⟩
  · have hsucc:=exA_succ (a:=a) (b:=b) (v:=v) hx hbe
    have hwhole:o = out ++ exA a b (padM f c) (f.length:Int) v:=by
      rw [ho] at olt ⊢
      rw [List.length_append,List.length_take] at olt
      rw [List.take_of_length_le (by omega)]
    have hol:(out.length:Int)<=(o.length:Int):=by rw [hwhole,List.length_append]; omega
    have skip:(∀ p,p.length = c.length->IsoP a b p->(∀ x,0<=x->x < (f.length:Int)->el p x = el f x)->el p (f.length:Int) = v->False)->
        InI (v + 1)/\(((0<=v + 1/\v + 1<=(c.length:Int))/\o = out ++ (exA a b (padM f c) (f.length:Int) (v + 1)).take (most - (out.length:Int)).toNat)/\((c.length:Int) - (v + 1)).toNat < ((c.length:Int) - v).toNat):=fun h=>by
      refine⟨⟨by omega,by omega⟩,⟨⟨by omega,by omega⟩,?_⟩,by omega⟩
      have e:exB a b (padM f c) (f.length:Int) v = []:=List.eq_nil_iff_forall_not_mem.2 fun p hp=>by
        obtain⟨h1,h2⟩:=mem_exB.1 hp
        obtain⟨p1,p2,p3⟩:=(mem_pad hfl hf0).1 h1
        exact h p p1 p2 p3 h2
      rw [hsucc,e,List.append_nil]; exact ho
    have hv:0<=v/\v < (c.length:Int):=⟨v0,by omega⟩
    refine⟨hsf,by simp; omega,hsf,fun hcn=>skip fun p p1 p2 p3 p4=>?_,fun hcn=>⟨⟨by omega,by omega⟩,⟨v0,vlt⟩,fun hcl2=>skip fun p p1 p2 p3 p4=>?_,fun hcl2=>?_⟩⟩
    · obtain⟨i,hi,e⟩:=mem_el (List.contains_iff_mem.1 hcn)
      have:=isPerm_inj p2.1 (i:=i) (j:=(f.length:Int)) ⟨hi.1,by omega⟩ ⟨by omega,by omega⟩ (by rw [p3 i hi.1 hi.2,e,p4])
      omega
    · have:=hke p p1 p2 ((ext_pad hfl hf0).2 p3) (f.length:Int) (by omega) (by omega)
      rw [p4] at this; exact hcl2 this
    have hvn:v ∉ f:=fun hm=>by rw [List.contains_iff_mem.2 hm] at hcn; cases hcn
    have hfr' : ∀ x ∈ f ++ [v],0<=x/\x < (c.length:Int):=fun x hx=>(List.mem_append.1 hx).elim (hfr x) fun k=>by rw [List.mem_singleton.1 k]; exact hv
    have hfit:fitD a b (f ++ [v]):=by
      refine⟨by show (a.length:Int)<=1000000000; omega,by show ((f ++ [v]).length:Int)<=1000000000; simp; omega,hab.symm,fun k k0 k1=>⟨(haa k k0 k1).1,(hbb k k0 k1).1,by have:=(haa k k0 k1).2; simp; omega,fun x hx=>by have:=(hbb k k0 k1).2; have:=hfr' x hx; omega,fun x y x0 x1 y0 y1 z1=>?_⟩⟩
      simp only [List.length_append,List.length_singleton,Int.natCast_add,Int.natCast_one] at x1 y1 z1
      exact conP_app (hco k k0 k1) x0 (by omega) y0 (by omega) ((isTab_row (haa k k0 k1).1 (i:=x) ⟨x0,by have:=(haa k k0 k1).2; omega⟩).2 y y0 (by have:=(haa k k0 k1).2; omega)).1 (by omega)
    refine⟨hfit,fun hcon=>skip fun p p1 p2 p3 p4=>?_,fun hcon=>⟨by show (c.length:Int)<=1000000000; omega,by show (d.length:Int)<=1000000000; omega,⟨by omega,by omega⟩,⟨v0,vlt⟩,?_,fun r0 r1 r2 hR=>⟨fun h2=>?_,fun h2=>skip fun p p1 p2 p3 p4=>?_⟩⟩⟩
    · exact (dec_iff_f.1 hcon) (con_of_iso p2 (by simp; omega) (fun k k0 k1=>by rw [p1]; exact haa k k0 k1) (app_ag.2 ⟨p3,p4⟩))
    · refine⟨hta,htb,hab,hn0,⟨by simpa using hc.1,fun i i0 i1=>?_⟩,⟨by simpa using hd.1,fun i i0 i1=>?_⟩⟩
      · by_cases e:i = (f.length:Int)
        · subst e; rw [el_se_same ⟨by omega,by omega⟩]; omega
        · rw [el_se_ne (by omega) i0 (Ne.symm e)]; exact hc.2 i i0 i1
      · by_cases e:i = v
        · subst e; rw [el_se_same ⟨by omega,by omega⟩]; omega
        · rw [el_se_ne (by omega) i0 (Ne.symm e)]; exact hd.2 i i0 i1
    all_goals
      have keep : ∀ p,p.length = c.length->IsoP a b p->(∀ x,0<=x->x < (f.length:Int)->el p x = el f x)->el p (f.length:Int) = v->Keep p (se c (f.length:Int) 60) (se d v 60):=fun p p1 p2 p3 p4 x x0 x1=>by
        have hb:=isPerm_el p2.1 ⟨x0,x1⟩
        by_cases e:x = (f.length:Int)
        · subst e; rw [p4,el_se_same ⟨by omega,by omega⟩,el_se_same ⟨by omega,by omega⟩]
        · rw [el_se_ne (by omega) x0 (Ne.symm e),el_se_ne (by omega) hb.1 fun k=>e (isPerm_inj p2.1 ⟨x0,x1⟩ ⟨by omega,by omega⟩ (by rw [p4,k]))]
          exact hke p p1 p2 ((ext_pad hfl hf0).2 p3) x x0 x1
    · have hcc:=hR.1 h2
      have hr0:r0.length = c.length:=by have:=hcc.1.1; omega
      have e:exB a b (padM f c) (f.length:Int) v = extL a b (padM (f ++ [v]) r0):=exB_pad (by omega) hf0 v0 hr0
      refine⟨by simp; omega,⟨⟨hta,htb,hab,hn0,hcc.1,hcc.2⟩,⟨by simp; omega,List.nodup_append.2 ⟨hfn,by simp,fun y hy z hz e=>by rw [List.mem_singleton.1 hz] at e; exact hvn (e ▸ hy)⟩,fun x hx=>by have:=hfr' x hx; omega⟩,dec_iff.1 hcon,⟨olt,ho2⟩,fun p p1 p2 p3=>?_⟩,⟨by omega,by omega⟩,⟨⟨by omega,by omega⟩,?_⟩,by omega⟩
      · have p3:=app_ag.1 ((ext_pad (by simp; omega) (fun x hx=>(hfr' x hx).1)).1 p3)
        exact (hR.2 p (by omega) p2 (keep p (by omega) p2 p3.1 p3.2)).2
      · rw [hsucc,e,List.take_append,List.take_of_length_le (l:=exA a b (padM f c) (f.length:Int) v) (by have:=congrArg List.length hwhole; rw [List.length_append] at this; omega),<- List.append_assoc,<- hwhole]
        congr 2
        have:=congrArg List.length hwhole; rw [List.length_append] at this; omega
    · have:=(hR.2 p (by omega) p2 (keep p p1 p2 p3 p4)).1
      rw [h2] at this; cases this
  · obtain⟨R,hR⟩:=exA_pre (a:=a) (b:=b) (v:=v) hx hbe
    rw [ho,hR,List.take_append_of_le_length]
    rw [ho,List.length_append,List.length_take] at oge
    omega
  · have e:v = ((padM f c).length:Int):=by omega
    rw [ho,e,exA_all hx]
theorem pad_nil {a b:List (List (List Int))} {c:List Int} (h:(c.length:Int) = ((el a 0).length:Int)) (h2:(el a 0).length = (el b 0).length):extL a b (padM [] c) = isoL a b:=by
  have hl:=padM_len (f:=[]) (c:=c) (by simp)
  unfold extL isoL
  rw [if_pos h2,hl,h]
  refine List.filter_congr fun p _=>dec_congr ⟨fun k=>k.1,fun k=>⟨k,(ext_pad (by simp) fun x hx=>by cases hx).2 fun x x0 x1=>by simp at x1; omega⟩⟩
theorem p_spec_l03Maps (a b:List (List (List Int))) (f:List Int) (most:Int) (hp:f = []/\TabsP a/\TabsP b/\a.length = b.length/\1<=most/\most<=1000000) :
    wp_spec_l03Maps a b f most (fun y0=>y0 = (isoL a b).take most.toNat):=by
  obtain⟨rfl,hta,htb,hab,hm1,hm2⟩:=hp
  unfold wp_spec_l03Maps
  have ht:=isTab_len (hta.2.2 0 (by omega) (by have:=hta.1; omega)).1
  refine⟨⟨by omega,by have:=hta.1; omega⟩,⟨by omega,by have:=htb.1; omega⟩,fun hne=>?_,fun he=>⟨⟨by omega,by have:=hta.1; omega⟩,⟨by omega,by have:=hta.1; omega⟩,⟨by omega,by omega⟩,⟨by omega,by omega⟩,fun h=>absurd h (by simp),fun _=>?_⟩⟩
  · unfold isoL; rw [if_neg (by omega)]; simp
  have hz:ColD ((el a 0).length:Int) (List.replicate ((el a 0).length:Int).toNat (0:Int)):=⟨by simp,fun i i0 i1=>by rw [el_rep ⟨i0,by omega⟩]; omega⟩
  have hk : ∀ p:List Int,(p.length:Int) = ((el a 0).length:Int)->IsoP a b p->Keep p (List.replicate ((el a 0).length:Int).toNat (0:Int)) (List.replicate ((el a 0).length:Int).toNat (0:Int)):=fun p p1 p2 x x0 x1=>by
    have hb:=isPerm_el p2.1 ⟨x0,x1⟩
    rw [el_rep ⟨x0,by omega⟩,el_rep ⟨hb.1,by omega⟩]
  refine⟨⟨hta,htb,hab,by omega,hz,hz⟩,fun r0 r1 r2 hR=>⟨fun h2=>?_,fun h2=>?_⟩⟩
  · have e:isoL a b = []:=List.eq_nil_iff_forall_not_mem.2 fun p hp=>by
      unfold isoL at hp
      rw [if_pos (by omega),List.mem_filter,dec_iff,grow_iff (by omega)] at hp
      have:=(hR.2 p hp.1.1 hp.2 (hk p hp.1.1 hp.2)).1
      rw [h2] at this; cases this
    rw [e]; simp
  · have hcc:=hR.1 h2
    refine⟨⟨⟨hta,htb,hab,by omega,hcc.1,hcc.2⟩,⟨by simp,List.nodup_nil,fun x hx=>by cases hx⟩,fun k k0 k1 x y x0 x1=>by simp at x1; omega,⟨by simp; omega,hm2⟩,fun p p1 p2 _=>(hR.2 p (by have:=hcc.1.1; omega) p2 (hk p (by have:=hcc.1.1; omega) p2)).2⟩,?_⟩
    rw [pad_nil hcc.1.1 (by omega)]
    simp
theorem tabs1 {r:List (List Int)} (h:isTab r = true):TabsP [r]:=by
  refine⟨by simp,by simp,fun k k0 k1=>?_⟩
  have hk:k = 0:=by simp at k1; omega
  subst hk
  exact⟨h,rfl⟩
theorem take1 {α:Type} [Inhabited α] {l:List α} : (((l.take (1:Int).toNat).length:Int) = 0↔l = [])/\(l≠[]->el (l.take (1:Int).toNat) 0 = el l 0):=by
  cases l with
  | nil=>simp
  | cons x l=>simp [el]
theorem isoL_ne {a b:List (List (List Int))} (h : ¬ ((el a 0).length:Int) = ((el b 0).length:Int)):isoL a b = []:=by unfold isoL; rw [if_neg (by omega)]
theorem w_spec_l03MarkW (t:List (List (List Int))) (colours:List Int) (x:Int) (Q:List Int->Prop) (h:wp_spec_l03MarkW t colours x Q):AF Tryz.prog 73 [.lst (tabs t),.lst (ints colours),ci x] (fun R_=>∃ y0,Q y0/\R_ = .own (ints y0)):=by
  refine zS (zM (n:=194) Tryz.func73 U (by rfl) U (zb U) ?_)
  unfold wp_spec_l03MarkW at h
  refine zg<|zk (zl (n:=194) (σ':=[]) (env':=[(0,.c (.lst (tabs t))),(1,.c (.lst (ints colours))),(2,.c (ci x))]) U U E3)<|zd<|za (ze U) U<|zf<|zg<|zk (zl (n:=194) (σ':=[]) (env':=[(0,.c (.lst (tabs t))),(1,.c (.lst (ints colours))),(2,.c (ci x))]) U U E3)<|zP (kd:=kdl [0,0,0,0,0,1,2,0,0]) (ord:=[0,1,2,3,4,7,5,6,8]) [] mixed (by kernel_rfl)<|zp U U trivial (zc U) U<|zp U U trivial (zJ (f:=ci) U) U<|zp U U trivial (zc U) U<|zp U U trivial (zc U) U ?_
  obtain⟨q1,h⟩:=h
  refine zp U U trivial (zB U U q1) U<|zp U U trivial (ze U) U<|zY U U trivial (zx (f:=ci) U q1) U<|y7 U U trivial U U (zy (id:=28) (ps:=[(0,.tmp 27)]) U U (zb U) U ⟨U,?_⟩)
  refine zp U U trivial (ze U) U<|yh<|zg<|zg<|zd<|za (ze U) U<|zf<|zt ?_
  obtain⟨H1,m1,q2,h⟩:=h
  refine ye (fun (v9_1:Int) (o28_1:List Int)=>⟨[(28,⟨ints o28_1,[]⟩)],[(0,.c (.lst (tabs t))),(1,.c (.lst (ints colours))),(2,.c (ci x)),(7,.c (ci (colours.length:Int))),(8,.ref 28),(9,.c (ci v9_1))],194⟩) H1 m1 ⟨0,[el colours x],zv (n:=194) U U E6,q2⟩ ?_
  rintro v9_1 o28_1 q2
  replace h:=h v9_1 o28_1 q2
  refine zg<|zg<|zd<|za (zc U) U<|za (zc U) U<|za (zJ (f:=(fun r=>C.lst (rows r))) U) U<|za (zO U U) U<|zf<|zm U (fun q3=>?_) (fun q3=>?_)
  ·replace h:=h.1 (zj q3)
   refine zu<|zg<|zt<|zg<|zd<|zn (zy (id:=35) (ps:=[]) U U (zb U) U ⟨U,?_⟩)
   refine za (ze U) U<|zf<|zg<|zg<|zd<|za (ze U) U<|zf<|zt ?_
   obtain⟨H2,m2,q4,h⟩:=h
   refine ye (fun (v11_2:Int) (o35_2:List Int)=>⟨[(35,⟨ints o35_2,[]⟩),(28,⟨ints o28_1,[]⟩)],[(0,.c (.lst (tabs t))),(1,.c (.lst (ints colours))),(2,.c (ci x)),(7,.c (ci (colours.length:Int))),(8,.ref 28),(9,.c (ci v9_1)),(10,.ref 35),(11,.c (ci v11_2))],194⟩) H2 m2 ⟨0,([] : List Int),zv (n:=194) U U E8,q4⟩ ?_
   rintro v11_2 o35_2 q4
   replace h:=h v11_2 o35_2 q4
   refine zg<|zg<|zd<|za (zc U) U<|za (zc U) U<|za (zO U U) U<|zf<|zm U (fun q5=>?_) (fun q5=>?_)
   ·replace h:=h.1 (zj q5)
    refine zu<|zg<|zt<|zg<|zk (zl (n:=194) (σ':=[(35,⟨ints o35_2,[]⟩),(28,⟨ints o28_1,[]⟩)]) (env':=[(0,.c (.lst (tabs t))),(1,.c (.lst (ints colours))),(2,.c (ci x)),(7,.c (ci (colours.length:Int))),(8,.ref 28),(9,.c (ci v9_1)),(10,.ref 35),(11,.c (ci v11_2))]) U U E8)<|zP (kd:=kdl [0,0,0,1,0,0,1,0,0,1,0,0,0,1,0,0,1,0,0,1,0,0]) (ord:=[0,1,2,4,7,10,11,12,14,17,3,5,6,8,9,20,13,15,16,18,19,21]) [] mixed (by kernel_rfl)<|zp U U trivial (zc U) U<|zp U U trivial (zc U) U ?_
    obtain⟨q6,h⟩:=h
    refine zp U U trivial (zB U U q6) U<|zp U U trivial (zc U) U<|zp U U trivial (zc U) U<|zp U U trivial (zc U) U<|zp U U trivial (zc U) U ?_
    obtain⟨q7,h⟩:=h
    refine zp U U trivial (zB U U q7) U<|zp U U trivial (zc U) U<|zp U U trivial (zc U) U<|zY U U trivial (zx (f:=(fun r=>C.lst (rows r))) U q6) U ?_
    obtain⟨q8,h⟩:=h
    refine zp U U trivial (zB U U q8) U<|zY U U trivial (zx (f:=(fun r=>C.lst (ints r))) U q8) U ?_
    obtain⟨q9,h⟩:=h
    refine zp U U trivial (zB U U q9) U<|zY U U trivial (zx (f:=ci) U q9) U<|zp U U trivial (ze U) U<|zY U U trivial (zx (f:=(fun r=>C.lst (rows r))) U q7) U ?_
    obtain⟨q10,h⟩:=h
    refine zp U U trivial (zB U U q10) U<|zY U U trivial (zx (f:=(fun r=>C.lst (ints r))) U q10) U ?_
    obtain⟨q11,h⟩:=h
    refine zp U U trivial (zB U U q11) U<|zY U U trivial (zx (f:=ci) U q11) U<|zp U U trivial (ze U) U<|yh<|zg<|zk (zl (n:=194) (σ':=[(35,⟨ints o35_2,[]⟩),(28,⟨ints o28_1,[]⟩)]) (env':=[(0,.c (.lst (tabs t))),(1,.c (.lst (ints colours))),(2,.c (ci x)),(7,.c (ci (colours.length:Int))),(8,.ref 28),(9,.c (ci v9_1)),(10,.ref 35),(11,.c (ci v11_2)),(12,.c (ci (el (el (el t v9_1) x) v11_2))),(13,.c (ci (el (el (el t v9_1) v11_2) x)))]) U U ⟨U,U,U,U,U,U,U,U,U,U,trivial⟩)<|zd<|za (ze U) U<|zf ?_
    obtain⟨J33,h,j33⟩:=h
    refine aw_join1 (fun (w33_v14:Int)=>⟨[(35,⟨ints o35_2,[]⟩),(28,⟨ints o28_1,[]⟩)],[(0,.c (.lst (tabs t))),(1,.c (.lst (ints colours))),(2,.c (ci x)),(7,.c (ci (colours.length:Int))),(8,.ref 28),(9,.c (ci v9_1)),(10,.ref 35),(11,.c (ci v11_2)),(12,.c (ci (el (el (el t v9_1) x) v11_2))),(13,.c (ci (el (el (el t v9_1) v11_2) x))),(14,.c (ci w33_v14))],194⟩) J33 ?_ ?_
    ·skip
     refine zg<|zd<|za (zc U) U<|za (zc U) U<|za (yE U U) U<|zf<|zm U (fun q12=>?_) (fun q12=>?_)
     ·replace h:=h.1 (zj q12)
      exact zd<|za (ze U) U<|zf<|⟨1,zv (n:=194) U U ⟨U,U,U,U,U,U,U,U,U,U,U,trivial⟩,h⟩
     ·replace h:=h.2 (zh q12)
      exact zu<|⟨0,zv (n:=194) U U ⟨U,U,U,U,U,U,U,U,U,U,U,trivial⟩,h⟩
    ·rintro w33_v14 q13
     replace h:=j33 w33_v14 q13
     obtain⟨J34,h,j34⟩:=h
     refine aw_join1 (fun (w34_v14:Int)=>⟨[(35,⟨ints o35_2,[]⟩),(28,⟨ints o28_1,[]⟩)],[(0,.c (.lst (tabs t))),(1,.c (.lst (ints colours))),(2,.c (ci x)),(7,.c (ci (colours.length:Int))),(8,.ref 28),(9,.c (ci v9_1)),(10,.ref 35),(11,.c (ci v11_2)),(12,.c (ci (el (el (el t v9_1) x) v11_2))),(13,.c (ci (el (el (el t v9_1) v11_2) x))),(14,.c (ci w34_v14))],194⟩) J34 ?_ ?_
     ·skip
      refine zg<|zd<|za (zc U) U<|za (zc U) U<|za (yE U U) U<|zf<|zm U (fun q14=>?_) (fun q14=>?_)
      ·replace h:=h.1 (zj q14)
       refine zd<|za (zc U) U ?_
       obtain⟨q15,h⟩:=h
       exact za (zG U U q15) U<|za (ze U) U<|zf<|⟨w33_v14 + 2,zv (n:=194) U U ⟨U,U,U,U,U,U,U,U,U,U,U,trivial⟩,h⟩
      ·replace h:=h.2 (zh q14)
       exact zu<|⟨w33_v14,zv (n:=194) U U ⟨U,U,U,U,U,U,U,U,U,U,U,trivial⟩,h⟩
     ·rintro w34_v14 q16
      replace h:=j34 w34_v14 q16
      obtain⟨J35,h,j35⟩:=h
      refine aw_join1 (fun (w35_v14:Int)=>⟨[(35,⟨ints o35_2,[]⟩),(28,⟨ints o28_1,[]⟩)],[(0,.c (.lst (tabs t))),(1,.c (.lst (ints colours))),(2,.c (ci x)),(7,.c (ci (colours.length:Int))),(8,.ref 28),(9,.c (ci v9_1)),(10,.ref 35),(11,.c (ci v11_2)),(12,.c (ci (el (el (el t v9_1) x) v11_2))),(13,.c (ci (el (el (el t v9_1) v11_2) x))),(14,.c (ci w35_v14))],194⟩) J35 ?_ ?_
      ·skip
       refine zg<|zd<|za (zc U) U<|za (zc U) U<|za (yE U U) U<|zf<|zm U (fun q17=>?_) (fun q17=>?_)
       ·replace h:=h.1 (zj q17)
        refine zd<|za (zc U) U ?_
        obtain⟨q18,h⟩:=h
        exact za (zG U U q18) U<|za (ze U) U<|zf<|⟨w34_v14 + 4,zv (n:=194) U U ⟨U,U,U,U,U,U,U,U,U,U,U,trivial⟩,h⟩
       ·replace h:=h.2 (zh q17)
        exact zu<|⟨w34_v14,zv (n:=194) U U ⟨U,U,U,U,U,U,U,U,U,U,U,trivial⟩,h⟩
      ·rintro w35_v14 q19
       replace h:=j35 w35_v14 q19
       obtain⟨J36,h,j36⟩:=h
       refine aw_join1 (fun (w36_v14:Int)=>⟨[(35,⟨ints o35_2,[]⟩),(28,⟨ints o28_1,[]⟩)],[(0,.c (.lst (tabs t))),(1,.c (.lst (ints colours))),(2,.c (ci x)),(7,.c (ci (colours.length:Int))),(8,.ref 28),(9,.c (ci v9_1)),(10,.ref 35),(11,.c (ci v11_2)),(12,.c (ci (el (el (el t v9_1) x) v11_2))),(13,.c (ci (el (el (el t v9_1) v11_2) x))),(14,.c (ci w36_v14))],194⟩) J36 ?_ ?_
       ·skip
        refine zg<|zd<|za (zc U) U<|za (zc U) U<|za (yE U U) U<|zf<|zm U (fun q20=>?_) (fun q20=>?_)
        ·replace h:=h.1 (zj q20)
         refine zd<|za (zc U) U ?_
         obtain⟨q21,h⟩:=h
         exact za (zG U U q21) U<|za (ze U) U<|zf<|⟨w35_v14 + 8,zv (n:=194) U U ⟨U,U,U,U,U,U,U,U,U,U,U,trivial⟩,h⟩
        ·replace h:=h.2 (zh q20)
         exact zu<|⟨w35_v14,zv (n:=194) U U ⟨U,U,U,U,U,U,U,U,U,U,U,trivial⟩,h⟩
       ·rintro w36_v14 q22
        replace h:=j36 w36_v14 q22
        refine zk (zl (n:=194) (σ':=[(35,⟨ints o35_2,[]⟩),(28,⟨ints o28_1,[]⟩)]) (env':=[(0,.c (.lst (tabs t))),(1,.c (.lst (ints colours))),(2,.c (ci x)),(7,.c (ci (colours.length:Int))),(8,.ref 28),(9,.c (ci v9_1)),(10,.ref 35),(11,.c (ci v11_2)),(12,.c (ci (el (el (el t v9_1) x) v11_2))),(13,.c (ci (el (el (el t v9_1) v11_2) x))),(14,.c (ci w36_v14))]) U U ⟨U,U,U,U,U,U,U,U,U,U,U,trivial⟩)<|zP (kd:=kdl [0,0,0,0,1,0,0,0,0,1,0,0,0,0,0,1,0,0,0,0,2,2,0]) (ord:=[0,1,2,3,6,7,8,12,13,14,18,4,5,9,10,11,15,16,17,19,20,21,22]) [35,99] mixed (by kernel_rfl)<|zp U U trivial (zc U) U<|zp U U trivial (zc U) U<|zp U U trivial (zc U) U ?_
        obtain⟨q23,h⟩:=h
        refine zp U U trivial (zB U U q23) U<|zp U U trivial (zc U) U<|zp U U trivial (zc U) U ?_
        obtain⟨q24,h⟩:=h
        refine zp U U trivial (zB U U q24) U<|zp U U trivial (zc U) U<|zp U U trivial (zc U) U ?_
        obtain⟨q25,h⟩:=h
        refine zp U U trivial (zB U U q25) U<|zp U U trivial (zc U) U<|zY U U trivial (zx (f:=ci) U q23) U ?_
        obtain⟨q26,h⟩:=h
        refine zp U U trivial (ss_mul U U q26) U<|zY U U trivial (zx (f:=ci) U q24) U ?_
        obtain⟨q27,h⟩:=h
        refine zp U U trivial (zG U U q27) U ?_
        obtain⟨q28,h⟩:=h
        refine zp U U trivial (ss_mul U U q28) U<|zY U U trivial (zx (f:=ci) U q25) U ?_
        obtain⟨q29,h⟩:=h
        refine zp U U trivial (zG U U q29) U ?_
        obtain⟨q30,h⟩:=h
        refine zp U U trivial (ss_mul U U q30) U ?_
        obtain⟨q31,h⟩:=h
        refine zp U U trivial (zG U U q31) U<|y7 U U trivial U U (zy (id:=99) (ps:=[(0,.tmp 98)]) U U (zb U) U ⟨U,?_⟩)
        obtain⟨q32,h⟩:=h
        refine y7 U U trivial U U (yx ci (l:=o35_2) (m:=[((((((el colours v11_2) * 64) + (el colours (el (el (el t v9_1) x) v11_2))) * 64) + (el colours (el (el (el t v9_1) v11_2) x))) * 16) + w36_v14]) U U U U U (zb U) q32 ⟨U,?_⟩)
        refine zp U U trivial (ze U) U<|yh<|zk (zl (n:=194) (σ':=[(35,⟨ints (o35_2 ++ ([((((((el colours v11_2) * 64) + (el colours (el (el (el t v9_1) x) v11_2))) * 64) + (el colours (el (el (el t v9_1) v11_2) x))) * 16) + w36_v14])),[]⟩),(28,⟨ints o28_1,[]⟩)]) (env':=[(0,.c (.lst (tabs t))),(1,.c (.lst (ints colours))),(2,.c (ci x)),(7,.c (ci (colours.length:Int))),(8,.ref 28),(9,.c (ci v9_1)),(10,.ref 35),(11,.c (ci v11_2))]) U U E8)<|zd<|za (zc U) U ?_
        obtain⟨q33,h⟩:=h
        exact za (zG U U q33) U<|za (ze U) U<|zf<|⟨v11_2 + 1,o35_2 ++ ([((((((el colours v11_2) * 64) + (el colours (el (el (el t v9_1) x) v11_2))) * 64) + (el colours (el (el (el t v9_1) v11_2) x))) * 16) + w36_v14]),zv (n:=194) U U E8,h.1,h.2⟩
   ·replace h:=h.2 (zh q5)
    refine zL<|zg<|zd<|za (zc U) U ?_
    obtain⟨q34,h⟩:=h
    refine zn (yZ (id:=102) ci (0:Int) U U U q34 (zb U) U ⟨U,?_⟩)
    refine za (ze U) U<|zf<|zg<|zg<|zd<|za (ze U) U<|zf<|zt ?_
    obtain⟨H3,m3,q35,h⟩:=h
    refine ye (fun (v16_3:Int) (o102_3:List Int)=>⟨[(102,⟨ints o102_3,[]⟩),(35,⟨ints o35_2,[]⟩),(28,⟨ints o28_1,[]⟩)],[(0,.c (.lst (tabs t))),(1,.c (.lst (ints colours))),(2,.c (ci x)),(7,.c (ci (colours.length:Int))),(8,.ref 28),(9,.c (ci v9_1)),(10,.ref 35),(15,.ref 102),(16,.c (ci v16_3))],194⟩) H3 m3 ⟨0,List.replicate (colours.length:Int).toNat (0:Int),zv (n:=194) U U E9,q35⟩ ?_
    rintro v16_3 o102_3 q35
    replace h:=h v16_3 o102_3 q35
    refine zg<|zg<|zd<|za (zc U) U<|za (zc U) U<|za (zO U U) U<|zf<|zm U (fun q36=>?_) (fun q36=>?_)
    ·replace h:=h.1 (zj q36)
     refine zu<|zg<|zt<|zg<|zd<|za (ze U) U<|zf<|zt ?_
     obtain⟨H4,m4,q37,h⟩:=h
     refine ye (fun (v17_4:Int) (o102_4:List Int)=>⟨[(102,⟨ints o102_4,[]⟩),(35,⟨ints o35_2,[]⟩),(28,⟨ints o28_1,[]⟩)],[(0,.c (.lst (tabs t))),(1,.c (.lst (ints colours))),(2,.c (ci x)),(7,.c (ci (colours.length:Int))),(8,.ref 28),(9,.c (ci v9_1)),(10,.ref 35),(15,.ref 102),(16,.c (ci v16_3)),(17,.c (ci v17_4))],194⟩) H4 m4 ⟨0,o102_3,zv (n:=194) U U ⟨U,U,U,U,U,U,U,U,U,U,trivial⟩,q37⟩ ?_
     rintro v17_4 o102_4 q37
     replace h:=h v17_4 o102_4 q37
     refine zg<|zg<|zd<|za (zc U) U<|za (zc U) U<|za (zO U U) U<|zf<|zm U (fun q38=>?_) (fun q38=>?_)
     ·replace h:=h.1 (zj q38)
      refine zu<|zg<|zt<|zg<|zd<|za (zc U) U<|za (zc U) U ?_
      obtain⟨q39,h⟩:=h
      refine za (zB U U q39) U<|za (zx (f:=(fun r=>C.lst (rows r))) U q39) U<|za (zc U) U ?_
      obtain⟨q40,h⟩:=h
      refine za (zB U U q40) U<|za (zx (f:=(fun r=>C.lst (ints r))) U q40) U<|za (zc U) U ?_
      obtain⟨q41,h⟩:=h
      refine za (zB U U q41) U<|za (zx (f:=ci) U q41) U<|za (zc U) U<|za (yE U U) U<|zf<|zm U (fun q42=>?_) (fun q42=>?_)
      ·replace h:=h.1 (zj q42)
       refine zd<|za (zc U) U<|za (zc U) U ?_
       obtain⟨q43,h⟩:=h
       refine za (zR (f:=ci) U U U q43) U<|za (yi (f:=ci) U U q43 U U) U ?_
       obtain⟨q44,h⟩:=h
       refine za (zG U U q44) U ?_
       obtain⟨q45,h⟩:=h
       refine za (zR (f:=ci) U U U q45) U<|zn (yo U U (yN q45) U U (yO (f:=ci)) U ⟨U,?_⟩)
       refine zf<|zk (zl (n:=194) (σ':=[(102,⟨ints (se o102_4 v16_3 ((el o102_4 v16_3) + 1)),[]⟩),(35,⟨ints o35_2,[]⟩),(28,⟨ints o28_1,[]⟩)]) (env':=[(0,.c (.lst (tabs t))),(1,.c (.lst (ints colours))),(2,.c (ci x)),(7,.c (ci (colours.length:Int))),(8,.ref 28),(9,.c (ci v9_1)),(10,.ref 35),(15,.ref 102),(16,.c (ci v16_3)),(17,.c (ci v17_4))]) U U ⟨U,U,U,U,U,U,U,U,U,U,trivial⟩)<|zd<|za (zc U) U ?_
       obtain⟨q46,h⟩:=h
       exact za (zG U U q46) U<|za (ze U) U<|zf<|⟨v17_4 + 1,se o102_4 v16_3 ((el o102_4 v16_3) + 1),zv (n:=194) U U ⟨U,U,U,U,U,U,U,U,U,U,trivial⟩,h.1,h.2⟩
      ·replace h:=h.2 (zh q42)
       refine zu<|zk (zl (n:=194) (σ':=[(102,⟨ints o102_4,[]⟩),(35,⟨ints o35_2,[]⟩),(28,⟨ints o28_1,[]⟩)]) (env':=[(0,.c (.lst (tabs t))),(1,.c (.lst (ints colours))),(2,.c (ci x)),(7,.c (ci (colours.length:Int))),(8,.ref 28),(9,.c (ci v9_1)),(10,.ref 35),(15,.ref 102),(16,.c (ci v16_3)),(17,.c (ci v17_4))]) U U ⟨U,U,U,U,U,U,U,U,U,U,trivial⟩)<|zd<|za (zc U) U ?_
       obtain⟨q47,h⟩:=h
       exact za (zG U U q47) U<|za (ze U) U<|zf<|⟨v17_4 + 1,o102_4,zv (n:=194) U U ⟨U,U,U,U,U,U,U,U,U,U,trivial⟩,h.1,h.2⟩
     ·replace h:=h.2 (zh q38)
      refine zL<|zd<|za (zc U) U ?_
      obtain⟨q48,h⟩:=h
      exact za (zG U U q48) U<|za (ze U) U<|zf<|⟨v16_3 + 1,o102_4,zv (n:=194) U U E9,h.1,h.2⟩
    ·replace h:=h.2 (zh q36)
     refine zL<|zg<|zg<|zd<|za (ze U) U<|zf<|zt ?_
     obtain⟨H5,m5,q49,h⟩:=h
     refine ye (fun (v18_4:Int) (o35_4:List Int)=>⟨[(102,⟨ints o102_3,[]⟩),(35,⟨ints o35_4,[]⟩),(28,⟨ints o28_1,[]⟩)],[(0,.c (.lst (tabs t))),(1,.c (.lst (ints colours))),(2,.c (ci x)),(7,.c (ci (colours.length:Int))),(8,.ref 28),(9,.c (ci v9_1)),(10,.ref 35),(15,.ref 102),(18,.c (ci v18_4))],194⟩) H5 m5 ⟨0,o35_2,zv (n:=194) U U E9,q49⟩ ?_
     rintro v18_4 o35_4 q49
     replace h:=h v18_4 o35_4 q49
     refine zg<|zg<|zd<|za (zc U) U<|za (zc U) U<|za (zO U U) U<|zf<|zm U (fun q50=>?_) (fun q50=>?_)
     ·replace h:=h.1 (zj q50)
      refine zu<|zg<|zt<|zk (zl (n:=194) (σ':=[(102,⟨ints o102_3,[]⟩),(35,⟨ints o35_4,[]⟩),(28,⟨ints o28_1,[]⟩)]) (env':=[(0,.c (.lst (tabs t))),(1,.c (.lst (ints colours))),(2,.c (ci x)),(7,.c (ci (colours.length:Int))),(8,.ref 28),(9,.c (ci v9_1)),(10,.ref 35),(15,.ref 102),(18,.c (ci v18_4))]) U U E9)<|zP (kd:=kdl [0,0,0,0,1,0,0,0,0,0,1,0,2,2,0]) (ord:=[0,1,2,3,7,8,9,4,5,6,10,11,12,13,14]) [35,148] mixed (by kernel_rfl)<|zp U U trivial (zc U) U<|zp U U trivial (zc U) U<|zp U U trivial (zc U) U ?_
      obtain⟨q51,h⟩:=h
      refine zp U U trivial (zB U U q51) U<|zp U U trivial (zc U) U<|zp U U trivial (zc U) U ?_
      obtain⟨q52,h⟩:=h
      refine zp U U trivial (zR (f:=ci) U U U q52) U<|zY U U trivial (zx (f:=ci) U q51) U ?_
      obtain⟨q53,h⟩:=h
      refine zp U U trivial (ss_mul U U q53) U ?_
      obtain⟨q54,h⟩:=h
      refine zp U U trivial (zG U U q54) U<|zY U U trivial (yi (f:=ci) U U q52 U U) U ?_
      obtain⟨q55,h⟩:=h
      refine zp U U trivial (zG U U q55) U<|y7 U U trivial U U (zy (id:=148) (ps:=[(0,.tmp 147)]) U U (zb U) U ⟨U,?_⟩)
      obtain⟨q56,h⟩:=h
      refine y7 U U trivial U U (yx ci (l:=o35_4) (m:=[(1099511627776 + ((el colours v18_4) * 64)) + (el o102_3 v18_4)]) U U U U U (zb U) q56 ⟨U,?_⟩)
      refine zp U U trivial (ze U) U<|yh<|zd<|za (zc U) U ?_
      obtain⟨q57,h⟩:=h
      exact za (zG U U q57) U<|za (ze U) U<|zf<|⟨v18_4 + 1,o35_4 ++ ([(1099511627776 + ((el colours v18_4) * 64)) + (el o102_3 v18_4)]),zv (n:=194) U U E9,h.1,h.2⟩
     ·replace h:=h.2 (zh q50)
      refine zL<|zg<|zg<|zd<|za (ze U) U<|zf<|zt<|zk (yd (id:=102) ci U (fun _=>U)) ?_
      obtain⟨H6,m6,q58,h⟩:=h
      refine ye (fun (v19_5:Int) (o35_5:List Int)=>⟨[(35,⟨ints o35_5,[]⟩),(28,⟨ints o28_1,[]⟩)],[(0,.c (.lst (tabs t))),(1,.c (.lst (ints colours))),(2,.c (ci x)),(7,.c (ci (colours.length:Int))),(8,.ref 28),(9,.c (ci v9_1)),(10,.ref 35),(19,.c (ci v19_5))],194⟩) H6 m6 ⟨1,o35_4,zv (n:=194) U U E8,q58⟩ ?_
      rintro v19_5 o35_5 q58
      replace h:=h v19_5 o35_5 q58
      refine zg<|zg<|zd<|za (zc U) U<|za (zc U) U<|za (yR (f:=ci) U U) U<|za (zO U U) U<|zf<|zm U (fun q59=>?_) (fun q59=>?_)
      ·replace h:=h.1 (zj q59)
       refine zu<|zg<|zt<|zg<|zd<|za (zc U) U<|za (ze U) U<|zf<|zt ?_
       obtain⟨H7,m7,q60,h⟩:=h
       refine ye (fun (v20_6:Int) (o35_6:List Int)=>⟨[(35,⟨ints o35_6,[]⟩),(28,⟨ints o28_1,[]⟩)],[(0,.c (.lst (tabs t))),(1,.c (.lst (ints colours))),(2,.c (ci x)),(7,.c (ci (colours.length:Int))),(8,.ref 28),(9,.c (ci v9_1)),(10,.ref 35),(19,.c (ci v19_5)),(20,.c (ci v20_6))],194⟩) H7 m7 ⟨v19_5,o35_5,zv (n:=194) U U E9,q60⟩ ?_
       rintro v20_6 o35_6 q60
       replace h:=h v20_6 o35_6 q60
       refine zg<|zg<|zk (zl (n:=194) (σ':=[(35,⟨ints o35_6,[]⟩),(28,⟨ints o28_1,[]⟩)]) (env':=[(0,.c (.lst (tabs t))),(1,.c (.lst (ints colours))),(2,.c (ci x)),(7,.c (ci (colours.length:Int))),(8,.ref 28),(9,.c (ci v9_1)),(10,.ref 35),(19,.c (ci v19_5)),(20,.c (ci v20_6))]) U U E9)<|zP (kd:=kdl [0,0,0,0,0,0,1,0,0,0,0,1,0,0]) (ord:=[0,1,2,3,4,5,7,8,9,10,6,11,12,13]) [] mixed (by kernel_rfl)<|zp U U trivial (zc U) U<|zp U U trivial (ss_gtr U U) U<|zp U U trivial (zc U) U<|xh (s:=159) U (fun q61=>?_) (fun q61=>?_)
       ·replace h:=h.1 (zj q61)
        refine zp U U ⟨_,_,U,U,q61⟩ (zc U) U<|zp U U ⟨_,_,U,U,q61⟩ (zc U) U ?_
        obtain⟨q62,h⟩:=h
        refine zp U U ⟨_,_,U,U,q61⟩ (zR (f:=ci) U U U q62) U<|zp U U ⟨_,_,U,U,q61⟩ (zc U) U<|zp U U ⟨_,_,U,U,q61⟩ (zc U) U ?_
        obtain⟨q63,h⟩:=h
        refine zp U U ⟨_,_,U,U,q61⟩ (yS U U q63) U ?_
        obtain⟨q64,h⟩:=h
        refine zp U U ⟨_,_,U,U,q61⟩ (zR (f:=ci) U U U q64) U<|zY U U ⟨_,_,U,U,q61⟩ (yi (f:=ci) U U q62 U U) U<|zY U U ⟨_,_,U,U,q61⟩ (yi (f:=ci) U U q64 U U) U<|zp U U ⟨_,_,U,U,q61⟩ (zO U U) U<|zp U U trivial (zU U q61 U) U<|yh<|zm U (fun q65=>?_) (fun q65=>?_)
        ·replace h:=h.1 (zj q65)
         refine zu<|zg<|zt<|zg<|zd<|za (zc U) U<|za (zc U) U ?_
         obtain⟨q66,h⟩:=h
         refine za (zR (f:=ci) U U U q66) U<|za (yi (f:=ci) U U q66 U U) U<|za (ze U) U<|zf<|zg<|zd<|za (zc U) U<|za (zc U) U<|za (zc U) U<|za (zc U) U ?_
         obtain⟨q67,h⟩:=h
         refine za (yS U U q67) U ?_
         obtain⟨q68,h⟩:=h
         refine za (zR (f:=ci) U U U q68) U<|za (yi (f:=ci) U U q68 U U) U ?_
         obtain⟨q69,h⟩:=h
         refine za (zR (f:=ci) U U U q69) U<|zn (yo U U (yN q69) U U (yO (f:=ci)) U ⟨U,?_⟩)
         refine zf<|zk (zl (n:=194) (σ':=[(35,⟨ints (se o35_6 v20_6 (el o35_6 (v20_6 - 1))),[]⟩),(28,⟨ints o28_1,[]⟩)]) (env':=[(0,.c (.lst (tabs t))),(1,.c (.lst (ints colours))),(2,.c (ci x)),(7,.c (ci (colours.length:Int))),(8,.ref 28),(9,.c (ci v9_1)),(10,.ref 35),(19,.c (ci v19_5)),(20,.c (ci v20_6)),(21,.c (ci (el o35_6 v20_6))),(160,.ref 35),(161,.c (ci v20_6)),(162,.cell 35 v20_6.toNat),(163,.c (ci (el o35_6 v20_6))),(164,.ref 35),(165,.c (ci v20_6)),(166,.c (ci (v20_6 - 1))),(167,.cell 35 (v20_6 - 1).toNat),(168,.c (ci (el o35_6 (v20_6 - 1)))),(169,.c (cb (decide (el o35_6 v20_6 < el o35_6 (v20_6 - 1)))))]) U U ⟨U,U,U,U,U,U,U,U,U,U,U,U,U,U,U,U,U,U,U,U,trivial⟩)<|zd<|za (zc U) U<|za (zc U) U ?_
         obtain⟨q70,h⟩:=h
         refine za (yS U U q70) U<|za (zc U) U ?_
         obtain⟨q71,h⟩:=h
         refine za (zR (f:=ci) U U U q71) U<|zn (yo U U (yN q71) U U (yO (f:=ci)) U ⟨U,?_⟩)
         refine zf<|zk (zl (n:=194) (σ':=[(35,⟨ints (se (se o35_6 v20_6 (el o35_6 (v20_6 - 1))) (v20_6 - 1) (el o35_6 v20_6)),[]⟩),(28,⟨ints o28_1,[]⟩)]) (env':=[(0,.c (.lst (tabs t))),(1,.c (.lst (ints colours))),(2,.c (ci x)),(7,.c (ci (colours.length:Int))),(8,.ref 28),(9,.c (ci v9_1)),(10,.ref 35),(19,.c (ci v19_5)),(20,.c (ci v20_6)),(160,.ref 35),(161,.c (ci v20_6)),(162,.cell 35 v20_6.toNat),(163,.c (ci (el o35_6 v20_6))),(164,.ref 35),(165,.c (ci v20_6)),(166,.c (ci (v20_6 - 1))),(167,.cell 35 (v20_6 - 1).toNat),(168,.c (ci (el o35_6 (v20_6 - 1)))),(169,.c (cb (decide (el o35_6 v20_6 < el o35_6 (v20_6 - 1)))))]) U U ⟨U,U,U,U,U,U,U,U,U,U,U,U,U,U,U,U,U,U,U,trivial⟩)<|zd<|za (zc U) U ?_
         obtain⟨q72,h⟩:=h
         exact za (yS U U q72) U<|za (ze U) U<|zf<|⟨v20_6 - 1,se (se o35_6 v20_6 (el o35_6 (v20_6 - 1))) (v20_6 - 1) (el o35_6 v20_6),zv (n:=194) U U E9,h.1,h.2⟩
        ·replace h:=h.2 (zh q65)
         refine zL<|zk (zl (n:=194) (σ':=[(35,⟨ints o35_6,[]⟩),(28,⟨ints o28_1,[]⟩)]) (env':=[(0,.c (.lst (tabs t))),(1,.c (.lst (ints colours))),(2,.c (ci x)),(7,.c (ci (colours.length:Int))),(8,.ref 28),(9,.c (ci v9_1)),(10,.ref 35),(19,.c (ci v19_5)),(160,.ref 35),(161,.c (ci v20_6)),(162,.cell 35 v20_6.toNat),(163,.c (ci (el o35_6 v20_6))),(164,.ref 35),(165,.c (ci v20_6)),(166,.c (ci (v20_6 - 1))),(167,.cell 35 (v20_6 - 1).toNat),(168,.c (ci (el o35_6 (v20_6 - 1)))),(169,.c (cb (decide (el o35_6 v20_6 < el o35_6 (v20_6 - 1)))))]) U U ⟨U,U,U,U,U,U,U,U,U,U,U,U,U,U,U,U,U,U,trivial⟩)<|zd<|za (zc U) U ?_
         obtain⟨q73,h⟩:=h
         exact za (zG U U q73) U<|za (ze U) U<|zf<|⟨v19_5 + 1,o35_6,zv (n:=194) U U E8,h.1,h.2⟩
       ·replace h:=h.2 (zh q61)
        refine zW U U U q61 U<|zW U U U q61 U<|zW U U U q61 U<|zW U U U q61 U<|zW U U U q61 U<|zW U U U q61 U<|zW U U U q61 U<|zW U U U q61 U<|zW U U U q61 U<|zW U U U q61 U<|zp U U trivial (zV U q61 U) U<|yh<|zm U (fun q74=>?_) (fun q74=>?_)
        ·cases q74
        ·skip
         refine zL<|zk (zl (n:=194) (σ':=[(35,⟨ints o35_6,[]⟩),(28,⟨ints o28_1,[]⟩)]) (env':=[(0,.c (.lst (tabs t))),(1,.c (.lst (ints colours))),(2,.c (ci x)),(7,.c (ci (colours.length:Int))),(8,.ref 28),(9,.c (ci v9_1)),(10,.ref 35),(19,.c (ci v19_5))]) U U E8)<|zd<|za (zc U) U ?_
         obtain⟨q75,h⟩:=h
         exact za (zG U U q75) U<|za (ze U) U<|zf<|⟨v19_5 + 1,o35_6,zv (n:=194) U U E8,h.1,h.2⟩
      ·replace h:=h.2 (zh q59)
       refine zL<|zd<|za (zc U) U<|za (zc U) U ?_
       obtain⟨q76,h⟩:=h
       refine zn (yx ci (l:=o28_1) (m:=o35_5) U U U U U (zb U) q76 ⟨U,?_⟩)
       refine za (ze U) U<|zf<|zd<|za (zc U) U ?_
       obtain⟨q77,h⟩:=h
       exact za (zG U U q77) U<|za (ze U) U<|zf<|⟨v9_1 + 1,o28_1 ++ o35_5,zv (n:=194) U U E6,h.1,h.2⟩
  ·replace h:=h.2 (zh q3)
   exact zL<|zg<|zk (zl (n:=194) (σ':=[(28,⟨ints o28_1,[]⟩)]) (env':=[(8,.ref 28)]) U U E1)<|zd<|za (zc U) U<|za (ze U) U<|zf<|zA<|zr (zH U (zw U)) U U ⟨_,(zq _),_,h,U⟩
theorem c_spec_l03MarkW (t:List (List (List Int))) (colours:List Int) (x:Int) (hp:MkD t colours x):AF Tryz.prog 73 [.lst (tabs t),.lst (ints colours),ci x] (fun R_=>R_ = .own (ints (mrkI t colours x))):=
  (w_spec_l03MarkW t colours x (fun y0=>y0 = mrkI t colours x) (p_spec_l03MarkW t colours x hp)).mono (by rintro r ⟨_,rfl,rfl⟩; rfl)
theorem w_spec_l03Refine (a:List (List (List Int))) (b:List (List (List Int))) (first:List Int) (second:List Int) (Q:List Int->List Int->Bool->Prop) (h:wp_spec_l03Refine a b first second Q):AF Tryz.prog 47 [.lst (tabs a),.lst (tabs b),.lst (ints first),.lst (ints second)] (fun R_=>∃ y0 y1 y2,Q y0 y1 y2/\R_ = .tup [.lst (ints y0),.lst (ints y1),cb y2]):=by
  refine zS (zM (n:=173) Tryz.func47 U (by rfl) U (zb U) ?_)
  unfold wp_spec_l03Refine at h
  refine zg<|zk (zl (n:=173) (σ':=[]) (env':=[(0,.c (.lst (tabs a))),(1,.c (.lst (tabs b))),(2,.c (.lst (ints first))),(3,.c (.lst (ints second)))]) U U E4)<|zd<|za (ze U) U<|za (ze U) U<|za (ze U) U<|zf<|zg<|zd<|za (zc U) U<|za (zJ (f:=ci) U) U<|za (ze U) U<|zf<|zg<|zd<|za (ze U) U<|zf<|zt ?_
  obtain⟨H1,m1,q1,h⟩:=h
  refine aw_loop3 (fun (v2_1:List Int) (v3_1:List Int) (v12_1:Int)=>⟨[],[(0,.c (.lst (tabs a))),(1,.c (.lst (tabs b))),(2,.c (.lst (ints v2_1))),(3,.c (.lst (ints v3_1))),(11,.c (ci (first.length:Int))),(12,.c (ci v12_1))],173⟩) H1 m1 ⟨first,second,0,zv (n:=173) U U E6,q1⟩ ?_
  rintro v2_1 v3_1 v12_1 q1
  replace h:=h v2_1 v3_1 v12_1 q1
  refine zt<|zg<|zd<|zn (zy (id:=27) (ps:=[]) U U (zb U) U ⟨U,?_⟩)
  refine za (ze U) U<|zf<|zg<|zg<|zd<|za (ze U) U<|zf<|zt ?_
  obtain⟨H2,m2,q2,h⟩:=h
  refine ye (fun (v14_2:Int) (o27_2:List (List Int))=>⟨[(27,⟨rows o27_2,[]⟩)],[(0,.c (.lst (tabs a))),(1,.c (.lst (tabs b))),(2,.c (.lst (ints v2_1))),(3,.c (.lst (ints v3_1))),(11,.c (ci (first.length:Int))),(12,.c (ci v12_1)),(13,.ref 27),(14,.c (ci v14_2))],173⟩) H2 m2 ⟨0,([] : List (List Int)),zv (n:=173) U U E8,q2⟩ ?_
  rintro v14_2 o27_2 q2
  replace h:=h v14_2 o27_2 q2
  refine zg<|zg<|zd<|za (zc U) U<|za (zc U) U<|za (zO U U) U<|zf<|zm U (fun q3=>?_) (fun q3=>?_)
  ·replace h:=h.1 (zj q3)
   refine zu<|zg<|zt<|zd<|za (zc U) U<|za (zc U) U<|za (zc U) U<|za (zc U) U ?_
   obtain⟨q4,h⟩:=h
   refine zn (zF (xs:=[.tmp 34,.tmp 35,.tmp 36]) (ids:=[37]) U U U U (c_spec_l03MarkW a v2_1 v14_2 q4) U ?_)
   rintro _ rfl
   refine⟨U,?_⟩
   refine yF (yd (id:=37) ci U (fun _=>U))<|zn (zy (id:=38) (ps:=[(0,.tmp 37)]) U U (zb U) U ⟨U,?_⟩)
   obtain⟨q6,h⟩:=h
   refine zn (yx (fun r=>C.lst (ints r)) (l:=o27_2) (m:=[mrkI a v2_1 v14_2]) U U U U U (zb U) q6 ⟨U,?_⟩)
   refine za (ze U) U<|zf<|zd<|za (zc U) U ?_
   obtain⟨q7,h⟩:=h
   exact za (zG U U q7) U<|za (ze U) U<|zf<|⟨v14_2 + 1,o27_2 ++ ([mrkI a v2_1 v14_2]),zv (n:=173) U U E8,h.1,h.2⟩
  ·replace h:=h.2 (zh q3)
   refine zL<|zg<|zg<|zd<|za (ze U) U<|zf<|zt ?_
   obtain⟨H3,m3,q8,h⟩:=h
   refine ye (fun (v15_3:Int) (o27_3:List (List Int))=>⟨[(27,⟨rows o27_3,[]⟩)],[(0,.c (.lst (tabs a))),(1,.c (.lst (tabs b))),(3,.c (.lst (ints v3_1))),(11,.c (ci (first.length:Int))),(12,.c (ci v12_1)),(13,.ref 27),(15,.c (ci v15_3))],173⟩) H3 m3 ⟨0,o27_2,zv (n:=173) U U E7,q8⟩ ?_
   rintro v15_3 o27_3 q8
   replace h:=h v15_3 o27_3 q8
   refine zg<|zg<|zd<|za (zc U) U<|za (zc U) U<|za (zO U U) U<|zf<|zm U (fun q9=>?_) (fun q9=>?_)
   ·replace h:=h.1 (zj q9)
    refine zu<|zg<|zt<|zd<|za (zc U) U<|za (zc U) U<|za (zc U) U<|za (zc U) U ?_
    obtain⟨q10,h⟩:=h
    refine zn (zF (xs:=[.tmp 46,.tmp 47,.tmp 48]) (ids:=[49]) U U U U (c_spec_l03MarkW b v3_1 v15_3 q10) U ?_)
    rintro _ rfl
    refine⟨U,?_⟩
    refine yF (yd (id:=49) ci U (fun _=>U))<|zn (zy (id:=50) (ps:=[(0,.tmp 49)]) U U (zb U) U ⟨U,?_⟩)
    obtain⟨q12,h⟩:=h
    refine zn (yx (fun r=>C.lst (ints r)) (l:=o27_3) (m:=[mrkI b v3_1 v15_3]) U U U U U (zb U) q12 ⟨U,?_⟩)
    refine za (ze U) U<|zf<|zd<|za (zc U) U ?_
    obtain⟨q13,h⟩:=h
    exact za (zG U U q13) U<|za (ze U) U<|zf<|⟨v15_3 + 1,o27_3 ++ ([mrkI b v3_1 v15_3]),zv (n:=173) U U E7,h.1,h.2⟩
   ·replace h:=h.2 (zh q9)
    refine zL<|zg<|zd<|zn (zy (id:=52) (ps:=[]) U U (zb U) U ⟨U,?_⟩)
    refine za (ze U) U<|zf<|zk (yd (id:=52) (f:=(fun r=>C.lst (ints r))) (l:=[]) (fun r=>C.lst (ints r)) U (fun _=>U))<|zg<|zg<|zd<|za (ze U) U<|zf<|zt ?_
    obtain⟨H4,m4,q14,h⟩:=h
    refine ye (fun (v16_4:List (List Int)) (v17_4:Int)=>⟨[(27,⟨rows o27_3,[]⟩)],[(0,.c (.lst (tabs a))),(1,.c (.lst (tabs b))),(11,.c (ci (first.length:Int))),(12,.c (ci v12_1)),(13,.ref 27),(16,.c (.lst (rows v16_4))),(17,.c (ci v17_4))],173⟩) H4 m4 ⟨([] : List (List Int)),0,zv (n:=173) U U E7,q14⟩ ?_
    rintro v16_4 v17_4 q14
    replace h:=h v16_4 v17_4 q14
    refine zg<|zg<|zd<|za (zc U) U<|za (zc U) U<|za (yR (f:=(fun r=>C.lst (ints r))) U U) U<|za (zO U U) U<|zf<|zm U (fun q15=>?_) (fun q15=>?_)
    ·replace h:=h.1 (zj q15)
     refine zu<|zg<|zt<|zg<|zd<|za (ze U) U<|zf<|zg<|zt ?_
     obtain⟨H5,m5,q16,h⟩:=h
     refine yy (fun (v18_5:Int)=>⟨[(27,⟨rows o27_3,[]⟩)],[(0,.c (.lst (tabs a))),(1,.c (.lst (tabs b))),(11,.c (ci (first.length:Int))),(12,.c (ci v12_1)),(13,.ref 27),(16,.c (.lst (rows v16_4))),(17,.c (ci v17_4)),(18,.c (ci v18_5))],173⟩) H5 m5 ⟨0,zv (n:=173) U U E8,q16⟩ ?_
     rintro v18_5 q16
     replace h:=h v18_5 q16
     refine zg<|zg<|zk (zl (n:=173) (σ':=[(27,⟨rows o27_3,[]⟩)]) (env':=[(0,.c (.lst (tabs a))),(1,.c (.lst (tabs b))),(11,.c (ci (first.length:Int))),(12,.c (ci v12_1)),(13,.ref 27),(16,.c (.lst (rows v16_4))),(17,.c (ci v17_4)),(18,.c (ci v18_5))]) U U E8)<|zP (kd:=kdl [0,0,0,0,0,0,0,0,1,0,0,0,1,2,0]) (ord:=[0,1,2,3,4,5,6,7,9,10,11,8,12,13,14]) [] mixed (by kernel_rfl)<|zp U U trivial (zc U) U<|zp U U trivial (zc U) U<|zp U U trivial (zJ (f:=(fun r=>C.lst (ints r))) U) U<|zp U U trivial (zO U U) U<|zp U U trivial (zc U) U<|xh (s:=63) U (fun q17=>?_) (fun q17=>?_)
     ·replace h:=h.1 (zj q17)
      refine zp U U ⟨_,_,U,U,q17⟩ (zc U) U<|zp U U ⟨_,_,U,U,q17⟩ (zc U) U ?_
      obtain⟨q18,h⟩:=h
      refine zp U U ⟨_,_,U,U,q17⟩ (zB U U q18) U<|zp U U ⟨_,_,U,U,q17⟩ (zc U) U<|zp U U ⟨_,_,U,U,q17⟩ (zc U) U ?_
      obtain⟨q19,h⟩:=h
      refine zp U U ⟨_,_,U,U,q17⟩ (zR (f:=(fun r=>C.lst (ints r))) U U U q19) U<|zY U U ⟨_,_,U,U,q17⟩ (zx (f:=(fun r=>C.lst (ints r))) U q18) U<|zY U U ⟨_,_,U,U,q17⟩ (yi (f:=(fun r=>C.lst (ints r))) U U q19 U U) U ?_
      obtain⟨q20,h⟩:=h
      refine y7 U U ⟨_,_,U,U,q17⟩ U U (zF (xs:=[.tmp 67,.tmp 71]) (ids:=[]) U U U U (c_spec_l01Less (el v16_4 v18_5) (el o27_3 v17_4) q20) U ?_)
      rintro _ rfl
      refine⟨U,?_⟩
      refine zp U U trivial (zU U q17 U) U<|yh<|zm U (fun q22=>?_) (fun q22=>?_)
      ·replace h:=h.1 (zj q22)
       refine zu<|zt<|zd<|za (zc U) U ?_
       obtain⟨q23,h⟩:=h
       exact za (zG U U q23) U<|za (ze U) U<|zf<|⟨v18_5 + 1,zv (n:=173) U U E8,h.1,h.2⟩
      ·replace h:=h.2 (zh q22)
       refine zL<|zg<|zg<|zk (zl (n:=173) (σ':=[(27,⟨rows o27_3,[]⟩)]) (env':=[(0,.c (.lst (tabs a))),(1,.c (.lst (tabs b))),(11,.c (ci (first.length:Int))),(12,.c (ci v12_1)),(13,.ref 27),(16,.c (.lst (rows v16_4))),(17,.c (ci v17_4)),(18,.c (ci v18_5)),(64,.c (.lst (rows v16_4))),(65,.c (ci v18_5)),(66,.c (.ptr ((rows v16_4).drop v18_5.toNat))),(67,.c (.lst (ints (el v16_4 v18_5)))),(68,.ref 27),(69,.c (ci v17_4)),(70,.cell 27 v17_4.toNat),(71,.c (.lst (ints (el o27_3 v17_4)))),(72,.c (cb (decide (cmpG cmp1 (el v16_4 v18_5) (el o27_3 v17_4) < 0))))]) U U ⟨U,U,U,U,U,U,U,U,U,U,U,U,U,U,U,U,U,trivial⟩)<|zP (kd:=kdl [0,0,0,0,0,0,0,0,1,0,0,0,1,2,0]) (ord:=[0,1,2,3,4,5,6,7,9,10,11,8,12,13,14]) [] mixed (by kernel_rfl)<|zp U U trivial (zc U) U<|zp U U trivial (zc U) U<|zp U U trivial (zJ (f:=(fun r=>C.lst (ints r))) U) U<|zp U U trivial (zO U U) U<|zp U U trivial (zc U) U<|xh (s:=80) U (fun q24=>?_) (fun q24=>?_)
       ·replace h:=h.1 (zj q24)
        refine zp U U ⟨_,_,U,U,q24⟩ (zc U) U<|zp U U ⟨_,_,U,U,q24⟩ (zc U) U ?_
        obtain⟨q25,h⟩:=h
        refine zp U U ⟨_,_,U,U,q24⟩ (zB U U q25) U<|zp U U ⟨_,_,U,U,q24⟩ (zc U) U<|zp U U ⟨_,_,U,U,q24⟩ (zc U) U ?_
        obtain⟨q26,h⟩:=h
        refine zp U U ⟨_,_,U,U,q24⟩ (zR (f:=(fun r=>C.lst (ints r))) U U U q26) U<|zY U U ⟨_,_,U,U,q24⟩ (zx (f:=(fun r=>C.lst (ints r))) U q25) U<|zY U U ⟨_,_,U,U,q24⟩ (yi (f:=(fun r=>C.lst (ints r))) U U q26 U U) U ?_
        obtain⟨q27,h⟩:=h
        refine y7 U U ⟨_,_,U,U,q24⟩ U U (zF (xs:=[.tmp 84,.tmp 88]) (ids:=[]) U U U U (c_spec_l01Same (el v16_4 v18_5) (el o27_3 v17_4) q27) U ?_)
        rintro _ rfl
        refine⟨U,?_⟩
        refine zp U U trivial (zU U q24 U) U<|yh<|zm U (fun q29=>?_) (fun q29=>?_)
        ·replace h:=h.1 (zj q29)
         refine zL<|zk (zl (n:=173) (σ':=[(27,⟨rows o27_3,[]⟩)]) (env':=[(0,.c (.lst (tabs a))),(1,.c (.lst (tabs b))),(11,.c (ci (first.length:Int))),(12,.c (ci v12_1)),(13,.ref 27),(16,.c (.lst (rows v16_4))),(17,.c (ci v17_4)),(64,.c (.lst (rows v16_4))),(65,.c (ci v18_5)),(66,.c (.ptr ((rows v16_4).drop v18_5.toNat))),(67,.c (.lst (ints (el v16_4 v18_5)))),(68,.ref 27),(69,.c (ci v17_4)),(70,.cell 27 v17_4.toNat),(71,.c (.lst (ints (el o27_3 v17_4)))),(72,.c (cb (decide (cmpG cmp1 (el v16_4 v18_5) (el o27_3 v17_4) < 0)))),(81,.c (.lst (rows v16_4))),(82,.c (ci v18_5)),(83,.c (.ptr ((rows v16_4).drop v18_5.toNat))),(84,.c (.lst (ints (el v16_4 v18_5)))),(85,.ref 27),(86,.c (ci v17_4)),(87,.cell 27 v17_4.toNat),(88,.c (.lst (ints (el o27_3 v17_4)))),(89,.c (cb (decide ((el v16_4 v18_5) = (el o27_3 v17_4)))))]) U U ⟨U,U,U,U,U,U,U,U,U,U,U,U,U,U,U,U,U,U,U,U,U,U,U,U,U,trivial⟩)<|zd<|za (zc U) U ?_
         obtain⟨q30,h⟩:=h
         exact za (zG U U q30) U<|za (ze U) U<|zf<|⟨v16_4,v17_4 + 1,zv (n:=173) U U E7,h.1,h.2⟩
        ·replace h:=h.2 (zh q29)
         refine zu<|zg<|zk (zl (n:=173) (σ':=[(27,⟨rows o27_3,[]⟩)]) (env':=[(0,.c (.lst (tabs a))),(1,.c (.lst (tabs b))),(11,.c (ci (first.length:Int))),(12,.c (ci v12_1)),(13,.ref 27),(16,.c (.lst (rows v16_4))),(17,.c (ci v17_4)),(18,.c (ci v18_5)),(64,.c (.lst (rows v16_4))),(65,.c (ci v18_5)),(66,.c (.ptr ((rows v16_4).drop v18_5.toNat))),(67,.c (.lst (ints (el v16_4 v18_5)))),(68,.ref 27),(69,.c (ci v17_4)),(70,.cell 27 v17_4.toNat),(71,.c (.lst (ints (el o27_3 v17_4)))),(72,.c (cb (decide (cmpG cmp1 (el v16_4 v18_5) (el o27_3 v17_4) < 0)))),(81,.c (.lst (rows v16_4))),(82,.c (ci v18_5)),(83,.c (.ptr ((rows v16_4).drop v18_5.toNat))),(84,.c (.lst (ints (el v16_4 v18_5)))),(85,.ref 27),(86,.c (ci v17_4)),(87,.cell 27 v17_4.toNat),(88,.c (.lst (ints (el o27_3 v17_4)))),(89,.c (cb (decide ((el v16_4 v18_5) = (el o27_3 v17_4)))))]) U U ⟨U,U,U,U,U,U,U,U,U,U,U,U,U,U,U,U,U,U,U,U,U,U,U,U,U,U,trivial⟩)<|zP (kd:=kdl [0,0,0,1,2,0,0,0,2,0]) (ord:=[0,1,2,5,6,7,3,4,8,9]) [95] mixed (by kernel_rfl)<|zp U U trivial (zc U) U<|zp U U trivial (zc U) U ?_
         obtain⟨q31,h⟩:=h
         refine zp U U trivial (zR (f:=(fun r=>C.lst (ints r))) U U U q31) U<|zp U U trivial (zc U) U<|zp U U trivial (zc U) U ?_
         obtain⟨q32,h⟩:=h
         refine zp U U trivial (xc (f:=(fun r=>C.lst (ints r))) U ⟨_,U⟩ U q32) U<|zY U U trivial (yi (f:=(fun r=>C.lst (ints r))) U U q31 U U) U<|y7 U U trivial U U (zy (id:=95) (ps:=[(0,.tmp 94)]) U U (zb U) U ⟨U,?_⟩)
         obtain⟨q33,h⟩:=h
         refine y7 U U trivial U U (xd (fun r=>C.lst (ints r)) (l:=[el o27_3 v17_4]) (m:=sl v16_4 v18_5 (v16_4.length:Int)) U U U (zb U) q33 ⟨U,?_⟩)
         refine zp U U trivial (ze U) U<|yh<|zd<|zn (zy (id:=100) (ps:=[]) U U (zb U) U ⟨U,?_⟩)
         refine za (zc U) U<|za (zc U) U ?_
         obtain⟨q34,h⟩:=h
         refine za (xc (f:=(fun r=>C.lst (ints r))) U U ⟨_,U⟩ q34) U ?_
         obtain⟨q35,h⟩:=h
         refine zn (xd (fun r=>C.lst (ints r)) (l:=([] : List (List Int))) (m:=sl v16_4 0 v18_5) U U U (zb U) q35 ⟨U,?_⟩)
         refine za (zc U) U ?_
         obtain⟨q36,h⟩:=h
         refine zn (yx (fun r=>C.lst (ints r)) (l:=([] : List (List Int)) ++ (sl v16_4 0 v18_5)) (m:=([el o27_3 v17_4]) ++ (sl v16_4 v18_5 (v16_4.length:Int))) U U U U U (zb U) q36 ⟨U,?_⟩)
         refine za (ze U) U<|zf<|zk (yd (id:=100) (fun r=>C.lst (ints r)) U (fun _=>U))<|zk (zl (n:=173) (σ':=[(27,⟨rows o27_3,[]⟩)]) (env':=[(0,.c (.lst (tabs a))),(1,.c (.lst (tabs b))),(11,.c (ci (first.length:Int))),(12,.c (ci v12_1)),(13,.ref 27),(16,.c (.lst (rows ((([] : List (List Int)) ++ (sl v16_4 0 v18_5)) ++ (([el o27_3 v17_4]) ++ (sl v16_4 v18_5 (v16_4.length:Int))))))),(17,.c (ci v17_4)),(64,.c (.lst (rows v16_4))),(65,.c (ci v18_5)),(66,.c (.ptr ((rows v16_4).drop v18_5.toNat))),(67,.c (.lst (ints (el v16_4 v18_5)))),(68,.ref 27),(69,.c (ci v17_4)),(70,.cell 27 v17_4.toNat),(71,.c (.lst (ints (el o27_3 v17_4)))),(72,.c (cb (decide (cmpG cmp1 (el v16_4 v18_5) (el o27_3 v17_4) < 0)))),(81,.c (.lst (rows v16_4))),(82,.c (ci v18_5)),(83,.c (.ptr ((rows v16_4).drop v18_5.toNat))),(84,.c (.lst (ints (el v16_4 v18_5)))),(85,.ref 27),(86,.c (ci v17_4)),(87,.cell 27 v17_4.toNat),(88,.c (.lst (ints (el o27_3 v17_4)))),(89,.c (cb (decide ((el v16_4 v18_5) = (el o27_3 v17_4)))))]) U U ⟨U,U,U,U,U,U,U,U,U,U,U,U,U,U,U,U,U,U,U,U,U,U,U,U,U,trivial⟩)<|zd<|za (zc U) U ?_
         obtain⟨q37,h⟩:=h
         exact za (zG U U q37) U<|za (ze U) U<|zf<|⟨(([] : List (List Int)) ++ (sl v16_4 0 v18_5)) ++ (([el o27_3 v17_4]) ++ (sl v16_4 v18_5 (v16_4.length:Int))),v17_4 + 1,zv (n:=173) U U E7,h.1,h.2⟩
       ·replace h:=h.2 (zh q24)
        refine zW U U U q24 U<|zW U U U q24 U<|zW U U U q24 U<|zW U U U q24 U<|zW U U U q24 U<|zW U U U q24 U<|zW U U U q24 U<|zW U U U q24 U<|zW U U U q24 U<|zp U U trivial (zV U q24 U) U<|yh<|zm U (fun q38=>?_) (fun q38=>?_)
        ·cases q38
        ·skip
         refine zu<|zg<|zk (zl (n:=173) (σ':=[(27,⟨rows o27_3,[]⟩)]) (env':=[(0,.c (.lst (tabs a))),(1,.c (.lst (tabs b))),(11,.c (ci (first.length:Int))),(12,.c (ci v12_1)),(13,.ref 27),(16,.c (.lst (rows v16_4))),(17,.c (ci v17_4)),(18,.c (ci v18_5)),(64,.c (.lst (rows v16_4))),(65,.c (ci v18_5)),(66,.c (.ptr ((rows v16_4).drop v18_5.toNat))),(67,.c (.lst (ints (el v16_4 v18_5)))),(68,.ref 27),(69,.c (ci v17_4)),(70,.cell 27 v17_4.toNat),(71,.c (.lst (ints (el o27_3 v17_4)))),(72,.c (cb (decide (cmpG cmp1 (el v16_4 v18_5) (el o27_3 v17_4) < 0))))]) U U ⟨U,U,U,U,U,U,U,U,U,U,U,U,U,U,U,U,U,trivial⟩)<|zP (kd:=kdl [0,0,0,1,2,0,0,0,2,0]) (ord:=[0,1,2,5,6,7,3,4,8,9]) [95] mixed (by kernel_rfl)<|zp U U trivial (zc U) U<|zp U U trivial (zc U) U ?_
         obtain⟨q39,h⟩:=h
         refine zp U U trivial (zR (f:=(fun r=>C.lst (ints r))) U U U q39) U<|zp U U trivial (zc U) U<|zp U U trivial (zc U) U ?_
         obtain⟨q40,h⟩:=h
         refine zp U U trivial (xc (f:=(fun r=>C.lst (ints r))) U ⟨_,U⟩ U q40) U<|zY U U trivial (yi (f:=(fun r=>C.lst (ints r))) U U q39 U U) U<|y7 U U trivial U U (zy (id:=95) (ps:=[(0,.tmp 94)]) U U (zb U) U ⟨U,?_⟩)
         obtain⟨q41,h⟩:=h
         refine y7 U U trivial U U (xd (fun r=>C.lst (ints r)) (l:=[el o27_3 v17_4]) (m:=sl v16_4 v18_5 (v16_4.length:Int)) U U U (zb U) q41 ⟨U,?_⟩)
         refine zp U U trivial (ze U) U<|yh<|zd<|zn (zy (id:=100) (ps:=[]) U U (zb U) U ⟨U,?_⟩)
         refine za (zc U) U<|za (zc U) U ?_
         obtain⟨q42,h⟩:=h
         refine za (xc (f:=(fun r=>C.lst (ints r))) U U ⟨_,U⟩ q42) U ?_
         obtain⟨q43,h⟩:=h
         refine zn (xd (fun r=>C.lst (ints r)) (l:=([] : List (List Int))) (m:=sl v16_4 0 v18_5) U U U (zb U) q43 ⟨U,?_⟩)
         refine za (zc U) U ?_
         obtain⟨q44,h⟩:=h
         refine zn (yx (fun r=>C.lst (ints r)) (l:=([] : List (List Int)) ++ (sl v16_4 0 v18_5)) (m:=([el o27_3 v17_4]) ++ (sl v16_4 v18_5 (v16_4.length:Int))) U U U U U (zb U) q44 ⟨U,?_⟩)
         refine za (ze U) U<|zf<|zk (yd (id:=100) (fun r=>C.lst (ints r)) U (fun _=>U))<|zk (zl (n:=173) (σ':=[(27,⟨rows o27_3,[]⟩)]) (env':=[(0,.c (.lst (tabs a))),(1,.c (.lst (tabs b))),(11,.c (ci (first.length:Int))),(12,.c (ci v12_1)),(13,.ref 27),(16,.c (.lst (rows ((([] : List (List Int)) ++ (sl v16_4 0 v18_5)) ++ (([el o27_3 v17_4]) ++ (sl v16_4 v18_5 (v16_4.length:Int))))))),(17,.c (ci v17_4)),(64,.c (.lst (rows v16_4))),(65,.c (ci v18_5)),(66,.c (.ptr ((rows v16_4).drop v18_5.toNat))),(67,.c (.lst (ints (el v16_4 v18_5)))),(68,.ref 27),(69,.c (ci v17_4)),(70,.cell 27 v17_4.toNat),(71,.c (.lst (ints (el o27_3 v17_4)))),(72,.c (cb (decide (cmpG cmp1 (el v16_4 v18_5) (el o27_3 v17_4) < 0))))]) U U ⟨U,U,U,U,U,U,U,U,U,U,U,U,U,U,U,U,trivial⟩)<|zd<|za (zc U) U ?_
         obtain⟨q45,h⟩:=h
         exact za (zG U U q45) U<|za (ze U) U<|zf<|⟨(([] : List (List Int)) ++ (sl v16_4 0 v18_5)) ++ (([el o27_3 v17_4]) ++ (sl v16_4 v18_5 (v16_4.length:Int))),v17_4 + 1,zv (n:=173) U U E7,h.1,h.2⟩
     ·replace h:=h.2 (zh q17)
      refine zW U U U q17 U<|zW U U U q17 U<|zW U U U q17 U<|zW U U U q17 U<|zW U U U q17 U<|zW U U U q17 U<|zW U U U q17 U<|zW U U U q17 U<|zW U U U q17 U<|zp U U trivial (zV U q17 U) U<|yh<|zm U (fun q46=>?_) (fun q46=>?_)
      ·cases q46
      ·skip
       refine zL<|zg<|zg<|zk (zl (n:=173) (σ':=[(27,⟨rows o27_3,[]⟩)]) (env':=[(0,.c (.lst (tabs a))),(1,.c (.lst (tabs b))),(11,.c (ci (first.length:Int))),(12,.c (ci v12_1)),(13,.ref 27),(16,.c (.lst (rows v16_4))),(17,.c (ci v17_4)),(18,.c (ci v18_5))]) U U E8)<|zP (kd:=kdl [0,0,0,0,0,0,0,0,1,0,0,0,1,2,0]) (ord:=[0,1,2,3,4,5,6,7,9,10,11,8,12,13,14]) [] mixed (by kernel_rfl)<|zp U U trivial (zc U) U<|zp U U trivial (zc U) U<|zp U U trivial (zJ (f:=(fun r=>C.lst (ints r))) U) U<|zp U U trivial (zO U U) U<|zp U U trivial (zc U) U<|xh (s:=80) U (fun q47=>?_) (fun q47=>?_)
       ·replace h:=h.1 (zj q47)
        refine zp U U ⟨_,_,U,U,q47⟩ (zc U) U<|zp U U ⟨_,_,U,U,q47⟩ (zc U) U ?_
        obtain⟨q48,h⟩:=h
        refine zp U U ⟨_,_,U,U,q47⟩ (zB U U q48) U<|zp U U ⟨_,_,U,U,q47⟩ (zc U) U<|zp U U ⟨_,_,U,U,q47⟩ (zc U) U ?_
        obtain⟨q49,h⟩:=h
        refine zp U U ⟨_,_,U,U,q47⟩ (zR (f:=(fun r=>C.lst (ints r))) U U U q49) U<|zY U U ⟨_,_,U,U,q47⟩ (zx (f:=(fun r=>C.lst (ints r))) U q48) U<|zY U U ⟨_,_,U,U,q47⟩ (yi (f:=(fun r=>C.lst (ints r))) U U q49 U U) U ?_
        obtain⟨q50,h⟩:=h
        refine y7 U U ⟨_,_,U,U,q47⟩ U U (zF (xs:=[.tmp 84,.tmp 88]) (ids:=[]) U U U U (c_spec_l01Same (el v16_4 v18_5) (el o27_3 v17_4) q50) U ?_)
        rintro _ rfl
        refine⟨U,?_⟩
        refine zp U U trivial (zU U q47 U) U<|yh<|zm U (fun q52=>?_) (fun q52=>?_)
        ·replace h:=h.1 (zj q52)
         refine zL<|zd<|za (zc U) U ?_
         obtain⟨q53,h⟩:=h
         exact za (zG U U q53) U<|za (ze U) U<|zf<|⟨v16_4,v17_4 + 1,zv (n:=173) U U E7,h.1,h.2⟩
        ·replace h:=h.2 (zh q52)
         refine zu<|zg<|zk (zl (n:=173) (σ':=[(27,⟨rows o27_3,[]⟩)]) (env':=[(0,.c (.lst (tabs a))),(1,.c (.lst (tabs b))),(11,.c (ci (first.length:Int))),(12,.c (ci v12_1)),(13,.ref 27),(16,.c (.lst (rows v16_4))),(17,.c (ci v17_4)),(18,.c (ci v18_5)),(81,.c (.lst (rows v16_4))),(82,.c (ci v18_5)),(83,.c (.ptr ((rows v16_4).drop v18_5.toNat))),(84,.c (.lst (ints (el v16_4 v18_5)))),(85,.ref 27),(86,.c (ci v17_4)),(87,.cell 27 v17_4.toNat),(88,.c (.lst (ints (el o27_3 v17_4)))),(89,.c (cb (decide ((el v16_4 v18_5) = (el o27_3 v17_4)))))]) U U ⟨U,U,U,U,U,U,U,U,U,U,U,U,U,U,U,U,U,trivial⟩)<|zP (kd:=kdl [0,0,0,1,2,0,0,0,2,0]) (ord:=[0,1,2,5,6,7,3,4,8,9]) [95] mixed (by kernel_rfl)<|zp U U trivial (zc U) U<|zp U U trivial (zc U) U ?_
         obtain⟨q54,h⟩:=h
         refine zp U U trivial (zR (f:=(fun r=>C.lst (ints r))) U U U q54) U<|zp U U trivial (zc U) U<|zp U U trivial (zc U) U ?_
         obtain⟨q55,h⟩:=h
         refine zp U U trivial (xc (f:=(fun r=>C.lst (ints r))) U ⟨_,U⟩ U q55) U<|zY U U trivial (yi (f:=(fun r=>C.lst (ints r))) U U q54 U U) U<|y7 U U trivial U U (zy (id:=95) (ps:=[(0,.tmp 94)]) U U (zb U) U ⟨U,?_⟩)
         obtain⟨q56,h⟩:=h
         refine y7 U U trivial U U (xd (fun r=>C.lst (ints r)) (l:=[el o27_3 v17_4]) (m:=sl v16_4 v18_5 (v16_4.length:Int)) U U U (zb U) q56 ⟨U,?_⟩)
         refine zp U U trivial (ze U) U<|yh<|zd<|zn (zy (id:=100) (ps:=[]) U U (zb U) U ⟨U,?_⟩)
         refine za (zc U) U<|za (zc U) U ?_
         obtain⟨q57,h⟩:=h
         refine za (xc (f:=(fun r=>C.lst (ints r))) U U ⟨_,U⟩ q57) U ?_
         obtain⟨q58,h⟩:=h
         refine zn (xd (fun r=>C.lst (ints r)) (l:=([] : List (List Int))) (m:=sl v16_4 0 v18_5) U U U (zb U) q58 ⟨U,?_⟩)
         refine za (zc U) U ?_
         obtain⟨q59,h⟩:=h
         refine zn (yx (fun r=>C.lst (ints r)) (l:=([] : List (List Int)) ++ (sl v16_4 0 v18_5)) (m:=([el o27_3 v17_4]) ++ (sl v16_4 v18_5 (v16_4.length:Int))) U U U U U (zb U) q59 ⟨U,?_⟩)
         refine za (ze U) U<|zf<|zk (yd (id:=100) (fun r=>C.lst (ints r)) U (fun _=>U))<|zk (zl (n:=173) (σ':=[(27,⟨rows o27_3,[]⟩)]) (env':=[(0,.c (.lst (tabs a))),(1,.c (.lst (tabs b))),(11,.c (ci (first.length:Int))),(12,.c (ci v12_1)),(13,.ref 27),(16,.c (.lst (rows ((([] : List (List Int)) ++ (sl v16_4 0 v18_5)) ++ (([el o27_3 v17_4]) ++ (sl v16_4 v18_5 (v16_4.length:Int))))))),(17,.c (ci v17_4)),(81,.c (.lst (rows v16_4))),(82,.c (ci v18_5)),(83,.c (.ptr ((rows v16_4).drop v18_5.toNat))),(84,.c (.lst (ints (el v16_4 v18_5)))),(85,.ref 27),(86,.c (ci v17_4)),(87,.cell 27 v17_4.toNat),(88,.c (.lst (ints (el o27_3 v17_4)))),(89,.c (cb (decide ((el v16_4 v18_5) = (el o27_3 v17_4)))))]) U U ⟨U,U,U,U,U,U,U,U,U,U,U,U,U,U,U,U,trivial⟩)<|zd<|za (zc U) U ?_
         obtain⟨q60,h⟩:=h
         exact za (zG U U q60) U<|za (ze U) U<|zf<|⟨(([] : List (List Int)) ++ (sl v16_4 0 v18_5)) ++ (([el o27_3 v17_4]) ++ (sl v16_4 v18_5 (v16_4.length:Int))),v17_4 + 1,zv (n:=173) U U E7,h.1,h.2⟩
       ·replace h:=h.2 (zh q47)
        refine zW U U U q47 U<|zW U U U q47 U<|zW U U U q47 U<|zW U U U q47 U<|zW U U U q47 U<|zW U U U q47 U<|zW U U U q47 U<|zW U U U q47 U<|zW U U U q47 U<|zp U U trivial (zV U q47 U) U<|yh<|zm U (fun q61=>?_) (fun q61=>?_)
        ·cases q61
        ·skip
         refine zu<|zg<|zk (zl (n:=173) (σ':=[(27,⟨rows o27_3,[]⟩)]) (env':=[(0,.c (.lst (tabs a))),(1,.c (.lst (tabs b))),(11,.c (ci (first.length:Int))),(12,.c (ci v12_1)),(13,.ref 27),(16,.c (.lst (rows v16_4))),(17,.c (ci v17_4)),(18,.c (ci v18_5))]) U U E8)<|zP (kd:=kdl [0,0,0,1,2,0,0,0,2,0]) (ord:=[0,1,2,5,6,7,3,4,8,9]) [95] mixed (by kernel_rfl)<|zp U U trivial (zc U) U<|zp U U trivial (zc U) U ?_
         obtain⟨q62,h⟩:=h
         refine zp U U trivial (zR (f:=(fun r=>C.lst (ints r))) U U U q62) U<|zp U U trivial (zc U) U<|zp U U trivial (zc U) U ?_
         obtain⟨q63,h⟩:=h
         refine zp U U trivial (xc (f:=(fun r=>C.lst (ints r))) U ⟨_,U⟩ U q63) U<|zY U U trivial (yi (f:=(fun r=>C.lst (ints r))) U U q62 U U) U<|y7 U U trivial U U (zy (id:=95) (ps:=[(0,.tmp 94)]) U U (zb U) U ⟨U,?_⟩)
         obtain⟨q64,h⟩:=h
         refine y7 U U trivial U U (xd (fun r=>C.lst (ints r)) (l:=[el o27_3 v17_4]) (m:=sl v16_4 v18_5 (v16_4.length:Int)) U U U (zb U) q64 ⟨U,?_⟩)
         refine zp U U trivial (ze U) U<|yh<|zd<|zn (zy (id:=100) (ps:=[]) U U (zb U) U ⟨U,?_⟩)
         refine za (zc U) U<|za (zc U) U ?_
         obtain⟨q65,h⟩:=h
         refine za (xc (f:=(fun r=>C.lst (ints r))) U U ⟨_,U⟩ q65) U ?_
         obtain⟨q66,h⟩:=h
         refine zn (xd (fun r=>C.lst (ints r)) (l:=([] : List (List Int))) (m:=sl v16_4 0 v18_5) U U U (zb U) q66 ⟨U,?_⟩)
         refine za (zc U) U ?_
         obtain⟨q67,h⟩:=h
         refine zn (yx (fun r=>C.lst (ints r)) (l:=([] : List (List Int)) ++ (sl v16_4 0 v18_5)) (m:=([el o27_3 v17_4]) ++ (sl v16_4 v18_5 (v16_4.length:Int))) U U U U U (zb U) q67 ⟨U,?_⟩)
         refine za (ze U) U<|zf<|zk (yd (id:=100) (fun r=>C.lst (ints r)) U (fun _=>U))<|zd<|za (zc U) U ?_
         obtain⟨q68,h⟩:=h
         exact za (zG U U q68) U<|za (ze U) U<|zf<|⟨(([] : List (List Int)) ++ (sl v16_4 0 v18_5)) ++ (([el o27_3 v17_4]) ++ (sl v16_4 v18_5 (v16_4.length:Int))),v17_4 + 1,zv (n:=173) U U E7,h.1,h.2⟩
    ·replace h:=h.2 (zh q15)
     refine zL<|zg<|zd<|za (zc U) U<|za (zJ (f:=(fun r=>C.lst (ints r))) U) U ?_
     obtain⟨q69,h⟩:=h
     refine zn (yZ (id:=109) ci (0:Int) U U U q69 (zb U) U ⟨U,?_⟩)
     refine zn (zy (id:=110) (ps:=[]) U U (zb U) U ⟨U,?_⟩)
     refine za (ze U) U<|za (ze U) U<|zf<|zg<|zg<|zd<|za (ze U) U<|zf<|zt ?_
     obtain⟨H6,m6,q70,h⟩:=h
     refine aw_loop3 (fun (v22_5:Int) (o109_5:List Int) (o110_5:List Int)=>⟨[(110,⟨ints o110_5,[]⟩),(109,⟨ints o109_5,[]⟩),(27,⟨rows o27_3,[]⟩)],[(0,.c (.lst (tabs a))),(1,.c (.lst (tabs b))),(11,.c (ci (first.length:Int))),(12,.c (ci v12_1)),(13,.ref 27),(16,.c (.lst (rows v16_4))),(20,.ref 109),(21,.ref 110),(22,.c (ci v22_5))],173⟩) H6 m6 ⟨0,List.replicate (v16_4.length:Int).toNat (0:Int),([] : List Int),zv (n:=173) U U E9,q70⟩ ?_
     rintro v22_5 o109_5 o110_5 q70
     replace h:=h v22_5 o109_5 o110_5 q70
     refine zg<|zg<|zd<|za (zc U) U<|za (zc U) U<|za (yR (f:=(fun r=>C.lst (ints r))) U U) U<|za (zO U U) U<|zf<|zm U (fun q71=>?_) (fun q71=>?_)
     ·replace h:=h.1 (zj q71)
      refine zu<|zg<|zt<|zg<|zd<|za (ze U) U<|zf<|zg<|zt ?_
      obtain⟨H7,m7,q72,h⟩:=h
      refine yy (fun (v23_6:Int)=>⟨[(110,⟨ints o110_5,[]⟩),(109,⟨ints o109_5,[]⟩),(27,⟨rows o27_3,[]⟩)],[(0,.c (.lst (tabs a))),(1,.c (.lst (tabs b))),(11,.c (ci (first.length:Int))),(12,.c (ci v12_1)),(13,.ref 27),(16,.c (.lst (rows v16_4))),(20,.ref 109),(21,.ref 110),(22,.c (ci v22_5)),(23,.c (ci v23_6))],173⟩) H7 m7 ⟨0,zv (n:=173) U U ⟨U,U,U,U,U,U,U,U,U,U,trivial⟩,q72⟩ ?_
      rintro v23_6 q72
      replace h:=h v23_6 q72
      refine zg<|zg<|zk (zl (n:=173) (σ':=[(110,⟨ints o110_5,[]⟩),(109,⟨ints o109_5,[]⟩),(27,⟨rows o27_3,[]⟩)]) (env':=[(0,.c (.lst (tabs a))),(1,.c (.lst (tabs b))),(11,.c (ci (first.length:Int))),(12,.c (ci v12_1)),(13,.ref 27),(16,.c (.lst (rows v16_4))),(20,.ref 109),(21,.ref 110),(22,.c (ci v22_5)),(23,.c (ci v23_6))]) U U ⟨U,U,U,U,U,U,U,U,U,U,trivial⟩)<|zP (kd:=kdl [0,0,0,1,0,0,0,1,2,0]) (ord:=[0,1,2,4,5,6,3,7,8,9]) [] mixed (by kernel_rfl)<|zp U U trivial (zc U) U<|zp U U trivial (zc U) U ?_
      obtain⟨q73,h⟩:=h
      refine zp U U trivial (zB U U q73) U<|zp U U trivial (zc U) U<|zp U U trivial (zc U) U ?_
      obtain⟨q74,h⟩:=h
      refine zp U U trivial (zR (f:=(fun r=>C.lst (ints r))) U U U q74) U<|zY U U trivial (zx (f:=(fun r=>C.lst (ints r))) U q73) U<|zY U U trivial (yi (f:=(fun r=>C.lst (ints r))) U U q74 U U) U ?_
      obtain⟨q75,h⟩:=h
      refine y7 U U trivial U U (zF (xs:=[.tmp 120,.tmp 124]) (ids:=[]) U U U U (c_spec_l01Same (el v16_4 v23_6) (el o27_3 v22_5) q75) U ?_)
      rintro _ rfl
      refine⟨U,?_⟩
      refine zp U U trivial (yA U) U<|yh<|zm U (fun q77=>?_) (fun q77=>?_)
      ·replace h:=h.1 (zh (ya q77))
       refine zu<|zt<|zd<|za (zc U) U ?_
       obtain⟨q78,h⟩:=h
       exact za (zG U U q78) U<|za (ze U) U<|zf<|⟨v23_6 + 1,zv (n:=173) U U ⟨U,U,U,U,U,U,U,U,U,U,trivial⟩,h.1,h.2⟩
      ·replace h:=h.2 (zj (yb q77))
       refine zL<|zg<|zd<|za (zc U) U<|za (zc U) U<|zn (zy (id:=131) (ps:=[(0,.tmp 130)]) U U (zb U) U ⟨U,?_⟩)
       obtain⟨q79,h⟩:=h
       refine zn (yx ci (l:=o110_5) (m:=[v23_6]) U U U U U (zb U) q79 ⟨U,?_⟩)
       refine za (ze U) U<|zf<|zg<|zd<|za (zc U) U<|za (zc U) U<|za (zO U U) U<|zf<|zm U (fun q80=>?_) (fun q80=>?_)
       ·replace h:=h.1 (zj q80)
        refine zd<|za (zc U) U<|za (zc U) U ?_
        obtain⟨q81,h⟩:=h
        refine za (zR (f:=ci) U U U q81) U<|za (yi (f:=ci) U U q81 U U) U ?_
        obtain⟨q82,h⟩:=h
        refine za (zG U U q82) U ?_
        obtain⟨q83,h⟩:=h
        refine za (zR (f:=ci) U U U q83) U<|zn (yo U U (yN q83) U U (yO (f:=ci)) U ⟨U,?_⟩)
        refine zf<|zk (zl (n:=173) (σ':=[(110,⟨ints (o110_5 ++ ([v23_6])),[]⟩),(109,⟨ints (se o109_5 v23_6 ((el o109_5 v23_6) + 1)),[]⟩),(27,⟨rows o27_3,[]⟩)]) (env':=[(0,.c (.lst (tabs a))),(1,.c (.lst (tabs b))),(11,.c (ci (first.length:Int))),(12,.c (ci v12_1)),(13,.ref 27),(16,.c (.lst (rows v16_4))),(20,.ref 109),(21,.ref 110),(22,.c (ci v22_5))]) U U E9)<|zd<|za (zc U) U ?_
        obtain⟨q84,h⟩:=h
        exact za (zG U U q84) U<|za (ze U) U<|zf<|⟨v22_5 + 1,se o109_5 v23_6 ((el o109_5 v23_6) + 1),o110_5 ++ ([v23_6]),zv (n:=173) U U E9,h.1,h.2⟩
       ·replace h:=h.2 (zh q80)
        refine zd<|za (zc U) U<|za (zc U) U ?_
        obtain⟨q85,h⟩:=h
        refine za (zR (f:=ci) U U U q85) U<|za (yi (f:=ci) U U q85 U U) U ?_
        obtain⟨q86,h⟩:=h
        refine za (yS U U q86) U ?_
        obtain⟨q87,h⟩:=h
        refine za (zR (f:=ci) U U U q87) U<|zn (yo U U (yN q87) U U (yO (f:=ci)) U ⟨U,?_⟩)
        refine zf<|zk (zl (n:=173) (σ':=[(110,⟨ints (o110_5 ++ ([v23_6])),[]⟩),(109,⟨ints (se o109_5 v23_6 ((el o109_5 v23_6) - 1)),[]⟩),(27,⟨rows o27_3,[]⟩)]) (env':=[(0,.c (.lst (tabs a))),(1,.c (.lst (tabs b))),(11,.c (ci (first.length:Int))),(12,.c (ci v12_1)),(13,.ref 27),(16,.c (.lst (rows v16_4))),(20,.ref 109),(21,.ref 110),(22,.c (ci v22_5))]) U U E9)<|zd<|za (zc U) U ?_
        obtain⟨q88,h⟩:=h
        exact za (zG U U q88) U<|za (ze U) U<|zf<|⟨v22_5 + 1,se o109_5 v23_6 ((el o109_5 v23_6) - 1),o110_5 ++ ([v23_6]),zv (n:=173) U U E9,h.1,h.2⟩
     ·replace h:=h.2 (zh q71)
      refine zL<|zg<|zg<|zd<|za (ze U) U<|zf<|zt<|zk (yd (id:=27) (fun r=>C.lst (ints r)) U (fun _=>U)) ?_
      obtain⟨H8,m8,q89,h⟩:=h
      refine yy (fun (v24_6:Int)=>⟨[(110,⟨ints o110_5,[]⟩),(109,⟨ints o109_5,[]⟩)],[(0,.c (.lst (tabs a))),(1,.c (.lst (tabs b))),(11,.c (ci (first.length:Int))),(12,.c (ci v12_1)),(16,.c (.lst (rows v16_4))),(20,.ref 109),(21,.ref 110),(24,.c (ci v24_6))],173⟩) H8 m8 ⟨0,zv (n:=173) U U E8,q89⟩ ?_
      rintro v24_6 q89
      replace h:=h v24_6 q89
      refine zg<|zg<|zd<|za (zc U) U<|za (zc U) U<|za (yR (f:=ci) U U) U<|za (zO U U) U<|zf<|zm U (fun q90=>?_) (fun q90=>?_)
      ·replace h:=h.1 (zj q90)
       refine zu<|zg<|zt<|zg<|zd<|za (zc U) U<|za (zc U) U ?_
       obtain⟨q91,h⟩:=h
       refine za (zR (f:=ci) U U U q91) U<|za (yi (f:=ci) U U q91 U U) U<|za (yQ U U) U<|zf<|zm U (fun q92=>?_) (fun q92=>?_)
       ·replace h:=h.1 (zh (ya q92))
        exact zg<|zk (zl (n:=173) (σ':=[(110,⟨ints o110_5,[]⟩),(109,⟨ints o109_5,[]⟩)]) (env':=[]) U U trivial)<|zd<|za (ze U) U<|za (ze U) U<|za (ze U) U<|zf<|zA<|zr (retv3 U (zw U) (zw U) (zw U)) U U ⟨_,(yW (zN xb (zN xb (zN (zq _) yC)))),_,_,_,h,U⟩
       ·replace h:=h.2 (zj (yb q92))
        refine zu<|zd<|za (zc U) U ?_
        obtain⟨q93,h⟩:=h
        exact za (zG U U q93) U<|za (ze U) U<|zf<|⟨v24_6 + 1,zv (n:=173) U U E8,h.1,h.2⟩
      ·replace h:=h.2 (zh q90)
       refine zL<|zg<|zd<|za (zc U) U<|za (zc U) U<|yF (yd (id:=110) ci U (fun _=>U)) ?_
       obtain⟨q94,h⟩:=h
       refine za (xc (f:=ci) U U ⟨_,U⟩ q94) U<|za (ze U) U<|zf<|zg<|zd<|za (zc U) U<|za (zc U) U ?_
       obtain⟨q95,h⟩:=h
       refine za (xc (f:=ci) U ⟨_,U⟩ U q95) U<|za (ze U) U<|zf<|zg<|zg<|zd<|za (zc U) U<|za (zJ (f:=(fun r=>C.lst (ints r))) U) U<|za (zc U) U<|za (yE U U) U<|zf<|zm U (fun q96=>?_) (fun q96=>?_)
       ·replace h:=h.1 (zj q96)
        exact zg<|zk (zl (n:=173) (σ':=[(109,⟨ints o109_5,[]⟩)]) (env':=[(2,.c (.lst (ints (sl o110_5 0 (first.length:Int))))),(3,.c (.lst (ints (sl o110_5 (first.length:Int) (o110_5.length:Int)))))]) U U E2)<|zd<|za (zc U) U<|za (zc U) U<|za (ze U) U<|za (ze U) U<|za (ze U) U<|zf<|zA<|zr (retv3 U (zw U) (zw U) (zw U)) U U ⟨_,(zq _),_,_,_,h,U⟩
       ·replace h:=h.2 (zh q96)
        exact zu<|zd<|za (zc U) U<|za (zJ (f:=(fun r=>C.lst (ints r))) U) U<|za (ze U) U<|zf<|⟨sl o110_5 0 (first.length:Int),sl o110_5 (first.length:Int) (o110_5.length:Int),(v16_4.length:Int),zQ (yd (id:=109) ci U (fun _=>U)) (zv (n:=173) U U E6),h.1,h.2⟩
theorem c_spec_l03Refine (a:List (List (List Int))) (b:List (List (List Int))) (first:List Int) (second:List Int) (hp:RfD a b first second):AF Tryz.prog 47 [.lst (tabs a),.lst (tabs b),.lst (ints first),.lst (ints second)] (fun R_=>∃ y0 y1 y2,(RfP a b first second y0 y1 y2)/\R_ = .tup [.lst (ints y0),.lst (ints y1),cb y2]):=
  w_spec_l03Refine a b first second (fun y0 y1 y2=>RfP a b first second y0 y1 y2) (p_spec_l03Refine a b first second hp)
theorem w_spec_l03Seek (a:List (List (List Int))) (b:List (List (List Int))) (f:List Int) (first:List Int) (second:List Int) (most:Int) (out:List (List Int)) (Q:List (List Int)->Prop) (hrec : ∀ (a' : List (List (List Int))) (b' : List (List (List Int))) (f' : List Int) (first' : List Int) (second' : List Int) (most' : Int) (out' : List (List Int)),((el a' 0).length - f'.length) < ((el a 0).length - f.length)->(SkD a' b' f' first' second' most' out')->AM Tryz.prog 48 [.lst (tabs a'),.lst (tabs b'),.lst (ints f'),.lst (ints first'),.lst (ints second'),ci most',.own (orows out')] (fun R_ O_=>R_ = .own (orows (out' ++ (extL a' b' (padM f' first')).take (most' - (out'.length:Int)).toNat))/\O_ = [.lst (tabs a'),.lst (tabs b'),.lst (ints f'),.lst (ints first'),.lst (ints second'),ci most',.hole])) (h:wp_spec_l03Seek a b f first second most out Q):AM Tryz.prog 48 [.lst (tabs a),.lst (tabs b),.lst (ints f),.lst (ints first),.lst (ints second),ci most,.own (orows out)] (fun R_ O_=>∃ y0,Q y0/\R_ = .own (orows y0)/\O_ = [.lst (tabs a),.lst (tabs b),.lst (ints f),.lst (ints first),.lst (ints second),ci most,.hole]):=by
  refine xj (n:=101) (m:=7) Tryz.func48 U (by rfl) U U (zb U) [800] U ?_
  unfold wp_spec_l03Seek at h
  refine zk (zl (n:=101) (σ':=[(800,⟨orows out,[]⟩)]) (env':=[(0,.c (.lst (tabs a))),(1,.c (.lst (tabs b))),(2,.c (.lst (ints f))),(3,.c (.lst (ints first))),(4,.c (.lst (ints second))),(5,.c (ci most)),(6,.ref 800),(101,.c (.lst (tabs a))),(102,.c (.lst (tabs b))),(103,.c (.lst (ints f))),(104,.c (.lst (ints first))),(105,.c (.lst (ints second))),(106,.c (ci most))]) U U ⟨U,U,U,U,U,U,U,U,U,U,U,U,U,trivial⟩)<|zg<|zk (zl (n:=101) (σ':=[(800,⟨orows out,[]⟩)]) (env':=[(0,.c (.lst (tabs a))),(1,.c (.lst (tabs b))),(2,.c (.lst (ints f))),(3,.c (.lst (ints first))),(4,.c (.lst (ints second))),(5,.c (ci most)),(6,.ref 800),(101,.c (.lst (tabs a))),(102,.c (.lst (tabs b))),(103,.c (.lst (ints f))),(104,.c (.lst (ints first))),(105,.c (.lst (ints second))),(106,.c (ci most))]) U U ⟨U,U,U,U,U,U,U,U,U,U,U,U,U,trivial⟩)<|zd<|za (ze U) U<|zf<|zg<|zd<|za (zc U) U<|za (zJ (f:=ci) U) U<|za (ze U) U<|zf<|zg<|zg<|zd<|za (zc U) U<|za (zc U) U<|za (zJ (f:=ci) U) U<|za (yE U U) U<|zf<|zm U (fun q1=>?_) (fun q1=>?_)
  ·replace h:=h.1 (zj q1)
   refine zg<|zk (zl (n:=101) (σ':=[(800,⟨orows out,[]⟩)]) (env':=[(2,.c (.lst (ints f))),(6,.ref 800),(14,.c (cnil)),(101,.c (.lst (tabs a))),(102,.c (.lst (tabs b))),(103,.c (.lst (ints f))),(104,.c (.lst (ints first))),(105,.c (.lst (ints second))),(106,.c (ci most))]) U U E9)<|zd<|za (zc U) U<|za (zc U) U ?_
   obtain⟨q2,h⟩:=h
   refine zn (zF (xs:=[.tmp 30]) (ids:=[31]) U U U U (c_spec_l01Own f q2) U ?_)
   rintro _ rfl
   refine⟨U,?_⟩
   refine zn (zy (id:=32) (ps:=[(0,.tmp 31)]) U U (zb U) U ⟨U,?_⟩)
   refine yF (yu (id:=32) (id2:=31) (j:=0) U U (zb U) U U U) ?_
   obtain⟨q4,h⟩:=h
   refine zn (yx (fun r=>C.own (ints r)) (l:=out) (m:=[f]) U U U U U (zb U) q4 ⟨U,?_⟩)
   exact za (ze U) U<|zf<|zA<|ym (zH U (zw U)) U U U ⟨_,h,U,U⟩
  ·replace h:=h.2 (zh q1)
   refine zu<|zg<|zg<|zd<|za (ze U) U<|zf<|zt ?_
   obtain⟨H1,m1,q5,h⟩:=h
   refine ye (fun (v16_1:Int) (o800_1:List (List Int))=>⟨[(800,⟨orows o800_1,[]⟩)],[(0,.c (.lst (tabs a))),(1,.c (.lst (tabs b))),(2,.c (.lst (ints f))),(3,.c (.lst (ints first))),(4,.c (.lst (ints second))),(5,.c (ci most)),(6,.ref 800),(15,.c (ci (f.length:Int))),(16,.c (ci v16_1)),(101,.c (.lst (tabs a))),(102,.c (.lst (tabs b))),(103,.c (.lst (ints f))),(104,.c (.lst (ints first))),(105,.c (.lst (ints second))),(106,.c (ci most))],101⟩) H1 m1 ⟨0,out,zv (n:=101) U U ⟨U,U,U,U,U,U,U,U,U,U,U,U,U,U,U,trivial⟩,q5⟩ ?_
   rintro v16_1 o800_1 q5
   replace h:=h v16_1 o800_1 q5
   refine zg<|zg<|zd<|za (zc U) U<|za (zc U) U<|za (zJ (f:=ci) U) U<|za (zO U U) U<|za (zc U) U<|zX (s:=38) U (fun q6=>?_) (fun q6=>?_)
   ·replace h:=h.1 (zj q6)
    refine zE U U q6<|za (zc U) U<|zE U U q6<|za (yR (f:=(fun r=>C.own (ints r))) U U) U<|zE U U q6<|za (zc U) U<|zE U U q6<|za (zO U U) U<|za (zU U q6 U) U<|zf<|zm U (fun q7=>?_) (fun q7=>?_)
    ·replace h:=h.1 (zj q7)
     refine zu<|zg<|zt<|zg<|zd<|za (zc U) U ?_
     obtain⟨q8,h⟩:=h
     refine zn (zF (xs:=[.tmp 46]) (ids:=[47]) U U U U (c_spec_l01Own f q8) U ?_)
     rintro _ rfl
     refine⟨U,?_⟩
     refine za (zc U) U<|zn (zy (id:=49) (ps:=[(0,.tmp 48)]) U U (zb U) U ⟨U,?_⟩)
     obtain⟨q10,h⟩:=h
     refine zn (yx ci (l:=f) (m:=[v16_1]) U U U U U (zb U) q10 ⟨U,?_⟩)
     refine za (ze U) U<|zf<|zg<|zg<|zk (zl (n:=101) (σ':=[(47,⟨ints (f ++ ([v16_1])),[]⟩),(800,⟨orows o800_1,[]⟩)]) (env':=[(0,.c (.lst (tabs a))),(1,.c (.lst (tabs b))),(2,.c (.lst (ints f))),(3,.c (.lst (ints first))),(4,.c (.lst (ints second))),(5,.c (ci most)),(6,.ref 800),(15,.c (ci (f.length:Int))),(16,.c (ci v16_1)),(17,.ref 47),(39,.ref 800),(40,.c (ci (o800_1.length:Int))),(41,.c (ci most)),(42,.c (cb (decide ((o800_1.length:Int) < most)))),(101,.c (.lst (tabs a))),(102,.c (.lst (tabs b))),(103,.c (.lst (ints f))),(104,.c (.lst (ints first))),(105,.c (.lst (ints second))),(106,.c (ci most))]) U U ⟨U,U,U,U,U,U,U,U,U,U,U,U,U,U,U,U,U,U,U,U,trivial⟩)<|zP (kd:=kdl [0,0,2,0,0,0,0,1,0,0,0,1,0,0,0,0,0,0,2,0,0]) (ord:=[0,1,2,3,4,5,6,8,9,10,7,11,12,13,14,15,16,17,18,19,20]) [] mixed (by kernel_rfl)<|zp U U trivial (zc U) U<|zp U U trivial (zc U) U ?_
     obtain⟨q11,h⟩:=h
     refine y7 U U trivial U U (zF (xs:=[.tmp 51,.tmp 52]) (ids:=[]) U U U U (c_spec_l01Has f v16_1 q11) U ?_)
     rintro _ rfl
     refine⟨U,?_⟩
     refine zp U U trivial (zc U) U<|xh (s:=54) U (fun q13=>?_) (fun q13=>?_)
     ·replace h:=h.1 (q13)
      refine zW U U U q13 U<|zW U U U q13 U<|zW U U U q13 U<|zW U U U q13 U<|zW U U U q13 U<|zW U U U q13 U<|zW U U U q13 U<|zW U U U q13 U<|zW U U U q13 U<|zp U U trivial (zU U q13 U) U<|zp U U trivial (zc U) U<|xh (s:=65) U (fun q14=>?_) (fun q14=>?_)
      ·skip
       refine zW U U U q14 U<|zW U U U q14 U<|zW U U U q14 U<|zW U U U q14 U<|zW U U U q14 U<|zp U U trivial (zU U q14 U) U<|yh<|zm U (fun q15=>?_) (fun q15=>?_)
       ·skip
        refine zL<|zk (zl (n:=101) (σ':=[(47,⟨ints (f ++ ([v16_1])),[]⟩),(800,⟨orows o800_1,[]⟩)]) (env':=[(0,.c (.lst (tabs a))),(1,.c (.lst (tabs b))),(2,.c (.lst (ints f))),(3,.c (.lst (ints first))),(4,.c (.lst (ints second))),(5,.c (ci most)),(6,.ref 800),(15,.c (ci (f.length:Int))),(16,.c (ci v16_1)),(39,.ref 800),(40,.c (ci (o800_1.length:Int))),(41,.c (ci most)),(42,.c (cb (decide ((o800_1.length:Int) < most)))),(101,.c (.lst (tabs a))),(102,.c (.lst (tabs b))),(103,.c (.lst (ints f))),(104,.c (.lst (ints first))),(105,.c (.lst (ints second))),(106,.c (ci most))]) U U ⟨U,U,U,U,U,U,U,U,U,U,U,U,U,U,U,U,U,U,U,trivial⟩)<|zd<|za (zc U) U ?_
        obtain⟨q16,h⟩:=h
        exact za (zG U U q16) U<|za (ze U) U<|zf<|⟨v16_1 + 1,o800_1,zQ (yd (id:=47) ci U (fun _=>U)) (zv (n:=101) U U ⟨U,U,U,U,U,U,U,U,U,U,U,U,U,U,U,trivial⟩),h.1,h.2⟩
       ·cases q15
      ·cases q14
     ·replace h:=h.2 (q13)
      refine zp U U ⟨_,_,U,U,q13⟩ (zc U) U<|zp U U ⟨_,_,U,U,q13⟩ (zc U) U ?_
      obtain⟨q17,h⟩:=h
      refine zp U U ⟨_,_,U,U,q13⟩ (zB U U q17) U<|zp U U ⟨_,_,U,U,q13⟩ (zc U) U<|zp U U ⟨_,_,U,U,q13⟩ (zc U) U ?_
      obtain⟨q18,h⟩:=h
      refine zp U U ⟨_,_,U,U,q13⟩ (zB U U q18) U<|zY U U ⟨_,_,U,U,q13⟩ (zx (f:=ci) U q17) U<|zY U U ⟨_,_,U,U,q13⟩ (zx (f:=ci) U q18) U<|zp U U ⟨_,_,U,U,q13⟩ (yQ U U) U<|zp U U trivial (zV U q13 U) U<|zp U U trivial (zc U) U<|xh (s:=65) U (fun q19=>?_) (fun q19=>?_)
      ·replace h:=h.1 (zh (ya q19))
       refine zW U U U q19 U<|zW U U U q19 U<|zW U U U q19 U<|zW U U U q19 U<|zW U U U q19 U<|zp U U trivial (zU U q19 U) U<|yh<|zm U (fun q20=>?_) (fun q20=>?_)
       ·skip
        refine zL<|zk (zl (n:=101) (σ':=[(47,⟨ints (f ++ ([v16_1])),[]⟩),(800,⟨orows o800_1,[]⟩)]) (env':=[(0,.c (.lst (tabs a))),(1,.c (.lst (tabs b))),(2,.c (.lst (ints f))),(3,.c (.lst (ints first))),(4,.c (.lst (ints second))),(5,.c (ci most)),(6,.ref 800),(15,.c (ci (f.length:Int))),(16,.c (ci v16_1)),(39,.ref 800),(40,.c (ci (o800_1.length:Int))),(41,.c (ci most)),(42,.c (cb (decide ((o800_1.length:Int) < most)))),(55,.c (.lst (ints first))),(56,.c (ci (f.length:Int))),(57,.c (.ptr ((ints first).drop (f.length:Int).toNat))),(58,.c (ci (el first (f.length:Int)))),(59,.c (.lst (ints second))),(60,.c (ci v16_1)),(61,.c (.ptr ((ints second).drop v16_1.toNat))),(62,.c (ci (el second v16_1))),(63,.c (cb (!(decide (el first (f.length:Int) = el second v16_1))))),(101,.c (.lst (tabs a))),(102,.c (.lst (tabs b))),(103,.c (.lst (ints f))),(104,.c (.lst (ints first))),(105,.c (.lst (ints second))),(106,.c (ci most))]) U U ⟨U,U,U,U,U,U,U,U,U,U,U,U,U,U,U,U,U,U,U,U,U,U,U,U,U,U,U,U,trivial⟩)<|zd<|za (zc U) U ?_
        obtain⟨q21,h⟩:=h
        exact za (zG U U q21) U<|za (ze U) U<|zf<|⟨v16_1 + 1,o800_1,zQ (yd (id:=47) ci U (fun _=>U)) (zv (n:=101) U U ⟨U,U,U,U,U,U,U,U,U,U,U,U,U,U,U,trivial⟩),h.1,h.2⟩
       ·cases q20
      ·replace h:=h.2 (zj (yb q19))
       refine zp U U ⟨_,_,U,U,q19⟩ (zc U) U<|zp U U ⟨_,_,U,U,q19⟩ (zc U) U<|zp U U ⟨_,_,U,U,q19⟩ (zc U) U ?_
       obtain⟨q22,h⟩:=h
       refine y7 U U ⟨_,_,U,U,q19⟩ U U (yU (xs:=[.tmp 66,.tmp 67,.tmp 68]) (cs:=[.lst (tabs a),.lst (tabs b),.own (ints (f ++ ([v16_1])))]) (ids:=[]) U (.inr ⟨U,U⟩) U U (yD U (yD U (yD (yq (yr (fun _=>U) _)) yX))) (c_spec_l03Fits a b (f ++ ([v16_1])) q22) U ?_)
       rintro _ rfl
       refine⟨U,U,?_⟩
       refine zp U U ⟨_,_,U,U,q19⟩ (yA U) U<|zp U U trivial (zV U q19 U) U<|yh<|zm U (fun q24=>?_) (fun q24=>?_)
       ·replace h:=h.1 ((ya q24))
        refine zL<|zk (zl (n:=101) (σ':=[(47,⟨ints (f ++ ([v16_1])),[]⟩),(800,⟨orows o800_1,[]⟩)]) (env':=[(0,.c (.lst (tabs a))),(1,.c (.lst (tabs b))),(2,.c (.lst (ints f))),(3,.c (.lst (ints first))),(4,.c (.lst (ints second))),(5,.c (ci most)),(6,.ref 800),(15,.c (ci (f.length:Int))),(16,.c (ci v16_1)),(39,.ref 800),(40,.c (ci (o800_1.length:Int))),(41,.c (ci most)),(42,.c (cb (decide ((o800_1.length:Int) < most)))),(55,.c (.lst (ints first))),(56,.c (ci (f.length:Int))),(57,.c (.ptr ((ints first).drop (f.length:Int).toNat))),(58,.c (ci (el first (f.length:Int)))),(59,.c (.lst (ints second))),(60,.c (ci v16_1)),(61,.c (.ptr ((ints second).drop v16_1.toNat))),(62,.c (ci (el second v16_1))),(63,.c (cb (!(decide (el first (f.length:Int) = el second v16_1))))),(66,.c (.lst (tabs a))),(67,.c (.lst (tabs b))),(68,.ref 47),(69,.c (cb (dec (conA a b (f ++ ([v16_1])))))),(70,.c (cb (!((dec (conA a b (f ++ ([v16_1])))))))),(101,.c (.lst (tabs a))),(102,.c (.lst (tabs b))),(103,.c (.lst (ints f))),(104,.c (.lst (ints first))),(105,.c (.lst (ints second))),(106,.c (ci most))]) U U ⟨U,U,U,U,U,U,U,U,U,U,U,U,U,U,U,U,U,U,U,U,U,U,U,U,U,U,U,U,U,U,U,U,U,trivial⟩)<|zd<|za (zc U) U ?_
        obtain⟨q25,h⟩:=h
        exact za (zG U U q25) U<|za (ze U) U<|zf<|⟨v16_1 + 1,o800_1,zQ (yd (id:=47) ci U (fun _=>U)) (zv (n:=101) U U ⟨U,U,U,U,U,U,U,U,U,U,U,U,U,U,U,trivial⟩),h.1,h.2⟩
       ·replace h:=h.2 ((yb q24))
        refine zu<|zg<|zk (zl (n:=101) (σ':=[(47,⟨ints (f ++ ([v16_1])),[]⟩),(800,⟨orows o800_1,[]⟩)]) (env':=[(0,.c (.lst (tabs a))),(1,.c (.lst (tabs b))),(2,.c (.lst (ints f))),(3,.c (.lst (ints first))),(4,.c (.lst (ints second))),(5,.c (ci most)),(6,.ref 800),(15,.c (ci (f.length:Int))),(16,.c (ci v16_1)),(17,.ref 47),(39,.ref 800),(40,.c (ci (o800_1.length:Int))),(41,.c (ci most)),(42,.c (cb (decide ((o800_1.length:Int) < most)))),(55,.c (.lst (ints first))),(56,.c (ci (f.length:Int))),(57,.c (.ptr ((ints first).drop (f.length:Int).toNat))),(58,.c (ci (el first (f.length:Int)))),(59,.c (.lst (ints second))),(60,.c (ci v16_1)),(61,.c (.ptr ((ints second).drop v16_1.toNat))),(62,.c (ci (el second v16_1))),(63,.c (cb (!(decide (el first (f.length:Int) = el second v16_1))))),(66,.c (.lst (tabs a))),(67,.c (.lst (tabs b))),(68,.ref 47),(69,.c (cb (dec (conA a b (f ++ ([v16_1])))))),(70,.c (cb (!((dec (conA a b (f ++ ([v16_1])))))))),(101,.c (.lst (tabs a))),(102,.c (.lst (tabs b))),(103,.c (.lst (ints f))),(104,.c (.lst (ints first))),(105,.c (.lst (ints second))),(106,.c (ci most))]) U U ⟨U,U,U,U,U,U,U,U,U,U,U,U,U,U,U,U,U,U,U,U,U,U,U,U,U,U,U,U,U,U,U,U,U,U,trivial⟩)<|zd<|za (zc U) U ?_
        obtain⟨q26,h⟩:=h
        refine zn (zF (xs:=[.tmp 72]) (ids:=[73]) U U U U (c_spec_l01Own first q26) U ?_)
        rintro _ rfl
        refine⟨U,?_⟩
        refine za (zc U) U ?_
        obtain⟨q28,h⟩:=h
        refine zn (zF (xs:=[.tmp 74]) (ids:=[75]) U U U U (c_spec_l01Own second q28) U ?_)
        rintro _ rfl
        refine⟨U,?_⟩
        refine za (ze U) U<|za (ze U) U<|zf<|zg<|zk (zl (n:=101) (σ':=[(75,⟨ints second,[]⟩),(73,⟨ints first,[]⟩),(47,⟨ints (f ++ ([v16_1])),[]⟩),(800,⟨orows o800_1,[]⟩)]) (env':=[(0,.c (.lst (tabs a))),(1,.c (.lst (tabs b))),(2,.c (.lst (ints f))),(3,.c (.lst (ints first))),(4,.c (.lst (ints second))),(5,.c (ci most)),(6,.ref 800),(15,.c (ci (f.length:Int))),(16,.c (ci v16_1)),(17,.ref 47),(18,.ref 73),(19,.ref 75),(39,.ref 800),(40,.c (ci (o800_1.length:Int))),(41,.c (ci most)),(42,.c (cb (decide ((o800_1.length:Int) < most)))),(55,.c (.lst (ints first))),(56,.c (ci (f.length:Int))),(57,.c (.ptr ((ints first).drop (f.length:Int).toNat))),(58,.c (ci (el first (f.length:Int)))),(59,.c (.lst (ints second))),(60,.c (ci v16_1)),(61,.c (.ptr ((ints second).drop v16_1.toNat))),(62,.c (ci (el second v16_1))),(63,.c (cb (!(decide (el first (f.length:Int) = el second v16_1))))),(66,.c (.lst (tabs a))),(67,.c (.lst (tabs b))),(68,.ref 47),(69,.c (cb (dec (conA a b (f ++ ([v16_1])))))),(70,.c (cb (!((dec (conA a b (f ++ ([v16_1])))))))),(101,.c (.lst (tabs a))),(102,.c (.lst (tabs b))),(103,.c (.lst (ints f))),(104,.c (.lst (ints first))),(105,.c (.lst (ints second))),(106,.c (ci most))]) U U ⟨U,U,U,U,U,U,U,U,U,U,U,U,U,U,U,U,U,U,U,U,U,U,U,U,U,U,U,U,U,U,U,U,U,U,U,U,trivial⟩)<|zd<|za (zc U) U<|za (zc U) U ?_
        obtain⟨q30,h⟩:=h
        refine za (zR (f:=ci) U U U q30) U<|zn (yo U U (yN q30) U U (yO (f:=ci)) U ⟨U,?_⟩)
        refine zf<|zg<|zk (zl (n:=101) (σ':=[(75,⟨ints second,[]⟩),(73,⟨ints (se first (f.length:Int) 60),[]⟩),(47,⟨ints (f ++ ([v16_1])),[]⟩),(800,⟨orows o800_1,[]⟩)]) (env':=[(0,.c (.lst (tabs a))),(1,.c (.lst (tabs b))),(2,.c (.lst (ints f))),(3,.c (.lst (ints first))),(4,.c (.lst (ints second))),(5,.c (ci most)),(6,.ref 800),(15,.c (ci (f.length:Int))),(16,.c (ci v16_1)),(17,.ref 47),(18,.ref 73),(19,.ref 75),(39,.ref 800),(40,.c (ci (o800_1.length:Int))),(41,.c (ci most)),(42,.c (cb (decide ((o800_1.length:Int) < most)))),(55,.c (.lst (ints first))),(56,.c (ci (f.length:Int))),(57,.c (.ptr ((ints first).drop (f.length:Int).toNat))),(58,.c (ci (el first (f.length:Int)))),(59,.c (.lst (ints second))),(60,.c (ci v16_1)),(61,.c (.ptr ((ints second).drop v16_1.toNat))),(62,.c (ci (el second v16_1))),(63,.c (cb (!(decide (el first (f.length:Int) = el second v16_1))))),(66,.c (.lst (tabs a))),(67,.c (.lst (tabs b))),(68,.ref 47),(69,.c (cb (dec (conA a b (f ++ ([v16_1])))))),(70,.c (cb (!((dec (conA a b (f ++ ([v16_1])))))))),(101,.c (.lst (tabs a))),(102,.c (.lst (tabs b))),(103,.c (.lst (ints f))),(104,.c (.lst (ints first))),(105,.c (.lst (ints second))),(106,.c (ci most))]) U U ⟨U,U,U,U,U,U,U,U,U,U,U,U,U,U,U,U,U,U,U,U,U,U,U,U,U,U,U,U,U,U,U,U,U,U,U,U,trivial⟩)<|zd<|za (zc U) U<|za (zc U) U ?_
        obtain⟨q31,h⟩:=h
        refine za (zR (f:=ci) U U U q31) U<|zn (yo U U (yN q31) U U (yO (f:=ci)) U ⟨U,?_⟩)
        refine zf<|zg<|zd<|za (zc U) U<|za (zc U) U<|za (zc U) U<|za (zc U) U<|yF (yd (id:=73) ci U (fun _=>U))<|yF (yd (id:=75) ci U (fun _=>U)) ?_
        obtain⟨q32,h⟩:=h
        refine zn (zF (xs:=[.tmp 83,.tmp 84,.tmp 85,.tmp 86]) (ids:=[]) U U U U (c_spec_l03Refine a b (se first (f.length:Int) 60) (se second v16_1 60) q32) U ?_)
        rintro _ ⟨r1_0,r1_1,r1_2,q33,rfl⟩
        replace h:=h r1_0 r1_1 r1_2 q33
        refine⟨U,?_⟩
        refine za (zc U) U<|za (zT U U) U<|za (zT U U) U<|za (zT U U) U<|za (ze U) U<|za (ze U) U<|za (ze U) U<|zf<|zg<|zk (zl (n:=101) (σ':=[(47,⟨ints (f ++ ([v16_1])),[]⟩),(800,⟨orows o800_1,[]⟩)]) (env':=[(0,.c (.lst (tabs a))),(1,.c (.lst (tabs b))),(2,.c (.lst (ints f))),(3,.c (.lst (ints first))),(4,.c (.lst (ints second))),(5,.c (ci most)),(6,.ref 800),(15,.c (ci (f.length:Int))),(16,.c (ci v16_1)),(17,.ref 47),(20,.c (.lst (ints r1_0))),(21,.c (.lst (ints r1_1))),(22,.c (cb r1_2)),(39,.ref 800),(40,.c (ci (o800_1.length:Int))),(41,.c (ci most)),(42,.c (cb (decide ((o800_1.length:Int) < most)))),(55,.c (.lst (ints first))),(56,.c (ci (f.length:Int))),(57,.c (.ptr ((ints first).drop (f.length:Int).toNat))),(58,.c (ci (el first (f.length:Int)))),(59,.c (.lst (ints second))),(60,.c (ci v16_1)),(61,.c (.ptr ((ints second).drop v16_1.toNat))),(62,.c (ci (el second v16_1))),(63,.c (cb (!(decide (el first (f.length:Int) = el second v16_1))))),(66,.c (.lst (tabs a))),(67,.c (.lst (tabs b))),(68,.ref 47),(69,.c (cb (dec (conA a b (f ++ ([v16_1])))))),(70,.c (cb (!((dec (conA a b (f ++ ([v16_1])))))))),(101,.c (.lst (tabs a))),(102,.c (.lst (tabs b))),(103,.c (.lst (ints f))),(104,.c (.lst (ints first))),(105,.c (.lst (ints second))),(106,.c (ci most))]) U U ⟨U,U,U,U,U,U,U,U,U,U,U,U,U,U,U,U,U,U,U,U,U,U,U,U,U,U,U,U,U,U,U,U,U,U,U,U,U,trivial⟩)<|zd<|za (zc U) U<|zf<|zm U (fun q34=>?_) (fun q34=>?_)
        ·replace h:=h.1 (q34)
         refine zd<|za (zc U) U<|za (zc U) U<|za (zc U) U<|za (zc U) U<|za (zc U) U<|za (zc U) U<|za (zc U) U<|yF (yd (id:=47) ci U (fun _=>U)) ?_
         obtain⟨q35,h⟩:=h
         obtain⟨q36,h⟩:=h
         refine zn (ws_callC (xs:=[.tmp 92,.tmp 93,.tmp 94,.tmp 95,.tmp 96,.tmp 97,.tmp 98]) (cs:=[.lst (tabs a),.lst (tabs b),.lst (ints (f ++ ([v16_1]))),.lst (ints r1_0),.lst (ints r1_1),ci most,.own (orows o800_1)]) (ids:=[99]) U U U U (hrec a b (f ++ ([v16_1])) r1_0 r1_1 most o800_1 q35 q36) U ?_)
         rintro _ _ ⟨rfl,rfl⟩
         refine⟨U,?_⟩
         refine za (ze U) U<|zf<|zk (zl (n:=101) (σ':=[(99,⟨orows (o800_1 ++ (extL a b (padM (f ++ ([v16_1])) r1_0)).take (most - (o800_1.length:Int)).toNat),[]⟩)]) (env':=[(0,.c (.lst (tabs a))),(1,.c (.lst (tabs b))),(2,.c (.lst (ints f))),(3,.c (.lst (ints first))),(4,.c (.lst (ints second))),(5,.c (ci most)),(6,.ref 99),(15,.c (ci (f.length:Int))),(16,.c (ci v16_1)),(40,.c (ci (o800_1.length:Int))),(41,.c (ci most)),(42,.c (cb (decide ((o800_1.length:Int) < most)))),(55,.c (.lst (ints first))),(56,.c (ci (f.length:Int))),(57,.c (.ptr ((ints first).drop (f.length:Int).toNat))),(58,.c (ci (el first (f.length:Int)))),(59,.c (.lst (ints second))),(60,.c (ci v16_1)),(61,.c (.ptr ((ints second).drop v16_1.toNat))),(62,.c (ci (el second v16_1))),(63,.c (cb (!(decide (el first (f.length:Int) = el second v16_1))))),(66,.c (.lst (tabs a))),(67,.c (.lst (tabs b))),(68,.c (.lst (ints (f ++ ([v16_1]))))),(69,.c (cb (dec (conA a b (f ++ ([v16_1])))))),(70,.c (cb (!((dec (conA a b (f ++ ([v16_1])))))))),(101,.c (.lst (tabs a))),(102,.c (.lst (tabs b))),(103,.c (.lst (ints f))),(104,.c (.lst (ints first))),(105,.c (.lst (ints second))),(106,.c (ci most))]) U U ⟨U,U,U,U,U,U,U,U,U,U,U,U,U,U,U,U,U,U,U,U,U,U,U,U,U,U,U,U,U,U,U,U,trivial⟩)<|zd<|za (zc U) U ?_
         obtain⟨q38,h⟩:=h
         exact za (zG U U q38) U<|za (ze U) U<|zf<|⟨v16_1 + 1,o800_1 ++ (extL a b (padM (f ++ ([v16_1])) r1_0)).take (most - (o800_1.length:Int)).toNat,zQ (gh_ren (a:=99) (b:=800) U U) (zv (n:=101) U U ⟨U,U,U,U,U,U,U,U,U,U,U,U,U,U,U,trivial⟩),h.1,h.2⟩
        ·replace h:=h.2 (q34)
         refine zu<|zk (zl (n:=101) (σ':=[(47,⟨ints (f ++ ([v16_1])),[]⟩),(800,⟨orows o800_1,[]⟩)]) (env':=[(0,.c (.lst (tabs a))),(1,.c (.lst (tabs b))),(2,.c (.lst (ints f))),(3,.c (.lst (ints first))),(4,.c (.lst (ints second))),(5,.c (ci most)),(6,.ref 800),(15,.c (ci (f.length:Int))),(16,.c (ci v16_1)),(39,.ref 800),(40,.c (ci (o800_1.length:Int))),(41,.c (ci most)),(42,.c (cb (decide ((o800_1.length:Int) < most)))),(55,.c (.lst (ints first))),(56,.c (ci (f.length:Int))),(57,.c (.ptr ((ints first).drop (f.length:Int).toNat))),(58,.c (ci (el first (f.length:Int)))),(59,.c (.lst (ints second))),(60,.c (ci v16_1)),(61,.c (.ptr ((ints second).drop v16_1.toNat))),(62,.c (ci (el second v16_1))),(63,.c (cb (!(decide (el first (f.length:Int) = el second v16_1))))),(66,.c (.lst (tabs a))),(67,.c (.lst (tabs b))),(68,.ref 47),(69,.c (cb (dec (conA a b (f ++ ([v16_1])))))),(70,.c (cb (!((dec (conA a b (f ++ ([v16_1])))))))),(101,.c (.lst (tabs a))),(102,.c (.lst (tabs b))),(103,.c (.lst (ints f))),(104,.c (.lst (ints first))),(105,.c (.lst (ints second))),(106,.c (ci most))]) U U ⟨U,U,U,U,U,U,U,U,U,U,U,U,U,U,U,U,U,U,U,U,U,U,U,U,U,U,U,U,U,U,U,U,U,trivial⟩)<|zd<|za (zc U) U ?_
         obtain⟨q39,h⟩:=h
         exact za (zG U U q39) U<|za (ze U) U<|zf<|⟨v16_1 + 1,o800_1,zQ (yd (id:=47) ci U (fun _=>U)) (zv (n:=101) U U ⟨U,U,U,U,U,U,U,U,U,U,U,U,U,U,U,trivial⟩),h.1,h.2⟩
    ·replace h:=h.2 (zh q7)
     exact zL<|zg<|zk (zl (n:=101) (σ':=[(800,⟨orows o800_1,[]⟩)]) (env':=[(6,.ref 800),(101,.c (.lst (tabs a))),(102,.c (.lst (tabs b))),(103,.c (.lst (ints f))),(104,.c (.lst (ints first))),(105,.c (.lst (ints second))),(106,.c (ci most))]) U U E7)<|zd<|za (zc U) U<|za (ze U) U<|zf<|zA<|ym (zH U (zw U)) U U U ⟨_,h,U,U⟩
   ·replace h:=h.2 (zh q6)
    refine zC U U q6 U<|zC U U q6 U<|zC U U q6 U<|zC U U q6 U<|za (zV U q6 U) U<|zf<|zm U (fun q40=>?_) (fun q40=>?_)
    ·cases q40
    ·skip
     exact zL<|zg<|zk (zl (n:=101) (σ':=[(800,⟨orows o800_1,[]⟩)]) (env':=[(6,.ref 800),(101,.c (.lst (tabs a))),(102,.c (.lst (tabs b))),(103,.c (.lst (ints f))),(104,.c (.lst (ints first))),(105,.c (.lst (ints second))),(106,.c (ci most))]) U U E7)<|zd<|za (zc U) U<|za (ze U) U<|zf<|zA<|ym (zH U (zw U)) U U U ⟨_,h,U,U⟩
theorem c_spec_l03Seek : ∀ (a:List (List (List Int))) (b:List (List (List Int))) (f:List Int) (first:List Int) (second:List Int) (most:Int) (out:List (List Int)),(SkD a b f first second most out)->AM Tryz.prog 48 [.lst (tabs a),.lst (tabs b),.lst (ints f),.lst (ints first),.lst (ints second),ci most,.own (orows out)] (fun R_ O_=>R_ = .own (orows (out ++ (extL a b (padM f first)).take (most - (out.length:Int)).toNat))/\O_ = [.lst (tabs a),.lst (tabs b),.lst (ints f),.lst (ints first),.lst (ints second),ci most,.hole]):=by
  have key : ∀ (k_:Nat) (a:List (List (List Int))) (b:List (List (List Int))) (f:List Int) (first:List Int) (second:List Int) (most:Int) (out:List (List Int)),((el a 0).length - f.length)<=k_->(SkD a b f first second most out)->AM Tryz.prog 48 [.lst (tabs a),.lst (tabs b),.lst (ints f),.lst (ints first),.lst (ints second),ci most,.own (orows out)] (fun R_ O_=>R_ = .own (orows (out ++ (extL a b (padM f first)).take (most - (out.length:Int)).toNat))/\O_ = [.lst (tabs a),.lst (tabs b),.lst (ints f),.lst (ints first),.lst (ints second),ci most,.hole]):=by
    intro k_; induction k_ with
    | zero=>intro a b f first second most out hn hp; exact (w_spec_l03Seek a b f first second most out (fun y0=>y0 = out ++ (extL a b (padM f first)).take (most - (out.length:Int)).toNat) (fun _ _ _ _ _ _ _ hlt=>absurd hlt (by omega)) (p_spec_l03Seek a b f first second most out hp)).mono (by rintro r o ⟨_,rfl,rfl,rfl⟩; exact⟨rfl,rfl⟩)
    | succ k_ ih=>intro a b f first second most out hn hp; exact (w_spec_l03Seek a b f first second most out (fun y0=>y0 = out ++ (extL a b (padM f first)).take (most - (out.length:Int)).toNat) (fun a' b' f' first' second' most' out' hlt=>ih a' b' f' first' second' most' out' (by omega)) (p_spec_l03Seek a b f first second most out hp)).mono (by rintro r o ⟨_,rfl,rfl,rfl⟩; exact⟨rfl,rfl⟩)
  exact fun a b f first second most out=>key _ a b f first second most out (Nat.le_refl _)
theorem w_spec_l03Maps (a:List (List (List Int))) (b:List (List (List Int))) (f:List Int) (most:Int) (Q:List (List Int)->Prop) (h:wp_spec_l03Maps a b f most Q):AF Tryz.prog 27 [.lst (tabs a),.lst (tabs b),.lst (ints f),ci most] (fun R_=>∃ y0,Q y0/\R_ = .lst (rows y0)):=by
  refine zS (zM (n:=63) Tryz.func27 U (by rfl) U (zb U) ?_)
  unfold wp_spec_l03Maps at h
  refine zg<|zk (zl (n:=63) (σ':=[]) (env':=[(0,.c (.lst (tabs a))),(1,.c (.lst (tabs b))),(2,.c (.lst (ints f))),(3,.c (ci most))]) U U E4)<|zd<|za (ze U) U<|zf<|zg<|zg<|zk (zl (n:=63) (σ':=[]) (env':=[(0,.c (.lst (tabs a))),(1,.c (.lst (tabs b))),(2,.c (.lst (ints f))),(3,.c (ci most))]) U U E4)<|zP (kd:=kdl [0,0,1,0,0,0,1,0,0]) (ord:=[0,1,4,5,2,3,6,7,8]) [] mixed (by kernel_rfl)<|zp U U trivial (zc U) U ?_
  obtain⟨q1,h⟩:=h
  refine zp U U trivial (zB U U q1) U<|zp U U trivial (zc U) U ?_
  obtain⟨q2,h⟩:=h
  refine zp U U trivial (zB U U q2) U<|zY U U trivial (zx (f:=(fun r=>C.lst (rows r))) U q1) U<|zp U U trivial (zJ (f:=(fun r=>C.lst (ints r))) U) U<|zY U U trivial (zx (f:=(fun r=>C.lst (rows r))) U q2) U<|zp U U trivial (zJ (f:=(fun r=>C.lst (ints r))) U) U<|zp U U trivial (yQ U U) U<|yh<|zm U (fun q3=>?_) (fun q3=>?_)
  ·replace h:=h.1 (zh (ya q3))
   exact zg<|zk (zl (n:=63) (σ':=[]) (env':=[]) U U trivial)<|zd<|za (ze U) U<|zf<|zA<|zr (zH U (zw U)) U U ⟨_,xb,_,h,U⟩
  ·replace h:=h.2 (zj (yb q3))
   refine zu<|zg<|zk (zl (n:=63) (σ':=[]) (env':=[(0,.c (.lst (tabs a))),(1,.c (.lst (tabs b))),(2,.c (.lst (ints f))),(3,.c (ci most))]) U U E4)<|aw_regionT (kd:=kdl [0,0,1,0,2,0,0,1,0,2,0,0]) (t:=(.one 0 (.one 1 (.one 5 (.one 6 (.one 2 (.one 3 (.one 7 (.one 8 (.br (.one 4 (.one 10 (.one 9 (.one 11 .nil)))) (.one 9 (.one 4 (.one 10 (.one 11 .nil)))))))))))))) [] mixed (by kernel_rfl) ?_
   obtain⟨q4,h⟩:=h
   obtain⟨q5,h⟩:=h
   obtain⟨q6,h⟩:=h
   obtain⟨q7,h⟩:=h
   refine rt_share (S:=⟨[(27,⟨ints (List.replicate ((el a 0).length:Int).toNat (0:Int)),[]⟩),(32,⟨ints (List.replicate ((el a 0).length:Int).toNat (0:Int)),[]⟩)],[(0,.c (.lst (tabs a))),(1,.c (.lst (tabs b))),(2,.c (.lst (ints f))),(3,.c (ci most)),(9,.ref 27),(10,.ref 32)],63⟩) ?_ (fun hk=>?_)
   ·skip
    refine zg<|zg<|zd<|za (zc U) U<|za (zJ (f:=ci) U) U<|za (ss_gtr U U) U<|zf<|zm U (fun q8=>?_) (fun q8=>?_)
    ·replace h:=h.1 (zj q8)
     refine zg<|zg<|zd<|za (zc U) U<|za (zc U) U<|za (zc U) U ?_
     obtain⟨q9,h⟩:=h
     refine zn (zF (xs:=[.tmp 36,.tmp 37,.tmp 38]) (ids:=[]) U U U U (c_spec_l03Fits a b f q9) U ?_)
     rintro _ rfl
     refine⟨U,?_⟩
     refine za (yA U) U<|zf<|zm U (fun q11=>?_) (fun q11=>?_)
     ·replace h:=h.1 ((ya q11))
      exact zg<|zk (zl (n:=63) (σ':=[(27,⟨ints (List.replicate ((el a 0).length:Int).toNat (0:Int)),[]⟩),(32,⟨ints (List.replicate ((el a 0).length:Int).toNat (0:Int)),[]⟩)]) (env':=[]) U U trivial)<|zd<|za (ze U) U<|zf<|zA<|zr (zH U (zw U)) U U ⟨_,xb,_,h,U⟩
     ·replace h:=h.2 ((yb q11))
      refine zu<|zg<|zk (zl (n:=63) (σ':=[(27,⟨ints (List.replicate ((el a 0).length:Int).toNat (0:Int)),[]⟩),(32,⟨ints (List.replicate ((el a 0).length:Int).toNat (0:Int)),[]⟩)]) (env':=[(0,.c (.lst (tabs a))),(1,.c (.lst (tabs b))),(2,.c (.lst (ints f))),(3,.c (ci most)),(9,.ref 27),(10,.ref 32)]) U U E6)<|zd<|za (zc U) U ?_
      obtain⟨q12,h⟩:=h
      refine za (zR (f:=ci) U U U q12) U<|zn (yo U U (yN q12) U U (yO (f:=ci)) U ⟨U,?_⟩)
      refine zf<|zd<|za (zc U) U ?_
      obtain⟨q13,h⟩:=h
      refine za (zR (f:=ci) U U U q13) U<|zn (yo U U (yN q13) U U (yO (f:=ci)) U ⟨U,?_⟩)
      refine zf<|zg<|zd<|za (zc U) U<|za (zc U) U<|za (zc U) U<|za (zc U) U<|yF (yd (id:=27) ci U (fun _=>U))<|yF (yd (id:=32) ci U (fun _=>U)) ?_
      obtain⟨q14,h⟩:=h
      refine zn (zF (xs:=[.tmp 46,.tmp 47,.tmp 48,.tmp 49]) (ids:=[]) U U U U (c_spec_l03Refine a b (se (List.replicate ((el a 0).length:Int).toNat (0:Int)) 0 60) (se (List.replicate ((el a 0).length:Int).toNat (0:Int)) 0 60) q14) U ?_)
      rintro _ ⟨r1_0,r1_1,r1_2,q15,rfl⟩
      replace h:=h r1_0 r1_1 r1_2 q15
      refine⟨U,?_⟩
      refine za (zc U) U<|za (zT U U) U<|za (zT U U) U<|za (zT U U) U<|za (ze U) U<|za (ze U) U<|za (ze U) U<|zf<|zg<|zg<|zk (zl (n:=63) (σ':=[]) (env':=[(0,.c (.lst (tabs a))),(1,.c (.lst (tabs b))),(2,.c (.lst (ints f))),(3,.c (ci most)),(11,.c (.lst (ints r1_0))),(12,.c (.lst (ints r1_1))),(13,.c (cb r1_2))]) U U E7)<|zd<|za (zc U) U<|za (yA U) U<|zf<|zm U (fun q16=>?_) (fun q16=>?_)
      ·replace h:=h.1 ((ya q16))
       exact zg<|zk (zl (n:=63) (σ':=[]) (env':=[]) U U trivial)<|zd<|za (ze U) U<|zf<|zA<|zr (zH U (zw U)) U U ⟨_,xb,_,h,U⟩
      ·replace h:=h.2 ((yb q16))
       refine zu<|zg<|zd<|za (zc U) U<|za (zc U) U<|za (zc U) U<|za (zc U) U<|za (zc U) U<|za (zc U) U ?_
       obtain⟨q17,h⟩:=h
       refine zn (ws_callC (xs:=[.tmp 56,.tmp 57,.tmp 58,.tmp 59,.tmp 60,.tmp 61,.const (.slice none 0 0)]) (cs:=[.lst (tabs a),.lst (tabs b),.lst (ints f),.lst (ints r1_0),.lst (ints r1_1),ci most,cnil]) (ids:=[62]) U U U U (AM.weak (c_spec_l03Seek a b f r1_0 r1_1 most ([] : List (List Int)) q17) (zN (zq _) (zN (zq _) (zN (zq _) (zN (zq _) (zN (zq _) (zN (zq _) (zN yK yC)))))))) U ?_)
       rintro _ _ ⟨rfl,rfl⟩
       refine⟨U,?_⟩
       exact za (ze U) U<|zf<|zk (yd (id:=62) (fun r=>C.lst (ints r)) U (fun _=>(yq (yr (fun _=>U) _))))<|zA<|zr (zH U (zw U)) U U ⟨_,(zq _),_,h,U⟩
    ·replace h:=h.2 (zh q8)
     refine zu<|zg<|zd<|za (zc U) U<|za (zc U) U<|za (zc U) U<|za (zc U) U<|yF (yd (id:=27) ci U (fun _=>U))<|yF (yd (id:=32) ci U (fun _=>U)) ?_
     obtain⟨q19,h⟩:=h
     refine zn (zF (xs:=[.tmp 46,.tmp 47,.tmp 48,.tmp 49]) (ids:=[]) U U U U (c_spec_l03Refine a b (List.replicate ((el a 0).length:Int).toNat (0:Int)) (List.replicate ((el a 0).length:Int).toNat (0:Int)) q19) U ?_)
     rintro _ ⟨r2_0,r2_1,r2_2,q20,rfl⟩
     replace h:=h r2_0 r2_1 r2_2 q20
     refine⟨U,?_⟩
     refine za (zc U) U<|za (zT U U) U<|za (zT U U) U<|za (zT U U) U<|za (ze U) U<|za (ze U) U<|za (ze U) U<|zf<|zg<|zg<|zk (zl (n:=63) (σ':=[]) (env':=[(0,.c (.lst (tabs a))),(1,.c (.lst (tabs b))),(2,.c (.lst (ints f))),(3,.c (ci most)),(11,.c (.lst (ints r2_0))),(12,.c (.lst (ints r2_1))),(13,.c (cb r2_2))]) U U E7)<|zd<|za (zc U) U<|za (yA U) U<|zf<|zm U (fun q21=>?_) (fun q21=>?_)
     ·replace h:=h.1 ((ya q21))
      exact zg<|zk (zl (n:=63) (σ':=[]) (env':=[]) U U trivial)<|zd<|za (ze U) U<|zf<|zA<|zr (zH U (zw U)) U U ⟨_,xb,_,h,U⟩
     ·replace h:=h.2 ((yb q21))
      refine zu<|zg<|zd<|za (zc U) U<|za (zc U) U<|za (zc U) U<|za (zc U) U<|za (zc U) U<|za (zc U) U ?_
      obtain⟨q22,h⟩:=h
      refine zn (ws_callC (xs:=[.tmp 56,.tmp 57,.tmp 58,.tmp 59,.tmp 60,.tmp 61,.const (.slice none 0 0)]) (cs:=[.lst (tabs a),.lst (tabs b),.lst (ints f),.lst (ints r2_0),.lst (ints r2_1),ci most,cnil]) (ids:=[62]) U U U U (AM.weak (c_spec_l03Seek a b f r2_0 r2_1 most ([] : List (List Int)) q22) (zN (zq _) (zN (zq _) (zN (zq _) (zN (zq _) (zN (zq _) (zN (zq _) (zN yK yC)))))))) U ?_)
      rintro _ _ ⟨rfl,rfl⟩
      refine⟨U,?_⟩
      exact za (ze U) U<|zf<|zk (yd (id:=62) (fun r=>C.lst (ints r)) U (fun _=>(yq (yr (fun _=>U) _))))<|zA<|zr (zH U (zw U)) U U ⟨_,(zq _),_,h,U⟩
   ·skip
    refine rt_s U U trivial (zc U) U<|rt_s U U trivial (zB U U q4) U<|rt_s U U trivial (zc U) U<|rt_s U U trivial (zB U U q5) U<|rt_l U U trivial (zx (f:=(fun r=>C.lst (rows r))) U q4) U<|rt_s U U trivial (zJ (f:=(fun r=>C.lst (ints r))) U) U<|rt_l U U trivial (zx (f:=(fun r=>C.lst (rows r))) U q5) U<|rt_s U U trivial (zJ (f:=(fun r=>C.lst (ints r))) U) U<|rt_br ?_ ?_
    ·skip
     refine xp U U trivial U U (yZ (id:=27) ci (0:Int) U U U q6 (zb U) U ⟨U,?_⟩)
     refine rt_s U U trivial (ze U) U<|xp U U trivial U U (yZ (id:=32) ci (0:Int) U U U q7 (zb U) U ⟨U,?_⟩)
     exact rt_s U U trivial (ze U) U<|rt_end (zQ (zl (n:=63) (σ':=[(32,⟨ints (List.replicate ((el a 0).length:Int).toNat (0:Int)),[]⟩),(27,⟨ints (List.replicate ((el a 0).length:Int).toNat (0:Int)),[]⟩)]) (env':=[(0,.c (.lst (tabs a))),(1,.c (.lst (tabs b))),(2,.c (.lst (ints f))),(3,.c (ci most)),(9,.ref 27),(10,.ref 32)]) U U E6) (zQ (xr _) (zv (n:=63) (σ':=[(27,⟨ints (List.replicate ((el a 0).length:Int).toNat (0:Int)),[]⟩),(32,⟨ints (List.replicate ((el a 0).length:Int).toNat (0:Int)),[]⟩)]) (env':=[(0,.c (.lst (tabs a))),(1,.c (.lst (tabs b))),(2,.c (.lst (ints f))),(3,.c (ci most)),(9,.ref 27),(10,.ref 32)]) U U E6))) hk
    refine xp U U trivial U U (yZ (id:=32) ci (0:Int) U U U q6 (zb U) U ⟨U,?_⟩)
    refine xp U U trivial U U (yZ (id:=27) ci (0:Int) U U U q7 (zb U) U ⟨U,?_⟩)
    exact rt_s U U trivial (ze U) U<|rt_s U U trivial (ze U) U<|rt_end (zQ (zl (n:=63) (σ':=[(27,⟨ints (List.replicate ((el a 0).length:Int).toNat (0:Int)),[]⟩),(32,⟨ints (List.replicate ((el a 0).length:Int).toNat (0:Int)),[]⟩)]) (env':=[(0,.c (.lst (tabs a))),(1,.c (.lst (tabs b))),(2,.c (.lst (ints f))),(3,.c (ci most)),(9,.ref 27),(10,.ref 32)]) U U E6) (zQ (xr _) (zv (n:=63) (σ':=[(27,⟨ints (List.replicate ((el a 0).length:Int).toNat (0:Int)),[]⟩),(32,⟨ints (List.replicate ((el a 0).length:Int).toNat (0:Int)),[]⟩)]) (env':=[(0,.c (.lst (tabs a))),(1,.c (.lst (tabs b))),(2,.c (.lst (ints f))),(3,.c (ci most)),(9,.ref 27),(10,.ref 32)]) U U E6))) hk
theorem c_spec_l03Maps (a:List (List (List Int))) (b:List (List (List Int))) (f:List Int) (most:Int) (hp:f = []/\TabsP a/\TabsP b/\a.length = b.length/\1<=most/\most<=1000000):AF Tryz.prog 27 [.lst (tabs a),.lst (tabs b),.lst (ints f),ci most] (fun R_=>R_ = .lst (rows ((isoL a b).take most.toNat))):=
  (w_spec_l03Maps a b f most (fun y0=>y0 = (isoL a b).take most.toNat) (p_spec_l03Maps a b f most hp)).mono (by rintro r ⟨_,rfl,rfl⟩; rfl)
end Go.Proofs.YtjolbldlhjfciaaGreatDoor
