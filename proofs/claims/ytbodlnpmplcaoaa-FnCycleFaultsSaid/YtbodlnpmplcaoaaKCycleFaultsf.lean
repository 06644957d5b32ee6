/- Contracts of functions that the law FnCycleFaults reaches: conditions, plain proofs, walks; no condition. -/
import Derived.Test.YtbodlnpmplcaoaaKCycleFaultse
namespace Go.Proofs.Ytbodlnpmplcaoaa

def wp_laws_FnCycleFaults (code : List Int) (Q : Bool → Prop) : Prop :=
 ((4096 < (code.length : Int) →
 Q true) ∧
 (¬ (4096 < (code.length : Int)) →
 (small code ∧ bytes code) ∧
 ∀ (r1_0 : List (List Int)), (szT r1_0) →
 (small2 r1_0) ∧
 (small2 r1_0) ∧
 ((¬ (CycfE r1_0 = CycfE r1_0) →
 Q false) ∧
 (CycfE r1_0 = CycfE r1_0 →
 (small (CycfT r1_0) ∧ small (CycfT r1_0)) ∧
 ((¬ ((CycfT r1_0) = (CycfT r1_0)) →
 Q false) ∧
 ((CycfT r1_0) = (CycfT r1_0) →
 ((CycfE r1_0 = 1 →
 (small2 r1_0) ∧
 Q (!((isCyc r1_0)))) ∧
 (¬ (CycfE r1_0 = 1) →
 (small2 r1_0) ∧
 (small2 r1_0) ∧
 ((¬ (SquaE r1_0 = 0) →
 Q false) ∧
 (SquaE r1_0 = 0 →
 ((¬ ((if isTab r1_0 then (0 : Int) else 1) = 0) →
 Q false) ∧
 ((if isTab r1_0 then (0 : Int) else 1) = 0 →
 (small2 r1_0) ∧
 ((CycfE r1_0 = 4 →
 (((isTab r1_0 && r1_0.all isPerm) = true →
 (small (SquaT r1_0)) ∧
 ((((isCyc r1_0) == (permB (SquaT r1_0))) = false →
 Q false) ∧
 (((isCyc r1_0) == (permB (SquaT r1_0))) = true →
 ((CycfE r1_0 = 0 →
 ((0 : Int) ≤ 0 ∧ 0 < ((CycfT r1_0).length : Int)) ∧
 ((0 : Int) ≤ 1 ∧ 1 < ((CycfT r1_0).length : Int)) ∧
 ((0 : Int) ≤ 2 ∧ 2 < ((CycfT r1_0).length : Int)) ∧
 (0 ≤ el (CycfT r1_0) 0 ∧ el (CycfT r1_0) 0 < (r1_0.length : Int)) ∧
 (0 ≤ el (CycfT r1_0) 0 ∧ el (CycfT r1_0) 0 < (r1_0.length : Int)) ∧
 (0 ≤ el (CycfT r1_0) 1 ∧ el (CycfT r1_0) 1 < (r1_0.length : Int)) ∧
 (0 ≤ el (CycfT r1_0) 1 ∧ el (CycfT r1_0) 1 < (r1_0.length : Int)) ∧
 (0 ≤ el (CycfT r1_0) 1 ∧ el (CycfT r1_0) 1 < ((el r1_0 (el (CycfT r1_0) 0)).length : Int)) ∧
 (0 ≤ el (el r1_0 (el (CycfT r1_0) 0)) (el (CycfT r1_0) 1) ∧ el (el r1_0 (el (CycfT r1_0) 0)) (el (CycfT r1_0) 1) < (r1_0.length : Int)) ∧
 (0 ≤ el (CycfT r1_0) 2 ∧ el (CycfT r1_0) 2 < ((el r1_0 (el (CycfT r1_0) 0)).length : Int)) ∧
 (0 ≤ el (el r1_0 (el (CycfT r1_0) 0)) (el (CycfT r1_0) 2) ∧ el (el r1_0 (el (CycfT r1_0) 0)) (el (CycfT r1_0) 2) < ((el r1_0 (el (el r1_0 (el (CycfT r1_0) 0)) (el (CycfT r1_0) 1))).length : Int)) ∧
 (0 ≤ el (CycfT r1_0) 0 ∧ el (CycfT r1_0) 0 < ((el r1_0 (el (CycfT r1_0) 1)).length : Int)) ∧
 (0 ≤ el (el r1_0 (el (CycfT r1_0) 1)) (el (CycfT r1_0) 0) ∧ el (el r1_0 (el (CycfT r1_0) 1)) (el (CycfT r1_0) 0) < (r1_0.length : Int)) ∧
 (0 ≤ el (CycfT r1_0) 2 ∧ el (CycfT r1_0) 2 < ((el r1_0 (el (CycfT r1_0) 1)).length : Int)) ∧
 (0 ≤ el (el r1_0 (el (CycfT r1_0) 1)) (el (CycfT r1_0) 2) ∧ el (el r1_0 (el (CycfT r1_0) 1)) (el (CycfT r1_0) 2) < ((el r1_0 (el (el r1_0 (el (CycfT r1_0) 1)) (el (CycfT r1_0) 0))).length : Int)) ∧
 Q (!(decide (el (el r1_0 (el (el r1_0 (el (CycfT r1_0) 0)) (el (CycfT r1_0) 1))) (el (el r1_0 (el (CycfT r1_0) 0)) (el (CycfT r1_0) 2)) = el (el r1_0 (el (el r1_0 (el (CycfT r1_0) 1)) (el (CycfT r1_0) 0))) (el (el r1_0 (el (CycfT r1_0) 1)) (el (CycfT r1_0) 2)))))) ∧
 (¬ (CycfE r1_0 = 0) →
 (small2 r1_0) ∧
 (((isCyc r1_0) = false →
 Q true) ∧
 ((isCyc r1_0) = true →
 (small code ∧ bytes code ∧ 0 ≤ (815 : Int) ∧ (815 : Int) ≤ 18446744073709551615) ∧
 ∀ (r2_0 : List Int) (r2_1 : Int) (r2_2 : Int), (r2_0 = code ∧ okS code r2_1 r2_2) →
 (okS r2_0 r2_1 r2_2 ∧ InI (r1_0.length : Int)) ∧
 ∀ (r3_0 : Int) (o3_0 : List Int) (o3_1 : Int) (o3_2 : Int), (nxP (r1_0.length : Int) r3_0 ∧ o3_0 = r2_0 ∧ okS r2_0 o3_1 o3_2) →
 (okS o3_0 o3_1 o3_2 ∧ InI (r1_0.length : Int)) ∧
 ∀ (r4_0 : Int) (o4_0 : List Int) (o4_1 : Int) (o4_2 : Int), (nxP (r1_0.length : Int) r4_0 ∧ o4_0 = o3_0 ∧ okS o3_0 o4_1 o4_2) →
 (okS o4_0 o4_1 o4_2 ∧ InI (10 : Int)) ∧
 ∀ (r5_0 : Int) (o5_0 : List Int) (o5_1 : Int) (o5_2 : Int), (nxP (10 : Int) r5_0 ∧ o5_0 = o4_0 ∧ okS o4_0 o5_1 o5_2) →
 (small2 r1_0 ∧ InI r3_0 ∧ InI r4_0) ∧
 (small2 r1_0 ∧ InI r3_0 ∧ InI r5_0) ∧
 (InI (r5_0 + 1)) ∧
 (small2 r1_0 ∧ InI r3_0 ∧ InI (r5_0 + 1)) ∧
 (small2 r1_0) ∧
 ((¬ (DsoE r1_0 r3_0 r4_0 = 0) →
 Q false) ∧
 (DsoE r1_0 r3_0 r4_0 = 0 →
 ((¬ (DpwE r1_0 r3_0 r5_0 = 0) →
 Q false) ∧
 (DpwE r1_0 r3_0 r5_0 = 0 →
 ((¬ (DpwE r1_0 r3_0 (r5_0 + 1) = 0) →
 Q false) ∧
 (DpwE r1_0 r3_0 (r5_0 + 1) = 0 →
 ((¬ (cyE r1_0 = 0) →
 Q false) ∧
 (cyE r1_0 = 0 →
 ((DsoV r1_0 r3_0 r4_0 < 0 →
 Q false) ∧
 (¬ (DsoV r1_0 r3_0 r4_0 < 0) →
 (((r1_0.length : Int) ≤ DsoV r1_0 r3_0 r4_0 →
 Q false) ∧
 (¬ ((r1_0.length : Int) ≤ DsoV r1_0 r3_0 r4_0) →
 ((DpwV r1_0 r3_0 r5_0 < 0 →
 Q false) ∧
 (¬ (DpwV r1_0 r3_0 r5_0 < 0) →
 (((r1_0.length : Int) ≤ DpwV r1_0 r3_0 r5_0 →
 Q false) ∧
 (¬ ((r1_0.length : Int) ≤ DpwV r1_0 r3_0 r5_0) →
 (0 ≤ r3_0 ∧ r3_0 < (r1_0.length : Int)) ∧
 (0 ≤ DsoV r1_0 r3_0 r4_0 ∧ DsoV r1_0 r3_0 r4_0 < ((el r1_0 r3_0).length : Int)) ∧
 ((¬ (el (el r1_0 r3_0) (DsoV r1_0 r3_0 r4_0) = r4_0) →
 Q false) ∧
 (el (el r1_0 r3_0) (DsoV r1_0 r3_0 r4_0) = r4_0 →
 (0 ≤ DpwV r1_0 r3_0 r5_0 ∧ DpwV r1_0 r3_0 r5_0 < (r1_0.length : Int)) ∧
 (0 ≤ DpwV r1_0 r3_0 r5_0 ∧ DpwV r1_0 r3_0 r5_0 < ((el r1_0 (DpwV r1_0 r3_0 r5_0)).length : Int)) ∧
 ((¬ (DpwV r1_0 r3_0 (r5_0 + 1) = el (el r1_0 (DpwV r1_0 r3_0 r5_0)) (DpwV r1_0 r3_0 r5_0)) →
 Q false) ∧
 (DpwV r1_0 r3_0 (r5_0 + 1) = el (el r1_0 (DpwV r1_0 r3_0 r5_0)) (DpwV r1_0 r3_0 r5_0) →
 ((¬ (((RowT r1_0).length : Int) = (r1_0.length : Int)) →
 Q false) ∧
 (((RowT r1_0).length : Int) = (r1_0.length : Int) →
 (0 ≤ r3_0 ∧ r3_0 < (r1_0.length : Int)) ∧
 (small (el r1_0 r3_0)) ∧
 ((PorE (el r1_0 r3_0) = 0 →
 (0 ≤ r3_0 ∧ r3_0 < ((RowT r1_0).length : Int)) ∧
 Q (decide (el (RowT r1_0) r3_0 = PorV (el r1_0 r3_0)))) ∧
 (¬ (PorE (el r1_0 r3_0) = 0) →
 Q false))))))))))))))))))))))))))))))) ∧
 ((isTab r1_0 && r1_0.all isPerm) = false →
 ((((isCyc r1_0) == false) = false →
 Q false) ∧
 (((isCyc r1_0) == false) = true →
 ((CycfE r1_0 = 0 →
 ((0 : Int) ≤ 0 ∧ 0 < ((CycfT r1_0).length : Int)) ∧
 ((0 : Int) ≤ 1 ∧ 1 < ((CycfT r1_0).length : Int)) ∧
 ((0 : Int) ≤ 2 ∧ 2 < ((CycfT r1_0).length : Int)) ∧
 (0 ≤ el (CycfT r1_0) 0 ∧ el (CycfT r1_0) 0 < (r1_0.length : Int)) ∧
 (0 ≤ el (CycfT r1_0) 0 ∧ el (CycfT r1_0) 0 < (r1_0.length : Int)) ∧
 (0 ≤ el (CycfT r1_0) 1 ∧ el (CycfT r1_0) 1 < (r1_0.length : Int)) ∧
 (0 ≤ el (CycfT r1_0) 1 ∧ el (CycfT r1_0) 1 < (r1_0.length : Int)) ∧
 (0 ≤ el (CycfT r1_0) 1 ∧ el (CycfT r1_0) 1 < ((el r1_0 (el (CycfT r1_0) 0)).length : Int)) ∧
 (0 ≤ el (el r1_0 (el (CycfT r1_0) 0)) (el (CycfT r1_0) 1) ∧ el (el r1_0 (el (CycfT r1_0) 0)) (el (CycfT r1_0) 1) < (r1_0.length : Int)) ∧
 (0 ≤ el (CycfT r1_0) 2 ∧ el (CycfT r1_0) 2 < ((el r1_0 (el (CycfT r1_0) 0)).length : Int)) ∧
 (0 ≤ el (el r1_0 (el (CycfT r1_0) 0)) (el (CycfT r1_0) 2) ∧ el (el r1_0 (el (CycfT r1_0) 0)) (el (CycfT r1_0) 2) < ((el r1_0 (el (el r1_0 (el (CycfT r1_0) 0)) (el (CycfT r1_0) 1))).length : Int)) ∧
 (0 ≤ el (CycfT r1_0) 0 ∧ el (CycfT r1_0) 0 < ((el r1_0 (el (CycfT r1_0) 1)).length : Int)) ∧
 (0 ≤ el (el r1_0 (el (CycfT r1_0) 1)) (el (CycfT r1_0) 0) ∧ el (el r1_0 (el (CycfT r1_0) 1)) (el (CycfT r1_0) 0) < (r1_0.length : Int)) ∧
 (0 ≤ el (CycfT r1_0) 2 ∧ el (CycfT r1_0) 2 < ((el r1_0 (el (CycfT r1_0) 1)).length : Int)) ∧
 (0 ≤ el (el r1_0 (el (CycfT r1_0) 1)) (el (CycfT r1_0) 2) ∧ el (el r1_0 (el (CycfT r1_0) 1)) (el (CycfT r1_0) 2) < ((el r1_0 (el (el r1_0 (el (CycfT r1_0) 1)) (el (CycfT r1_0) 0))).length : Int)) ∧
 Q (!(decide (el (el r1_0 (el (el r1_0 (el (CycfT r1_0) 0)) (el (CycfT r1_0) 1))) (el (el r1_0 (el (CycfT r1_0) 0)) (el (CycfT r1_0) 2)) = el (el r1_0 (el (el r1_0 (el (CycfT r1_0) 1)) (el (CycfT r1_0) 0))) (el (el r1_0 (el (CycfT r1_0) 1)) (el (CycfT r1_0) 2)))))) ∧
 (¬ (CycfE r1_0 = 0) →
 (small2 r1_0) ∧
 (((isCyc r1_0) = false →
 Q true) ∧
 ((isCyc r1_0) = true →
 (small code ∧ bytes code ∧ 0 ≤ (815 : Int) ∧ (815 : Int) ≤ 18446744073709551615) ∧
 ∀ (r6_0 : List Int) (r6_1 : Int) (r6_2 : Int), (r6_0 = code ∧ okS code r6_1 r6_2) →
 (okS r6_0 r6_1 r6_2 ∧ InI (r1_0.length : Int)) ∧
 ∀ (r7_0 : Int) (o7_0 : List Int) (o7_1 : Int) (o7_2 : Int), (nxP (r1_0.length : Int) r7_0 ∧ o7_0 = r6_0 ∧ okS r6_0 o7_1 o7_2) →
 (okS o7_0 o7_1 o7_2 ∧ InI (r1_0.length : Int)) ∧
 ∀ (r8_0 : Int) (o8_0 : List Int) (o8_1 : Int) (o8_2 : Int), (nxP (r1_0.length : Int) r8_0 ∧ o8_0 = o7_0 ∧ okS o7_0 o8_1 o8_2) →
 (okS o8_0 o8_1 o8_2 ∧ InI (10 : Int)) ∧
 ∀ (r9_0 : Int) (o9_0 : List Int) (o9_1 : Int) (o9_2 : Int), (nxP (10 : Int) r9_0 ∧ o9_0 = o8_0 ∧ okS o8_0 o9_1 o9_2) →
 (small2 r1_0 ∧ InI r7_0 ∧ InI r8_0) ∧
 (small2 r1_0 ∧ InI r7_0 ∧ InI r9_0) ∧
 (InI (r9_0 + 1)) ∧
 (small2 r1_0 ∧ InI r7_0 ∧ InI (r9_0 + 1)) ∧
 (small2 r1_0) ∧
 ((¬ (DsoE r1_0 r7_0 r8_0 = 0) →
 Q false) ∧
 (DsoE r1_0 r7_0 r8_0 = 0 →
 ((¬ (DpwE r1_0 r7_0 r9_0 = 0) →
 Q false) ∧
 (DpwE r1_0 r7_0 r9_0 = 0 →
 ((¬ (DpwE r1_0 r7_0 (r9_0 + 1) = 0) →
 Q false) ∧
 (DpwE r1_0 r7_0 (r9_0 + 1) = 0 →
 ((¬ (cyE r1_0 = 0) →
 Q false) ∧
 (cyE r1_0 = 0 →
 ((DsoV r1_0 r7_0 r8_0 < 0 →
 Q false) ∧
 (¬ (DsoV r1_0 r7_0 r8_0 < 0) →
 (((r1_0.length : Int) ≤ DsoV r1_0 r7_0 r8_0 →
 Q false) ∧
 (¬ ((r1_0.length : Int) ≤ DsoV r1_0 r7_0 r8_0) →
 ((DpwV r1_0 r7_0 r9_0 < 0 →
 Q false) ∧
 (¬ (DpwV r1_0 r7_0 r9_0 < 0) →
 (((r1_0.length : Int) ≤ DpwV r1_0 r7_0 r9_0 →
 Q false) ∧
 (¬ ((r1_0.length : Int) ≤ DpwV r1_0 r7_0 r9_0) →
 (0 ≤ r7_0 ∧ r7_0 < (r1_0.length : Int)) ∧
 (0 ≤ DsoV r1_0 r7_0 r8_0 ∧ DsoV r1_0 r7_0 r8_0 < ((el r1_0 r7_0).length : Int)) ∧
 ((¬ (el (el r1_0 r7_0) (DsoV r1_0 r7_0 r8_0) = r8_0) →
 Q false) ∧
 (el (el r1_0 r7_0) (DsoV r1_0 r7_0 r8_0) = r8_0 →
 (0 ≤ DpwV r1_0 r7_0 r9_0 ∧ DpwV r1_0 r7_0 r9_0 < (r1_0.length : Int)) ∧
 (0 ≤ DpwV r1_0 r7_0 r9_0 ∧ DpwV r1_0 r7_0 r9_0 < ((el r1_0 (DpwV r1_0 r7_0 r9_0)).length : Int)) ∧
 ((¬ (DpwV r1_0 r7_0 (r9_0 + 1) = el (el r1_0 (DpwV r1_0 r7_0 r9_0)) (DpwV r1_0 r7_0 r9_0)) →
 Q false) ∧
 (DpwV r1_0 r7_0 (r9_0 + 1) = el (el r1_0 (DpwV r1_0 r7_0 r9_0)) (DpwV r1_0 r7_0 r9_0) →
 ((¬ (((RowT r1_0).length : Int) = (r1_0.length : Int)) →
 Q false) ∧
 (((RowT r1_0).length : Int) = (r1_0.length : Int) →
 (0 ≤ r7_0 ∧ r7_0 < (r1_0.length : Int)) ∧
 (small (el r1_0 r7_0)) ∧
 ((PorE (el r1_0 r7_0) = 0 →
 (0 ≤ r7_0 ∧ r7_0 < ((RowT r1_0).length : Int)) ∧
 Q (decide (el (RowT r1_0) r7_0 = PorV (el r1_0 r7_0)))) ∧
 (¬ (PorE (el r1_0 r7_0) = 0) →
 Q false))))))))))))))))))))))))))))))))) ∧
 (¬ (CycfE r1_0 = 4) →
 ((((isCyc r1_0) == false) = false →
 Q false) ∧
 (((isCyc r1_0) == false) = true →
 ((CycfE r1_0 = 0 →
 ((0 : Int) ≤ 0 ∧ 0 < ((CycfT r1_0).length : Int)) ∧
 ((0 : Int) ≤ 1 ∧ 1 < ((CycfT r1_0).length : Int)) ∧
 ((0 : Int) ≤ 2 ∧ 2 < ((CycfT r1_0).length : Int)) ∧
 (0 ≤ el (CycfT r1_0) 0 ∧ el (CycfT r1_0) 0 < (r1_0.length : Int)) ∧
 (0 ≤ el (CycfT r1_0) 0 ∧ el (CycfT r1_0) 0 < (r1_0.length : Int)) ∧
 (0 ≤ el (CycfT r1_0) 1 ∧ el (CycfT r1_0) 1 < (r1_0.length : Int)) ∧
 (0 ≤ el (CycfT r1_0) 1 ∧ el (CycfT r1_0) 1 < (r1_0.length : Int)) ∧
 (0 ≤ el (CycfT r1_0) 1 ∧ el (CycfT r1_0) 1 < ((el r1_0 (el (CycfT r1_0) 0)).length : Int)) ∧
 (0 ≤ el (el r1_0 (el (CycfT r1_0) 0)) (el (CycfT r1_0) 1) ∧ el (el r1_0 (el (CycfT r1_0) 0)) (el (CycfT r1_0) 1) < (r1_0.length : Int)) ∧
 (0 ≤ el (CycfT r1_0) 2 ∧ el (CycfT r1_0) 2 < ((el r1_0 (el (CycfT r1_0) 0)).length : Int)) ∧
 (0 ≤ el (el r1_0 (el (CycfT r1_0) 0)) (el (CycfT r1_0) 2) ∧ el (el r1_0 (el (CycfT r1_0) 0)) (el (CycfT r1_0) 2) < ((el r1_0 (el (el r1_0 (el (CycfT r1_0) 0)) (el (CycfT r1_0) 1))).length : Int)) ∧
 (0 ≤ el (CycfT r1_0) 0 ∧ el (CycfT r1_0) 0 < ((el r1_0 (el (CycfT r1_0) 1)).length : Int)) ∧
 (0 ≤ el (el r1_0 (el (CycfT r1_0) 1)) (el (CycfT r1_0) 0) ∧ el (el r1_0 (el (CycfT r1_0) 1)) (el (CycfT r1_0) 0) < (r1_0.length : Int)) ∧
 (0 ≤ el (CycfT r1_0) 2 ∧ el (CycfT r1_0) 2 < ((el r1_0 (el (CycfT r1_0) 1)).length : Int)) ∧
 (0 ≤ el (el r1_0 (el (CycfT r1_0) 1)) (el (CycfT r1_0) 2) ∧ el (el r1_0 (el (CycfT r1_0) 1)) (el (CycfT r1_0) 2) < ((el r1_0 (el (el r1_0 (el (CycfT r1_0) 1)) (el (CycfT r1_0) 0))).length : Int)) ∧
 Q (!(decide (el (el r1_0 (el (el r1_0 (el (CycfT r1_0) 0)) (el (CycfT r1_0) 1))) (el (el r1_0 (el (CycfT r1_0) 0)) (el (CycfT r1_0) 2)) = el (el r1_0 (el (el r1_0 (el (CycfT r1_0) 1)) (el (CycfT r1_0) 0))) (el (el r1_0 (el (CycfT r1_0) 1)) (el (CycfT r1_0) 2)))))) ∧
 (¬ (CycfE r1_0 = 0) →
 (small2 r1_0) ∧
 (((isCyc r1_0) = false →
 Q true) ∧
 ((isCyc r1_0) = true →
 (small code ∧ bytes code ∧ 0 ≤ (815 : Int) ∧ (815 : Int) ≤ 18446744073709551615) ∧
 ∀ (r10_0 : List Int) (r10_1 : Int) (r10_2 : Int), (r10_0 = code ∧ okS code r10_1 r10_2) →
 (okS r10_0 r10_1 r10_2 ∧ InI (r1_0.length : Int)) ∧
 ∀ (r11_0 : Int) (o11_0 : List Int) (o11_1 : Int) (o11_2 : Int), (nxP (r1_0.length : Int) r11_0 ∧ o11_0 = r10_0 ∧ okS r10_0 o11_1 o11_2) →
 (okS o11_0 o11_1 o11_2 ∧ InI (r1_0.length : Int)) ∧
 ∀ (r12_0 : Int) (o12_0 : List Int) (o12_1 : Int) (o12_2 : Int), (nxP (r1_0.length : Int) r12_0 ∧ o12_0 = o11_0 ∧ okS o11_0 o12_1 o12_2) →
 (okS o12_0 o12_1 o12_2 ∧ InI (10 : Int)) ∧
 ∀ (r13_0 : Int) (o13_0 : List Int) (o13_1 : Int) (o13_2 : Int), (nxP (10 : Int) r13_0 ∧ o13_0 = o12_0 ∧ okS o12_0 o13_1 o13_2) →
 (small2 r1_0 ∧ InI r11_0 ∧ InI r12_0) ∧
 (small2 r1_0 ∧ InI r11_0 ∧ InI r13_0) ∧
 (InI (r13_0 + 1)) ∧
 (small2 r1_0 ∧ InI r11_0 ∧ InI (r13_0 + 1)) ∧
 (small2 r1_0) ∧
 ((¬ (DsoE r1_0 r11_0 r12_0 = 0) →
 Q false) ∧
 (DsoE r1_0 r11_0 r12_0 = 0 →
 ((¬ (DpwE r1_0 r11_0 r13_0 = 0) →
 Q false) ∧
 (DpwE r1_0 r11_0 r13_0 = 0 →
 ((¬ (DpwE r1_0 r11_0 (r13_0 + 1) = 0) →
 Q false) ∧
 (DpwE r1_0 r11_0 (r13_0 + 1) = 0 →
 ((¬ (cyE r1_0 = 0) →
 Q false) ∧
 (cyE r1_0 = 0 →
 ((DsoV r1_0 r11_0 r12_0 < 0 →
 Q false) ∧
 (¬ (DsoV r1_0 r11_0 r12_0 < 0) →
 (((r1_0.length : Int) ≤ DsoV r1_0 r11_0 r12_0 →
 Q false) ∧
 (¬ ((r1_0.length : Int) ≤ DsoV r1_0 r11_0 r12_0) →
 ((DpwV r1_0 r11_0 r13_0 < 0 →
 Q false) ∧
 (¬ (DpwV r1_0 r11_0 r13_0 < 0) →
 (((r1_0.length : Int) ≤ DpwV r1_0 r11_0 r13_0 →
 Q false) ∧
 (¬ ((r1_0.length : Int) ≤ DpwV r1_0 r11_0 r13_0) →
 (0 ≤ r11_0 ∧ r11_0 < (r1_0.length : Int)) ∧
 (0 ≤ DsoV r1_0 r11_0 r12_0 ∧ DsoV r1_0 r11_0 r12_0 < ((el r1_0 r11_0).length : Int)) ∧
 ((¬ (el (el r1_0 r11_0) (DsoV r1_0 r11_0 r12_0) = r12_0) →
 Q false) ∧
 (el (el r1_0 r11_0) (DsoV r1_0 r11_0 r12_0) = r12_0 →
 (0 ≤ DpwV r1_0 r11_0 r13_0 ∧ DpwV r1_0 r11_0 r13_0 < (r1_0.length : Int)) ∧
 (0 ≤ DpwV r1_0 r11_0 r13_0 ∧ DpwV r1_0 r11_0 r13_0 < ((el r1_0 (DpwV r1_0 r11_0 r13_0)).length : Int)) ∧
 ((¬ (DpwV r1_0 r11_0 (r13_0 + 1) = el (el r1_0 (DpwV r1_0 r11_0 r13_0)) (DpwV r1_0 r11_0 r13_0)) →
 Q false) ∧
 (DpwV r1_0 r11_0 (r13_0 + 1) = el (el r1_0 (DpwV r1_0 r11_0 r13_0)) (DpwV r1_0 r11_0 r13_0) →
 ((¬ (((RowT r1_0).length : Int) = (r1_0.length : Int)) →
 Q false) ∧
 (((RowT r1_0).length : Int) = (r1_0.length : Int) →
 (0 ≤ r11_0 ∧ r11_0 < (r1_0.length : Int)) ∧
 (small (el r1_0 r11_0)) ∧
 ((PorE (el r1_0 r11_0) = 0 →
 (0 ≤ r11_0 ∧ r11_0 < ((RowT r1_0).length : Int)) ∧
 Q (decide (el (RowT r1_0) r11_0 = PorV (el r1_0 r11_0)))) ∧
 (¬ (PorE (el r1_0 r11_0) = 0) →
 Q false))))))))))))))))))))))))))))))))))))))))))))

@[reducible] def fine2 (t : List (List Int)) : Prop := small2 t ∧ tot t ≤ 1000000000
theorem bytes_of {code : List Int} (hp : code.length ≤ 9223372036854775807 ∧ ∀ z_ ∈ code, 0 ≤ z_ ∧ z_ ≤ 255) (h : ¬ (4096 < (code.length : Int))) : small code ∧ bytes code :=
  ⟨by show (_ : Int) ≤ _; omega, fun i i0 i1 => hp.2 _ (el_mem ⟨i0, i1⟩)⟩
def cfT (code : List Int) (r : List (List Int)) (Q : Bool → Prop) : Prop :=
  ((CycfE r = 0 →
  ((0 : Int) ≤ 0 ∧ 0 < ((CycfT r).length : Int)) ∧
  ((0 : Int) ≤ 1 ∧ 1 < ((CycfT r).length : Int)) ∧
  ((0 : Int) ≤ 2 ∧ 2 < ((CycfT r).length : Int)) ∧
  (0 ≤ el (CycfT r) 0 ∧ el (CycfT r) 0 < (r.length : Int)) ∧
  (0 ≤ el (CycfT r) 0 ∧ el (CycfT r) 0 < (r.length : Int)) ∧
  (0 ≤ el (CycfT r) 1 ∧ el (CycfT r) 1 < (r.length : Int)) ∧
  (0 ≤ el (CycfT r) 1 ∧ el (CycfT r) 1 < (r.length : Int)) ∧
  (0 ≤ el (CycfT r) 1 ∧ el (CycfT r) 1 < ((el r (el (CycfT r) 0)).length : Int)) ∧
  (0 ≤ el (el r (el (CycfT r) 0)) (el (CycfT r) 1) ∧ el (el r (el (CycfT r) 0)) (el (CycfT r) 1) < (r.length : Int)) ∧
  (0 ≤ el (CycfT r) 2 ∧ el (CycfT r) 2 < ((el r (el (CycfT r) 0)).length : Int)) ∧
  (0 ≤ el (el r (el (CycfT r) 0)) (el (CycfT r) 2) ∧ el (el r (el (CycfT r) 0)) (el (CycfT r) 2) < ((el r (el (el r (el (CycfT r) 0)) (el (CycfT r) 1))).length : Int)) ∧
  (0 ≤ el (CycfT r) 0 ∧ el (CycfT r) 0 < ((el r (el (CycfT r) 1)).length : Int)) ∧
  (0 ≤ el (el r (el (CycfT r) 1)) (el (CycfT r) 0) ∧ el (el r (el (CycfT r) 1)) (el (CycfT r) 0) < (r.length : Int)) ∧
  (0 ≤ el (CycfT r) 2 ∧ el (CycfT r) 2 < ((el r (el (CycfT r) 1)).length : Int)) ∧
  (0 ≤ el (el r (el (CycfT r) 1)) (el (CycfT r) 2) ∧ el (el r (el (CycfT r) 1)) (el (CycfT r) 2) < ((el r (el (el r (el (CycfT r) 1)) (el (CycfT r) 0))).length : Int)) ∧
  Q (!(decide (el (el r (el (el r (el (CycfT r) 0)) (el (CycfT r) 1))) (el (el r (el (CycfT r) 0)) (el (CycfT r) 2)) = el (el r (el (el r (el (CycfT r) 1)) (el (CycfT r) 0))) (el (el r (el (CycfT r) 1)) (el (CycfT r) 2)))))) ∧
  (¬ (CycfE r = 0) →
  (small2 r) ∧
  (((isCyc r) = false →
  Q true) ∧
  ((isCyc r) = true →
  (small code ∧ bytes code ∧ 0 ≤ (815 : Int) ∧ (815 : Int) ≤ 18446744073709551615) ∧
  ∀ (r2_0 : List Int) (r2_1 : Int) (r2_2 : Int), (r2_0 = code ∧ okS code r2_1 r2_2) →
  (okS r2_0 r2_1 r2_2 ∧ InI (r.length : Int)) ∧
  ∀ (r3_0 : Int) (o3_0 : List Int) (o3_1 : Int) (o3_2 : Int), (nxP (r.length : Int) r3_0 ∧ o3_0 = r2_0 ∧ okS r2_0 o3_1 o3_2) →
  (okS o3_0 o3_1 o3_2 ∧ InI (r.length : Int)) ∧
  ∀ (r4_0 : Int) (o4_0 : List Int) (o4_1 : Int) (o4_2 : Int), (nxP (r.length : Int) r4_0 ∧ o4_0 = o3_0 ∧ okS o3_0 o4_1 o4_2) →
  (okS o4_0 o4_1 o4_2 ∧ InI (10 : Int)) ∧
  ∀ (r5_0 : Int) (o5_0 : List Int) (o5_1 : Int) (o5_2 : Int), (nxP (10 : Int) r5_0 ∧ o5_0 = o4_0 ∧ okS o4_0 o5_1 o5_2) →
  (small2 r ∧ InI r3_0 ∧ InI r4_0) ∧
  (small2 r ∧ InI r3_0 ∧ InI r5_0) ∧
  (InI (r5_0 + 1)) ∧
  (small2 r ∧ InI r3_0 ∧ InI (r5_0 + 1)) ∧
  (small2 r) ∧
  ((¬ (DsoE r r3_0 r4_0 = 0) →
  Q false) ∧
  (DsoE r r3_0 r4_0 = 0 →
  ((¬ (DpwE r r3_0 r5_0 = 0) →
  Q false) ∧
  (DpwE r r3_0 r5_0 = 0 →
  ((¬ (DpwE r r3_0 (r5_0 + 1) = 0) →
  Q false) ∧
  (DpwE r r3_0 (r5_0 + 1) = 0 →
  ((¬ (cyE r = 0) →
  Q false) ∧
  (cyE r = 0 →
  ((DsoV r r3_0 r4_0 < 0 →
  Q false) ∧
  (¬ (DsoV r r3_0 r4_0 < 0) →
  (((r.length : Int) ≤ DsoV r r3_0 r4_0 →
  Q false) ∧
  (¬ ((r.length : Int) ≤ DsoV r r3_0 r4_0) →
  ((DpwV r r3_0 r5_0 < 0 →
  Q false) ∧
  (¬ (DpwV r r3_0 r5_0 < 0) →
  (((r.length : Int) ≤ DpwV r r3_0 r5_0 →
  Q false) ∧
  (¬ ((r.length : Int) ≤ DpwV r r3_0 r5_0) →
  (0 ≤ r3_0 ∧ r3_0 < (r.length : Int)) ∧
  (0 ≤ DsoV r r3_0 r4_0 ∧ DsoV r r3_0 r4_0 < ((el r r3_0).length : Int)) ∧
  ((¬ (el (el r r3_0) (DsoV r r3_0 r4_0) = r4_0) →
  Q false) ∧
  (el (el r r3_0) (DsoV r r3_0 r4_0) = r4_0 →
  (0 ≤ DpwV r r3_0 r5_0 ∧ DpwV r r3_0 r5_0 < (r.length : Int)) ∧
  (0 ≤ DpwV r r3_0 r5_0 ∧ DpwV r r3_0 r5_0 < ((el r (DpwV r r3_0 r5_0)).length : Int)) ∧
  ((¬ (DpwV r r3_0 (r5_0 + 1) = el (el r (DpwV r r3_0 r5_0)) (DpwV r r3_0 r5_0)) →
  Q false) ∧
  (DpwV r r3_0 (r5_0 + 1) = el (el r (DpwV r r3_0 r5_0)) (DpwV r r3_0 r5_0) →
  ((¬ (((RowT r).length : Int) = (r.length : Int)) →
  Q false) ∧
  (((RowT r).length : Int) = (r.length : Int) →
  (0 ≤ r3_0 ∧ r3_0 < (r.length : Int)) ∧
  (small (el r r3_0)) ∧
  ((PorE (el r r3_0) = 0 →
  (0 ≤ r3_0 ∧ r3_0 < ((RowT r).length : Int)) ∧
  Q (decide (el (RowT r) r3_0 = PorV (el r r3_0)))) ∧
  (¬ (PorE (el r r3_0) = 0) →
  Q false))))))))))))))))))))))))))))
theorem first3_ex {n : Int} {f : Int → Int → Int → Bool} (h : first3 n f ≠ []) : ∃ x y z : Int, (0 ≤ x ∧ x < n) ∧ (0 ≤ y ∧ y < n) ∧ (0 ≤ z ∧ z < n) ∧ f x y z = true ∧ first3 n f = [x, y, z] := by
  unfold first3 at h ⊢
  split at h
  · rename_i l hl
    obtain ⟨x, hx, h1⟩ := List.exists_of_findSome?_eq_some hl
    obtain ⟨y, hy, h2⟩ := List.exists_of_findSome?_eq_some h1
    obtain ⟨z, hz, h3⟩ := List.exists_of_findSome?_eq_some h2
    split at h3
    · rename_i hf
      cases h3
      exact ⟨x, y, z, mem_ran.1 hx, mem_ran.1 hy, mem_ran.1 hz, hf, by simp [hl]⟩
    · cases h3
  · exact absurd rfl h
theorem szIn {r : List (List Int)} (h : isTab r = true) (i : Int) (hi : 0 ≤ i ∧ i < (r.length : Int)) : InI i := by
  have := isTab_len h
  exact ⟨by omega, by omega⟩
theorem dpw_in {r : List (List Int)} (h : isCyc r = true) {x : Int} (hx : 0 ≤ x ∧ x < (r.length : Int)) (k : Nat) : 0 ≤ iterN (fun x => el (el r x) x) k x ∧ iterN (fun x => el (el r x) x) k x < (r.length : Int) := by
  induction k with
  | zero => exact hx
  | succ k ih => rw [iterN_succ]; exact rk_el (isCyc_tab h) ih ih
theorem dpw_at {r : List (List Int)} (h : isCyc r = true) {x k : Int} (hx : 0 ≤ x ∧ x < (r.length : Int)) (hk : 0 ≤ k ∧ k ≤ 1000) : DpwE r x k = 0 ∧ DpwV r x k = iterN (fun x => el (el r x) x) k.toNat x := by
  have e : DpwE r x k = 0 := by unfold DpwE; rw [if_pos h, if_pos (by simp [inN]; omega)]
  exact ⟨e, by unfold DpwV; rw [if_pos e]⟩
theorem cfT_ok {code : List Int} {r : List (List Int)} (hs : small code ∧ bytes code) (ht : szT r) (h0 : SquaE r = 0) : cfT code r (fun y0 => y0 = true) := by
  have tt : isTab r = true := by
    unfold SquaE at h0; split at h0
    · assumption
    · cases h0
  have hn := isTab_len tt
  have sm := szT_small ht
  refine ⟨fun e => ?_, fun _ => ⟨sm, fun _ => rfl, fun h => ⟨⟨hs.1, hs.2, by omega, by omega⟩, ?_⟩⟩⟩
  · have hne : cycF r ≠ [] := fun g => by unfold CycfE at e; rw [if_pos tt, if_pos g] at e; cases e
    obtain ⟨x, y, z, hx, hy, hz, hf, he⟩ := first3_ex hne
    have eT : CycfT r = [x, y, z] := by unfold CycfT; rw [if_pos tt]; exact he
    rw [eT]
    have e0 : el [x, y, z] 0 = x := rfl
    have e1 : el [x, y, z] 1 = y := rfl
    have e2 : el [x, y, z] 2 = z := rfl
    rw [e0, e1, e2]
    have xy := rk_el tt hx hy
    have xz := rk_el tt hx hz
    have yx := rk_el tt hy hx
    have yz := rk_el tt hy hz
    have lx := rk_len tt hx
    have ly := rk_len tt hy
    have l1 := rk_len tt xy
    have l2 := rk_len tt yx
    refine ⟨⟨by omega, by simp⟩, ⟨by omega, by simp⟩, ⟨by omega, by simp⟩, hx, hx, hy, hy, ⟨hy.1, by omega⟩, xy, ⟨hz.1, by omega⟩, ⟨xz.1, by omega⟩, ⟨hx.1, by omega⟩, yx, ⟨hz.1, by omega⟩, ⟨yz.1, by omega⟩, ?_⟩
    exact hf
  · have hp := isCyc_perm h
    rintro c a s ⟨rfl, h1⟩
    refine ⟨⟨h1, by omega, by omega⟩, ?_⟩
    rintro x p0 p1 p2 ⟨hx, rfl, h2⟩
    have hx := hx.2 (by omega)
    refine ⟨⟨h2, by omega, by omega⟩, ?_⟩
    rintro z q0 q1 q2 ⟨hz, rfl, h3⟩
    have hz := hz.2 (by omega)
    refine ⟨⟨h3, by omega, by omega⟩, ?_⟩
    rintro k w0 w1 w2 ⟨hk, rfl, h4⟩
    have hk := hk.2 (by omega)
    obtain ⟨d1, d2⟩ := dpw_at h hx (k := k) ⟨hk.1, by omega⟩
    obtain ⟨d3, d4⟩ := dpw_at h hx (k := k + 1) ⟨by omega, by omega⟩
    have di := dpw_in h hx k.toNat
    have lx := rk_len tt hx
    have hE : DsoE r x z = 0 := by unfold DsoE; rw [if_pos h, if_pos (by simp [inN]; omega)]
    have hV : DsoV r x z = idxI (el r x) z := by unfold DsoV; rw [if_pos hE]
    obtain ⟨i1, i2⟩ := idxI_spec (isPerm_all (all_perm_el hp hx) (x := z) ⟨hz.1, by omega⟩)
    have hC : cyE r = 0 := by unfold cyE; rw [if_pos h]
    have hR : RowT r = r.map ordI := by unfold RowT; rw [if_pos h]
    have hB : permB (el r x) = true := by simp [permB, all_perm_el hp hx]; omega
    rw [d2, d4, hV, hR, show (k + 1).toNat = k.toNat + 1 by omega, iterN_succ]
    have li := rk_len tt di
    refine ⟨⟨sm, szIn tt _ hx, szIn tt _ hz⟩, ⟨sm, szIn tt _ hx, by omega, by omega⟩, ⟨by omega, by omega⟩, ⟨sm, szIn tt _ hx, by omega, by omega⟩, sm, fun g => absurd hE g, fun _ => ⟨fun g => absurd d1 g, fun _ => ⟨fun g => absurd d3 g, fun _ => ⟨fun g => absurd hC g, fun _ => ⟨fun g => absurd g (by omega), fun _ => ⟨fun g => absurd g (by omega), fun _ => ⟨fun g => absurd g (by omega), fun _ => ⟨fun g => absurd g (by omega), fun _ => ⟨hx, ⟨i1.1, by omega⟩, fun g => absurd i2 g, fun _ => ⟨di, ⟨di.1, by omega⟩, fun g => absurd rfl g, fun _ => ⟨fun g => absurd (by simp) g, fun _ => ⟨hx, by show (_ : Int) ≤ _; omega, fun _ => ⟨⟨hx.1, by simp; omega⟩, ?_⟩, fun g => ?_⟩⟩⟩⟩⟩⟩⟩⟩⟩⟩⟩⟩
    · rw [el_map hx]; unfold PorV; rw [if_pos hB]; exact decide_eq_true rfl
    · exact absurd (by unfold PorE; rw [if_pos hB]) g
theorem p_laws_FnCycleFaults (code : List Int) (hp : code.length ≤ 9223372036854775807 ∧ ∀ z_ ∈ code, 0 ≤ z_ ∧ z_ ≤ 255) : wp_laws_FnCycleFaults code (fun y0 => y0 = true) := by
  unfold wp_laws_FnCycleFaults
  refine ⟨fun _ => rfl, fun hb => ⟨bytes_of hp hb, ?_⟩⟩
  have hsb := bytes_of hp hb
  rintro r ht
  have sm := szT_small ht
  have sT : small (CycfT r) := by
    unfold CycfT
    split
    · by_cases g : cycF r = []
      · rw [g]; show (_ : Int) ≤ _; simp
      · obtain ⟨x, y, z, _, _, _, _, he⟩ := first3_ex g
        show ((cycF r).length : Int) ≤ _
        rw [show cycF r = [x, y, z] from he]; simp
    · show (_ : Int) ≤ _; simp
  refine ⟨sm, sm, fun g => absurd rfl g, fun _ => ⟨⟨sT, sT⟩, fun g => absurd rfl g, fun _ => ⟨fun e => ⟨sm, ?_⟩, fun e => ⟨sm, sm, ?_⟩⟩⟩⟩
  · have : isTab r = false := by
      unfold CycfE at e; split at e
      · split at e <;> cases e
      · rename_i g; simpa using g
    have : isCyc r = false := by simp [isCyc, this]
    rw [this]; rfl
  · have tt : isTab r = true := by
      unfold CycfE at e; split at e
      · assumption
      · exact absurd rfl e
    have hS : SquaE r = 0 := by unfold SquaE; rw [if_pos tt]
    have hSq : SquaT r = diag r := by unfold SquaT; rw [if_pos tt]
    have hn := isTab_len tt
    have fin := cfT_ok hsb ht hS
    refine ⟨fun g => absurd hS g, fun _ => ⟨fun g => absurd (if_pos tt) g, fun _ => ⟨sm, fun e4 => ?_, fun e4 => ?_⟩⟩⟩
    · have hc : cycF r = [] := by
        unfold CycfE at e4; rw [if_pos tt] at e4; split at e4
        · assumption
        · cases e4
      refine ⟨fun pr => ⟨?_, fun g => ?_, fun _ => fin⟩, fun pr => ⟨fun g => ?_, fun _ => fin⟩⟩
      · show (_ : Int) ≤ _; rw [hSq, length_diag]; omega
      · simp only [tt, Bool.true_and] at pr
        rw [hSq] at g
        have : isCyc r = permB (diag r) := by simp [isCyc, permB, tt, pr, hc]; omega
        rw [this] at g; simp at g
      · simp only [tt, Bool.true_and] at pr
        have : isCyc r = false := by simp [isCyc, pr]
        rw [this] at g; cases g
    · have hc : isCyc r = false := by
        unfold CycfE at e4; rw [if_pos tt] at e4
        have : cycF r ≠ [] := fun g => e4 (if_pos g)
        simp [isCyc, this]
      refine ⟨fun g => ?_, fun _ => fin⟩
      rw [hc] at g; cases g

set_option maxRecDepth 100000 in
set_option maxHeartbeats 4000000 in
theorem w_laws_FnCycleFaults (code : List Int) (Q : Bool → Prop) (h : wp_laws_FnCycleFaults code Q) : AF Try.prog 6 [.lst (bys code)] (fun R_ => ∃ y0, Q y0 ∧ R_ = cb y0) := by
  refine AF.ofWQ (af_enter (n := 261) Try.func6 rfl (by rfl) rfl (Nat.le_of_ble_eq_true rfl) ?_)
  unfold wp_laws_FnCycleFaults at h
  refine aw_seq ?_
  refine aw_gh (gh_to (n := 261) (σ' := []) (env' := [(0, .c (.lst (bys code)))]) rfl rfl ⟨rfl, trivial⟩) ?_
  refine aw_region ?_
  refine run_s (ss_assign rfl) rfl ?_
  refine run_nil ?_
  refine aw_seq ?_
  refine aw_seq ?_
  refine aw_region ?_
  refine run_s (ss_move rfl) rfl ?_
  refine run_w (ws_call (xs := [.tmp 31]) (ids := []) rfl rfl rfl rfl (c_laws_big code) rfl ?_ )
  rintro _ rfl
  refine ⟨rfl, ?_⟩
  refine run_nil ?_
  refine aw_cond rfl (fun q2 => ?_) (fun q2 => ?_)
  ·replace h := h.1 (of_decide_eq_true q2)
   refine aw_seq ?_
   refine aw_gh (gh_to (n := 261) (σ' := []) (env' := [(2, .c (cb false))]) rfl rfl ⟨rfl, trivial⟩) ?_
   refine aw_region ?_
   refine run_s (ss_assign rfl) rfl ?_
   refine run_nil ?_
   refine aw_ret ?_
   exact retAF_mk (retv1 rfl (rv_tmp rfl)) rfl rfl ⟨_, (cle_refl _), _, h, rfl⟩
  ·replace h := h.2 (of_decide_eq_false q2)
   refine aw_skip ?_
   refine aw_seq ?_
   refine aw_region ?_
   refine run_s (ss_move rfl) rfl ?_
   obtain ⟨q3, h⟩ := h
   refine run_w (ws_call (xs := [.tmp 33]) (ids := [34]) rfl rfl rfl rfl (c_spec_DrawCycleFault code q3) rfl ?_ )
   rintro _ ⟨r1_0, q4, rfl⟩
   replace h := h r1_0 q4
   refine ⟨rfl, ?_⟩
   refine run_w (ws_alloc (id := 3) rfl (Nat.le_of_ble_eq_true rfl) ⟨rfl, ?_⟩)
   refine run_w (ws_storeS rfl rfl (Nat.le_of_ble_eq_true rfl) rfl rfl rfl ⟨rfl, ?_⟩)
   refine run_nil ?_
   refine aw_gh (gh_to (n := 261) (σ' := [(3, ⟨[.hole], [(0, .ref 34)]⟩), (34, ⟨orows r1_0, []⟩)]) (env' := [(0, .c (.lst (bys code))), (3, .cell 3 0)]) rfl rfl ⟨rfl, rfl, trivial⟩) ?_
   refine aw_gh (gh_frzE (id := 34) (fun r => C.lst (ints r)) rfl (fun _ => (fz_own (fz_map (fun _ => rfl) _)))) ?_
   refine aw_gh (gh_fillc (id := 3) (j := 0) rfl rfl (Nat.le_of_ble_eq_true rfl)) ?_
   refine aw_gh (gh_to (n := 261) (σ' := [(3, ⟨[.lst (rows r1_0)], []⟩)]) (env' := [(0, .c (.lst (bys code))), (3, .cell 3 0)]) rfl rfl ⟨rfl, rfl, trivial⟩) ?_
   refine aw_seq ?_
   refine aw_region ?_
   refine run_s (ss_loadS rfl rfl rfl rfl) rfl ?_
   obtain ⟨q5, h⟩ := h
   refine run_w (ws_call (xs := [.tmp 36]) (ids := [37]) rfl rfl rfl rfl (c_impl_CycleFault r1_0 q5) rfl ?_ )
   rintro _ rfl
   refine ⟨rfl, ?_⟩
   refine run_s (ss_move rfl) rfl ?_
   refine run_s (ss_extract rfl rfl) rfl ?_
   refine run_s (ss_extract rfl rfl) rfl ?_
   refine run_s (ss_assign rfl) rfl ?_
   refine run_s (ss_assign rfl) rfl ?_
   refine run_nil ?_
   refine aw_gh (gh_to (n := 261) (σ' := [(37, ⟨ints (CycfT r1_0), []⟩), (3, ⟨[.lst (rows r1_0)], []⟩)]) (env' := [(0, .c (.lst (bys code))), (3, .cell 3 0), (4, .ref 37), (5, .c (ci (CycfE r1_0)))]) rfl rfl ⟨rfl, rfl, rfl, rfl, trivial⟩) ?_
   refine aw_gh (gh_frzE (id := 37) ci rfl (fun _ => rfl)) ?_
   refine aw_gh (gh_to (n := 261) (σ' := [(3, ⟨[.lst (rows r1_0)], []⟩)]) (env' := [(0, .c (.lst (bys code))), (3, .cell 3 0), (4, .c (.lst (ints (CycfT r1_0)))), (5, .c (ci (CycfE r1_0)))]) rfl rfl ⟨rfl, rfl, rfl, rfl, trivial⟩) ?_
   refine aw_seq ?_
   refine aw_region ?_
   refine run_s (ss_loadS rfl rfl rfl rfl) rfl ?_
   obtain ⟨q7, h⟩ := h
   refine run_w (ws_call (xs := [.tmp 41]) (ids := [42]) rfl rfl rfl rfl (c_spec_CycleFault r1_0 q7) rfl ?_ )
   rintro _ rfl
   refine ⟨rfl, ?_⟩
   refine run_s (ss_move rfl) rfl ?_
   refine run_s (ss_extract rfl rfl) rfl ?_
   refine run_s (ss_extract rfl rfl) rfl ?_
   refine run_s (ss_assign rfl) rfl ?_
   refine run_s (ss_assign rfl) rfl ?_
   refine run_nil ?_
   refine aw_gh (gh_to (n := 261) (σ' := [(42, ⟨ints (CycfT r1_0), []⟩), (3, ⟨[.lst (rows r1_0)], []⟩)]) (env' := [(0, .c (.lst (bys code))), (3, .cell 3 0), (4, .c (.lst (ints (CycfT r1_0)))), (5, .c (ci (CycfE r1_0))), (6, .ref 42), (7, .c (ci (CycfE r1_0)))]) rfl rfl ⟨rfl, rfl, rfl, rfl, rfl, rfl, trivial⟩) ?_
   refine aw_gh (gh_frzE (id := 42) ci rfl (fun _ => rfl)) ?_
   refine aw_gh (gh_to (n := 261) (σ' := [(3, ⟨[.lst (rows r1_0)], []⟩)]) (env' := [(0, .c (.lst (bys code))), (3, .cell 3 0), (4, .c (.lst (ints (CycfT r1_0)))), (5, .c (ci (CycfE r1_0))), (6, .c (.lst (ints (CycfT r1_0)))), (7, .c (ci (CycfE r1_0)))]) rfl rfl ⟨rfl, rfl, rfl, rfl, rfl, rfl, trivial⟩) ?_
   refine aw_seq ?_
   refine aw_seq ?_
   refine aw_region ?_
   refine run_s (ss_move rfl) rfl ?_
   refine run_s (ss_move rfl) rfl ?_
   refine run_s (ss_neq rfl rfl) rfl ?_
   refine run_s (ss_move rfl) rfl ?_
   refine run_split (s := 48) rfl (fun q9 => ?_) (fun q9 => ?_)
   ·replace h := h.1 (of_decide_eq_false (bnot_t q9))
    refine run_gf rfl rfl q9 rfl ?_
    refine run_gf rfl rfl q9 rfl ?_
    refine run_gf rfl rfl q9 rfl ?_
    refine run_gf rfl rfl q9 rfl ?_
    refine run_s (ss_pickT rfl q9 rfl) rfl ?_
    refine run_nil ?_
    refine aw_cond rfl (fun q10 => ?_) (fun q10 => ?_)
    ·skip
     refine aw_seq ?_
     refine aw_gh (gh_to (n := 261) (σ' := [(3, ⟨[.lst (rows r1_0)], []⟩)]) (env' := []) rfl rfl trivial) ?_
     refine aw_region ?_
     refine run_s (ss_assign rfl) rfl ?_
     refine run_nil ?_
     refine aw_ret ?_
     exact retAF_mk (retv1 rfl (rv_tmp rfl)) rfl rfl ⟨_, (cle_refl _), _, h, rfl⟩
    ·cases q10
   ·replace h := h.2 (of_decide_eq_true (bnot_f q9))
    refine run_gt rfl rfl q9 ?_
    refine run_s (ss_move rfl) rfl ?_
    refine run_gt rfl rfl q9 ?_
    refine run_s (ss_move rfl) rfl ?_
    refine run_gt rfl rfl q9 ?_
    obtain ⟨q11, h⟩ := h
    refine run_w (ws_call (xs := [.tmp 49, .tmp 50]) (ids := []) rfl rfl rfl rfl (c_laws_likeInts (CycfT r1_0) (CycfT r1_0) q11) rfl ?_ )
    rintro _ rfl
    refine ⟨rfl, ?_⟩
    refine run_gt rfl rfl q9 ?_
    refine run_s (ss_not rfl) rfl ?_
    refine run_s (ss_pickF rfl q9 rfl) rfl ?_
    refine run_nil ?_
    refine aw_cond rfl (fun q13 => ?_) (fun q13 => ?_)
    ·replace h := h.1 (of_decide_eq_false (bnot_t q13))
     refine aw_seq ?_
     refine aw_gh (gh_to (n := 261) (σ' := [(3, ⟨[.lst (rows r1_0)], []⟩)]) (env' := []) rfl rfl trivial) ?_
     refine aw_region ?_
     refine run_s (ss_assign rfl) rfl ?_
     refine run_nil ?_
     refine aw_ret ?_
     exact retAF_mk (retv1 rfl (rv_tmp rfl)) rfl rfl ⟨_, (cle_refl _), _, h, rfl⟩
    ·replace h := h.2 (of_decide_eq_true (bnot_f q13))
     refine aw_skip ?_
     refine aw_seq ?_
     refine aw_seq ?_
     refine aw_region ?_
     refine run_s (ss_move rfl) rfl ?_
     refine run_s (ss_eql rfl rfl) rfl ?_
     refine run_nil ?_
     refine aw_cond rfl (fun q14 => ?_) (fun q14 => ?_)
     ·replace h := h.1 (of_decide_eq_true q14)
      refine aw_seq ?_
      refine aw_gh (gh_to (n := 261) (σ' := [(3, ⟨[.lst (rows r1_0)], []⟩)]) (env' := [(3, .cell 3 0)]) rfl rfl ⟨rfl, trivial⟩) ?_
      refine aw_region ?_
      refine run_s (ss_loadS rfl rfl rfl rfl) rfl ?_
      obtain ⟨q15, h⟩ := h
      refine run_w (ws_call (xs := [.tmp 56]) (ids := []) rfl rfl rfl rfl (c_impl_IsCycleSet r1_0 q15) rfl ?_ )
      rintro _ rfl
      refine ⟨rfl, ?_⟩
      refine run_s (ss_not rfl) rfl ?_
      refine run_s (ss_assign rfl) rfl ?_
      refine run_nil ?_
      refine aw_ret ?_
      exact retAF_mk (retv1 rfl (rv_tmp rfl)) rfl rfl ⟨_, (cle_refl _), _, h, rfl⟩
     ·replace h := h.2 (of_decide_eq_false q14)
      refine aw_skip ?_
      refine aw_seq ?_
      refine aw_region ?_
      refine run_s (ss_field_cell rfl) rfl ?_
      refine run_s (ss_loadC rfl rfl rfl rfl rfl) rfl ?_
      refine run_s (ss_assign rfl) rfl ?_
      refine run_nil ?_
      refine aw_seq ?_
      refine aw_region ?_
      refine run_s (ss_loadS rfl rfl rfl rfl) rfl ?_
      obtain ⟨q17, h⟩ := h
      refine run_w (ws_call (xs := [.tmp 62]) (ids := [63]) rfl rfl rfl rfl (c_impl_SquaresOf r1_0 q17) rfl ?_ )
      rintro _ rfl
      refine ⟨rfl, ?_⟩
      refine run_s (ss_move rfl) rfl ?_
      refine run_s (ss_extract rfl rfl) rfl ?_
      refine run_s (ss_extract rfl rfl) rfl ?_
      refine run_s (ss_assign rfl) rfl ?_
      refine run_s (ss_assign rfl) rfl ?_
      refine run_nil ?_
      refine aw_gh (gh_to (n := 261) (σ' := [(63, ⟨ints (SquaT r1_0), []⟩), (3, ⟨[.lst (rows r1_0)], []⟩)]) (env' := [(0, .c (.lst (bys code))), (3, .cell 3 0), (4, .c (.lst (ints (CycfT r1_0)))), (5, .c (ci (CycfE r1_0))), (8, .c (.lst (rows r1_0))), (9, .ref 63), (10, .c (ci (SquaE r1_0)))]) rfl rfl ⟨rfl, rfl, rfl, rfl, rfl, rfl, rfl, trivial⟩) ?_
      refine aw_gh (gh_frzE (id := 63) ci rfl (fun _ => rfl)) ?_
      refine aw_gh (gh_to (n := 261) (σ' := [(3, ⟨[.lst (rows r1_0)], []⟩)]) (env' := [(0, .c (.lst (bys code))), (3, .cell 3 0), (4, .c (.lst (ints (CycfT r1_0)))), (5, .c (ci (CycfE r1_0))), (8, .c (.lst (rows r1_0))), (9, .c (.lst (ints (SquaT r1_0)))), (10, .c (ci (SquaE r1_0)))]) rfl rfl ⟨rfl, rfl, rfl, rfl, rfl, rfl, rfl, trivial⟩) ?_
      refine aw_seq ?_
      refine aw_region ?_
      refine run_s (ss_move rfl) rfl ?_
      obtain ⟨q19, h⟩ := h
      refine run_w (ws_call (xs := [.tmp 67]) (ids := []) rfl rfl rfl rfl (c_impl_HasPermutationRows r1_0 q19) rfl ?_ )
      rintro _ rfl
      refine ⟨rfl, ?_⟩
      refine run_s (ss_move rfl) rfl ?_
      refine run_s (ss_extract rfl rfl) rfl ?_
      refine run_s (ss_extract rfl rfl) rfl ?_
      refine run_s (ss_assign rfl) rfl ?_
      refine run_s (ss_assign rfl) rfl ?_
      refine run_nil ?_
      refine aw_seq ?_
      refine aw_seq ?_
      refine aw_region ?_
      refine run_s (ss_move rfl) rfl ?_
      refine run_s (ss_neq rfl rfl) rfl ?_
      refine run_s (ss_move rfl) rfl ?_
      refine run_split (s := 73) rfl (fun q21 => ?_) (fun q21 => ?_)
      ·replace h := h.1 (of_decide_eq_false (bnot_t q21))
       refine run_gf rfl rfl q21 rfl ?_
       refine run_gf rfl rfl q21 rfl ?_
       refine run_s (ss_pickT rfl q21 rfl) rfl ?_
       refine run_s (ss_move rfl) rfl ?_
       refine run_split (s := 77) rfl (fun q22 => ?_) (fun q22 => ?_)
       ·skip
        refine run_gf rfl rfl q22 rfl ?_
        refine run_gf rfl rfl q22 rfl ?_
        refine run_gf rfl rfl q22 rfl ?_
        refine run_gf rfl rfl q22 rfl ?_
        refine run_gfu rfl rfl q22 rfl ?_
        refine run_gu rfl rfl rfl ?_
        refine run_gf rfl rfl q22 rfl ?_
        refine run_gfu rfl rfl q22 rfl ?_
        refine run_gu rfl rfl rfl ?_
        refine run_gu rfl rfl rfl ?_
        refine run_gf rfl rfl q22 rfl ?_
        refine run_gf rfl rfl q22 rfl ?_
        refine run_s (ss_pickT rfl q22 rfl) rfl ?_
        refine run_nil ?_
        refine aw_cond rfl (fun q23 => ?_) (fun q23 => ?_)
        ·skip
         refine aw_seq ?_
         refine aw_gh (gh_to (n := 261) (σ' := [(3, ⟨[.lst (rows r1_0)], []⟩)]) (env' := []) rfl rfl trivial) ?_
         refine aw_region ?_
         refine run_s (ss_assign rfl) rfl ?_
         refine run_nil ?_
         refine aw_ret ?_
         exact retAF_mk (retv1 rfl (rv_tmp rfl)) rfl rfl ⟨_, (cle_refl _), _, h, rfl⟩
        ·cases q23
       ·cases q22
      ·replace h := h.2 (of_decide_eq_true (bnot_f q21))
       refine run_gt rfl rfl q21 ?_
       refine run_s (ss_move rfl) rfl ?_
       refine run_gt rfl rfl q21 ?_
       refine run_s (ss_neq rfl rfl) rfl ?_
       refine run_s (ss_pickF rfl q21 rfl) rfl ?_
       refine run_s (ss_move rfl) rfl ?_
       refine run_split (s := 77) rfl (fun q24 => ?_) (fun q24 => ?_)
       ·replace h := h.1 (of_decide_eq_false (bnot_t q24))
        refine run_gf rfl rfl q24 rfl ?_
        refine run_gf rfl rfl q24 rfl ?_
        refine run_gf rfl rfl q24 rfl ?_
        refine run_gf rfl rfl q24 rfl ?_
        refine run_gfu rfl rfl q24 rfl ?_
        refine run_gu rfl rfl rfl ?_
        refine run_gf rfl rfl q24 rfl ?_
        refine run_gfu rfl rfl q24 rfl ?_
        refine run_gu rfl rfl rfl ?_
        refine run_gu rfl rfl rfl ?_
        refine run_gf rfl rfl q24 rfl ?_
        refine run_gf rfl rfl q24 rfl ?_
        refine run_s (ss_pickT rfl q24 rfl) rfl ?_
        refine run_nil ?_
        refine aw_cond rfl (fun q25 => ?_) (fun q25 => ?_)
        ·skip
         refine aw_seq ?_
         refine aw_gh (gh_to (n := 261) (σ' := [(3, ⟨[.lst (rows r1_0)], []⟩)]) (env' := []) rfl rfl trivial) ?_
         refine aw_region ?_
         refine run_s (ss_assign rfl) rfl ?_
         refine run_nil ?_
         refine aw_ret ?_
         exact retAF_mk (retv1 rfl (rv_tmp rfl)) rfl rfl ⟨_, (cle_refl _), _, h, rfl⟩
        ·cases q25
       ·replace h := h.2 (of_decide_eq_true (bnot_f q24))
        refine run_gt rfl rfl q24 ?_
        refine run_s (ss_loadS rfl rfl rfl rfl) rfl ?_
        refine run_gt rfl rfl q24 ?_
        obtain ⟨q26, h⟩ := h
        refine run_w (ws_call (xs := [.tmp 78]) (ids := []) rfl rfl rfl rfl (c_impl_IsCycleSet r1_0 q26) rfl ?_ )
        rintro _ rfl
        refine ⟨rfl, ?_⟩
        refine run_gt rfl rfl q24 ?_
        refine run_s (ss_move rfl) rfl ?_
        refine run_gt rfl rfl q24 ?_
        refine run_s (ss_eql rfl rfl) rfl ?_
        refine run_gt rfl rfl q24 ?_
        refine run_s (ss_move rfl) rfl ?_
        refine run_split (s := 82) rfl (fun q28 => ?_) (fun q28 => ?_)
        ·replace h := h.1 (of_decide_eq_true q28)
         refine run_gt rfl rfl q28 ?_
         refine run_s (ss_move rfl) rfl ?_
         refine run_gt rfl rfl q24 ?_
         refine run_s (ss_pickT rfl q28 rfl) rfl ?_
         refine run_gt rfl rfl q24 ?_
         refine run_s (ss_move rfl) rfl ?_
         refine run_split (s := 85) rfl (fun q29 => ?_) (fun q29 => ?_)
         ·replace h := h.1 (q29)
          refine run_gt rfl rfl q29 ?_
          refine run_s (ss_move rfl) rfl ?_
          refine run_gt rfl rfl q29 ?_
          obtain ⟨q30, h⟩ := h
          refine run_w (ws_call (xs := [.tmp 86]) (ids := []) rfl rfl rfl rfl (c_impl_IsPermutation (SquaT r1_0) q30) rfl ?_ )
          rintro _ rfl
          refine ⟨rfl, ?_⟩
          refine run_gt rfl rfl q24 ?_
          refine run_s (ss_pickT rfl q29 rfl) rfl ?_
          refine run_gt rfl rfl q24 ?_
          refine run_s (ss_neqB rfl rfl) rfl ?_
          refine run_s (ss_pickF rfl q24 rfl) rfl ?_
          refine run_nil ?_
          refine aw_cond rfl (fun q32 => ?_) (fun q32 => ?_)
          ·replace h := h.1 ((bnot_t q32))
           refine aw_seq ?_
           refine aw_gh (gh_to (n := 261) (σ' := [(3, ⟨[.lst (rows r1_0)], []⟩)]) (env' := []) rfl rfl trivial) ?_
           refine aw_region ?_
           refine run_s (ss_assign rfl) rfl ?_
           refine run_nil ?_
           refine aw_ret ?_
           exact retAF_mk (retv1 rfl (rv_tmp rfl)) rfl rfl ⟨_, (cle_refl _), _, h, rfl⟩
          ·replace h := h.2 ((bnot_f q32))
           refine aw_skip ?_
           refine aw_seq ?_
           refine aw_seq ?_
           refine aw_region ?_
           refine run_s (ss_move rfl) rfl ?_
           refine run_s (ss_eql rfl rfl) rfl ?_
           refine run_nil ?_
           refine aw_cond rfl (fun q33 => ?_) (fun q33 => ?_)
           ·replace h := h.1 (of_decide_eq_true q33)
            refine aw_seq ?_
            refine aw_gh (gh_to (n := 261) (σ' := [(3, ⟨[.lst (rows r1_0)], []⟩)]) (env' := [(4, .c (.lst (ints (CycfT r1_0)))), (8, .c (.lst (rows r1_0)))]) rfl rfl ⟨rfl, rfl, trivial⟩) ?_
            refine aw_regionD (kd := kdl [0, 0, 1, 0, 0, 1, 0, 0, 1, 0, 0, 0]) (ord := [0, 1, 3, 4, 6, 7, 2, 9, 5, 10, 8, 11]) [] mixed (by kernel_rfl) ?_
            refine rd_s rfl rfl trivial (ss_move rfl) rfl ?_
            obtain ⟨q34, h⟩ := h
            refine rd_s rfl rfl trivial (ss_idxL rfl rfl q34) rfl ?_
            refine rd_s rfl rfl trivial (ss_move rfl) rfl ?_
            obtain ⟨q35, h⟩ := h
            refine rd_s rfl rfl trivial (ss_idxL rfl rfl q35) rfl ?_
            refine rd_s rfl rfl trivial (ss_move rfl) rfl ?_
            obtain ⟨q36, h⟩ := h
            refine rd_s rfl rfl trivial (ss_idxL rfl rfl q36) rfl ?_
            refine rd_l rfl rfl trivial (ss_loadL (f := ci) rfl q34) rfl ?_
            refine rd_s rfl rfl trivial (ss_assign rfl) rfl ?_
            refine rd_l rfl rfl trivial (ss_loadL (f := ci) rfl q35) rfl ?_
            refine rd_s rfl rfl trivial (ss_assign rfl) rfl ?_
            refine rd_l rfl rfl trivial (ss_loadL (f := ci) rfl q36) rfl ?_
            refine rd_s rfl rfl trivial (ss_assign rfl) rfl ?_
            refine rd_nil ?_
            refine aw_seq ?_
            refine aw_gh (gh_to (n := 261) (σ' := [(3, ⟨[.lst (rows r1_0)], []⟩)]) (env' := [(8, .c (.lst (rows r1_0))), (13, .c (ci (el (CycfT r1_0) 0))), (14, .c (ci (el (CycfT r1_0) 1))), (15, .c (ci (el (CycfT r1_0) 2)))]) rfl rfl ⟨rfl, rfl, rfl, rfl, trivial⟩) ?_
            refine aw_regionD (kd := kdl [0, 0, 0, 0, 1, 0, 0, 1, 0, 1, 0, 0, 0, 1, 0, 0, 1, 0, 1, 0, 0, 0, 0, 1, 0, 0, 1, 0, 1, 0, 0, 0, 1, 0, 0, 1, 0, 1, 0, 0]) (ord := [0, 1, 2, 3, 5, 10, 11, 12, 14, 19, 20, 21, 22, 24, 29, 30, 31, 33, 4, 6, 7, 8, 9, 13, 15, 16, 17, 18, 23, 25, 26, 27, 28, 32, 34, 35, 36, 37, 38, 39]) [] mixed (by kernel_rfl) ?_
            refine rd_s rfl rfl trivial (ss_move rfl) rfl ?_
            refine rd_s rfl rfl trivial (ss_move rfl) rfl ?_
            refine rd_s rfl rfl trivial (ss_move rfl) rfl ?_
            obtain ⟨q37, h⟩ := h
            refine rd_s rfl rfl trivial (ss_idxL rfl rfl q37) rfl ?_
            refine rd_s rfl rfl trivial (ss_move rfl) rfl ?_
            refine rd_s rfl rfl trivial (ss_move rfl) rfl ?_
            refine rd_s rfl rfl trivial (ss_move rfl) rfl ?_
            obtain ⟨q38, h⟩ := h
            refine rd_s rfl rfl trivial (ss_idxL rfl rfl q38) rfl ?_
            refine rd_s rfl rfl trivial (ss_move rfl) rfl ?_
            refine rd_s rfl rfl trivial (ss_move rfl) rfl ?_
            refine rd_s rfl rfl trivial (ss_move rfl) rfl ?_
            refine rd_s rfl rfl trivial (ss_move rfl) rfl ?_
            obtain ⟨q39, h⟩ := h
            refine rd_s rfl rfl trivial (ss_idxL rfl rfl q39) rfl ?_
            refine rd_s rfl rfl trivial (ss_move rfl) rfl ?_
            refine rd_s rfl rfl trivial (ss_move rfl) rfl ?_
            refine rd_s rfl rfl trivial (ss_move rfl) rfl ?_
            obtain ⟨q40, h⟩ := h
            refine rd_s rfl rfl trivial (ss_idxL rfl rfl q40) rfl ?_
            refine rd_s rfl rfl trivial (ss_move rfl) rfl ?_
            refine rd_l rfl rfl trivial (ss_loadL (f := (fun r => C.lst (ints r))) rfl q37) rfl ?_
            obtain ⟨q41, h⟩ := h
            refine rd_s rfl rfl trivial (ss_idxL rfl rfl q41) rfl ?_
            refine rd_l rfl rfl trivial (ss_loadL (f := ci) rfl q41) rfl ?_
            obtain ⟨q42, h⟩ := h
            refine rd_s rfl rfl trivial (ss_idxL rfl rfl q42) rfl ?_
            refine rd_l rfl rfl trivial (ss_loadL (f := (fun r => C.lst (ints r))) rfl q42) rfl ?_
            refine rd_l rfl rfl trivial (ss_loadL (f := (fun r => C.lst (ints r))) rfl q38) rfl ?_
            obtain ⟨q43, h⟩ := h
            refine rd_s rfl rfl trivial (ss_idxL rfl rfl q43) rfl ?_
            refine rd_l rfl rfl trivial (ss_loadL (f := ci) rfl q43) rfl ?_
            obtain ⟨q44, h⟩ := h
            refine rd_s rfl rfl trivial (ss_idxL rfl rfl q44) rfl ?_
            refine rd_l rfl rfl trivial (ss_loadL (f := ci) rfl q44) rfl ?_
            refine rd_l rfl rfl trivial (ss_loadL (f := (fun r => C.lst (ints r))) rfl q39) rfl ?_
            obtain ⟨q45, h⟩ := h
            refine rd_s rfl rfl trivial (ss_idxL rfl rfl q45) rfl ?_
            refine rd_l rfl rfl trivial (ss_loadL (f := ci) rfl q45) rfl ?_
            obtain ⟨q46, h⟩ := h
            refine rd_s rfl rfl trivial (ss_idxL rfl rfl q46) rfl ?_
            refine rd_l rfl rfl trivial (ss_loadL (f := (fun r => C.lst (ints r))) rfl q46) rfl ?_
            refine rd_l rfl rfl trivial (ss_loadL (f := (fun r => C.lst (ints r))) rfl q40) rfl ?_
            obtain ⟨q47, h⟩ := h
            refine rd_s rfl rfl trivial (ss_idxL rfl rfl q47) rfl ?_
            refine rd_l rfl rfl trivial (ss_loadL (f := ci) rfl q47) rfl ?_
            obtain ⟨q48, h⟩ := h
            refine rd_s rfl rfl trivial (ss_idxL rfl rfl q48) rfl ?_
            refine rd_l rfl rfl trivial (ss_loadL (f := ci) rfl q48) rfl ?_
            refine rd_s rfl rfl trivial (ss_neq rfl rfl) rfl ?_
            refine rd_s rfl rfl trivial (ss_assign rfl) rfl ?_
            refine rd_nil ?_
            refine aw_ret ?_
            exact retAF_mk (retv1 rfl (rv_tmp rfl)) rfl rfl ⟨_, (cle_refl _), _, h, rfl⟩
           ·replace h := h.2 (of_decide_eq_false q33)
            refine aw_skip ?_
            refine aw_seq ?_
            refine aw_seq ?_
            refine aw_region ?_
            refine run_s (ss_loadS rfl rfl rfl rfl) rfl ?_
            obtain ⟨q49, h⟩ := h
            refine run_w (ws_call (xs := [.tmp 141]) (ids := []) rfl rfl rfl rfl (c_impl_IsCycleSet r1_0 q49) rfl ?_ )
            rintro _ rfl
            refine ⟨rfl, ?_⟩
            refine run_s (ss_not rfl) rfl ?_
            refine run_nil ?_
            refine aw_cond rfl (fun q51 => ?_) (fun q51 => ?_)
            ·replace h := h.1 ((bnot_t q51))
             refine aw_seq ?_
             refine aw_gh (gh_to (n := 261) (σ' := [(3, ⟨[.lst (rows r1_0)], []⟩)]) (env' := []) rfl rfl trivial) ?_
             refine aw_region ?_
             refine run_s (ss_assign rfl) rfl ?_
             refine run_nil ?_
             refine aw_ret ?_
             exact retAF_mk (retv1 rfl (rv_tmp rfl)) rfl rfl ⟨_, (cle_refl _), _, h, rfl⟩
            ·replace h := h.2 ((bnot_f q51))
             refine aw_skip ?_
             refine aw_seq ?_
             refine aw_region ?_
             refine run_s (ss_move rfl) rfl ?_
             obtain ⟨q52, h⟩ := h
             refine run_w (ws_call (xs := [.tmp 144, .const (.int .u64 (815))]) (ids := [145]) rfl rfl rfl rfl (c_laws_roll code 815 q52) rfl ?_ )
             rintro _ ⟨r2_0, r2_1, r2_2, q53, rfl⟩
             replace h := h r2_0 r2_1 r2_2 q53
             refine ⟨rfl, ?_⟩
             refine run_s (ss_assign rfl) rfl ?_
             refine run_nil ?_
             refine aw_seq ?_
             refine aw_region ?_
             refine run_s (ss_move rfl) rfl ?_
             refine run_s (ss_lenL (f := (fun r => C.lst (ints r))) rfl) rfl ?_
             refine run_s (ss_assign rfl) rfl ?_
             refine run_nil ?_
             refine aw_seq ?_
             refine aw_region ?_
             refine run_s (ss_move rfl) rfl ?_
             refine run_s (ss_move rfl) rfl ?_
             obtain ⟨q54, h⟩ := h
             refine run_w (ws_callM (xs := [.tmp 148, .tmp 149]) (cs := [.obox [.lst (bys r2_0), ci r2_1, cu r2_2], ci (r1_0.length : Int)]) (ids := []) rfl (.inr ⟨rfl, rfl⟩) rfl rfl rfl (c_dice_below r2_0 r2_1 r2_2 (r1_0.length : Int) q54) rfl rfl ?_ )
             rintro _ _ ⟨r3_0, o3_0, o3_1, o3_2, q55, rfl, rfl⟩
             replace h := h r3_0 o3_0 o3_1 o3_2 q55
             refine ⟨rfl, rfl, ?_⟩
             refine run_s (ss_move rfl) rfl ?_
             refine run_s (ss_move rfl) rfl ?_
             obtain ⟨q56, h⟩ := h
             refine run_w (ws_callM (xs := [.tmp 151, .tmp 152]) (cs := [.obox [.lst (bys o3_0), ci o3_1, cu o3_2], ci (r1_0.length : Int)]) (ids := []) rfl (.inr ⟨rfl, rfl⟩) rfl rfl rfl (c_dice_below o3_0 o3_1 o3_2 (r1_0.length : Int) q56) rfl rfl ?_ )
             rintro _ _ ⟨r4_0, o4_0, o4_1, o4_2, q57, rfl, rfl⟩
             replace h := h r4_0 o4_0 o4_1 o4_2 q57
             refine ⟨rfl, rfl, ?_⟩
             refine run_s (ss_move rfl) rfl ?_
             obtain ⟨q58, h⟩ := h
             refine run_w (ws_callM (xs := [.tmp 154, .const (.int .i64 (10))]) (cs := [.obox [.lst (bys o4_0), ci o4_1, cu o4_2], ci 10]) (ids := []) rfl (.inr ⟨rfl, rfl⟩) rfl rfl rfl (c_dice_below o4_0 o4_1 o4_2 10 q58) rfl rfl ?_ )
             rintro _ _ ⟨r5_0, o5_0, o5_1, o5_2, q59, rfl, rfl⟩
             replace h := h r5_0 o5_0 o5_1 o5_2 q59
             refine ⟨rfl, rfl, ?_⟩
             refine run_s (ss_assign rfl) rfl ?_
             refine run_s (ss_assign rfl) rfl ?_
             refine run_s (ss_assign rfl) rfl ?_
             refine run_nil ?_
             refine aw_seq ?_
             refine aw_region ?_
             refine run_s (ss_loadS rfl rfl rfl rfl) rfl ?_
             refine run_s (ss_move rfl) rfl ?_
             refine run_s (ss_move rfl) rfl ?_
             obtain ⟨q60, h⟩ := h
             refine run_w (ws_call (xs := [.tmp 157, .tmp 158, .tmp 159]) (ids := []) rfl rfl rfl rfl (c_impl_DotSolve r1_0 r3_0 r4_0 q60) rfl ?_ )
             rintro _ rfl
             refine ⟨rfl, ?_⟩
             refine run_s (ss_move rfl) rfl ?_
             refine run_s (ss_extract rfl rfl) rfl ?_
             refine run_s (ss_extract rfl rfl) rfl ?_
             refine run_s (ss_assign rfl) rfl ?_
             refine run_s (ss_assign rfl) rfl ?_
             refine run_nil ?_
             refine aw_seq ?_
             refine aw_gh (gh_to (n := 261) (σ' := [(145, ⟨[.lst (bys o5_0), ci o5_1, cu o5_2], []⟩), (3, ⟨[.lst (rows r1_0)], []⟩)]) (env' := [(3, .cell 3 0), (8, .c (.lst (rows r1_0))), (17, .c (ci (r1_0.length : Int))), (18, .c (ci r3_0)), (19, .c (ci r4_0)), (20, .c (ci r5_0)), (21, .c (ci (DsoV r1_0 r3_0 r4_0))), (22, .c (ci (DsoE r1_0 r3_0 r4_0)))]) rfl rfl ⟨rfl, rfl, rfl, rfl, rfl, rfl, rfl, rfl, trivial⟩) ?_
             refine aw_region ?_
             refine run_s (ss_loadS rfl rfl rfl rfl) rfl ?_
             refine run_s (ss_move rfl) rfl ?_
             refine run_s (ss_move rfl) rfl ?_
             obtain ⟨q62, h⟩ := h
             refine run_w (ws_call (xs := [.tmp 164, .tmp 165, .tmp 166]) (ids := []) rfl rfl rfl rfl (c_impl_DotPower r1_0 r3_0 r5_0 q62) rfl ?_ )
             rintro _ rfl
             refine ⟨rfl, ?_⟩
             refine run_s (ss_move rfl) rfl ?_
             refine run_s (ss_extract rfl rfl) rfl ?_
             refine run_s (ss_extract rfl rfl) rfl ?_
             refine run_s (ss_assign rfl) rfl ?_
             refine run_s (ss_assign rfl) rfl ?_
             refine run_nil ?_
             refine aw_seq ?_
             refine aw_region ?_
             refine run_s (ss_loadS rfl rfl rfl rfl) rfl ?_
             refine run_s (ss_move rfl) rfl ?_
             refine run_s (ss_move rfl) rfl ?_
             obtain ⟨q64, h⟩ := h
             refine run_s (ss_add rfl rfl q64) rfl ?_
             obtain ⟨q65, h⟩ := h
             refine run_w (ws_call (xs := [.tmp 171, .tmp 172, .tmp 174]) (ids := []) rfl rfl rfl rfl (c_impl_DotPower r1_0 r3_0 (r5_0 + 1) q65) rfl ?_ )
             rintro _ rfl
             refine ⟨rfl, ?_⟩
             refine run_s (ss_move rfl) rfl ?_
             refine run_s (ss_extract rfl rfl) rfl ?_
             refine run_s (ss_extract rfl rfl) rfl ?_
             refine run_s (ss_assign rfl) rfl ?_
             refine run_s (ss_assign rfl) rfl ?_
             refine run_nil ?_
             refine aw_seq ?_
             refine aw_region ?_
             refine run_s (ss_loadS rfl rfl rfl rfl) rfl ?_
             obtain ⟨q67, h⟩ := h
             refine run_w (ws_call (xs := [.tmp 179]) (ids := [180]) rfl rfl rfl rfl (c_impl_RowOrders r1_0 q67) rfl ?_ )
             rintro _ rfl
             refine ⟨rfl, ?_⟩
             refine run_s (ss_move rfl) rfl ?_
             refine run_s (ss_extract rfl rfl) rfl ?_
             refine run_s (ss_extract rfl rfl) rfl ?_
             refine run_s (ss_assign rfl) rfl ?_
             refine run_s (ss_assign rfl) rfl ?_
             refine run_nil ?_
             refine aw_gh (gh_to (n := 261) (σ' := [(180, ⟨ints (RowT r1_0), []⟩), (145, ⟨[.lst (bys o5_0), ci o5_1, cu o5_2], []⟩), (3, ⟨[.lst (rows r1_0)], []⟩)]) (env' := [(8, .c (.lst (rows r1_0))), (17, .c (ci (r1_0.length : Int))), (18, .c (ci r3_0)), (19, .c (ci r4_0)), (21, .c (ci (DsoV r1_0 r3_0 r4_0))), (22, .c (ci (DsoE r1_0 r3_0 r4_0))), (23, .c (ci (DpwV r1_0 r3_0 r5_0))), (24, .c (ci (DpwE r1_0 r3_0 r5_0))), (25, .c (ci (DpwV r1_0 r3_0 (r5_0 + 1)))), (26, .c (ci (DpwE r1_0 r3_0 (r5_0 + 1)))), (27, .ref 180), (28, .c (ci (cyE r1_0)))]) rfl rfl ⟨rfl, rfl, rfl, rfl, rfl, rfl, rfl, rfl, rfl, rfl, rfl, rfl, trivial⟩) ?_
             refine aw_gh (gh_frzE (id := 180) ci rfl (fun _ => rfl)) ?_
             refine aw_gh (gh_to (n := 261) (σ' := [(145, ⟨[.lst (bys o5_0), ci o5_1, cu o5_2], []⟩), (3, ⟨[.lst (rows r1_0)], []⟩)]) (env' := [(8, .c (.lst (rows r1_0))), (17, .c (ci (r1_0.length : Int))), (18, .c (ci r3_0)), (19, .c (ci r4_0)), (21, .c (ci (DsoV r1_0 r3_0 r4_0))), (22, .c (ci (DsoE r1_0 r3_0 r4_0))), (23, .c (ci (DpwV r1_0 r3_0 r5_0))), (24, .c (ci (DpwE r1_0 r3_0 r5_0))), (25, .c (ci (DpwV r1_0 r3_0 (r5_0 + 1)))), (26, .c (ci (DpwE r1_0 r3_0 (r5_0 + 1)))), (27, .c (.lst (ints (RowT r1_0)))), (28, .c (ci (cyE r1_0)))]) rfl rfl ⟨rfl, rfl, rfl, rfl, rfl, rfl, rfl, rfl, rfl, rfl, rfl, rfl, trivial⟩) ?_
             refine aw_seq ?_
             refine aw_seq ?_
             refine aw_region ?_
             refine run_s (ss_move rfl) rfl ?_
             refine run_s (ss_neq rfl rfl) rfl ?_
             refine run_s (ss_move rfl) rfl ?_
             refine run_split (s := 185) rfl (fun q69 => ?_) (fun q69 => ?_)
             ·replace h := h.1 (of_decide_eq_false (bnot_t q69))
              refine run_gf rfl rfl q69 rfl ?_
              refine run_gf rfl rfl q69 rfl ?_
              refine run_s (ss_pickT rfl q69 rfl) rfl ?_
              refine run_s (ss_move rfl) rfl ?_
              refine run_split (s := 189) rfl (fun q70 => ?_) (fun q70 => ?_)
              ·skip
               refine run_gf rfl rfl q70 rfl ?_
               refine run_gf rfl rfl q70 rfl ?_
               refine run_s (ss_pickT rfl q70 rfl) rfl ?_
               refine run_s (ss_move rfl) rfl ?_
               refine run_split (s := 193) rfl (fun q71 => ?_) (fun q71 => ?_)
               ·skip
                refine run_gf rfl rfl q71 rfl ?_
                refine run_gf rfl rfl q71 rfl ?_
                refine run_s (ss_pickT rfl q71 rfl) rfl ?_
                refine run_s (ss_move rfl) rfl ?_
                refine run_split (s := 197) rfl (fun q72 => ?_) (fun q72 => ?_)
                ·skip
                 refine run_gf rfl rfl q72 rfl ?_
                 refine run_gf rfl rfl q72 rfl ?_
                 refine run_s (ss_pickT rfl q72 rfl) rfl ?_
                 refine run_s (ss_move rfl) rfl ?_
                 refine run_split (s := 201) rfl (fun q73 => ?_) (fun q73 => ?_)
                 ·skip
                  refine run_gf rfl rfl q73 rfl ?_
                  refine run_gf rfl rfl q73 rfl ?_
                  refine run_gf rfl rfl q73 rfl ?_
                  refine run_s (ss_pickT rfl q73 rfl) rfl ?_
                  refine run_s (ss_move rfl) rfl ?_
                  refine run_split (s := 206) rfl (fun q74 => ?_) (fun q74 => ?_)
                  ·skip
                   refine run_gf rfl rfl q74 rfl ?_
                   refine run_gf rfl rfl q74 rfl ?_
                   refine run_s (ss_pickT rfl q74 rfl) rfl ?_
                   refine run_s (ss_move rfl) rfl ?_
                   refine run_split (s := 210) rfl (fun q75 => ?_) (fun q75 => ?_)
                   ·skip
                    refine run_gf rfl rfl q75 rfl ?_
                    refine run_gf rfl rfl q75 rfl ?_
                    refine run_gf rfl rfl q75 rfl ?_
                    refine run_s (ss_pickT rfl q75 rfl) rfl ?_
                    refine run_s (ss_move rfl) rfl ?_
                    refine run_split (s := 215) rfl (fun q76 => ?_) (fun q76 => ?_)
                    ·skip
                     refine run_gf rfl rfl q76 rfl ?_
                     refine run_gf rfl rfl q76 rfl ?_
                     refine run_gf rfl rfl q76 rfl ?_
                     refine run_gf rfl rfl q76 rfl ?_
                     refine run_gf rfl rfl q76 rfl ?_
                     refine run_gf rfl rfl q76 rfl ?_
                     refine run_gf rfl rfl q76 rfl ?_
                     refine run_gf rfl rfl q76 rfl ?_
                     refine run_gf rfl rfl q76 rfl ?_
                     refine run_s (ss_pickT rfl q76 rfl) rfl ?_
                     refine run_s (ss_move rfl) rfl ?_
                     refine run_split (s := 226) rfl (fun q77 => ?_) (fun q77 => ?_)
                     ·skip
                      refine run_gf rfl rfl q77 rfl ?_
                      refine run_gf rfl rfl q77 rfl ?_
                      refine run_gf rfl rfl q77 rfl ?_
                      refine run_gf rfl rfl q77 rfl ?_
                      refine run_gf rfl rfl q77 rfl ?_
                      refine run_gf rfl rfl q77 rfl ?_
                      refine run_gf rfl rfl q77 rfl ?_
                      refine run_gf rfl rfl q77 rfl ?_
                      refine run_gf rfl rfl q77 rfl ?_
                      refine run_s (ss_pickT rfl q77 rfl) rfl ?_
                      refine run_s (ss_move rfl) rfl ?_
                      refine run_split (s := 237) rfl (fun q78 => ?_) (fun q78 => ?_)
                      ·skip
                       refine run_gf rfl rfl q78 rfl ?_
                       refine run_gf rfl rfl q78 rfl ?_
                       refine run_gf rfl rfl q78 rfl ?_
                       refine run_gf rfl rfl q78 rfl ?_
                       refine run_s (ss_pickT rfl q78 rfl) rfl ?_
                       refine run_nil ?_
                       refine aw_cond rfl (fun q79 => ?_) (fun q79 => ?_)
                       ·skip
                        refine aw_seq ?_
                        refine aw_gh (gh_to (n := 261) (σ' := [(145, ⟨[.lst (bys o5_0), ci o5_1, cu o5_2], []⟩), (3, ⟨[.lst (rows r1_0)], []⟩)]) (env' := []) rfl rfl trivial) ?_
                        refine aw_region ?_
                        refine run_s (ss_assign rfl) rfl ?_
                        refine run_nil ?_
                        refine aw_ret ?_
                        exact retAF_mk (retv1 rfl (rv_tmp rfl)) rfl rfl ⟨_, (cle_refl _), _, h, rfl⟩
                       ·cases q79
                      ·cases q78
                     ·cases q77
                    ·cases q76
                   ·cases q75
                  ·cases q74
                 ·cases q73
                ·cases q72
               ·cases q71
              ·cases q70
             ·replace h := h.2 (of_decide_eq_true (bnot_f q69))
              refine run_gt rfl rfl q69 ?_
              refine run_s (ss_move rfl) rfl ?_
              refine run_gt rfl rfl q69 ?_
              refine run_s (ss_neq rfl rfl) rfl ?_
              refine run_s (ss_pickF rfl q69 rfl) rfl ?_
              refine run_s (ss_move rfl) rfl ?_
              refine run_split (s := 189) rfl (fun q80 => ?_) (fun q80 => ?_)
              ·replace h := h.1 (of_decide_eq_false (bnot_t q80))
               refine run_gf rfl rfl q80 rfl ?_
               refine run_gf rfl rfl q80 rfl ?_
               refine run_s (ss_pickT rfl q80 rfl) rfl ?_
               refine run_s (ss_move rfl) rfl ?_
               refine run_split (s := 193) rfl (fun q81 => ?_) (fun q81 => ?_)
               ·skip
                refine run_gf rfl rfl q81 rfl ?_
                refine run_gf rfl rfl q81 rfl ?_
                refine run_s (ss_pickT rfl q81 rfl) rfl ?_
                refine run_s (ss_move rfl) rfl ?_
                refine run_split (s := 197) rfl (fun q82 => ?_) (fun q82 => ?_)
                ·skip
                 refine run_gf rfl rfl q82 rfl ?_
                 refine run_gf rfl rfl q82 rfl ?_
                 refine run_s (ss_pickT rfl q82 rfl) rfl ?_
                 refine run_s (ss_move rfl) rfl ?_
                 refine run_split (s := 201) rfl (fun q83 => ?_) (fun q83 => ?_)
                 ·skip
                  refine run_gf rfl rfl q83 rfl ?_
                  refine run_gf rfl rfl q83 rfl ?_
                  refine run_gf rfl rfl q83 rfl ?_
                  refine run_s (ss_pickT rfl q83 rfl) rfl ?_
                  refine run_s (ss_move rfl) rfl ?_
                  refine run_split (s := 206) rfl (fun q84 => ?_) (fun q84 => ?_)
                  ·skip
                   refine run_gf rfl rfl q84 rfl ?_
                   refine run_gf rfl rfl q84 rfl ?_
                   refine run_s (ss_pickT rfl q84 rfl) rfl ?_
                   refine run_s (ss_move rfl) rfl ?_
                   refine run_split (s := 210) rfl (fun q85 => ?_) (fun q85 => ?_)
                   ·skip
                    refine run_gf rfl rfl q85 rfl ?_
                    refine run_gf rfl rfl q85 rfl ?_
                    refine run_gf rfl rfl q85 rfl ?_
                    refine run_s (ss_pickT rfl q85 rfl) rfl ?_
                    refine run_s (ss_move rfl) rfl ?_
                    refine run_split (s := 215) rfl (fun q86 => ?_) (fun q86 => ?_)
                    ·skip
                     refine run_gf rfl rfl q86 rfl ?_
                     refine run_gf rfl rfl q86 rfl ?_
                     refine run_gf rfl rfl q86 rfl ?_
                     refine run_gf rfl rfl q86 rfl ?_
                     refine run_gf rfl rfl q86 rfl ?_
                     refine run_gf rfl rfl q86 rfl ?_
                     refine run_gf rfl rfl q86 rfl ?_
                     refine run_gf rfl rfl q86 rfl ?_
                     refine run_gf rfl rfl q86 rfl ?_
                     refine run_s (ss_pickT rfl q86 rfl) rfl ?_
                     refine run_s (ss_move rfl) rfl ?_
                     refine run_split (s := 226) rfl (fun q87 => ?_) (fun q87 => ?_)
                     ·skip
                      refine run_gf rfl rfl q87 rfl ?_
                      refine run_gf rfl rfl q87 rfl ?_
                      refine run_gf rfl rfl q87 rfl ?_
                      refine run_gf rfl rfl q87 rfl ?_
                      refine run_gf rfl rfl q87 rfl ?_
                      refine run_gf rfl rfl q87 rfl ?_
                      refine run_gf rfl rfl q87 rfl ?_
                      refine run_gf rfl rfl q87 rfl ?_
                      refine run_gf rfl rfl q87 rfl ?_
                      refine run_s (ss_pickT rfl q87 rfl) rfl ?_
                      refine run_s (ss_move rfl) rfl ?_
                      refine run_split (s := 237) rfl (fun q88 => ?_) (fun q88 => ?_)
                      ·skip
                       refine run_gf rfl rfl q88 rfl ?_
                       refine run_gf rfl rfl q88 rfl ?_
                       refine run_gf rfl rfl q88 rfl ?_
                       refine run_gf rfl rfl q88 rfl ?_
                       refine run_s (ss_pickT rfl q88 rfl) rfl ?_
                       refine run_nil ?_
                       refine aw_cond rfl (fun q89 => ?_) (fun q89 => ?_)
                       ·skip
                        refine aw_seq ?_
                        refine aw_gh (gh_to (n := 261) (σ' := [(145, ⟨[.lst (bys o5_0), ci o5_1, cu o5_2], []⟩), (3, ⟨[.lst (rows r1_0)], []⟩)]) (env' := []) rfl rfl trivial) ?_
                        refine aw_region ?_
                        refine run_s (ss_assign rfl) rfl ?_
                        refine run_nil ?_
                        refine aw_ret ?_
                        exact retAF_mk (retv1 rfl (rv_tmp rfl)) rfl rfl ⟨_, (cle_refl _), _, h, rfl⟩
                       ·cases q89
                      ·cases q88
                     ·cases q87
                    ·cases q86
                   ·cases q85
                  ·cases q84
                 ·cases q83
                ·cases q82
               ·cases q81
              ·replace h := h.2 (of_decide_eq_true (bnot_f q80))
               refine run_gt rfl rfl q80 ?_
               refine run_s (ss_move rfl) rfl ?_
               refine run_gt rfl rfl q80 ?_
               refine run_s (ss_neq rfl rfl) rfl ?_
               refine run_s (ss_pickF rfl q80 rfl) rfl ?_
               refine run_s (ss_move rfl) rfl ?_
               refine run_split (s := 193) rfl (fun q90 => ?_) (fun q90 => ?_)
               ·replace h := h.1 (of_decide_eq_false (bnot_t q90))
                refine run_gf rfl rfl q90 rfl ?_
                refine run_gf rfl rfl q90 rfl ?_
                refine run_s (ss_pickT rfl q90 rfl) rfl ?_
                refine run_s (ss_move rfl) rfl ?_
                refine run_split (s := 197) rfl (fun q91 => ?_) (fun q91 => ?_)
                ·skip
                 refine run_gf rfl rfl q91 rfl ?_
                 refine run_gf rfl rfl q91 rfl ?_
                 refine run_s (ss_pickT rfl q91 rfl) rfl ?_
                 refine run_s (ss_move rfl) rfl ?_
                 refine run_split (s := 201) rfl (fun q92 => ?_) (fun q92 => ?_)
                 ·skip
                  refine run_gf rfl rfl q92 rfl ?_
                  refine run_gf rfl rfl q92 rfl ?_
                  refine run_gf rfl rfl q92 rfl ?_
                  refine run_s (ss_pickT rfl q92 rfl) rfl ?_
                  refine run_s (ss_move rfl) rfl ?_
                  refine run_split (s := 206) rfl (fun q93 => ?_) (fun q93 => ?_)
                  ·skip
                   refine run_gf rfl rfl q93 rfl ?_
                   refine run_gf rfl rfl q93 rfl ?_
                   refine run_s (ss_pickT rfl q93 rfl) rfl ?_
                   refine run_s (ss_move rfl) rfl ?_
                   refine run_split (s := 210) rfl (fun q94 => ?_) (fun q94 => ?_)
                   ·skip
                    refine run_gf rfl rfl q94 rfl ?_
                    refine run_gf rfl rfl q94 rfl ?_
                    refine run_gf rfl rfl q94 rfl ?_
                    refine run_s (ss_pickT rfl q94 rfl) rfl ?_
                    refine run_s (ss_move rfl) rfl ?_
                    refine run_split (s := 215) rfl (fun q95 => ?_) (fun q95 => ?_)
                    ·skip
                     refine run_gf rfl rfl q95 rfl ?_
                     refine run_gf rfl rfl q95 rfl ?_
                     refine run_gf rfl rfl q95 rfl ?_
                     refine run_gf rfl rfl q95 rfl ?_
                     refine run_gf rfl rfl q95 rfl ?_
                     refine run_gf rfl rfl q95 rfl ?_
                     refine run_gf rfl rfl q95 rfl ?_
                     refine run_gf rfl rfl q95 rfl ?_
                     refine run_gf rfl rfl q95 rfl ?_
                     refine run_s (ss_pickT rfl q95 rfl) rfl ?_
                     refine run_s (ss_move rfl) rfl ?_
                     refine run_split (s := 226) rfl (fun q96 => ?_) (fun q96 => ?_)
                     ·skip
                      refine run_gf rfl rfl q96 rfl ?_
                      refine run_gf rfl rfl q96 rfl ?_
                      refine run_gf rfl rfl q96 rfl ?_
                      refine run_gf rfl rfl q96 rfl ?_
                      refine run_gf rfl rfl q96 rfl ?_
                      refine run_gf rfl rfl q96 rfl ?_
                      refine run_gf rfl rfl q96 rfl ?_
                      refine run_gf rfl rfl q96 rfl ?_
                      refine run_gf rfl rfl q96 rfl ?_
                      refine run_s (ss_pickT rfl q96 rfl) rfl ?_
                      refine run_s (ss_move rfl) rfl ?_
                      refine run_split (s := 237) rfl (fun q97 => ?_) (fun q97 => ?_)
                      ·skip
                       refine run_gf rfl rfl q97 rfl ?_
                       refine run_gf rfl rfl q97 rfl ?_
                       refine run_gf rfl rfl q97 rfl ?_
                       refine run_gf rfl rfl q97 rfl ?_
                       refine run_s (ss_pickT rfl q97 rfl) rfl ?_
                       refine run_nil ?_
                       refine aw_cond rfl (fun q98 => ?_) (fun q98 => ?_)
                       ·skip
                        refine aw_seq ?_
                        refine aw_gh (gh_to (n := 261) (σ' := [(145, ⟨[.lst (bys o5_0), ci o5_1, cu o5_2], []⟩), (3, ⟨[.lst (rows r1_0)], []⟩)]) (env' := []) rfl rfl trivial) ?_
                        refine aw_region ?_
                        refine run_s (ss_assign rfl) rfl ?_
                        refine run_nil ?_
                        refine aw_ret ?_
                        exact retAF_mk (retv1 rfl (rv_tmp rfl)) rfl rfl ⟨_, (cle_refl _), _, h, rfl⟩
                       ·cases q98
                      ·cases q97
                     ·cases q96
                    ·cases q95
                   ·cases q94
                  ·cases q93
                 ·cases q92
                ·cases q91
               ·replace h := h.2 (of_decide_eq_true (bnot_f q90))
                refine run_gt rfl rfl q90 ?_
                refine run_s (ss_move rfl) rfl ?_
                refine run_gt rfl rfl q90 ?_
                refine run_s (ss_neq rfl rfl) rfl ?_
                refine run_s (ss_pickF rfl q90 rfl) rfl ?_
                refine run_s (ss_move rfl) rfl ?_
                refine run_split (s := 197) rfl (fun q99 => ?_) (fun q99 => ?_)
                ·replace h := h.1 (of_decide_eq_false (bnot_t q99))
                 refine run_gf rfl rfl q99 rfl ?_
                 refine run_gf rfl rfl q99 rfl ?_
                 refine run_s (ss_pickT rfl q99 rfl) rfl ?_
                 refine run_s (ss_move rfl) rfl ?_
                 refine run_split (s := 201) rfl (fun q100 => ?_) (fun q100 => ?_)
                 ·skip
                  refine run_gf rfl rfl q100 rfl ?_
                  refine run_gf rfl rfl q100 rfl ?_
                  refine run_gf rfl rfl q100 rfl ?_
                  refine run_s (ss_pickT rfl q100 rfl) rfl ?_
                  refine run_s (ss_move rfl) rfl ?_
                  refine run_split (s := 206) rfl (fun q101 => ?_) (fun q101 => ?_)
                  ·skip
                   refine run_gf rfl rfl q101 rfl ?_
                   refine run_gf rfl rfl q101 rfl ?_
                   refine run_s (ss_pickT rfl q101 rfl) rfl ?_
                   refine run_s (ss_move rfl) rfl ?_
                   refine run_split (s := 210) rfl (fun q102 => ?_) (fun q102 => ?_)
                   ·skip
                    refine run_gf rfl rfl q102 rfl ?_
                    refine run_gf rfl rfl q102 rfl ?_
                    refine run_gf rfl rfl q102 rfl ?_
                    refine run_s (ss_pickT rfl q102 rfl) rfl ?_
                    refine run_s (ss_move rfl) rfl ?_
                    refine run_split (s := 215) rfl (fun q103 => ?_) (fun q103 => ?_)
                    ·skip
                     refine run_gf rfl rfl q103 rfl ?_
                     refine run_gf rfl rfl q103 rfl ?_
                     refine run_gf rfl rfl q103 rfl ?_
                     refine run_gf rfl rfl q103 rfl ?_
                     refine run_gf rfl rfl q103 rfl ?_
                     refine run_gf rfl rfl q103 rfl ?_
                     refine run_gf rfl rfl q103 rfl ?_
                     refine run_gf rfl rfl q103 rfl ?_
                     refine run_gf rfl rfl q103 rfl ?_
                     refine run_s (ss_pickT rfl q103 rfl) rfl ?_
                     refine run_s (ss_move rfl) rfl ?_
                     refine run_split (s := 226) rfl (fun q104 => ?_) (fun q104 => ?_)
                     ·skip
                      refine run_gf rfl rfl q104 rfl ?_
                      refine run_gf rfl rfl q104 rfl ?_
                      refine run_gf rfl rfl q104 rfl ?_
                      refine run_gf rfl rfl q104 rfl ?_
                      refine run_gf rfl rfl q104 rfl ?_
                      refine run_gf rfl rfl q104 rfl ?_
                      refine run_gf rfl rfl q104 rfl ?_
                      refine run_gf rfl rfl q104 rfl ?_
                      refine run_gf rfl rfl q104 rfl ?_
                      refine run_s (ss_pickT rfl q104 rfl) rfl ?_
                      refine run_s (ss_move rfl) rfl ?_
                      refine run_split (s := 237) rfl (fun q105 => ?_) (fun q105 => ?_)
                      ·skip
                       refine run_gf rfl rfl q105 rfl ?_
                       refine run_gf rfl rfl q105 rfl ?_
                       refine run_gf rfl rfl q105 rfl ?_
                       refine run_gf rfl rfl q105 rfl ?_
                       refine run_s (ss_pickT rfl q105 rfl) rfl ?_
                       refine run_nil ?_
                       refine aw_cond rfl (fun q106 => ?_) (fun q106 => ?_)
                       ·skip
                        refine aw_seq ?_
                        refine aw_gh (gh_to (n := 261) (σ' := [(145, ⟨[.lst (bys o5_0), ci o5_1, cu o5_2], []⟩), (3, ⟨[.lst (rows r1_0)], []⟩)]) (env' := []) rfl rfl trivial) ?_
                        refine aw_region ?_
                        refine run_s (ss_assign rfl) rfl ?_
                        refine run_nil ?_
                        refine aw_ret ?_
                        exact retAF_mk (retv1 rfl (rv_tmp rfl)) rfl rfl ⟨_, (cle_refl _), _, h, rfl⟩
                       ·cases q106
                      ·cases q105
                     ·cases q104
                    ·cases q103
                   ·cases q102
                  ·cases q101
                 ·cases q100
                ·replace h := h.2 (of_decide_eq_true (bnot_f q99))
                 refine run_gt rfl rfl q99 ?_
                 refine run_s (ss_move rfl) rfl ?_
                 refine run_gt rfl rfl q99 ?_
                 refine run_s (ss_lss rfl rfl) rfl ?_
                 refine run_s (ss_pickF rfl q99 rfl) rfl ?_
                 refine run_s (ss_move rfl) rfl ?_
                 refine run_split (s := 201) rfl (fun q107 => ?_) (fun q107 => ?_)
                 ·replace h := h.1 (of_decide_eq_true q107)
                  refine run_gf rfl rfl q107 rfl ?_
                  refine run_gf rfl rfl q107 rfl ?_
                  refine run_gf rfl rfl q107 rfl ?_
                  refine run_s (ss_pickT rfl q107 rfl) rfl ?_
                  refine run_s (ss_move rfl) rfl ?_
                  refine run_split (s := 206) rfl (fun q108 => ?_) (fun q108 => ?_)
                  ·skip
                   refine run_gf rfl rfl q108 rfl ?_
                   refine run_gf rfl rfl q108 rfl ?_
                   refine run_s (ss_pickT rfl q108 rfl) rfl ?_
                   refine run_s (ss_move rfl) rfl ?_
                   refine run_split (s := 210) rfl (fun q109 => ?_) (fun q109 => ?_)
                   ·skip
                    refine run_gf rfl rfl q109 rfl ?_
                    refine run_gf rfl rfl q109 rfl ?_
                    refine run_gf rfl rfl q109 rfl ?_
                    refine run_s (ss_pickT rfl q109 rfl) rfl ?_
                    refine run_s (ss_move rfl) rfl ?_
                    refine run_split (s := 215) rfl (fun q110 => ?_) (fun q110 => ?_)
                    ·skip
                     refine run_gf rfl rfl q110 rfl ?_
                     refine run_gf rfl rfl q110 rfl ?_
                     refine run_gf rfl rfl q110 rfl ?_
                     refine run_gf rfl rfl q110 rfl ?_
                     refine run_gf rfl rfl q110 rfl ?_
                     refine run_gf rfl rfl q110 rfl ?_
                     refine run_gf rfl rfl q110 rfl ?_
                     refine run_gf rfl rfl q110 rfl ?_
                     refine run_gf rfl rfl q110 rfl ?_
                     refine run_s (ss_pickT rfl q110 rfl) rfl ?_
                     refine run_s (ss_move rfl) rfl ?_
                     refine run_split (s := 226) rfl (fun q111 => ?_) (fun q111 => ?_)
                     ·skip
                      refine run_gf rfl rfl q111 rfl ?_
                      refine run_gf rfl rfl q111 rfl ?_
                      refine run_gf rfl rfl q111 rfl ?_
                      refine run_gf rfl rfl q111 rfl ?_
                      refine run_gf rfl rfl q111 rfl ?_
                      refine run_gf rfl rfl q111 rfl ?_
                      refine run_gf rfl rfl q111 rfl ?_
                      refine run_gf rfl rfl q111 rfl ?_
                      refine run_gf rfl rfl q111 rfl ?_
                      refine run_s (ss_pickT rfl q111 rfl) rfl ?_
                      refine run_s (ss_move rfl) rfl ?_
                      refine run_split (s := 237) rfl (fun q112 => ?_) (fun q112 => ?_)
                      ·skip
                       refine run_gf rfl rfl q112 rfl ?_
                       refine run_gf rfl rfl q112 rfl ?_
                       refine run_gf rfl rfl q112 rfl ?_
                       refine run_gf rfl rfl q112 rfl ?_
                       refine run_s (ss_pickT rfl q112 rfl) rfl ?_
                       refine run_nil ?_
                       refine aw_cond rfl (fun q113 => ?_) (fun q113 => ?_)
                       ·skip
                        refine aw_seq ?_
                        refine aw_gh (gh_to (n := 261) (σ' := [(145, ⟨[.lst (bys o5_0), ci o5_1, cu o5_2], []⟩), (3, ⟨[.lst (rows r1_0)], []⟩)]) (env' := []) rfl rfl trivial) ?_
                        refine aw_region ?_
                        refine run_s (ss_assign rfl) rfl ?_
                        refine run_nil ?_
                        refine aw_ret ?_
                        exact retAF_mk (retv1 rfl (rv_tmp rfl)) rfl rfl ⟨_, (cle_refl _), _, h, rfl⟩
                       ·cases q113
                      ·cases q112
                     ·cases q111
                    ·cases q110
                   ·cases q109
                  ·cases q108
                 ·replace h := h.2 (of_decide_eq_false q107)
                  refine run_gt rfl rfl q107 ?_
                  refine run_s (ss_move rfl) rfl ?_
                  refine run_gt rfl rfl q107 ?_
                  refine run_s (ss_move rfl) rfl ?_
                  refine run_gt rfl rfl q107 ?_
                  refine run_s (ss_geq rfl rfl) rfl ?_
                  refine run_s (ss_pickF rfl q107 rfl) rfl ?_
                  refine run_s (ss_move rfl) rfl ?_
                  refine run_split (s := 206) rfl (fun q114 => ?_) (fun q114 => ?_)
                  ·replace h := h.1 (of_decide_eq_true q114)
                   refine run_gf rfl rfl q114 rfl ?_
                   refine run_gf rfl rfl q114 rfl ?_
                   refine run_s (ss_pickT rfl q114 rfl) rfl ?_
                   refine run_s (ss_move rfl) rfl ?_
                   refine run_split (s := 210) rfl (fun q115 => ?_) (fun q115 => ?_)
                   ·skip
                    refine run_gf rfl rfl q115 rfl ?_
                    refine run_gf rfl rfl q115 rfl ?_
                    refine run_gf rfl rfl q115 rfl ?_
                    refine run_s (ss_pickT rfl q115 rfl) rfl ?_
                    refine run_s (ss_move rfl) rfl ?_
                    refine run_split (s := 215) rfl (fun q116 => ?_) (fun q116 => ?_)
                    ·skip
                     refine run_gf rfl rfl q116 rfl ?_
                     refine run_gf rfl rfl q116 rfl ?_
                     refine run_gf rfl rfl q116 rfl ?_
                     refine run_gf rfl rfl q116 rfl ?_
                     refine run_gf rfl rfl q116 rfl ?_
                     refine run_gf rfl rfl q116 rfl ?_
                     refine run_gf rfl rfl q116 rfl ?_
                     refine run_gf rfl rfl q116 rfl ?_
                     refine run_gf rfl rfl q116 rfl ?_
                     refine run_s (ss_pickT rfl q116 rfl) rfl ?_
                     refine run_s (ss_move rfl) rfl ?_
                     refine run_split (s := 226) rfl (fun q117 => ?_) (fun q117 => ?_)
                     ·skip
                      refine run_gf rfl rfl q117 rfl ?_
                      refine run_gf rfl rfl q117 rfl ?_
                      refine run_gf rfl rfl q117 rfl ?_
                      refine run_gf rfl rfl q117 rfl ?_
                      refine run_gf rfl rfl q117 rfl ?_
                      refine run_gf rfl rfl q117 rfl ?_
                      refine run_gf rfl rfl q117 rfl ?_
                      refine run_gf rfl rfl q117 rfl ?_
                      refine run_gf rfl rfl q117 rfl ?_
                      refine run_s (ss_pickT rfl q117 rfl) rfl ?_
                      refine run_s (ss_move rfl) rfl ?_
                      refine run_split (s := 237) rfl (fun q118 => ?_) (fun q118 => ?_)
                      ·skip
                       refine run_gf rfl rfl q118 rfl ?_
                       refine run_gf rfl rfl q118 rfl ?_
                       refine run_gf rfl rfl q118 rfl ?_
                       refine run_gf rfl rfl q118 rfl ?_
                       refine run_s (ss_pickT rfl q118 rfl) rfl ?_
                       refine run_nil ?_
                       refine aw_cond rfl (fun q119 => ?_) (fun q119 => ?_)
                       ·skip
                        refine aw_seq ?_
                        refine aw_gh (gh_to (n := 261) (σ' := [(145, ⟨[.lst (bys o5_0), ci o5_1, cu o5_2], []⟩), (3, ⟨[.lst (rows r1_0)], []⟩)]) (env' := []) rfl rfl trivial) ?_
                        refine aw_region ?_
                        refine run_s (ss_assign rfl) rfl ?_
                        refine run_nil ?_
                        refine aw_ret ?_
                        exact retAF_mk (retv1 rfl (rv_tmp rfl)) rfl rfl ⟨_, (cle_refl _), _, h, rfl⟩
                       ·cases q119
                      ·cases q118
                     ·cases q117
                    ·cases q116
                   ·cases q115
                  ·replace h := h.2 (of_decide_eq_false q114)
                   refine run_gt rfl rfl q114 ?_
                   refine run_s (ss_move rfl) rfl ?_
                   refine run_gt rfl rfl q114 ?_
                   refine run_s (ss_lss rfl rfl) rfl ?_
                   refine run_s (ss_pickF rfl q114 rfl) rfl ?_
                   refine run_s (ss_move rfl) rfl ?_
                   refine run_split (s := 210) rfl (fun q120 => ?_) (fun q120 => ?_)
                   ·replace h := h.1 (of_decide_eq_true q120)
                    refine run_gf rfl rfl q120 rfl ?_
                    refine run_gf rfl rfl q120 rfl ?_
                    refine run_gf rfl rfl q120 rfl ?_
                    refine run_s (ss_pickT rfl q120 rfl) rfl ?_
                    refine run_s (ss_move rfl) rfl ?_
                    refine run_split (s := 215) rfl (fun q121 => ?_) (fun q121 => ?_)
                    ·skip
                     refine run_gf rfl rfl q121 rfl ?_
                     refine run_gf rfl rfl q121 rfl ?_
                     refine run_gf rfl rfl q121 rfl ?_
                     refine run_gf rfl rfl q121 rfl ?_
                     refine run_gf rfl rfl q121 rfl ?_
                     refine run_gf rfl rfl q121 rfl ?_
                     refine run_gf rfl rfl q121 rfl ?_
                     refine run_gf rfl rfl q121 rfl ?_
                     refine run_gf rfl rfl q121 rfl ?_
                     refine run_s (ss_pickT rfl q121 rfl) rfl ?_
                     refine run_s (ss_move rfl) rfl ?_
                     refine run_split (s := 226) rfl (fun q122 => ?_) (fun q122 => ?_)
                     ·skip
                      refine run_gf rfl rfl q122 rfl ?_
                      refine run_gf rfl rfl q122 rfl ?_
                      refine run_gf rfl rfl q122 rfl ?_
                      refine run_gf rfl rfl q122 rfl ?_
                      refine run_gf rfl rfl q122 rfl ?_
                      refine run_gf rfl rfl q122 rfl ?_
                      refine run_gf rfl rfl q122 rfl ?_
                      refine run_gf rfl rfl q122 rfl ?_
                      refine run_gf rfl rfl q122 rfl ?_
                      refine run_s (ss_pickT rfl q122 rfl) rfl ?_
                      refine run_s (ss_move rfl) rfl ?_
                      refine run_split (s := 237) rfl (fun q123 => ?_) (fun q123 => ?_)
                      ·skip
                       refine run_gf rfl rfl q123 rfl ?_
                       refine run_gf rfl rfl q123 rfl ?_
                       refine run_gf rfl rfl q123 rfl ?_
                       refine run_gf rfl rfl q123 rfl ?_
                       refine run_s (ss_pickT rfl q123 rfl) rfl ?_
                       refine run_nil ?_
                       refine aw_cond rfl (fun q124 => ?_) (fun q124 => ?_)
                       ·skip
                        refine aw_seq ?_
                        refine aw_gh (gh_to (n := 261) (σ' := [(145, ⟨[.lst (bys o5_0), ci o5_1, cu o5_2], []⟩), (3, ⟨[.lst (rows r1_0)], []⟩)]) (env' := []) rfl rfl trivial) ?_
                        refine aw_region ?_
                        refine run_s (ss_assign rfl) rfl ?_
                        refine run_nil ?_
                        refine aw_ret ?_
                        exact retAF_mk (retv1 rfl (rv_tmp rfl)) rfl rfl ⟨_, (cle_refl _), _, h, rfl⟩
                       ·cases q124
                      ·cases q123
                     ·cases q122
                    ·cases q121
                   ·replace h := h.2 (of_decide_eq_false q120)
                    refine run_gt rfl rfl q120 ?_
                    refine run_s (ss_move rfl) rfl ?_
                    refine run_gt rfl rfl q120 ?_
                    refine run_s (ss_move rfl) rfl ?_
                    refine run_gt rfl rfl q120 ?_
                    refine run_s (ss_geq rfl rfl) rfl ?_
                    refine run_s (ss_pickF rfl q120 rfl) rfl ?_
                    refine run_s (ss_move rfl) rfl ?_
                    refine run_split (s := 215) rfl (fun q125 => ?_) (fun q125 => ?_)
                    ·replace h := h.1 (of_decide_eq_true q125)
                     refine run_gf rfl rfl q125 rfl ?_
                     refine run_gf rfl rfl q125 rfl ?_
                     refine run_gf rfl rfl q125 rfl ?_
                     refine run_gf rfl rfl q125 rfl ?_
                     refine run_gf rfl rfl q125 rfl ?_
                     refine run_gf rfl rfl q125 rfl ?_
                     refine run_gf rfl rfl q125 rfl ?_
                     refine run_gf rfl rfl q125 rfl ?_
                     refine run_gf rfl rfl q125 rfl ?_
                     refine run_s (ss_pickT rfl q125 rfl) rfl ?_
                     refine run_s (ss_move rfl) rfl ?_
                     refine run_split (s := 226) rfl (fun q126 => ?_) (fun q126 => ?_)
                     ·skip
                      refine run_gf rfl rfl q126 rfl ?_
                      refine run_gf rfl rfl q126 rfl ?_
                      refine run_gf rfl rfl q126 rfl ?_
                      refine run_gf rfl rfl q126 rfl ?_
                      refine run_gf rfl rfl q126 rfl ?_
                      refine run_gf rfl rfl q126 rfl ?_
                      refine run_gf rfl rfl q126 rfl ?_
                      refine run_gf rfl rfl q126 rfl ?_
                      refine run_gf rfl rfl q126 rfl ?_
                      refine run_s (ss_pickT rfl q126 rfl) rfl ?_
                      refine run_s (ss_move rfl) rfl ?_
                      refine run_split (s := 237) rfl (fun q127 => ?_) (fun q127 => ?_)
                      ·skip
                       refine run_gf rfl rfl q127 rfl ?_
                       refine run_gf rfl rfl q127 rfl ?_
                       refine run_gf rfl rfl q127 rfl ?_
                       refine run_gf rfl rfl q127 rfl ?_
                       refine run_s (ss_pickT rfl q127 rfl) rfl ?_
                       refine run_nil ?_
                       refine aw_cond rfl (fun q128 => ?_) (fun q128 => ?_)
                       ·skip
                        refine aw_seq ?_
                        refine aw_gh (gh_to (n := 261) (σ' := [(145, ⟨[.lst (bys o5_0), ci o5_1, cu o5_2], []⟩), (3, ⟨[.lst (rows r1_0)], []⟩)]) (env' := []) rfl rfl trivial) ?_
                        refine aw_region ?_
                        refine run_s (ss_assign rfl) rfl ?_
                        refine run_nil ?_
                        refine aw_ret ?_
                        exact retAF_mk (retv1 rfl (rv_tmp rfl)) rfl rfl ⟨_, (cle_refl _), _, h, rfl⟩
                       ·cases q128
                      ·cases q127
                     ·cases q126
                    ·replace h := h.2 (of_decide_eq_false q125)
                     refine run_gt rfl rfl q125 ?_
                     refine run_s (ss_move rfl) rfl ?_
                     refine run_gt rfl rfl q125 ?_
                     refine run_s (ss_move rfl) rfl ?_
                     refine run_gt rfl rfl q125 ?_
                     obtain ⟨q129, h⟩ := h
                     refine run_s (ss_idxL rfl rfl q129) rfl ?_
                     refine run_gt rfl rfl q125 ?_
                     refine run_s (ss_loadL (f := (fun r => C.lst (ints r))) rfl q129) rfl ?_
                     refine run_gt rfl rfl q125 ?_
                     refine run_s (ss_move rfl) rfl ?_
                     refine run_gt rfl rfl q125 ?_
                     obtain ⟨q130, h⟩ := h
                     refine run_s (ss_idxL rfl rfl q130) rfl ?_
                     refine run_gt rfl rfl q125 ?_
                     refine run_s (ss_loadL (f := ci) rfl q130) rfl ?_
                     refine run_gt rfl rfl q125 ?_
                     refine run_s (ss_move rfl) rfl ?_
                     refine run_gt rfl rfl q125 ?_
                     refine run_s (ss_neq rfl rfl) rfl ?_
                     refine run_s (ss_pickF rfl q125 rfl) rfl ?_
                     refine run_s (ss_move rfl) rfl ?_
                     refine run_split (s := 226) rfl (fun q131 => ?_) (fun q131 => ?_)
                     ·replace h := h.1 (of_decide_eq_false (bnot_t q131))
                      refine run_gf rfl rfl q131 rfl ?_
                      refine run_gf rfl rfl q131 rfl ?_
                      refine run_gf rfl rfl q131 rfl ?_
                      refine run_gf rfl rfl q131 rfl ?_
                      refine run_gf rfl rfl q131 rfl ?_
                      refine run_gf rfl rfl q131 rfl ?_
                      refine run_gf rfl rfl q131 rfl ?_
                      refine run_gf rfl rfl q131 rfl ?_
                      refine run_gf rfl rfl q131 rfl ?_
                      refine run_s (ss_pickT rfl q131 rfl) rfl ?_
                      refine run_s (ss_move rfl) rfl ?_
                      refine run_split (s := 237) rfl (fun q132 => ?_) (fun q132 => ?_)
                      ·skip
                       refine run_gf rfl rfl q132 rfl ?_
                       refine run_gf rfl rfl q132 rfl ?_
                       refine run_gf rfl rfl q132 rfl ?_
                       refine run_gf rfl rfl q132 rfl ?_
                       refine run_s (ss_pickT rfl q132 rfl) rfl ?_
                       refine run_nil ?_
                       refine aw_cond rfl (fun q133 => ?_) (fun q133 => ?_)
                       ·skip
                        refine aw_seq ?_
                        refine aw_gh (gh_to (n := 261) (σ' := [(145, ⟨[.lst (bys o5_0), ci o5_1, cu o5_2], []⟩), (3, ⟨[.lst (rows r1_0)], []⟩)]) (env' := []) rfl rfl trivial) ?_
                        refine aw_region ?_
                        refine run_s (ss_assign rfl) rfl ?_
                        refine run_nil ?_
                        refine aw_ret ?_
                        exact retAF_mk (retv1 rfl (rv_tmp rfl)) rfl rfl ⟨_, (cle_refl _), _, h, rfl⟩
                       ·cases q133
                      ·cases q132
                     ·replace h := h.2 (of_decide_eq_true (bnot_f q131))
                      refine run_gt rfl rfl q131 ?_
                      refine run_s (ss_move rfl) rfl ?_
                      refine run_gt rfl rfl q131 ?_
                      refine run_s (ss_move rfl) rfl ?_
                      refine run_gt rfl rfl q131 ?_
                      refine run_s (ss_move rfl) rfl ?_
                      refine run_gt rfl rfl q131 ?_
                      obtain ⟨q134, h⟩ := h
                      refine run_s (ss_idxL rfl rfl q134) rfl ?_
                      refine run_gt rfl rfl q131 ?_
                      refine run_s (ss_loadL (f := (fun r => C.lst (ints r))) rfl q134) rfl ?_
                      refine run_gt rfl rfl q131 ?_
                      refine run_s (ss_move rfl) rfl ?_
                      refine run_gt rfl rfl q131 ?_
                      obtain ⟨q135, h⟩ := h
                      refine run_s (ss_idxL rfl rfl q135) rfl ?_
                      refine run_gt rfl rfl q131 ?_
                      refine run_s (ss_loadL (f := ci) rfl q135) rfl ?_
                      refine run_gt rfl rfl q131 ?_
                      refine run_s (ss_neq rfl rfl) rfl ?_
                      refine run_s (ss_pickF rfl q131 rfl) rfl ?_
                      refine run_s (ss_move rfl) rfl ?_
                      refine run_split (s := 237) rfl (fun q136 => ?_) (fun q136 => ?_)
                      ·replace h := h.1 (of_decide_eq_false (bnot_t q136))
                       refine run_gf rfl rfl q136 rfl ?_
                       refine run_gf rfl rfl q136 rfl ?_
                       refine run_gf rfl rfl q136 rfl ?_
                       refine run_gf rfl rfl q136 rfl ?_
                       refine run_s (ss_pickT rfl q136 rfl) rfl ?_
                       refine run_nil ?_
                       refine aw_cond rfl (fun q137 => ?_) (fun q137 => ?_)
                       ·skip
                        refine aw_seq ?_
                        refine aw_gh (gh_to (n := 261) (σ' := [(145, ⟨[.lst (bys o5_0), ci o5_1, cu o5_2], []⟩), (3, ⟨[.lst (rows r1_0)], []⟩)]) (env' := []) rfl rfl trivial) ?_
                        refine aw_region ?_
                        refine run_s (ss_assign rfl) rfl ?_
                        refine run_nil ?_
                        refine aw_ret ?_
                        exact retAF_mk (retv1 rfl (rv_tmp rfl)) rfl rfl ⟨_, (cle_refl _), _, h, rfl⟩
                       ·cases q137
                      ·replace h := h.2 (of_decide_eq_true (bnot_f q136))
                       refine run_gt rfl rfl q136 ?_
                       refine run_s (ss_move rfl) rfl ?_
                       refine run_gt rfl rfl q136 ?_
                       refine run_s (ss_lenL (f := ci) rfl) rfl ?_
                       refine run_gt rfl rfl q136 ?_
                       refine run_s (ss_move rfl) rfl ?_
                       refine run_gt rfl rfl q136 ?_
                       refine run_s (ss_neq rfl rfl) rfl ?_
                       refine run_s (ss_pickF rfl q136 rfl) rfl ?_
                       refine run_nil ?_
                       refine aw_cond rfl (fun q138 => ?_) (fun q138 => ?_)
                       ·replace h := h.1 (of_decide_eq_false (bnot_t q138))
                        refine aw_seq ?_
                        refine aw_gh (gh_to (n := 261) (σ' := [(145, ⟨[.lst (bys o5_0), ci o5_1, cu o5_2], []⟩), (3, ⟨[.lst (rows r1_0)], []⟩)]) (env' := []) rfl rfl trivial) ?_
                        refine aw_region ?_
                        refine run_s (ss_assign rfl) rfl ?_
                        refine run_nil ?_
                        refine aw_ret ?_
                        exact retAF_mk (retv1 rfl (rv_tmp rfl)) rfl rfl ⟨_, (cle_refl _), _, h, rfl⟩
                       ·replace h := h.2 (of_decide_eq_true (bnot_f q138))
                        refine aw_skip ?_
                        refine aw_seq ?_
                        refine aw_gh (gh_to (n := 261) (σ' := [(145, ⟨[.lst (bys o5_0), ci o5_1, cu o5_2], []⟩), (3, ⟨[.lst (rows r1_0)], []⟩)]) (env' := [(8, .c (.lst (rows r1_0))), (18, .c (ci r3_0)), (27, .c (.lst (ints (RowT r1_0))))]) rfl rfl ⟨rfl, rfl, rfl, trivial⟩) ?_
                        refine aw_region ?_
                        refine run_s (ss_move rfl) rfl ?_
                        refine run_s (ss_move rfl) rfl ?_
                        obtain ⟨q139, h⟩ := h
                        refine run_s (ss_idxL rfl rfl q139) rfl ?_
                        refine run_s (ss_loadL (f := (fun r => C.lst (ints r))) rfl q139) rfl ?_
                        obtain ⟨q140, h⟩ := h
                        refine run_w (ws_call (xs := [.tmp 247]) (ids := []) rfl rfl rfl rfl (c_impl_PermutationOrder (el r1_0 r3_0) q140) rfl ?_ )
                        rintro _ rfl
                        refine ⟨rfl, ?_⟩
                        refine run_s (ss_move rfl) rfl ?_
                        refine run_s (ss_extract rfl rfl) rfl ?_
                        refine run_s (ss_extract rfl rfl) rfl ?_
                        refine run_s (ss_assign rfl) rfl ?_
                        refine run_s (ss_assign rfl) rfl ?_
                        refine run_nil ?_
                        refine aw_seq ?_
                        refine aw_region ?_
                        refine run_s (ss_move rfl) rfl ?_
                        refine run_s (ss_eql rfl rfl) rfl ?_
                        refine run_s (ss_move rfl) rfl ?_
                        refine run_split (s := 253) rfl (fun q142 => ?_) (fun q142 => ?_)
                        ·replace h := h.1 (of_decide_eq_true q142)
                         refine run_gt rfl rfl q142 ?_
                         refine run_s (ss_move rfl) rfl ?_
                         refine run_gt rfl rfl q142 ?_
                         refine run_s (ss_move rfl) rfl ?_
                         refine run_gt rfl rfl q142 ?_
                         obtain ⟨q143, h⟩ := h
                         refine run_s (ss_idxL rfl rfl q143) rfl ?_
                         refine run_gt rfl rfl q142 ?_
                         refine run_s (ss_loadL (f := ci) rfl q143) rfl ?_
                         refine run_gt rfl rfl q142 ?_
                         refine run_s (ss_move rfl) rfl ?_
                         refine run_gt rfl rfl q142 ?_
                         refine run_s (ss_eql rfl rfl) rfl ?_
                         refine run_s (ss_pickT rfl q142 rfl) rfl ?_
                         refine run_s (ss_assign rfl) rfl ?_
                         refine run_nil ?_
                         refine aw_ret ?_
                         exact retAF_mk (retv1 rfl (rv_tmp rfl)) rfl rfl ⟨_, (cle_refl _), _, h, rfl⟩
                        ·replace h := h.2 (of_decide_eq_false q142)
                         refine run_gf rfl rfl q142 rfl ?_
                         refine run_gf rfl rfl q142 rfl ?_
                         refine run_gf rfl rfl q142 rfl ?_
                         refine run_gf rfl rfl q142 rfl ?_
                         refine run_gf rfl rfl q142 rfl ?_
                         refine run_gf rfl rfl q142 rfl ?_
                         refine run_s (ss_pickF rfl q142 rfl) rfl ?_
                         refine run_s (ss_assign rfl) rfl ?_
                         refine run_nil ?_
                         refine aw_ret ?_
                         exact retAF_mk (retv1 rfl (rv_tmp rfl)) rfl rfl ⟨_, (cle_refl _), _, h, rfl⟩
         ·replace h := h.2 (q29)
          refine run_gf rfl rfl q29 rfl ?_
          refine run_gf rfl rfl q29 rfl ?_
          refine run_gt rfl rfl q24 ?_
          refine run_s (ss_pickF rfl q29 rfl) rfl ?_
          refine run_gt rfl rfl q24 ?_
          refine run_s (ss_neqB rfl rfl) rfl ?_
          refine run_s (ss_pickF rfl q24 rfl) rfl ?_
          refine run_nil ?_
          refine aw_cond rfl (fun q144 => ?_) (fun q144 => ?_)
          ·replace h := h.1 ((bnot_t q144))
           refine aw_seq ?_
           refine aw_gh (gh_to (n := 261) (σ' := [(3, ⟨[.lst (rows r1_0)], []⟩)]) (env' := []) rfl rfl trivial) ?_
           refine aw_region ?_
           refine run_s (ss_assign rfl) rfl ?_
           refine run_nil ?_
           refine aw_ret ?_
           exact retAF_mk (retv1 rfl (rv_tmp rfl)) rfl rfl ⟨_, (cle_refl _), _, h, rfl⟩
          ·replace h := h.2 ((bnot_f q144))
           refine aw_skip ?_
           refine aw_seq ?_
           refine aw_seq ?_
           refine aw_region ?_
           refine run_s (ss_move rfl) rfl ?_
           refine run_s (ss_eql rfl rfl) rfl ?_
           refine run_nil ?_
           refine aw_cond rfl (fun q145 => ?_) (fun q145 => ?_)
           ·replace h := h.1 (of_decide_eq_true q145)
            refine aw_seq ?_
            refine aw_gh (gh_to (n := 261) (σ' := [(3, ⟨[.lst (rows r1_0)], []⟩)]) (env' := [(4, .c (.lst (ints (CycfT r1_0)))), (8, .c (.lst (rows r1_0)))]) rfl rfl ⟨rfl, rfl, trivial⟩) ?_
            refine aw_regionD (kd := kdl [0, 0, 1, 0, 0, 1, 0, 0, 1, 0, 0, 0]) (ord := [0, 1, 3, 4, 6, 7, 2, 9, 5, 10, 8, 11]) [] mixed (by kernel_rfl) ?_
            refine rd_s rfl rfl trivial (ss_move rfl) rfl ?_
            obtain ⟨q146, h⟩ := h
            refine rd_s rfl rfl trivial (ss_idxL rfl rfl q146) rfl ?_
            refine rd_s rfl rfl trivial (ss_move rfl) rfl ?_
            obtain ⟨q147, h⟩ := h
            refine rd_s rfl rfl trivial (ss_idxL rfl rfl q147) rfl ?_
            refine rd_s rfl rfl trivial (ss_move rfl) rfl ?_
            obtain ⟨q148, h⟩ := h
            refine rd_s rfl rfl trivial (ss_idxL rfl rfl q148) rfl ?_
            refine rd_l rfl rfl trivial (ss_loadL (f := ci) rfl q146) rfl ?_
            refine rd_s rfl rfl trivial (ss_assign rfl) rfl ?_
            refine rd_l rfl rfl trivial (ss_loadL (f := ci) rfl q147) rfl ?_
            refine rd_s rfl rfl trivial (ss_assign rfl) rfl ?_
            refine rd_l rfl rfl trivial (ss_loadL (f := ci) rfl q148) rfl ?_
            refine rd_s rfl rfl trivial (ss_assign rfl) rfl ?_
            refine rd_nil ?_
            refine aw_seq ?_
            refine aw_gh (gh_to (n := 261) (σ' := [(3, ⟨[.lst (rows r1_0)], []⟩)]) (env' := [(8, .c (.lst (rows r1_0))), (13, .c (ci (el (CycfT r1_0) 0))), (14, .c (ci (el (CycfT r1_0) 1))), (15, .c (ci (el (CycfT r1_0) 2)))]) rfl rfl ⟨rfl, rfl, rfl, rfl, trivial⟩) ?_
            refine aw_regionD (kd := kdl [0, 0, 0, 0, 1, 0, 0, 1, 0, 1, 0, 0, 0, 1, 0, 0, 1, 0, 1, 0, 0, 0, 0, 1, 0, 0, 1, 0, 1, 0, 0, 0, 1, 0, 0, 1, 0, 1, 0, 0]) (ord := [0, 1, 2, 3, 5, 10, 11, 12, 14, 19, 20, 21, 22, 24, 29, 30, 31, 33, 4, 6, 7, 8, 9, 13, 15, 16, 17, 18, 23, 25, 26, 27, 28, 32, 34, 35, 36, 37, 38, 39]) [] mixed (by kernel_rfl) ?_
            refine rd_s rfl rfl trivial (ss_move rfl) rfl ?_
            refine rd_s rfl rfl trivial (ss_move rfl) rfl ?_
            refine rd_s rfl rfl trivial (ss_move rfl) rfl ?_
            obtain ⟨q149, h⟩ := h
            refine rd_s rfl rfl trivial (ss_idxL rfl rfl q149) rfl ?_
            refine rd_s rfl rfl trivial (ss_move rfl) rfl ?_
            refine rd_s rfl rfl trivial (ss_move rfl) rfl ?_
            refine rd_s rfl rfl trivial (ss_move rfl) rfl ?_
            obtain ⟨q150, h⟩ := h
            refine rd_s rfl rfl trivial (ss_idxL rfl rfl q150) rfl ?_
            refine rd_s rfl rfl trivial (ss_move rfl) rfl ?_
            refine rd_s rfl rfl trivial (ss_move rfl) rfl ?_
            refine rd_s rfl rfl trivial (ss_move rfl) rfl ?_
            refine rd_s rfl rfl trivial (ss_move rfl) rfl ?_
            obtain ⟨q151, h⟩ := h
            refine rd_s rfl rfl trivial (ss_idxL rfl rfl q151) rfl ?_
            refine rd_s rfl rfl trivial (ss_move rfl) rfl ?_
            refine rd_s rfl rfl trivial (ss_move rfl) rfl ?_
            refine rd_s rfl rfl trivial (ss_move rfl) rfl ?_
            obtain ⟨q152, h⟩ := h
            refine rd_s rfl rfl trivial (ss_idxL rfl rfl q152) rfl ?_
            refine rd_s rfl rfl trivial (ss_move rfl) rfl ?_
            refine rd_l rfl rfl trivial (ss_loadL (f := (fun r => C.lst (ints r))) rfl q149) rfl ?_
            obtain ⟨q153, h⟩ := h
            refine rd_s rfl rfl trivial (ss_idxL rfl rfl q153) rfl ?_
            refine rd_l rfl rfl trivial (ss_loadL (f := ci) rfl q153) rfl ?_
            obtain ⟨q154, h⟩ := h
            refine rd_s rfl rfl trivial (ss_idxL rfl rfl q154) rfl ?_
            refine rd_l rfl rfl trivial (ss_loadL (f := (fun r => C.lst (ints r))) rfl q154) rfl ?_
            refine rd_l rfl rfl trivial (ss_loadL (f := (fun r => C.lst (ints r))) rfl q150) rfl ?_
            obtain ⟨q155, h⟩ := h
            refine rd_s rfl rfl trivial (ss_idxL rfl rfl q155) rfl ?_
            refine rd_l rfl rfl trivial (ss_loadL (f := ci) rfl q155) rfl ?_
            obtain ⟨q156, h⟩ := h
            refine rd_s rfl rfl trivial (ss_idxL rfl rfl q156) rfl ?_
            refine rd_l rfl rfl trivial (ss_loadL (f := ci) rfl q156) rfl ?_
            refine rd_l rfl rfl trivial (ss_loadL (f := (fun r => C.lst (ints r))) rfl q151) rfl ?_
            obtain ⟨q157, h⟩ := h
            refine rd_s rfl rfl trivial (ss_idxL rfl rfl q157) rfl ?_
            refine rd_l rfl rfl trivial (ss_loadL (f := ci) rfl q157) rfl ?_
            obtain ⟨q158, h⟩ := h
            refine rd_s rfl rfl trivial (ss_idxL rfl rfl q158) rfl ?_
            refine rd_l rfl rfl trivial (ss_loadL (f := (fun r => C.lst (ints r))) rfl q158) rfl ?_
            refine rd_l rfl rfl trivial (ss_loadL (f := (fun r => C.lst (ints r))) rfl q152) rfl ?_
            obtain ⟨q159, h⟩ := h
            refine rd_s rfl rfl trivial (ss_idxL rfl rfl q159) rfl ?_
            refine rd_l rfl rfl trivial (ss_loadL (f := ci) rfl q159) rfl ?_
            obtain ⟨q160, h⟩ := h
            refine rd_s rfl rfl trivial (ss_idxL rfl rfl q160) rfl ?_
            refine rd_l rfl rfl trivial (ss_loadL (f := ci) rfl q160) rfl ?_
            refine rd_s rfl rfl trivial (ss_neq rfl rfl) rfl ?_
            refine rd_s rfl rfl trivial (ss_assign rfl) rfl ?_
            refine rd_nil ?_
            refine aw_ret ?_
            exact retAF_mk (retv1 rfl (rv_tmp rfl)) rfl rfl ⟨_, (cle_refl _), _, h, rfl⟩
           ·replace h := h.2 (of_decide_eq_false q145)
            refine aw_skip ?_
            refine aw_seq ?_
            refine aw_seq ?_
            refine aw_region ?_
            refine run_s (ss_loadS rfl rfl rfl rfl) rfl ?_
            obtain ⟨q161, h⟩ := h
            refine run_w (ws_call (xs := [.tmp 141]) (ids := []) rfl rfl rfl rfl (c_impl_IsCycleSet r1_0 q161) rfl ?_ )
            rintro _ rfl
            refine ⟨rfl, ?_⟩
            refine run_s (ss_not rfl) rfl ?_
            refine run_nil ?_
            refine aw_cond rfl (fun q163 => ?_) (fun q163 => ?_)
            ·replace h := h.1 ((bnot_t q163))
             refine aw_seq ?_
             refine aw_gh (gh_to (n := 261) (σ' := [(3, ⟨[.lst (rows r1_0)], []⟩)]) (env' := []) rfl rfl trivial) ?_
             refine aw_region ?_
             refine run_s (ss_assign rfl) rfl ?_
             refine run_nil ?_
             refine aw_ret ?_
             exact retAF_mk (retv1 rfl (rv_tmp rfl)) rfl rfl ⟨_, (cle_refl _), _, h, rfl⟩
            ·replace h := h.2 ((bnot_f q163))
             refine aw_skip ?_
             refine aw_seq ?_
             refine aw_region ?_
             refine run_s (ss_move rfl) rfl ?_
             obtain ⟨q164, h⟩ := h
             refine run_w (ws_call (xs := [.tmp 144, .const (.int .u64 (815))]) (ids := [145]) rfl rfl rfl rfl (c_laws_roll code 815 q164) rfl ?_ )
             rintro _ ⟨r6_0, r6_1, r6_2, q165, rfl⟩
             replace h := h r6_0 r6_1 r6_2 q165
             refine ⟨rfl, ?_⟩
             refine run_s (ss_assign rfl) rfl ?_
             refine run_nil ?_
             refine aw_seq ?_
             refine aw_region ?_
             refine run_s (ss_move rfl) rfl ?_
             refine run_s (ss_lenL (f := (fun r => C.lst (ints r))) rfl) rfl ?_
             refine run_s (ss_assign rfl) rfl ?_
             refine run_nil ?_
             refine aw_seq ?_
             refine aw_region ?_
             refine run_s (ss_move rfl) rfl ?_
             refine run_s (ss_move rfl) rfl ?_
             obtain ⟨q166, h⟩ := h
             refine run_w (ws_callM (xs := [.tmp 148, .tmp 149]) (cs := [.obox [.lst (bys r6_0), ci r6_1, cu r6_2], ci (r1_0.length : Int)]) (ids := []) rfl (.inr ⟨rfl, rfl⟩) rfl rfl rfl (c_dice_below r6_0 r6_1 r6_2 (r1_0.length : Int) q166) rfl rfl ?_ )
             rintro _ _ ⟨r7_0, o7_0, o7_1, o7_2, q167, rfl, rfl⟩
             replace h := h r7_0 o7_0 o7_1 o7_2 q167
             refine ⟨rfl, rfl, ?_⟩
             refine run_s (ss_move rfl) rfl ?_
             refine run_s (ss_move rfl) rfl ?_
             obtain ⟨q168, h⟩ := h
             refine run_w (ws_callM (xs := [.tmp 151, .tmp 152]) (cs := [.obox [.lst (bys o7_0), ci o7_1, cu o7_2], ci (r1_0.length : Int)]) (ids := []) rfl (.inr ⟨rfl, rfl⟩) rfl rfl rfl (c_dice_below o7_0 o7_1 o7_2 (r1_0.length : Int) q168) rfl rfl ?_ )
             rintro _ _ ⟨r8_0, o8_0, o8_1, o8_2, q169, rfl, rfl⟩
             replace h := h r8_0 o8_0 o8_1 o8_2 q169
             refine ⟨rfl, rfl, ?_⟩
             refine run_s (ss_move rfl) rfl ?_
             obtain ⟨q170, h⟩ := h
             refine run_w (ws_callM (xs := [.tmp 154, .const (.int .i64 (10))]) (cs := [.obox [.lst (bys o8_0), ci o8_1, cu o8_2], ci 10]) (ids := []) rfl (.inr ⟨rfl, rfl⟩) rfl rfl rfl (c_dice_below o8_0 o8_1 o8_2 10 q170) rfl rfl ?_ )
             rintro _ _ ⟨r9_0, o9_0, o9_1, o9_2, q171, rfl, rfl⟩
             replace h := h r9_0 o9_0 o9_1 o9_2 q171
             refine ⟨rfl, rfl, ?_⟩
             refine run_s (ss_assign rfl) rfl ?_
             refine run_s (ss_assign rfl) rfl ?_
             refine run_s (ss_assign rfl) rfl ?_
             refine run_nil ?_
             refine aw_seq ?_
             refine aw_region ?_
             refine run_s (ss_loadS rfl rfl rfl rfl) rfl ?_
             refine run_s (ss_move rfl) rfl ?_
             refine run_s (ss_move rfl) rfl ?_
             obtain ⟨q172, h⟩ := h
             refine run_w (ws_call (xs := [.tmp 157, .tmp 158, .tmp 159]) (ids := []) rfl rfl rfl rfl (c_impl_DotSolve r1_0 r7_0 r8_0 q172) rfl ?_ )
             rintro _ rfl
             refine ⟨rfl, ?_⟩
             refine run_s (ss_move rfl) rfl ?_
             refine run_s (ss_extract rfl rfl) rfl ?_
             refine run_s (ss_extract rfl rfl) rfl ?_
             refine run_s (ss_assign rfl) rfl ?_
             refine run_s (ss_assign rfl) rfl ?_
             refine run_nil ?_
             refine aw_seq ?_
             refine aw_gh (gh_to (n := 261) (σ' := [(145, ⟨[.lst (bys o9_0), ci o9_1, cu o9_2], []⟩), (3, ⟨[.lst (rows r1_0)], []⟩)]) (env' := [(3, .cell 3 0), (8, .c (.lst (rows r1_0))), (17, .c (ci (r1_0.length : Int))), (18, .c (ci r7_0)), (19, .c (ci r8_0)), (20, .c (ci r9_0)), (21, .c (ci (DsoV r1_0 r7_0 r8_0))), (22, .c (ci (DsoE r1_0 r7_0 r8_0)))]) rfl rfl ⟨rfl, rfl, rfl, rfl, rfl, rfl, rfl, rfl, trivial⟩) ?_
             refine aw_region ?_
             refine run_s (ss_loadS rfl rfl rfl rfl) rfl ?_
             refine run_s (ss_move rfl) rfl ?_
             refine run_s (ss_move rfl) rfl ?_
             obtain ⟨q174, h⟩ := h
             refine run_w (ws_call (xs := [.tmp 164, .tmp 165, .tmp 166]) (ids := []) rfl rfl rfl rfl (c_impl_DotPower r1_0 r7_0 r9_0 q174) rfl ?_ )
             rintro _ rfl
             refine ⟨rfl, ?_⟩
             refine run_s (ss_move rfl) rfl ?_
             refine run_s (ss_extract rfl rfl) rfl ?_
             refine run_s (ss_extract rfl rfl) rfl ?_
             refine run_s (ss_assign rfl) rfl ?_
             refine run_s (ss_assign rfl) rfl ?_
             refine run_nil ?_
             refine aw_seq ?_
             refine aw_region ?_
             refine run_s (ss_loadS rfl rfl rfl rfl) rfl ?_
             refine run_s (ss_move rfl) rfl ?_
             refine run_s (ss_move rfl) rfl ?_
             obtain ⟨q176, h⟩ := h
             refine run_s (ss_add rfl rfl q176) rfl ?_
             obtain ⟨q177, h⟩ := h
             refine run_w (ws_call (xs := [.tmp 171, .tmp 172, .tmp 174]) (ids := []) rfl rfl rfl rfl (c_impl_DotPower r1_0 r7_0 (r9_0 + 1) q177) rfl ?_ )
             rintro _ rfl
             refine ⟨rfl, ?_⟩
             refine run_s (ss_move rfl) rfl ?_
             refine run_s (ss_extract rfl rfl) rfl ?_
             refine run_s (ss_extract rfl rfl) rfl ?_
             refine run_s (ss_assign rfl) rfl ?_
             refine run_s (ss_assign rfl) rfl ?_
             refine run_nil ?_
             refine aw_seq ?_
             refine aw_region ?_
             refine run_s (ss_loadS rfl rfl rfl rfl) rfl ?_
             obtain ⟨q179, h⟩ := h
             refine run_w (ws_call (xs := [.tmp 179]) (ids := [180]) rfl rfl rfl rfl (c_impl_RowOrders r1_0 q179) rfl ?_ )
             rintro _ rfl
             refine ⟨rfl, ?_⟩
             refine run_s (ss_move rfl) rfl ?_
             refine run_s (ss_extract rfl rfl) rfl ?_
             refine run_s (ss_extract rfl rfl) rfl ?_
             refine run_s (ss_assign rfl) rfl ?_
             refine run_s (ss_assign rfl) rfl ?_
             refine run_nil ?_
             refine aw_gh (gh_to (n := 261) (σ' := [(180, ⟨ints (RowT r1_0), []⟩), (145, ⟨[.lst (bys o9_0), ci o9_1, cu o9_2], []⟩), (3, ⟨[.lst (rows r1_0)], []⟩)]) (env' := [(8, .c (.lst (rows r1_0))), (17, .c (ci (r1_0.length : Int))), (18, .c (ci r7_0)), (19, .c (ci r8_0)), (21, .c (ci (DsoV r1_0 r7_0 r8_0))), (22, .c (ci (DsoE r1_0 r7_0 r8_0))), (23, .c (ci (DpwV r1_0 r7_0 r9_0))), (24, .c (ci (DpwE r1_0 r7_0 r9_0))), (25, .c (ci (DpwV r1_0 r7_0 (r9_0 + 1)))), (26, .c (ci (DpwE r1_0 r7_0 (r9_0 + 1)))), (27, .ref 180), (28, .c (ci (cyE r1_0)))]) rfl rfl ⟨rfl, rfl, rfl, rfl, rfl, rfl, rfl, rfl, rfl, rfl, rfl, rfl, trivial⟩) ?_
             refine aw_gh (gh_frzE (id := 180) ci rfl (fun _ => rfl)) ?_
             refine aw_gh (gh_to (n := 261) (σ' := [(145, ⟨[.lst (bys o9_0), ci o9_1, cu o9_2], []⟩), (3, ⟨[.lst (rows r1_0)], []⟩)]) (env' := [(8, .c (.lst (rows r1_0))), (17, .c (ci (r1_0.length : Int))), (18, .c (ci r7_0)), (19, .c (ci r8_0)), (21, .c (ci (DsoV r1_0 r7_0 r8_0))), (22, .c (ci (DsoE r1_0 r7_0 r8_0))), (23, .c (ci (DpwV r1_0 r7_0 r9_0))), (24, .c (ci (DpwE r1_0 r7_0 r9_0))), (25, .c (ci (DpwV r1_0 r7_0 (r9_0 + 1)))), (26, .c (ci (DpwE r1_0 r7_0 (r9_0 + 1)))), (27, .c (.lst (ints (RowT r1_0)))), (28, .c (ci (cyE r1_0)))]) rfl rfl ⟨rfl, rfl, rfl, rfl, rfl, rfl, rfl, rfl, rfl, rfl, rfl, rfl, trivial⟩) ?_
             refine aw_seq ?_
             refine aw_seq ?_
             refine aw_region ?_
             refine run_s (ss_move rfl) rfl ?_
             refine run_s (ss_neq rfl rfl) rfl ?_
             refine run_s (ss_move rfl) rfl ?_
             refine run_split (s := 185) rfl (fun q181 => ?_) (fun q181 => ?_)
             ·replace h := h.1 (of_decide_eq_false (bnot_t q181))
              refine run_gf rfl rfl q181 rfl ?_
              refine run_gf rfl rfl q181 rfl ?_
              refine run_s (ss_pickT rfl q181 rfl) rfl ?_
              refine run_s (ss_move rfl) rfl ?_
              refine run_split (s := 189) rfl (fun q182 => ?_) (fun q182 => ?_)
              ·skip
               refine run_gf rfl rfl q182 rfl ?_
               refine run_gf rfl rfl q182 rfl ?_
               refine run_s (ss_pickT rfl q182 rfl) rfl ?_
               refine run_s (ss_move rfl) rfl ?_
               refine run_split (s := 193) rfl (fun q183 => ?_) (fun q183 => ?_)
               ·skip
                refine run_gf rfl rfl q183 rfl ?_
                refine run_gf rfl rfl q183 rfl ?_
                refine run_s (ss_pickT rfl q183 rfl) rfl ?_
                refine run_s (ss_move rfl) rfl ?_
                refine run_split (s := 197) rfl (fun q184 => ?_) (fun q184 => ?_)
                ·skip
                 refine run_gf rfl rfl q184 rfl ?_
                 refine run_gf rfl rfl q184 rfl ?_
                 refine run_s (ss_pickT rfl q184 rfl) rfl ?_
                 refine run_s (ss_move rfl) rfl ?_
                 refine run_split (s := 201) rfl (fun q185 => ?_) (fun q185 => ?_)
                 ·skip
                  refine run_gf rfl rfl q185 rfl ?_
                  refine run_gf rfl rfl q185 rfl ?_
                  refine run_gf rfl rfl q185 rfl ?_
                  refine run_s (ss_pickT rfl q185 rfl) rfl ?_
                  refine run_s (ss_move rfl) rfl ?_
                  refine run_split (s := 206) rfl (fun q186 => ?_) (fun q186 => ?_)
                  ·skip
                   refine run_gf rfl rfl q186 rfl ?_
                   refine run_gf rfl rfl q186 rfl ?_
                   refine run_s (ss_pickT rfl q186 rfl) rfl ?_
                   refine run_s (ss_move rfl) rfl ?_
                   refine run_split (s := 210) rfl (fun q187 => ?_) (fun q187 => ?_)
                   ·skip
                    refine run_gf rfl rfl q187 rfl ?_
                    refine run_gf rfl rfl q187 rfl ?_
                    refine run_gf rfl rfl q187 rfl ?_
                    refine run_s (ss_pickT rfl q187 rfl) rfl ?_
                    refine run_s (ss_move rfl) rfl ?_
                    refine run_split (s := 215) rfl (fun q188 => ?_) (fun q188 => ?_)
                    ·skip
                     refine run_gf rfl rfl q188 rfl ?_
                     refine run_gf rfl rfl q188 rfl ?_
                     refine run_gf rfl rfl q188 rfl ?_
                     refine run_gf rfl rfl q188 rfl ?_
                     refine run_gf rfl rfl q188 rfl ?_
                     refine run_gf rfl rfl q188 rfl ?_
                     refine run_gf rfl rfl q188 rfl ?_
                     refine run_gf rfl rfl q188 rfl ?_
                     refine run_gf rfl rfl q188 rfl ?_
                     refine run_s (ss_pickT rfl q188 rfl) rfl ?_
                     refine run_s (ss_move rfl) rfl ?_
                     refine run_split (s := 226) rfl (fun q189 => ?_) (fun q189 => ?_)
                     ·skip
                      refine run_gf rfl rfl q189 rfl ?_
                      refine run_gf rfl rfl q189 rfl ?_
                      refine run_gf rfl rfl q189 rfl ?_
                      refine run_gf rfl rfl q189 rfl ?_
                      refine run_gf rfl rfl q189 rfl ?_
                      refine run_gf rfl rfl q189 rfl ?_
                      refine run_gf rfl rfl q189 rfl ?_
                      refine run_gf rfl rfl q189 rfl ?_
                      refine run_gf rfl rfl q189 rfl ?_
                      refine run_s (ss_pickT rfl q189 rfl) rfl ?_
                      refine run_s (ss_move rfl) rfl ?_
                      refine run_split (s := 237) rfl (fun q190 => ?_) (fun q190 => ?_)
                      ·skip
                       refine run_gf rfl rfl q190 rfl ?_
                       refine run_gf rfl rfl q190 rfl ?_
                       refine run_gf rfl rfl q190 rfl ?_
                       refine run_gf rfl rfl q190 rfl ?_
                       refine run_s (ss_pickT rfl q190 rfl) rfl ?_
                       refine run_nil ?_
                       refine aw_cond rfl (fun q191 => ?_) (fun q191 => ?_)
                       ·skip
                        refine aw_seq ?_
                        refine aw_gh (gh_to (n := 261) (σ' := [(145, ⟨[.lst (bys o9_0), ci o9_1, cu o9_2], []⟩), (3, ⟨[.lst (rows r1_0)], []⟩)]) (env' := []) rfl rfl trivial) ?_
                        refine aw_region ?_
                        refine run_s (ss_assign rfl) rfl ?_
                        refine run_nil ?_
                        refine aw_ret ?_
                        exact retAF_mk (retv1 rfl (rv_tmp rfl)) rfl rfl ⟨_, (cle_refl _), _, h, rfl⟩
                       ·cases q191
                      ·cases q190
                     ·cases q189
                    ·cases q188
                   ·cases q187
                  ·cases q186
                 ·cases q185
                ·cases q184
               ·cases q183
              ·cases q182
             ·replace h := h.2 (of_decide_eq_true (bnot_f q181))
              refine run_gt rfl rfl q181 ?_
              refine run_s (ss_move rfl) rfl ?_
              refine run_gt rfl rfl q181 ?_
              refine run_s (ss_neq rfl rfl) rfl ?_
              refine run_s (ss_pickF rfl q181 rfl) rfl ?_
              refine run_s (ss_move rfl) rfl ?_
              refine run_split (s := 189) rfl (fun q192 => ?_) (fun q192 => ?_)
              ·replace h := h.1 (of_decide_eq_false (bnot_t q192))
               refine run_gf rfl rfl q192 rfl ?_
               refine run_gf rfl rfl q192 rfl ?_
               refine run_s (ss_pickT rfl q192 rfl) rfl ?_
               refine run_s (ss_move rfl) rfl ?_
               refine run_split (s := 193) rfl (fun q193 => ?_) (fun q193 => ?_)
               ·skip
                refine run_gf rfl rfl q193 rfl ?_
                refine run_gf rfl rfl q193 rfl ?_
                refine run_s (ss_pickT rfl q193 rfl) rfl ?_
                refine run_s (ss_move rfl) rfl ?_
                refine run_split (s := 197) rfl (fun q194 => ?_) (fun q194 => ?_)
                ·skip
                 refine run_gf rfl rfl q194 rfl ?_
                 refine run_gf rfl rfl q194 rfl ?_
                 refine run_s (ss_pickT rfl q194 rfl) rfl ?_
                 refine run_s (ss_move rfl) rfl ?_
                 refine run_split (s := 201) rfl (fun q195 => ?_) (fun q195 => ?_)
                 ·skip
                  refine run_gf rfl rfl q195 rfl ?_
                  refine run_gf rfl rfl q195 rfl ?_
                  refine run_gf rfl rfl q195 rfl ?_
                  refine run_s (ss_pickT rfl q195 rfl) rfl ?_
                  refine run_s (ss_move rfl) rfl ?_
                  refine run_split (s := 206) rfl (fun q196 => ?_) (fun q196 => ?_)
                  ·skip
                   refine run_gf rfl rfl q196 rfl ?_
                   refine run_gf rfl rfl q196 rfl ?_
                   refine run_s (ss_pickT rfl q196 rfl) rfl ?_
                   refine run_s (ss_move rfl) rfl ?_
                   refine run_split (s := 210) rfl (fun q197 => ?_) (fun q197 => ?_)
                   ·skip
                    refine run_gf rfl rfl q197 rfl ?_
                    refine run_gf rfl rfl q197 rfl ?_
                    refine run_gf rfl rfl q197 rfl ?_
                    refine run_s (ss_pickT rfl q197 rfl) rfl ?_
                    refine run_s (ss_move rfl) rfl ?_
                    refine run_split (s := 215) rfl (fun q198 => ?_) (fun q198 => ?_)
                    ·skip
                     refine run_gf rfl rfl q198 rfl ?_
                     refine run_gf rfl rfl q198 rfl ?_
                     refine run_gf rfl rfl q198 rfl ?_
                     refine run_gf rfl rfl q198 rfl ?_
                     refine run_gf rfl rfl q198 rfl ?_
                     refine run_gf rfl rfl q198 rfl ?_
                     refine run_gf rfl rfl q198 rfl ?_
                     refine run_gf rfl rfl q198 rfl ?_
                     refine run_gf rfl rfl q198 rfl ?_
                     refine run_s (ss_pickT rfl q198 rfl) rfl ?_
                     refine run_s (ss_move rfl) rfl ?_
                     refine run_split (s := 226) rfl (fun q199 => ?_) (fun q199 => ?_)
                     ·skip
                      refine run_gf rfl rfl q199 rfl ?_
                      refine run_gf rfl rfl q199 rfl ?_
                      refine run_gf rfl rfl q199 rfl ?_
                      refine run_gf rfl rfl q199 rfl ?_
                      refine run_gf rfl rfl q199 rfl ?_
                      refine run_gf rfl rfl q199 rfl ?_
                      refine run_gf rfl rfl q199 rfl ?_
                      refine run_gf rfl rfl q199 rfl ?_
                      refine run_gf rfl rfl q199 rfl ?_
                      refine run_s (ss_pickT rfl q199 rfl) rfl ?_
                      refine run_s (ss_move rfl) rfl ?_
                      refine run_split (s := 237) rfl (fun q200 => ?_) (fun q200 => ?_)
                      ·skip
                       refine run_gf rfl rfl q200 rfl ?_
                       refine run_gf rfl rfl q200 rfl ?_
                       refine run_gf rfl rfl q200 rfl ?_
                       refine run_gf rfl rfl q200 rfl ?_
                       refine run_s (ss_pickT rfl q200 rfl) rfl ?_
                       refine run_nil ?_
                       refine aw_cond rfl (fun q201 => ?_) (fun q201 => ?_)
                       ·skip
                        refine aw_seq ?_
                        refine aw_gh (gh_to (n := 261) (σ' := [(145, ⟨[.lst (bys o9_0), ci o9_1, cu o9_2], []⟩), (3, ⟨[.lst (rows r1_0)], []⟩)]) (env' := []) rfl rfl trivial) ?_
                        refine aw_region ?_
                        refine run_s (ss_assign rfl) rfl ?_
                        refine run_nil ?_
                        refine aw_ret ?_
                        exact retAF_mk (retv1 rfl (rv_tmp rfl)) rfl rfl ⟨_, (cle_refl _), _, h, rfl⟩
                       ·cases q201
                      ·cases q200
                     ·cases q199
                    ·cases q198
                   ·cases q197
                  ·cases q196
                 ·cases q195
                ·cases q194
               ·cases q193
              ·replace h := h.2 (of_decide_eq_true (bnot_f q192))
               refine run_gt rfl rfl q192 ?_
               refine run_s (ss_move rfl) rfl ?_
               refine run_gt rfl rfl q192 ?_
               refine run_s (ss_neq rfl rfl) rfl ?_
               refine run_s (ss_pickF rfl q192 rfl) rfl ?_
               refine run_s (ss_move rfl) rfl ?_
               refine run_split (s := 193) rfl (fun q202 => ?_) (fun q202 => ?_)
               ·replace h := h.1 (of_decide_eq_false (bnot_t q202))
                refine run_gf rfl rfl q202 rfl ?_
                refine run_gf rfl rfl q202 rfl ?_
                refine run_s (ss_pickT rfl q202 rfl) rfl ?_
                refine run_s (ss_move rfl) rfl ?_
                refine run_split (s := 197) rfl (fun q203 => ?_) (fun q203 => ?_)
                ·skip
                 refine run_gf rfl rfl q203 rfl ?_
                 refine run_gf rfl rfl q203 rfl ?_
                 refine run_s (ss_pickT rfl q203 rfl) rfl ?_
                 refine run_s (ss_move rfl) rfl ?_
                 refine run_split (s := 201) rfl (fun q204 => ?_) (fun q204 => ?_)
                 ·skip
                  refine run_gf rfl rfl q204 rfl ?_
                  refine run_gf rfl rfl q204 rfl ?_
                  refine run_gf rfl rfl q204 rfl ?_
                  refine run_s (ss_pickT rfl q204 rfl) rfl ?_
                  refine run_s (ss_move rfl) rfl ?_
                  refine run_split (s := 206) rfl (fun q205 => ?_) (fun q205 => ?_)
                  ·skip
                   refine run_gf rfl rfl q205 rfl ?_
                   refine run_gf rfl rfl q205 rfl ?_
                   refine run_s (ss_pickT rfl q205 rfl) rfl ?_
                   refine run_s (ss_move rfl) rfl ?_
                   refine run_split (s := 210) rfl (fun q206 => ?_) (fun q206 => ?_)
                   ·skip
                    refine run_gf rfl rfl q206 rfl ?_
                    refine run_gf rfl rfl q206 rfl ?_
                    refine run_gf rfl rfl q206 rfl ?_
                    refine run_s (ss_pickT rfl q206 rfl) rfl ?_
                    refine run_s (ss_move rfl) rfl ?_
                    refine run_split (s := 215) rfl (fun q207 => ?_) (fun q207 => ?_)
                    ·skip
                     refine run_gf rfl rfl q207 rfl ?_
                     refine run_gf rfl rfl q207 rfl ?_
                     refine run_gf rfl rfl q207 rfl ?_
                     refine run_gf rfl rfl q207 rfl ?_
                     refine run_gf rfl rfl q207 rfl ?_
                     refine run_gf rfl rfl q207 rfl ?_
                     refine run_gf rfl rfl q207 rfl ?_
                     refine run_gf rfl rfl q207 rfl ?_
                     refine run_gf rfl rfl q207 rfl ?_
                     refine run_s (ss_pickT rfl q207 rfl) rfl ?_
                     refine run_s (ss_move rfl) rfl ?_
                     refine run_split (s := 226) rfl (fun q208 => ?_) (fun q208 => ?_)
                     ·skip
                      refine run_gf rfl rfl q208 rfl ?_
                      refine run_gf rfl rfl q208 rfl ?_
                      refine run_gf rfl rfl q208 rfl ?_
                      refine run_gf rfl rfl q208 rfl ?_
                      refine run_gf rfl rfl q208 rfl ?_
                      refine run_gf rfl rfl q208 rfl ?_
                      refine run_gf rfl rfl q208 rfl ?_
                      refine run_gf rfl rfl q208 rfl ?_
                      refine run_gf rfl rfl q208 rfl ?_
                      refine run_s (ss_pickT rfl q208 rfl) rfl ?_
                      refine run_s (ss_move rfl) rfl ?_
                      refine run_split (s := 237) rfl (fun q209 => ?_) (fun q209 => ?_)
                      ·skip
                       refine run_gf rfl rfl q209 rfl ?_
                       refine run_gf rfl rfl q209 rfl ?_
                       refine run_gf rfl rfl q209 rfl ?_
                       refine run_gf rfl rfl q209 rfl ?_
                       refine run_s (ss_pickT rfl q209 rfl) rfl ?_
                       refine run_nil ?_
                       refine aw_cond rfl (fun q210 => ?_) (fun q210 => ?_)
                       ·skip
                        refine aw_seq ?_
                        refine aw_gh (gh_to (n := 261) (σ' := [(145, ⟨[.lst (bys o9_0), ci o9_1, cu o9_2], []⟩), (3, ⟨[.lst (rows r1_0)], []⟩)]) (env' := []) rfl rfl trivial) ?_
                        refine aw_region ?_
                        refine run_s (ss_assign rfl) rfl ?_
                        refine run_nil ?_
                        refine aw_ret ?_
                        exact retAF_mk (retv1 rfl (rv_tmp rfl)) rfl rfl ⟨_, (cle_refl _), _, h, rfl⟩
                       ·cases q210
                      ·cases q209
                     ·cases q208
                    ·cases q207
                   ·cases q206
                  ·cases q205
                 ·cases q204
                ·cases q203
               ·replace h := h.2 (of_decide_eq_true (bnot_f q202))
                refine run_gt rfl rfl q202 ?_
                refine run_s (ss_move rfl) rfl ?_
                refine run_gt rfl rfl q202 ?_
                refine run_s (ss_neq rfl rfl) rfl ?_
                refine run_s (ss_pickF rfl q202 rfl) rfl ?_
                refine run_s (ss_move rfl) rfl ?_
                refine run_split (s := 197) rfl (fun q211 => ?_) (fun q211 => ?_)
                ·replace h := h.1 (of_decide_eq_false (bnot_t q211))
                 refine run_gf rfl rfl q211 rfl ?_
                 refine run_gf rfl rfl q211 rfl ?_
                 refine run_s (ss_pickT rfl q211 rfl) rfl ?_
                 refine run_s (ss_move rfl) rfl ?_
                 refine run_split (s := 201) rfl (fun q212 => ?_) (fun q212 => ?_)
                 ·skip
                  refine run_gf rfl rfl q212 rfl ?_
                  refine run_gf rfl rfl q212 rfl ?_
                  refine run_gf rfl rfl q212 rfl ?_
                  refine run_s (ss_pickT rfl q212 rfl) rfl ?_
                  refine run_s (ss_move rfl) rfl ?_
                  refine run_split (s := 206) rfl (fun q213 => ?_) (fun q213 => ?_)
                  ·skip
                   refine run_gf rfl rfl q213 rfl ?_
                   refine run_gf rfl rfl q213 rfl ?_
                   refine run_s (ss_pickT rfl q213 rfl) rfl ?_
                   refine run_s (ss_move rfl) rfl ?_
                   refine run_split (s := 210) rfl (fun q214 => ?_) (fun q214 => ?_)
                   ·skip
                    refine run_gf rfl rfl q214 rfl ?_
                    refine run_gf rfl rfl q214 rfl ?_
                    refine run_gf rfl rfl q214 rfl ?_
                    refine run_s (ss_pickT rfl q214 rfl) rfl ?_
                    refine run_s (ss_move rfl) rfl ?_
                    refine run_split (s := 215) rfl (fun q215 => ?_) (fun q215 => ?_)
                    ·skip
                     refine run_gf rfl rfl q215 rfl ?_
                     refine run_gf rfl rfl q215 rfl ?_
                     refine run_gf rfl rfl q215 rfl ?_
                     refine run_gf rfl rfl q215 rfl ?_
                     refine run_gf rfl rfl q215 rfl ?_
                     refine run_gf rfl rfl q215 rfl ?_
                     refine run_gf rfl rfl q215 rfl ?_
                     refine run_gf rfl rfl q215 rfl ?_
                     refine run_gf rfl rfl q215 rfl ?_
                     refine run_s (ss_pickT rfl q215 rfl) rfl ?_
                     refine run_s (ss_move rfl) rfl ?_
                     refine run_split (s := 226) rfl (fun q216 => ?_) (fun q216 => ?_)
                     ·skip
                      refine run_gf rfl rfl q216 rfl ?_
                      refine run_gf rfl rfl q216 rfl ?_
                      refine run_gf rfl rfl q216 rfl ?_
                      refine run_gf rfl rfl q216 rfl ?_
                      refine run_gf rfl rfl q216 rfl ?_
                      refine run_gf rfl rfl q216 rfl ?_
                      refine run_gf rfl rfl q216 rfl ?_
                      refine run_gf rfl rfl q216 rfl ?_
                      refine run_gf rfl rfl q216 rfl ?_
                      refine run_s (ss_pickT rfl q216 rfl) rfl ?_
                      refine run_s (ss_move rfl) rfl ?_
                      refine run_split (s := 237) rfl (fun q217 => ?_) (fun q217 => ?_)
                      ·skip
                       refine run_gf rfl rfl q217 rfl ?_
                       refine run_gf rfl rfl q217 rfl ?_
                       refine run_gf rfl rfl q217 rfl ?_
                       refine run_gf rfl rfl q217 rfl ?_
                       refine run_s (ss_pickT rfl q217 rfl) rfl ?_
                       refine run_nil ?_
                       refine aw_cond rfl (fun q218 => ?_) (fun q218 => ?_)
                       ·skip
                        refine aw_seq ?_
                        refine aw_gh (gh_to (n := 261) (σ' := [(145, ⟨[.lst (bys o9_0), ci o9_1, cu o9_2], []⟩), (3, ⟨[.lst (rows r1_0)], []⟩)]) (env' := []) rfl rfl trivial) ?_
                        refine aw_region ?_
                        refine run_s (ss_assign rfl) rfl ?_
                        refine run_nil ?_
                        refine aw_ret ?_
                        exact retAF_mk (retv1 rfl (rv_tmp rfl)) rfl rfl ⟨_, (cle_refl _), _, h, rfl⟩
                       ·cases q218
                      ·cases q217
                     ·cases q216
                    ·cases q215
                   ·cases q214
                  ·cases q213
                 ·cases q212
                ·replace h := h.2 (of_decide_eq_true (bnot_f q211))
                 refine run_gt rfl rfl q211 ?_
                 refine run_s (ss_move rfl) rfl ?_
                 refine run_gt rfl rfl q211 ?_
                 refine run_s (ss_lss rfl rfl) rfl ?_
                 refine run_s (ss_pickF rfl q211 rfl) rfl ?_
                 refine run_s (ss_move rfl) rfl ?_
                 refine run_split (s := 201) rfl (fun q219 => ?_) (fun q219 => ?_)
                 ·replace h := h.1 (of_decide_eq_true q219)
                  refine run_gf rfl rfl q219 rfl ?_
                  refine run_gf rfl rfl q219 rfl ?_
                  refine run_gf rfl rfl q219 rfl ?_
                  refine run_s (ss_pickT rfl q219 rfl) rfl ?_
                  refine run_s (ss_move rfl) rfl ?_
                  refine run_split (s := 206) rfl (fun q220 => ?_) (fun q220 => ?_)
                  ·skip
                   refine run_gf rfl rfl q220 rfl ?_
                   refine run_gf rfl rfl q220 rfl ?_
                   refine run_s (ss_pickT rfl q220 rfl) rfl ?_
                   refine run_s (ss_move rfl) rfl ?_
                   refine run_split (s := 210) rfl (fun q221 => ?_) (fun q221 => ?_)
                   ·skip
                    refine run_gf rfl rfl q221 rfl ?_
                    refine run_gf rfl rfl q221 rfl ?_
                    refine run_gf rfl rfl q221 rfl ?_
                    refine run_s (ss_pickT rfl q221 rfl) rfl ?_
                    refine run_s (ss_move rfl) rfl ?_
                    refine run_split (s := 215) rfl (fun q222 => ?_) (fun q222 => ?_)
                    ·skip
                     refine run_gf rfl rfl q222 rfl ?_
                     refine run_gf rfl rfl q222 rfl ?_
                     refine run_gf rfl rfl q222 rfl ?_
                     refine run_gf rfl rfl q222 rfl ?_
                     refine run_gf rfl rfl q222 rfl ?_
                     refine run_gf rfl rfl q222 rfl ?_
                     refine run_gf rfl rfl q222 rfl ?_
                     refine run_gf rfl rfl q222 rfl ?_
                     refine run_gf rfl rfl q222 rfl ?_
                     refine run_s (ss_pickT rfl q222 rfl) rfl ?_
                     refine run_s (ss_move rfl) rfl ?_
                     refine run_split (s := 226) rfl (fun q223 => ?_) (fun q223 => ?_)
                     ·skip
                      refine run_gf rfl rfl q223 rfl ?_
                      refine run_gf rfl rfl q223 rfl ?_
                      refine run_gf rfl rfl q223 rfl ?_
                      refine run_gf rfl rfl q223 rfl ?_
                      refine run_gf rfl rfl q223 rfl ?_
                      refine run_gf rfl rfl q223 rfl ?_
                      refine run_gf rfl rfl q223 rfl ?_
                      refine run_gf rfl rfl q223 rfl ?_
                      refine run_gf rfl rfl q223 rfl ?_
                      refine run_s (ss_pickT rfl q223 rfl) rfl ?_
                      refine run_s (ss_move rfl) rfl ?_
                      refine run_split (s := 237) rfl (fun q224 => ?_) (fun q224 => ?_)
                      ·skip
                       refine run_gf rfl rfl q224 rfl ?_
                       refine run_gf rfl rfl q224 rfl ?_
                       refine run_gf rfl rfl q224 rfl ?_
                       refine run_gf rfl rfl q224 rfl ?_
                       refine run_s (ss_pickT rfl q224 rfl) rfl ?_
                       refine run_nil ?_
                       refine aw_cond rfl (fun q225 => ?_) (fun q225 => ?_)
                       ·skip
                        refine aw_seq ?_
                        refine aw_gh (gh_to (n := 261) (σ' := [(145, ⟨[.lst (bys o9_0), ci o9_1, cu o9_2], []⟩), (3, ⟨[.lst (rows r1_0)], []⟩)]) (env' := []) rfl rfl trivial) ?_
                        refine aw_region ?_
                        refine run_s (ss_assign rfl) rfl ?_
                        refine run_nil ?_
                        refine aw_ret ?_
                        exact retAF_mk (retv1 rfl (rv_tmp rfl)) rfl rfl ⟨_, (cle_refl _), _, h, rfl⟩
                       ·cases q225
                      ·cases q224
                     ·cases q223
                    ·cases q222
                   ·cases q221
                  ·cases q220
                 ·replace h := h.2 (of_decide_eq_false q219)
                  refine run_gt rfl rfl q219 ?_
                  refine run_s (ss_move rfl) rfl ?_
                  refine run_gt rfl rfl q219 ?_
                  refine run_s (ss_move rfl) rfl ?_
                  refine run_gt rfl rfl q219 ?_
                  refine run_s (ss_geq rfl rfl) rfl ?_
                  refine run_s (ss_pickF rfl q219 rfl) rfl ?_
                  refine run_s (ss_move rfl) rfl ?_
                  refine run_split (s := 206) rfl (fun q226 => ?_) (fun q226 => ?_)
                  ·replace h := h.1 (of_decide_eq_true q226)
                   refine run_gf rfl rfl q226 rfl ?_
                   refine run_gf rfl rfl q226 rfl ?_
                   refine run_s (ss_pickT rfl q226 rfl) rfl ?_
                   refine run_s (ss_move rfl) rfl ?_
                   refine run_split (s := 210) rfl (fun q227 => ?_) (fun q227 => ?_)
                   ·skip
                    refine run_gf rfl rfl q227 rfl ?_
                    refine run_gf rfl rfl q227 rfl ?_
                    refine run_gf rfl rfl q227 rfl ?_
                    refine run_s (ss_pickT rfl q227 rfl) rfl ?_
                    refine run_s (ss_move rfl) rfl ?_
                    refine run_split (s := 215) rfl (fun q228 => ?_) (fun q228 => ?_)
                    ·skip
                     refine run_gf rfl rfl q228 rfl ?_
                     refine run_gf rfl rfl q228 rfl ?_
                     refine run_gf rfl rfl q228 rfl ?_
                     refine run_gf rfl rfl q228 rfl ?_
                     refine run_gf rfl rfl q228 rfl ?_
                     refine run_gf rfl rfl q228 rfl ?_
                     refine run_gf rfl rfl q228 rfl ?_
                     refine run_gf rfl rfl q228 rfl ?_
                     refine run_gf rfl rfl q228 rfl ?_
                     refine run_s (ss_pickT rfl q228 rfl) rfl ?_
                     refine run_s (ss_move rfl) rfl ?_
                     refine run_split (s := 226) rfl (fun q229 => ?_) (fun q229 => ?_)
                     ·skip
                      refine run_gf rfl rfl q229 rfl ?_
                      refine run_gf rfl rfl q229 rfl ?_
                      refine run_gf rfl rfl q229 rfl ?_
                      refine run_gf rfl rfl q229 rfl ?_
                      refine run_gf rfl rfl q229 rfl ?_
                      refine run_gf rfl rfl q229 rfl ?_
                      refine run_gf rfl rfl q229 rfl ?_
                      refine run_gf rfl rfl q229 rfl ?_
                      refine run_gf rfl rfl q229 rfl ?_
                      refine run_s (ss_pickT rfl q229 rfl) rfl ?_
                      refine run_s (ss_move rfl) rfl ?_
                      refine run_split (s := 237) rfl (fun q230 => ?_) (fun q230 => ?_)
                      ·skip
                       refine run_gf rfl rfl q230 rfl ?_
                       refine run_gf rfl rfl q230 rfl ?_
                       refine run_gf rfl rfl q230 rfl ?_
                       refine run_gf rfl rfl q230 rfl ?_
                       refine run_s (ss_pickT rfl q230 rfl) rfl ?_
                       refine run_nil ?_
                       refine aw_cond rfl (fun q231 => ?_) (fun q231 => ?_)
                       ·skip
                        refine aw_seq ?_
                        refine aw_gh (gh_to (n := 261) (σ' := [(145, ⟨[.lst (bys o9_0), ci o9_1, cu o9_2], []⟩), (3, ⟨[.lst (rows r1_0)], []⟩)]) (env' := []) rfl rfl trivial) ?_
                        refine aw_region ?_
                        refine run_s (ss_assign rfl) rfl ?_
                        refine run_nil ?_
                        refine aw_ret ?_
                        exact retAF_mk (retv1 rfl (rv_tmp rfl)) rfl rfl ⟨_, (cle_refl _), _, h, rfl⟩
                       ·cases q231
                      ·cases q230
                     ·cases q229
                    ·cases q228
                   ·cases q227
                  ·replace h := h.2 (of_decide_eq_false q226)
                   refine run_gt rfl rfl q226 ?_
                   refine run_s (ss_move rfl) rfl ?_
                   refine run_gt rfl rfl q226 ?_
                   refine run_s (ss_lss rfl rfl) rfl ?_
                   refine run_s (ss_pickF rfl q226 rfl) rfl ?_
                   refine run_s (ss_move rfl) rfl ?_
                   refine run_split (s := 210) rfl (fun q232 => ?_) (fun q232 => ?_)
                   ·replace h := h.1 (of_decide_eq_true q232)
                    refine run_gf rfl rfl q232 rfl ?_
                    refine run_gf rfl rfl q232 rfl ?_
                    refine run_gf rfl rfl q232 rfl ?_
                    refine run_s (ss_pickT rfl q232 rfl) rfl ?_
                    refine run_s (ss_move rfl) rfl ?_
                    refine run_split (s := 215) rfl (fun q233 => ?_) (fun q233 => ?_)
                    ·skip
                     refine run_gf rfl rfl q233 rfl ?_
                     refine run_gf rfl rfl q233 rfl ?_
                     refine run_gf rfl rfl q233 rfl ?_
                     refine run_gf rfl rfl q233 rfl ?_
                     refine run_gf rfl rfl q233 rfl ?_
                     refine run_gf rfl rfl q233 rfl ?_
                     refine run_gf rfl rfl q233 rfl ?_
                     refine run_gf rfl rfl q233 rfl ?_
                     refine run_gf rfl rfl q233 rfl ?_
                     refine run_s (ss_pickT rfl q233 rfl) rfl ?_
                     refine run_s (ss_move rfl) rfl ?_
                     refine run_split (s := 226) rfl (fun q234 => ?_) (fun q234 => ?_)
                     ·skip
                      refine run_gf rfl rfl q234 rfl ?_
                      refine run_gf rfl rfl q234 rfl ?_
                      refine run_gf rfl rfl q234 rfl ?_
                      refine run_gf rfl rfl q234 rfl ?_
                      refine run_gf rfl rfl q234 rfl ?_
                      refine run_gf rfl rfl q234 rfl ?_
                      refine run_gf rfl rfl q234 rfl ?_
                      refine run_gf rfl rfl q234 rfl ?_
                      refine run_gf rfl rfl q234 rfl ?_
                      refine run_s (ss_pickT rfl q234 rfl) rfl ?_
                      refine run_s (ss_move rfl) rfl ?_
                      refine run_split (s := 237) rfl (fun q235 => ?_) (fun q235 => ?_)
                      ·skip
                       refine run_gf rfl rfl q235 rfl ?_
                       refine run_gf rfl rfl q235 rfl ?_
                       refine run_gf rfl rfl q235 rfl ?_
                       refine run_gf rfl rfl q235 rfl ?_
                       refine run_s (ss_pickT rfl q235 rfl) rfl ?_
                       refine run_nil ?_
                       refine aw_cond rfl (fun q236 => ?_) (fun q236 => ?_)
                       ·skip
                        refine aw_seq ?_
                        refine aw_gh (gh_to (n := 261) (σ' := [(145, ⟨[.lst (bys o9_0), ci o9_1, cu o9_2], []⟩), (3, ⟨[.lst (rows r1_0)], []⟩)]) (env' := []) rfl rfl trivial) ?_
                        refine aw_region ?_
                        refine run_s (ss_assign rfl) rfl ?_
                        refine run_nil ?_
                        refine aw_ret ?_
                        exact retAF_mk (retv1 rfl (rv_tmp rfl)) rfl rfl ⟨_, (cle_refl _), _, h, rfl⟩
                       ·cases q236
                      ·cases q235
                     ·cases q234
                    ·cases q233
                   ·replace h := h.2 (of_decide_eq_false q232)
                    refine run_gt rfl rfl q232 ?_
                    refine run_s (ss_move rfl) rfl ?_
                    refine run_gt rfl rfl q232 ?_
                    refine run_s (ss_move rfl) rfl ?_
                    refine run_gt rfl rfl q232 ?_
                    refine run_s (ss_geq rfl rfl) rfl ?_
                    refine run_s (ss_pickF rfl q232 rfl) rfl ?_
                    refine run_s (ss_move rfl) rfl ?_
                    refine run_split (s := 215) rfl (fun q237 => ?_) (fun q237 => ?_)
                    ·replace h := h.1 (of_decide_eq_true q237)
                     refine run_gf rfl rfl q237 rfl ?_
                     refine run_gf rfl rfl q237 rfl ?_
                     refine run_gf rfl rfl q237 rfl ?_
                     refine run_gf rfl rfl q237 rfl ?_
                     refine run_gf rfl rfl q237 rfl ?_
                     refine run_gf rfl rfl q237 rfl ?_
                     refine run_gf rfl rfl q237 rfl ?_
                     refine run_gf rfl rfl q237 rfl ?_
                     refine run_gf rfl rfl q237 rfl ?_
                     refine run_s (ss_pickT rfl q237 rfl) rfl ?_
                     refine run_s (ss_move rfl) rfl ?_
                     refine run_split (s := 226) rfl (fun q238 => ?_) (fun q238 => ?_)
                     ·skip
                      refine run_gf rfl rfl q238 rfl ?_
                      refine run_gf rfl rfl q238 rfl ?_
                      refine run_gf rfl rfl q238 rfl ?_
                      refine run_gf rfl rfl q238 rfl ?_
                      refine run_gf rfl rfl q238 rfl ?_
                      refine run_gf rfl rfl q238 rfl ?_
                      refine run_gf rfl rfl q238 rfl ?_
                      refine run_gf rfl rfl q238 rfl ?_
                      refine run_gf rfl rfl q238 rfl ?_
                      refine run_s (ss_pickT rfl q238 rfl) rfl ?_
                      refine run_s (ss_move rfl) rfl ?_
                      refine run_split (s := 237) rfl (fun q239 => ?_) (fun q239 => ?_)
                      ·skip
                       refine run_gf rfl rfl q239 rfl ?_
                       refine run_gf rfl rfl q239 rfl ?_
                       refine run_gf rfl rfl q239 rfl ?_
                       refine run_gf rfl rfl q239 rfl ?_
                       refine run_s (ss_pickT rfl q239 rfl) rfl ?_
                       refine run_nil ?_
                       refine aw_cond rfl (fun q240 => ?_) (fun q240 => ?_)
                       ·skip
                        refine aw_seq ?_
                        refine aw_gh (gh_to (n := 261) (σ' := [(145, ⟨[.lst (bys o9_0), ci o9_1, cu o9_2], []⟩), (3, ⟨[.lst (rows r1_0)], []⟩)]) (env' := []) rfl rfl trivial) ?_
                        refine aw_region ?_
                        refine run_s (ss_assign rfl) rfl ?_
                        refine run_nil ?_
                        refine aw_ret ?_
                        exact retAF_mk (retv1 rfl (rv_tmp rfl)) rfl rfl ⟨_, (cle_refl _), _, h, rfl⟩
                       ·cases q240
                      ·cases q239
                     ·cases q238
                    ·replace h := h.2 (of_decide_eq_false q237)
                     refine run_gt rfl rfl q237 ?_
                     refine run_s (ss_move rfl) rfl ?_
                     refine run_gt rfl rfl q237 ?_
                     refine run_s (ss_move rfl) rfl ?_
                     refine run_gt rfl rfl q237 ?_
                     obtain ⟨q241, h⟩ := h
                     refine run_s (ss_idxL rfl rfl q241) rfl ?_
                     refine run_gt rfl rfl q237 ?_
                     refine run_s (ss_loadL (f := (fun r => C.lst (ints r))) rfl q241) rfl ?_
                     refine run_gt rfl rfl q237 ?_
                     refine run_s (ss_move rfl) rfl ?_
                     refine run_gt rfl rfl q237 ?_
                     obtain ⟨q242, h⟩ := h
                     refine run_s (ss_idxL rfl rfl q242) rfl ?_
                     refine run_gt rfl rfl q237 ?_
                     refine run_s (ss_loadL (f := ci) rfl q242) rfl ?_
                     refine run_gt rfl rfl q237 ?_
                     refine run_s (ss_move rfl) rfl ?_
                     refine run_gt rfl rfl q237 ?_
                     refine run_s (ss_neq rfl rfl) rfl ?_
                     refine run_s (ss_pickF rfl q237 rfl) rfl ?_
                     refine run_s (ss_move rfl) rfl ?_
                     refine run_split (s := 226) rfl (fun q243 => ?_) (fun q243 => ?_)
                     ·replace h := h.1 (of_decide_eq_false (bnot_t q243))
                      refine run_gf rfl rfl q243 rfl ?_
                      refine run_gf rfl rfl q243 rfl ?_
                      refine run_gf rfl rfl q243 rfl ?_
                      refine run_gf rfl rfl q243 rfl ?_
                      refine run_gf rfl rfl q243 rfl ?_
                      refine run_gf rfl rfl q243 rfl ?_
                      refine run_gf rfl rfl q243 rfl ?_
                      refine run_gf rfl rfl q243 rfl ?_
                      refine run_gf rfl rfl q243 rfl ?_
                      refine run_s (ss_pickT rfl q243 rfl) rfl ?_
                      refine run_s (ss_move rfl) rfl ?_
                      refine run_split (s := 237) rfl (fun q244 => ?_) (fun q244 => ?_)
                      ·skip
                       refine run_gf rfl rfl q244 rfl ?_
                       refine run_gf rfl rfl q244 rfl ?_
                       refine run_gf rfl rfl q244 rfl ?_
                       refine run_gf rfl rfl q244 rfl ?_
                       refine run_s (ss_pickT rfl q244 rfl) rfl ?_
                       refine run_nil ?_
                       refine aw_cond rfl (fun q245 => ?_) (fun q245 => ?_)
                       ·skip
                        refine aw_seq ?_
                        refine aw_gh (gh_to (n := 261) (σ' := [(145, ⟨[.lst (bys o9_0), ci o9_1, cu o9_2], []⟩), (3, ⟨[.lst (rows r1_0)], []⟩)]) (env' := []) rfl rfl trivial) ?_
                        refine aw_region ?_
                        refine run_s (ss_assign rfl) rfl ?_
                        refine run_nil ?_
                        refine aw_ret ?_
                        exact retAF_mk (retv1 rfl (rv_tmp rfl)) rfl rfl ⟨_, (cle_refl _), _, h, rfl⟩
                       ·cases q245
                      ·cases q244
                     ·replace h := h.2 (of_decide_eq_true (bnot_f q243))
                      refine run_gt rfl rfl q243 ?_
                      refine run_s (ss_move rfl) rfl ?_
                      refine run_gt rfl rfl q243 ?_
                      refine run_s (ss_move rfl) rfl ?_
                      refine run_gt rfl rfl q243 ?_
                      refine run_s (ss_move rfl) rfl ?_
                      refine run_gt rfl rfl q243 ?_
                      obtain ⟨q246, h⟩ := h
                      refine run_s (ss_idxL rfl rfl q246) rfl ?_
                      refine run_gt rfl rfl q243 ?_
                      refine run_s (ss_loadL (f := (fun r => C.lst (ints r))) rfl q246) rfl ?_
                      refine run_gt rfl rfl q243 ?_
                      refine run_s (ss_move rfl) rfl ?_
                      refine run_gt rfl rfl q243 ?_
                      obtain ⟨q247, h⟩ := h
                      refine run_s (ss_idxL rfl rfl q247) rfl ?_
                      refine run_gt rfl rfl q243 ?_
                      refine run_s (ss_loadL (f := ci) rfl q247) rfl ?_
                      refine run_gt rfl rfl q243 ?_
                      refine run_s (ss_neq rfl rfl) rfl ?_
                      refine run_s (ss_pickF rfl q243 rfl) rfl ?_
                      refine run_s (ss_move rfl) rfl ?_
                      refine run_split (s := 237) rfl (fun q248 => ?_) (fun q248 => ?_)
                      ·replace h := h.1 (of_decide_eq_false (bnot_t q248))
                       refine run_gf rfl rfl q248 rfl ?_
                       refine run_gf rfl rfl q248 rfl ?_
                       refine run_gf rfl rfl q248 rfl ?_
                       refine run_gf rfl rfl q248 rfl ?_
                       refine run_s (ss_pickT rfl q248 rfl) rfl ?_
                       refine run_nil ?_
                       refine aw_cond rfl (fun q249 => ?_) (fun q249 => ?_)
                       ·skip
                        refine aw_seq ?_
                        refine aw_gh (gh_to (n := 261) (σ' := [(145, ⟨[.lst (bys o9_0), ci o9_1, cu o9_2], []⟩), (3, ⟨[.lst (rows r1_0)], []⟩)]) (env' := []) rfl rfl trivial) ?_
                        refine aw_region ?_
                        refine run_s (ss_assign rfl) rfl ?_
                        refine run_nil ?_
                        refine aw_ret ?_
                        exact retAF_mk (retv1 rfl (rv_tmp rfl)) rfl rfl ⟨_, (cle_refl _), _, h, rfl⟩
                       ·cases q249
                      ·replace h := h.2 (of_decide_eq_true (bnot_f q248))
                       refine run_gt rfl rfl q248 ?_
                       refine run_s (ss_move rfl) rfl ?_
                       refine run_gt rfl rfl q248 ?_
                       refine run_s (ss_lenL (f := ci) rfl) rfl ?_
                       refine run_gt rfl rfl q248 ?_
                       refine run_s (ss_move rfl) rfl ?_
                       refine run_gt rfl rfl q248 ?_
                       refine run_s (ss_neq rfl rfl) rfl ?_
                       refine run_s (ss_pickF rfl q248 rfl) rfl ?_
                       refine run_nil ?_
                       refine aw_cond rfl (fun q250 => ?_) (fun q250 => ?_)
                       ·replace h := h.1 (of_decide_eq_false (bnot_t q250))
                        refine aw_seq ?_
                        refine aw_gh (gh_to (n := 261) (σ' := [(145, ⟨[.lst (bys o9_0), ci o9_1, cu o9_2], []⟩), (3, ⟨[.lst (rows r1_0)], []⟩)]) (env' := []) rfl rfl trivial) ?_
                        refine aw_region ?_
                        refine run_s (ss_assign rfl) rfl ?_
                        refine run_nil ?_
                        refine aw_ret ?_
                        exact retAF_mk (retv1 rfl (rv_tmp rfl)) rfl rfl ⟨_, (cle_refl _), _, h, rfl⟩
                       ·replace h := h.2 (of_decide_eq_true (bnot_f q250))
                        refine aw_skip ?_
                        refine aw_seq ?_
                        refine aw_gh (gh_to (n := 261) (σ' := [(145, ⟨[.lst (bys o9_0), ci o9_1, cu o9_2], []⟩), (3, ⟨[.lst (rows r1_0)], []⟩)]) (env' := [(8, .c (.lst (rows r1_0))), (18, .c (ci r7_0)), (27, .c (.lst (ints (RowT r1_0))))]) rfl rfl ⟨rfl, rfl, rfl, trivial⟩) ?_
                        refine aw_region ?_
                        refine run_s (ss_move rfl) rfl ?_
                        refine run_s (ss_move rfl) rfl ?_
                        obtain ⟨q251, h⟩ := h
                        refine run_s (ss_idxL rfl rfl q251) rfl ?_
                        refine run_s (ss_loadL (f := (fun r => C.lst (ints r))) rfl q251) rfl ?_
                        obtain ⟨q252, h⟩ := h
                        refine run_w (ws_call (xs := [.tmp 247]) (ids := []) rfl rfl rfl rfl (c_impl_PermutationOrder (el r1_0 r7_0) q252) rfl ?_ )
                        rintro _ rfl
                        refine ⟨rfl, ?_⟩
                        refine run_s (ss_move rfl) rfl ?_
                        refine run_s (ss_extract rfl rfl) rfl ?_
                        refine run_s (ss_extract rfl rfl) rfl ?_
                        refine run_s (ss_assign rfl) rfl ?_
                        refine run_s (ss_assign rfl) rfl ?_
                        refine run_nil ?_
                        refine aw_seq ?_
                        refine aw_region ?_
                        refine run_s (ss_move rfl) rfl ?_
                        refine run_s (ss_eql rfl rfl) rfl ?_
                        refine run_s (ss_move rfl) rfl ?_
                        refine run_split (s := 253) rfl (fun q254 => ?_) (fun q254 => ?_)
                        ·replace h := h.1 (of_decide_eq_true q254)
                         refine run_gt rfl rfl q254 ?_
                         refine run_s (ss_move rfl) rfl ?_
                         refine run_gt rfl rfl q254 ?_
                         refine run_s (ss_move rfl) rfl ?_
                         refine run_gt rfl rfl q254 ?_
                         obtain ⟨q255, h⟩ := h
                         refine run_s (ss_idxL rfl rfl q255) rfl ?_
                         refine run_gt rfl rfl q254 ?_
                         refine run_s (ss_loadL (f := ci) rfl q255) rfl ?_
                         refine run_gt rfl rfl q254 ?_
                         refine run_s (ss_move rfl) rfl ?_
                         refine run_gt rfl rfl q254 ?_
                         refine run_s (ss_eql rfl rfl) rfl ?_
                         refine run_s (ss_pickT rfl q254 rfl) rfl ?_
                         refine run_s (ss_assign rfl) rfl ?_
                         refine run_nil ?_
                         refine aw_ret ?_
                         exact retAF_mk (retv1 rfl (rv_tmp rfl)) rfl rfl ⟨_, (cle_refl _), _, h, rfl⟩
                        ·replace h := h.2 (of_decide_eq_false q254)
                         refine run_gf rfl rfl q254 rfl ?_
                         refine run_gf rfl rfl q254 rfl ?_
                         refine run_gf rfl rfl q254 rfl ?_
                         refine run_gf rfl rfl q254 rfl ?_
                         refine run_gf rfl rfl q254 rfl ?_
                         refine run_gf rfl rfl q254 rfl ?_
                         refine run_s (ss_pickF rfl q254 rfl) rfl ?_
                         refine run_s (ss_assign rfl) rfl ?_
                         refine run_nil ?_
                         refine aw_ret ?_
                         exact retAF_mk (retv1 rfl (rv_tmp rfl)) rfl rfl ⟨_, (cle_refl _), _, h, rfl⟩
        ·replace h := h.2 (of_decide_eq_false q28)
         refine run_gf rfl rfl q28 rfl ?_
         refine run_gt rfl rfl q24 ?_
         refine run_s (ss_pickF rfl q28 rfl) rfl ?_
         refine run_gt rfl rfl q24 ?_
         refine run_s (ss_move rfl) rfl ?_
         refine run_split (s := 85) rfl (fun q256 => ?_) (fun q256 => ?_)
         ·cases q256
         ·skip
          refine run_gf rfl rfl q256 rfl ?_
          refine run_gf rfl rfl q256 rfl ?_
          refine run_gt rfl rfl q24 ?_
          refine run_s (ss_pickF rfl q256 rfl) rfl ?_
          refine run_gt rfl rfl q24 ?_
          refine run_s (ss_neqB rfl rfl) rfl ?_
          refine run_s (ss_pickF rfl q24 rfl) rfl ?_
          refine run_nil ?_
          refine aw_cond rfl (fun q257 => ?_) (fun q257 => ?_)
          ·replace h := h.1 ((bnot_t q257))
           refine aw_seq ?_
           refine aw_gh (gh_to (n := 261) (σ' := [(3, ⟨[.lst (rows r1_0)], []⟩)]) (env' := []) rfl rfl trivial) ?_
           refine aw_region ?_
           refine run_s (ss_assign rfl) rfl ?_
           refine run_nil ?_
           refine aw_ret ?_
           exact retAF_mk (retv1 rfl (rv_tmp rfl)) rfl rfl ⟨_, (cle_refl _), _, h, rfl⟩
          ·replace h := h.2 ((bnot_f q257))
           refine aw_skip ?_
           refine aw_seq ?_
           refine aw_seq ?_
           refine aw_region ?_
           refine run_s (ss_move rfl) rfl ?_
           refine run_s (ss_eql rfl rfl) rfl ?_
           refine run_nil ?_
           refine aw_cond rfl (fun q258 => ?_) (fun q258 => ?_)
           ·replace h := h.1 (of_decide_eq_true q258)
            refine aw_seq ?_
            refine aw_gh (gh_to (n := 261) (σ' := [(3, ⟨[.lst (rows r1_0)], []⟩)]) (env' := [(4, .c (.lst (ints (CycfT r1_0)))), (8, .c (.lst (rows r1_0)))]) rfl rfl ⟨rfl, rfl, trivial⟩) ?_
            refine aw_regionD (kd := kdl [0, 0, 1, 0, 0, 1, 0, 0, 1, 0, 0, 0]) (ord := [0, 1, 3, 4, 6, 7, 2, 9, 5, 10, 8, 11]) [] mixed (by kernel_rfl) ?_
            refine rd_s rfl rfl trivial (ss_move rfl) rfl ?_
            obtain ⟨q259, h⟩ := h
            refine rd_s rfl rfl trivial (ss_idxL rfl rfl q259) rfl ?_
            refine rd_s rfl rfl trivial (ss_move rfl) rfl ?_
            obtain ⟨q260, h⟩ := h
            refine rd_s rfl rfl trivial (ss_idxL rfl rfl q260) rfl ?_
            refine rd_s rfl rfl trivial (ss_move rfl) rfl ?_
            obtain ⟨q261, h⟩ := h
            refine rd_s rfl rfl trivial (ss_idxL rfl rfl q261) rfl ?_
            refine rd_l rfl rfl trivial (ss_loadL (f := ci) rfl q259) rfl ?_
            refine rd_s rfl rfl trivial (ss_assign rfl) rfl ?_
            refine rd_l rfl rfl trivial (ss_loadL (f := ci) rfl q260) rfl ?_
            refine rd_s rfl rfl trivial (ss_assign rfl) rfl ?_
            refine rd_l rfl rfl trivial (ss_loadL (f := ci) rfl q261) rfl ?_
            refine rd_s rfl rfl trivial (ss_assign rfl) rfl ?_
            refine rd_nil ?_
            refine aw_seq ?_
            refine aw_gh (gh_to (n := 261) (σ' := [(3, ⟨[.lst (rows r1_0)], []⟩)]) (env' := [(8, .c (.lst (rows r1_0))), (13, .c (ci (el (CycfT r1_0) 0))), (14, .c (ci (el (CycfT r1_0) 1))), (15, .c (ci (el (CycfT r1_0) 2)))]) rfl rfl ⟨rfl, rfl, rfl, rfl, trivial⟩) ?_
            refine aw_regionD (kd := kdl [0, 0, 0, 0, 1, 0, 0, 1, 0, 1, 0, 0, 0, 1, 0, 0, 1, 0, 1, 0, 0, 0, 0, 1, 0, 0, 1, 0, 1, 0, 0, 0, 1, 0, 0, 1, 0, 1, 0, 0]) (ord := [0, 1, 2, 3, 5, 10, 11, 12, 14, 19, 20, 21, 22, 24, 29, 30, 31, 33, 4, 6, 7, 8, 9, 13, 15, 16, 17, 18, 23, 25, 26, 27, 28, 32, 34, 35, 36, 37, 38, 39]) [] mixed (by kernel_rfl) ?_
            refine rd_s rfl rfl trivial (ss_move rfl) rfl ?_
            refine rd_s rfl rfl trivial (ss_move rfl) rfl ?_
            refine rd_s rfl rfl trivial (ss_move rfl) rfl ?_
            obtain ⟨q262, h⟩ := h
            refine rd_s rfl rfl trivial (ss_idxL rfl rfl q262) rfl ?_
            refine rd_s rfl rfl trivial (ss_move rfl) rfl ?_
            refine rd_s rfl rfl trivial (ss_move rfl) rfl ?_
            refine rd_s rfl rfl trivial (ss_move rfl) rfl ?_
            obtain ⟨q263, h⟩ := h
            refine rd_s rfl rfl trivial (ss_idxL rfl rfl q263) rfl ?_
            refine rd_s rfl rfl trivial (ss_move rfl) rfl ?_
            refine rd_s rfl rfl trivial (ss_move rfl) rfl ?_
            refine rd_s rfl rfl trivial (ss_move rfl) rfl ?_
            refine rd_s rfl rfl trivial (ss_move rfl) rfl ?_
            obtain ⟨q264, h⟩ := h
            refine rd_s rfl rfl trivial (ss_idxL rfl rfl q264) rfl ?_
            refine rd_s rfl rfl trivial (ss_move rfl) rfl ?_
            refine rd_s rfl rfl trivial (ss_move rfl) rfl ?_
            refine rd_s rfl rfl trivial (ss_move rfl) rfl ?_
            obtain ⟨q265, h⟩ := h
            refine rd_s rfl rfl trivial (ss_idxL rfl rfl q265) rfl ?_
            refine rd_s rfl rfl trivial (ss_move rfl) rfl ?_
            refine rd_l rfl rfl trivial (ss_loadL (f := (fun r => C.lst (ints r))) rfl q262) rfl ?_
            obtain ⟨q266, h⟩ := h
            refine rd_s rfl rfl trivial (ss_idxL rfl rfl q266) rfl ?_
            refine rd_l rfl rfl trivial (ss_loadL (f := ci) rfl q266) rfl ?_
            obtain ⟨q267, h⟩ := h
            refine rd_s rfl rfl trivial (ss_idxL rfl rfl q267) rfl ?_
            refine rd_l rfl rfl trivial (ss_loadL (f := (fun r => C.lst (ints r))) rfl q267) rfl ?_
            refine rd_l rfl rfl trivial (ss_loadL (f := (fun r => C.lst (ints r))) rfl q263) rfl ?_
            obtain ⟨q268, h⟩ := h
            refine rd_s rfl rfl trivial (ss_idxL rfl rfl q268) rfl ?_
            refine rd_l rfl rfl trivial (ss_loadL (f := ci) rfl q268) rfl ?_
            obtain ⟨q269, h⟩ := h
            refine rd_s rfl rfl trivial (ss_idxL rfl rfl q269) rfl ?_
            refine rd_l rfl rfl trivial (ss_loadL (f := ci) rfl q269) rfl ?_
            refine rd_l rfl rfl trivial (ss_loadL (f := (fun r => C.lst (ints r))) rfl q264) rfl ?_
            obtain ⟨q270, h⟩ := h
            refine rd_s rfl rfl trivial (ss_idxL rfl rfl q270) rfl ?_
            refine rd_l rfl rfl trivial (ss_loadL (f := ci) rfl q270) rfl ?_
            obtain ⟨q271, h⟩ := h
            refine rd_s rfl rfl trivial (ss_idxL rfl rfl q271) rfl ?_
            refine rd_l rfl rfl trivial (ss_loadL (f := (fun r => C.lst (ints r))) rfl q271) rfl ?_
            refine rd_l rfl rfl trivial (ss_loadL (f := (fun r => C.lst (ints r))) rfl q265) rfl ?_
            obtain ⟨q272, h⟩ := h
            refine rd_s rfl rfl trivial (ss_idxL rfl rfl q272) rfl ?_
            refine rd_l rfl rfl trivial (ss_loadL (f := ci) rfl q272) rfl ?_
            obtain ⟨q273, h⟩ := h
            refine rd_s rfl rfl trivial (ss_idxL rfl rfl q273) rfl ?_
            refine rd_l rfl rfl trivial (ss_loadL (f := ci) rfl q273) rfl ?_
            refine rd_s rfl rfl trivial (ss_neq rfl rfl) rfl ?_
            refine rd_s rfl rfl trivial (ss_assign rfl) rfl ?_
            refine rd_nil ?_
            refine aw_ret ?_
            exact retAF_mk (retv1 rfl (rv_tmp rfl)) rfl rfl ⟨_, (cle_refl _), _, h, rfl⟩
           ·replace h := h.2 (of_decide_eq_false q258)
            refine aw_skip ?_
            refine aw_seq ?_
            refine aw_seq ?_
            refine aw_region ?_
            refine run_s (ss_loadS rfl rfl rfl rfl) rfl ?_
            obtain ⟨q274, h⟩ := h
            refine run_w (ws_call (xs := [.tmp 141]) (ids := []) rfl rfl rfl rfl (c_impl_IsCycleSet r1_0 q274) rfl ?_ )
            rintro _ rfl
            refine ⟨rfl, ?_⟩
            refine run_s (ss_not rfl) rfl ?_
            refine run_nil ?_
            refine aw_cond rfl (fun q276 => ?_) (fun q276 => ?_)
            ·replace h := h.1 ((bnot_t q276))
             refine aw_seq ?_
             refine aw_gh (gh_to (n := 261) (σ' := [(3, ⟨[.lst (rows r1_0)], []⟩)]) (env' := []) rfl rfl trivial) ?_
             refine aw_region ?_
             refine run_s (ss_assign rfl) rfl ?_
             refine run_nil ?_
             refine aw_ret ?_
             exact retAF_mk (retv1 rfl (rv_tmp rfl)) rfl rfl ⟨_, (cle_refl _), _, h, rfl⟩
            ·replace h := h.2 ((bnot_f q276))
             refine aw_skip ?_
             refine aw_seq ?_
             refine aw_region ?_
             refine run_s (ss_move rfl) rfl ?_
             obtain ⟨q277, h⟩ := h
             refine run_w (ws_call (xs := [.tmp 144, .const (.int .u64 (815))]) (ids := [145]) rfl rfl rfl rfl (c_laws_roll code 815 q277) rfl ?_ )
             rintro _ ⟨r10_0, r10_1, r10_2, q278, rfl⟩
             replace h := h r10_0 r10_1 r10_2 q278
             refine ⟨rfl, ?_⟩
             refine run_s (ss_assign rfl) rfl ?_
             refine run_nil ?_
             refine aw_seq ?_
             refine aw_region ?_
             refine run_s (ss_move rfl) rfl ?_
             refine run_s (ss_lenL (f := (fun r => C.lst (ints r))) rfl) rfl ?_
             refine run_s (ss_assign rfl) rfl ?_
             refine run_nil ?_
             refine aw_seq ?_
             refine aw_region ?_
             refine run_s (ss_move rfl) rfl ?_
             refine run_s (ss_move rfl) rfl ?_
             obtain ⟨q279, h⟩ := h
             refine run_w (ws_callM (xs := [.tmp 148, .tmp 149]) (cs := [.obox [.lst (bys r10_0), ci r10_1, cu r10_2], ci (r1_0.length : Int)]) (ids := []) rfl (.inr ⟨rfl, rfl⟩) rfl rfl rfl (c_dice_below r10_0 r10_1 r10_2 (r1_0.length : Int) q279) rfl rfl ?_ )
             rintro _ _ ⟨r11_0, o11_0, o11_1, o11_2, q280, rfl, rfl⟩
             replace h := h r11_0 o11_0 o11_1 o11_2 q280
             refine ⟨rfl, rfl, ?_⟩
             refine run_s (ss_move rfl) rfl ?_
             refine run_s (ss_move rfl) rfl ?_
             obtain ⟨q281, h⟩ := h
             refine run_w (ws_callM (xs := [.tmp 151, .tmp 152]) (cs := [.obox [.lst (bys o11_0), ci o11_1, cu o11_2], ci (r1_0.length : Int)]) (ids := []) rfl (.inr ⟨rfl, rfl⟩) rfl rfl rfl (c_dice_below o11_0 o11_1 o11_2 (r1_0.length : Int) q281) rfl rfl ?_ )
             rintro _ _ ⟨r12_0, o12_0, o12_1, o12_2, q282, rfl, rfl⟩
             replace h := h r12_0 o12_0 o12_1 o12_2 q282
             refine ⟨rfl, rfl, ?_⟩
             refine run_s (ss_move rfl) rfl ?_
             obtain ⟨q283, h⟩ := h
             refine run_w (ws_callM (xs := [.tmp 154, .const (.int .i64 (10))]) (cs := [.obox [.lst (bys o12_0), ci o12_1, cu o12_2], ci 10]) (ids := []) rfl (.inr ⟨rfl, rfl⟩) rfl rfl rfl (c_dice_below o12_0 o12_1 o12_2 10 q283) rfl rfl ?_ )
             rintro _ _ ⟨r13_0, o13_0, o13_1, o13_2, q284, rfl, rfl⟩
             replace h := h r13_0 o13_0 o13_1 o13_2 q284
             refine ⟨rfl, rfl, ?_⟩
             refine run_s (ss_assign rfl) rfl ?_
             refine run_s (ss_assign rfl) rfl ?_
             refine run_s (ss_assign rfl) rfl ?_
             refine run_nil ?_
             refine aw_seq ?_
             refine aw_region ?_
             refine run_s (ss_loadS rfl rfl rfl rfl) rfl ?_
             refine run_s (ss_move rfl) rfl ?_
             refine run_s (ss_move rfl) rfl ?_
             obtain ⟨q285, h⟩ := h
             refine run_w (ws_call (xs := [.tmp 157, .tmp 158, .tmp 159]) (ids := []) rfl rfl rfl rfl (c_impl_DotSolve r1_0 r11_0 r12_0 q285) rfl ?_ )
             rintro _ rfl
             refine ⟨rfl, ?_⟩
             refine run_s (ss_move rfl) rfl ?_
             refine run_s (ss_extract rfl rfl) rfl ?_
             refine run_s (ss_extract rfl rfl) rfl ?_
             refine run_s (ss_assign rfl) rfl ?_
             refine run_s (ss_assign rfl) rfl ?_
             refine run_nil ?_
             refine aw_seq ?_
             refine aw_gh (gh_to (n := 261) (σ' := [(145, ⟨[.lst (bys o13_0), ci o13_1, cu o13_2], []⟩), (3, ⟨[.lst (rows r1_0)], []⟩)]) (env' := [(3, .cell 3 0), (8, .c (.lst (rows r1_0))), (17, .c (ci (r1_0.length : Int))), (18, .c (ci r11_0)), (19, .c (ci r12_0)), (20, .c (ci r13_0)), (21, .c (ci (DsoV r1_0 r11_0 r12_0))), (22, .c (ci (DsoE r1_0 r11_0 r12_0)))]) rfl rfl ⟨rfl, rfl, rfl, rfl, rfl, rfl, rfl, rfl, trivial⟩) ?_
             refine aw_region ?_
             refine run_s (ss_loadS rfl rfl rfl rfl) rfl ?_
             refine run_s (ss_move rfl) rfl ?_
             refine run_s (ss_move rfl) rfl ?_
             obtain ⟨q287, h⟩ := h
             refine run_w (ws_call (xs := [.tmp 164, .tmp 165, .tmp 166]) (ids := []) rfl rfl rfl rfl (c_impl_DotPower r1_0 r11_0 r13_0 q287) rfl ?_ )
             rintro _ rfl
             refine ⟨rfl, ?_⟩
             refine run_s (ss_move rfl) rfl ?_
             refine run_s (ss_extract rfl rfl) rfl ?_
             refine run_s (ss_extract rfl rfl) rfl ?_
             refine run_s (ss_assign rfl) rfl ?_
             refine run_s (ss_assign rfl) rfl ?_
             refine run_nil ?_
             refine aw_seq ?_
             refine aw_region ?_
             refine run_s (ss_loadS rfl rfl rfl rfl) rfl ?_
             refine run_s (ss_move rfl) rfl ?_
             refine run_s (ss_move rfl) rfl ?_
             obtain ⟨q289, h⟩ := h
             refine run_s (ss_add rfl rfl q289) rfl ?_
             obtain ⟨q290, h⟩ := h
             refine run_w (ws_call (xs := [.tmp 171, .tmp 172, .tmp 174]) (ids := []) rfl rfl rfl rfl (c_impl_DotPower r1_0 r11_0 (r13_0 + 1) q290) rfl ?_ )
             rintro _ rfl
             refine ⟨rfl, ?_⟩
             refine run_s (ss_move rfl) rfl ?_
             refine run_s (ss_extract rfl rfl) rfl ?_
             refine run_s (ss_extract rfl rfl) rfl ?_
             refine run_s (ss_assign rfl) rfl ?_
             refine run_s (ss_assign rfl) rfl ?_
             refine run_nil ?_
             refine aw_seq ?_
             refine aw_region ?_
             refine run_s (ss_loadS rfl rfl rfl rfl) rfl ?_
             obtain ⟨q292, h⟩ := h
             refine run_w (ws_call (xs := [.tmp 179]) (ids := [180]) rfl rfl rfl rfl (c_impl_RowOrders r1_0 q292) rfl ?_ )
             rintro _ rfl
             refine ⟨rfl, ?_⟩
             refine run_s (ss_move rfl) rfl ?_
             refine run_s (ss_extract rfl rfl) rfl ?_
             refine run_s (ss_extract rfl rfl) rfl ?_
             refine run_s (ss_assign rfl) rfl ?_
             refine run_s (ss_assign rfl) rfl ?_
             refine run_nil ?_
             refine aw_gh (gh_to (n := 261) (σ' := [(180, ⟨ints (RowT r1_0), []⟩), (145, ⟨[.lst (bys o13_0), ci o13_1, cu o13_2], []⟩), (3, ⟨[.lst (rows r1_0)], []⟩)]) (env' := [(8, .c (.lst (rows r1_0))), (17, .c (ci (r1_0.length : Int))), (18, .c (ci r11_0)), (19, .c (ci r12_0)), (21, .c (ci (DsoV r1_0 r11_0 r12_0))), (22, .c (ci (DsoE r1_0 r11_0 r12_0))), (23, .c (ci (DpwV r1_0 r11_0 r13_0))), (24, .c (ci (DpwE r1_0 r11_0 r13_0))), (25, .c (ci (DpwV r1_0 r11_0 (r13_0 + 1)))), (26, .c (ci (DpwE r1_0 r11_0 (r13_0 + 1)))), (27, .ref 180), (28, .c (ci (cyE r1_0)))]) rfl rfl ⟨rfl, rfl, rfl, rfl, rfl, rfl, rfl, rfl, rfl, rfl, rfl, rfl, trivial⟩) ?_
             refine aw_gh (gh_frzE (id := 180) ci rfl (fun _ => rfl)) ?_
             refine aw_gh (gh_to (n := 261) (σ' := [(145, ⟨[.lst (bys o13_0), ci o13_1, cu o13_2], []⟩), (3, ⟨[.lst (rows r1_0)], []⟩)]) (env' := [(8, .c (.lst (rows r1_0))), (17, .c (ci (r1_0.length : Int))), (18, .c (ci r11_0)), (19, .c (ci r12_0)), (21, .c (ci (DsoV r1_0 r11_0 r12_0))), (22, .c (ci (DsoE r1_0 r11_0 r12_0))), (23, .c (ci (DpwV r1_0 r11_0 r13_0))), (24, .c (ci (DpwE r1_0 r11_0 r13_0))), (25, .c (ci (DpwV r1_0 r11_0 (r13_0 + 1)))), (26, .c (ci (DpwE r1_0 r11_0 (r13_0 + 1)))), (27, .c (.lst (ints (RowT r1_0)))), (28, .c (ci (cyE r1_0)))]) rfl rfl ⟨rfl, rfl, rfl, rfl, rfl, rfl, rfl, rfl, rfl, rfl, rfl, rfl, trivial⟩) ?_
             refine aw_seq ?_
             refine aw_seq ?_
             refine aw_region ?_
             refine run_s (ss_move rfl) rfl ?_
             refine run_s (ss_neq rfl rfl) rfl ?_
             refine run_s (ss_move rfl) rfl ?_
             refine run_split (s := 185) rfl (fun q294 => ?_) (fun q294 => ?_)
             ·replace h := h.1 (of_decide_eq_false (bnot_t q294))
              refine run_gf rfl rfl q294 rfl ?_
              refine run_gf rfl rfl q294 rfl ?_
              refine run_s (ss_pickT rfl q294 rfl) rfl ?_
              refine run_s (ss_move rfl) rfl ?_
              refine run_split (s := 189) rfl (fun q295 => ?_) (fun q295 => ?_)
              ·skip
               refine run_gf rfl rfl q295 rfl ?_
               refine run_gf rfl rfl q295 rfl ?_
               refine run_s (ss_pickT rfl q295 rfl) rfl ?_
               refine run_s (ss_move rfl) rfl ?_
               refine run_split (s := 193) rfl (fun q296 => ?_) (fun q296 => ?_)
               ·skip
                refine run_gf rfl rfl q296 rfl ?_
                refine run_gf rfl rfl q296 rfl ?_
                refine run_s (ss_pickT rfl q296 rfl) rfl ?_
                refine run_s (ss_move rfl) rfl ?_
                refine run_split (s := 197) rfl (fun q297 => ?_) (fun q297 => ?_)
                ·skip
                 refine run_gf rfl rfl q297 rfl ?_
                 refine run_gf rfl rfl q297 rfl ?_
                 refine run_s (ss_pickT rfl q297 rfl) rfl ?_
                 refine run_s (ss_move rfl) rfl ?_
                 refine run_split (s := 201) rfl (fun q298 => ?_) (fun q298 => ?_)
                 ·skip
                  refine run_gf rfl rfl q298 rfl ?_
                  refine run_gf rfl rfl q298 rfl ?_
                  refine run_gf rfl rfl q298 rfl ?_
                  refine run_s (ss_pickT rfl q298 rfl) rfl ?_
                  refine run_s (ss_move rfl) rfl ?_
                  refine run_split (s := 206) rfl (fun q299 => ?_) (fun q299 => ?_)
                  ·skip
                   refine run_gf rfl rfl q299 rfl ?_
                   refine run_gf rfl rfl q299 rfl ?_
                   refine run_s (ss_pickT rfl q299 rfl) rfl ?_
                   refine run_s (ss_move rfl) rfl ?_
                   refine run_split (s := 210) rfl (fun q300 => ?_) (fun q300 => ?_)
                   ·skip
                    refine run_gf rfl rfl q300 rfl ?_
                    refine run_gf rfl rfl q300 rfl ?_
                    refine run_gf rfl rfl q300 rfl ?_
                    refine run_s (ss_pickT rfl q300 rfl) rfl ?_
                    refine run_s (ss_move rfl) rfl ?_
                    refine run_split (s := 215) rfl (fun q301 => ?_) (fun q301 => ?_)
                    ·skip
                     refine run_gf rfl rfl q301 rfl ?_
                     refine run_gf rfl rfl q301 rfl ?_
                     refine run_gf rfl rfl q301 rfl ?_
                     refine run_gf rfl rfl q301 rfl ?_
                     refine run_gf rfl rfl q301 rfl ?_
                     refine run_gf rfl rfl q301 rfl ?_
                     refine run_gf rfl rfl q301 rfl ?_
                     refine run_gf rfl rfl q301 rfl ?_
                     refine run_gf rfl rfl q301 rfl ?_
                     refine run_s (ss_pickT rfl q301 rfl) rfl ?_
                     refine run_s (ss_move rfl) rfl ?_
                     refine run_split (s := 226) rfl (fun q302 => ?_) (fun q302 => ?_)
                     ·skip
                      refine run_gf rfl rfl q302 rfl ?_
                      refine run_gf rfl rfl q302 rfl ?_
                      refine run_gf rfl rfl q302 rfl ?_
                      refine run_gf rfl rfl q302 rfl ?_
                      refine run_gf rfl rfl q302 rfl ?_
                      refine run_gf rfl rfl q302 rfl ?_
                      refine run_gf rfl rfl q302 rfl ?_
                      refine run_gf rfl rfl q302 rfl ?_
                      refine run_gf rfl rfl q302 rfl ?_
                      refine run_s (ss_pickT rfl q302 rfl) rfl ?_
                      refine run_s (ss_move rfl) rfl ?_
                      refine run_split (s := 237) rfl (fun q303 => ?_) (fun q303 => ?_)
                      ·skip
                       refine run_gf rfl rfl q303 rfl ?_
                       refine run_gf rfl rfl q303 rfl ?_
                       refine run_gf rfl rfl q303 rfl ?_
                       refine run_gf rfl rfl q303 rfl ?_
                       refine run_s (ss_pickT rfl q303 rfl) rfl ?_
                       refine run_nil ?_
                       refine aw_cond rfl (fun q304 => ?_) (fun q304 => ?_)
                       ·skip
                        refine aw_seq ?_
                        refine aw_gh (gh_to (n := 261) (σ' := [(145, ⟨[.lst (bys o13_0), ci o13_1, cu o13_2], []⟩), (3, ⟨[.lst (rows r1_0)], []⟩)]) (env' := []) rfl rfl trivial) ?_
                        refine aw_region ?_
                        refine run_s (ss_assign rfl) rfl ?_
                        refine run_nil ?_
                        refine aw_ret ?_
                        exact retAF_mk (retv1 rfl (rv_tmp rfl)) rfl rfl ⟨_, (cle_refl _), _, h, rfl⟩
                       ·cases q304
                      ·cases q303
                     ·cases q302
                    ·cases q301
                   ·cases q300
                  ·cases q299
                 ·cases q298
                ·cases q297
               ·cases q296
              ·cases q295
             ·replace h := h.2 (of_decide_eq_true (bnot_f q294))
              refine run_gt rfl rfl q294 ?_
              refine run_s (ss_move rfl) rfl ?_
              refine run_gt rfl rfl q294 ?_
              refine run_s (ss_neq rfl rfl) rfl ?_
              refine run_s (ss_pickF rfl q294 rfl) rfl ?_
              refine run_s (ss_move rfl) rfl ?_
              refine run_split (s := 189) rfl (fun q305 => ?_) (fun q305 => ?_)
              ·replace h := h.1 (of_decide_eq_false (bnot_t q305))
               refine run_gf rfl rfl q305 rfl ?_
               refine run_gf rfl rfl q305 rfl ?_
               refine run_s (ss_pickT rfl q305 rfl) rfl ?_
               refine run_s (ss_move rfl) rfl ?_
               refine run_split (s := 193) rfl (fun q306 => ?_) (fun q306 => ?_)
               ·skip
                refine run_gf rfl rfl q306 rfl ?_
                refine run_gf rfl rfl q306 rfl ?_
                refine run_s (ss_pickT rfl q306 rfl) rfl ?_
                refine run_s (ss_move rfl) rfl ?_
                refine run_split (s := 197) rfl (fun q307 => ?_) (fun q307 => ?_)
                ·skip
                 refine run_gf rfl rfl q307 rfl ?_
                 refine run_gf rfl rfl q307 rfl ?_
                 refine run_s (ss_pickT rfl q307 rfl) rfl ?_
                 refine run_s (ss_move rfl) rfl ?_
                 refine run_split (s := 201) rfl (fun q308 => ?_) (fun q308 => ?_)
                 ·skip
                  refine run_gf rfl rfl q308 rfl ?_
                  refine run_gf rfl rfl q308 rfl ?_
                  refine run_gf rfl rfl q308 rfl ?_
                  refine run_s (ss_pickT rfl q308 rfl) rfl ?_
                  refine run_s (ss_move rfl) rfl ?_
                  refine run_split (s := 206) rfl (fun q309 => ?_) (fun q309 => ?_)
                  ·skip
                   refine run_gf rfl rfl q309 rfl ?_
                   refine run_gf rfl rfl q309 rfl ?_
                   refine run_s (ss_pickT rfl q309 rfl) rfl ?_
                   refine run_s (ss_move rfl) rfl ?_
                   refine run_split (s := 210) rfl (fun q310 => ?_) (fun q310 => ?_)
                   ·skip
                    refine run_gf rfl rfl q310 rfl ?_
                    refine run_gf rfl rfl q310 rfl ?_
                    refine run_gf rfl rfl q310 rfl ?_
                    refine run_s (ss_pickT rfl q310 rfl) rfl ?_
                    refine run_s (ss_move rfl) rfl ?_
                    refine run_split (s := 215) rfl (fun q311 => ?_) (fun q311 => ?_)
                    ·skip
                     refine run_gf rfl rfl q311 rfl ?_
                     refine run_gf rfl rfl q311 rfl ?_
                     refine run_gf rfl rfl q311 rfl ?_
                     refine run_gf rfl rfl q311 rfl ?_
                     refine run_gf rfl rfl q311 rfl ?_
                     refine run_gf rfl rfl q311 rfl ?_
                     refine run_gf rfl rfl q311 rfl ?_
                     refine run_gf rfl rfl q311 rfl ?_
                     refine run_gf rfl rfl q311 rfl ?_
                     refine run_s (ss_pickT rfl q311 rfl) rfl ?_
                     refine run_s (ss_move rfl) rfl ?_
                     refine run_split (s := 226) rfl (fun q312 => ?_) (fun q312 => ?_)
                     ·skip
                      refine run_gf rfl rfl q312 rfl ?_
                      refine run_gf rfl rfl q312 rfl ?_
                      refine run_gf rfl rfl q312 rfl ?_
                      refine run_gf rfl rfl q312 rfl ?_
                      refine run_gf rfl rfl q312 rfl ?_
                      refine run_gf rfl rfl q312 rfl ?_
                      refine run_gf rfl rfl q312 rfl ?_
                      refine run_gf rfl rfl q312 rfl ?_
                      refine run_gf rfl rfl q312 rfl ?_
                      refine run_s (ss_pickT rfl q312 rfl) rfl ?_
                      refine run_s (ss_move rfl) rfl ?_
                      refine run_split (s := 237) rfl (fun q313 => ?_) (fun q313 => ?_)
                      ·skip
                       refine run_gf rfl rfl q313 rfl ?_
                       refine run_gf rfl rfl q313 rfl ?_
                       refine run_gf rfl rfl q313 rfl ?_
                       refine run_gf rfl rfl q313 rfl ?_
                       refine run_s (ss_pickT rfl q313 rfl) rfl ?_
                       refine run_nil ?_
                       refine aw_cond rfl (fun q314 => ?_) (fun q314 => ?_)
                       ·skip
                        refine aw_seq ?_
                        refine aw_gh (gh_to (n := 261) (σ' := [(145, ⟨[.lst (bys o13_0), ci o13_1, cu o13_2], []⟩), (3, ⟨[.lst (rows r1_0)], []⟩)]) (env' := []) rfl rfl trivial) ?_
                        refine aw_region ?_
                        refine run_s (ss_assign rfl) rfl ?_
                        refine run_nil ?_
                        refine aw_ret ?_
                        exact retAF_mk (retv1 rfl (rv_tmp rfl)) rfl rfl ⟨_, (cle_refl _), _, h, rfl⟩
                       ·cases q314
                      ·cases q313
                     ·cases q312
                    ·cases q311
                   ·cases q310
                  ·cases q309
                 ·cases q308
                ·cases q307
               ·cases q306
              ·replace h := h.2 (of_decide_eq_true (bnot_f q305))
               refine run_gt rfl rfl q305 ?_
               refine run_s (ss_move rfl) rfl ?_
               refine run_gt rfl rfl q305 ?_
               refine run_s (ss_neq rfl rfl) rfl ?_
               refine run_s (ss_pickF rfl q305 rfl) rfl ?_
               refine run_s (ss_move rfl) rfl ?_
               refine run_split (s := 193) rfl (fun q315 => ?_) (fun q315 => ?_)
               ·replace h := h.1 (of_decide_eq_false (bnot_t q315))
                refine run_gf rfl rfl q315 rfl ?_
                refine run_gf rfl rfl q315 rfl ?_
                refine run_s (ss_pickT rfl q315 rfl) rfl ?_
                refine run_s (ss_move rfl) rfl ?_
                refine run_split (s := 197) rfl (fun q316 => ?_) (fun q316 => ?_)
                ·skip
                 refine run_gf rfl rfl q316 rfl ?_
                 refine run_gf rfl rfl q316 rfl ?_
                 refine run_s (ss_pickT rfl q316 rfl) rfl ?_
                 refine run_s (ss_move rfl) rfl ?_
                 refine run_split (s := 201) rfl (fun q317 => ?_) (fun q317 => ?_)
                 ·skip
                  refine run_gf rfl rfl q317 rfl ?_
                  refine run_gf rfl rfl q317 rfl ?_
                  refine run_gf rfl rfl q317 rfl ?_
                  refine run_s (ss_pickT rfl q317 rfl) rfl ?_
                  refine run_s (ss_move rfl) rfl ?_
                  refine run_split (s := 206) rfl (fun q318 => ?_) (fun q318 => ?_)
                  ·skip
                   refine run_gf rfl rfl q318 rfl ?_
                   refine run_gf rfl rfl q318 rfl ?_
                   refine run_s (ss_pickT rfl q318 rfl) rfl ?_
                   refine run_s (ss_move rfl) rfl ?_
                   refine run_split (s := 210) rfl (fun q319 => ?_) (fun q319 => ?_)
                   ·skip
                    refine run_gf rfl rfl q319 rfl ?_
                    refine run_gf rfl rfl q319 rfl ?_
                    refine run_gf rfl rfl q319 rfl ?_
                    refine run_s (ss_pickT rfl q319 rfl) rfl ?_
                    refine run_s (ss_move rfl) rfl ?_
                    refine run_split (s := 215) rfl (fun q320 => ?_) (fun q320 => ?_)
                    ·skip
                     refine run_gf rfl rfl q320 rfl ?_
                     refine run_gf rfl rfl q320 rfl ?_
                     refine run_gf rfl rfl q320 rfl ?_
                     refine run_gf rfl rfl q320 rfl ?_
                     refine run_gf rfl rfl q320 rfl ?_
                     refine run_gf rfl rfl q320 rfl ?_
                     refine run_gf rfl rfl q320 rfl ?_
                     refine run_gf rfl rfl q320 rfl ?_
                     refine run_gf rfl rfl q320 rfl ?_
                     refine run_s (ss_pickT rfl q320 rfl) rfl ?_
                     refine run_s (ss_move rfl) rfl ?_
                     refine run_split (s := 226) rfl (fun q321 => ?_) (fun q321 => ?_)
                     ·skip
                      refine run_gf rfl rfl q321 rfl ?_
                      refine run_gf rfl rfl q321 rfl ?_
                      refine run_gf rfl rfl q321 rfl ?_
                      refine run_gf rfl rfl q321 rfl ?_
                      refine run_gf rfl rfl q321 rfl ?_
                      refine run_gf rfl rfl q321 rfl ?_
                      refine run_gf rfl rfl q321 rfl ?_
                      refine run_gf rfl rfl q321 rfl ?_
                      refine run_gf rfl rfl q321 rfl ?_
                      refine run_s (ss_pickT rfl q321 rfl) rfl ?_
                      refine run_s (ss_move rfl) rfl ?_
                      refine run_split (s := 237) rfl (fun q322 => ?_) (fun q322 => ?_)
                      ·skip
                       refine run_gf rfl rfl q322 rfl ?_
                       refine run_gf rfl rfl q322 rfl ?_
                       refine run_gf rfl rfl q322 rfl ?_
                       refine run_gf rfl rfl q322 rfl ?_
                       refine run_s (ss_pickT rfl q322 rfl) rfl ?_
                       refine run_nil ?_
                       refine aw_cond rfl (fun q323 => ?_) (fun q323 => ?_)
                       ·skip
                        refine aw_seq ?_
                        refine aw_gh (gh_to (n := 261) (σ' := [(145, ⟨[.lst (bys o13_0), ci o13_1, cu o13_2], []⟩), (3, ⟨[.lst (rows r1_0)], []⟩)]) (env' := []) rfl rfl trivial) ?_
                        refine aw_region ?_
                        refine run_s (ss_assign rfl) rfl ?_
                        refine run_nil ?_
                        refine aw_ret ?_
                        exact retAF_mk (retv1 rfl (rv_tmp rfl)) rfl rfl ⟨_, (cle_refl _), _, h, rfl⟩
                       ·cases q323
                      ·cases q322
                     ·cases q321
                    ·cases q320
                   ·cases q319
                  ·cases q318
                 ·cases q317
                ·cases q316
               ·replace h := h.2 (of_decide_eq_true (bnot_f q315))
                refine run_gt rfl rfl q315 ?_
                refine run_s (ss_move rfl) rfl ?_
                refine run_gt rfl rfl q315 ?_
                refine run_s (ss_neq rfl rfl) rfl ?_
                refine run_s (ss_pickF rfl q315 rfl) rfl ?_
                refine run_s (ss_move rfl) rfl ?_
                refine run_split (s := 197) rfl (fun q324 => ?_) (fun q324 => ?_)
                ·replace h := h.1 (of_decide_eq_false (bnot_t q324))
                 refine run_gf rfl rfl q324 rfl ?_
                 refine run_gf rfl rfl q324 rfl ?_
                 refine run_s (ss_pickT rfl q324 rfl) rfl ?_
                 refine run_s (ss_move rfl) rfl ?_
                 refine run_split (s := 201) rfl (fun q325 => ?_) (fun q325 => ?_)
                 ·skip
                  refine run_gf rfl rfl q325 rfl ?_
                  refine run_gf rfl rfl q325 rfl ?_
                  refine run_gf rfl rfl q325 rfl ?_
                  refine run_s (ss_pickT rfl q325 rfl) rfl ?_
                  refine run_s (ss_move rfl) rfl ?_
                  refine run_split (s := 206) rfl (fun q326 => ?_) (fun q326 => ?_)
                  ·skip
                   refine run_gf rfl rfl q326 rfl ?_
                   refine run_gf rfl rfl q326 rfl ?_
                   refine run_s (ss_pickT rfl q326 rfl) rfl ?_
                   refine run_s (ss_move rfl) rfl ?_
                   refine run_split (s := 210) rfl (fun q327 => ?_) (fun q327 => ?_)
                   ·skip
                    refine run_gf rfl rfl q327 rfl ?_
                    refine run_gf rfl rfl q327 rfl ?_
                    refine run_gf rfl rfl q327 rfl ?_
                    refine run_s (ss_pickT rfl q327 rfl) rfl ?_
                    refine run_s (ss_move rfl) rfl ?_
                    refine run_split (s := 215) rfl (fun q328 => ?_) (fun q328 => ?_)
                    ·skip
                     refine run_gf rfl rfl q328 rfl ?_
                     refine run_gf rfl rfl q328 rfl ?_
                     refine run_gf rfl rfl q328 rfl ?_
                     refine run_gf rfl rfl q328 rfl ?_
                     refine run_gf rfl rfl q328 rfl ?_
                     refine run_gf rfl rfl q328 rfl ?_
                     refine run_gf rfl rfl q328 rfl ?_
                     refine run_gf rfl rfl q328 rfl ?_
                     refine run_gf rfl rfl q328 rfl ?_
                     refine run_s (ss_pickT rfl q328 rfl) rfl ?_
                     refine run_s (ss_move rfl) rfl ?_
                     refine run_split (s := 226) rfl (fun q329 => ?_) (fun q329 => ?_)
                     ·skip
                      refine run_gf rfl rfl q329 rfl ?_
                      refine run_gf rfl rfl q329 rfl ?_
                      refine run_gf rfl rfl q329 rfl ?_
                      refine run_gf rfl rfl q329 rfl ?_
                      refine run_gf rfl rfl q329 rfl ?_
                      refine run_gf rfl rfl q329 rfl ?_
                      refine run_gf rfl rfl q329 rfl ?_
                      refine run_gf rfl rfl q329 rfl ?_
                      refine run_gf rfl rfl q329 rfl ?_
                      refine run_s (ss_pickT rfl q329 rfl) rfl ?_
                      refine run_s (ss_move rfl) rfl ?_
                      refine run_split (s := 237) rfl (fun q330 => ?_) (fun q330 => ?_)
                      ·skip
                       refine run_gf rfl rfl q330 rfl ?_
                       refine run_gf rfl rfl q330 rfl ?_
                       refine run_gf rfl rfl q330 rfl ?_
                       refine run_gf rfl rfl q330 rfl ?_
                       refine run_s (ss_pickT rfl q330 rfl) rfl ?_
                       refine run_nil ?_
                       refine aw_cond rfl (fun q331 => ?_) (fun q331 => ?_)
                       ·skip
                        refine aw_seq ?_
                        refine aw_gh (gh_to (n := 261) (σ' := [(145, ⟨[.lst (bys o13_0), ci o13_1, cu o13_2], []⟩), (3, ⟨[.lst (rows r1_0)], []⟩)]) (env' := []) rfl rfl trivial) ?_
                        refine aw_region ?_
                        refine run_s (ss_assign rfl) rfl ?_
                        refine run_nil ?_
                        refine aw_ret ?_
                        exact retAF_mk (retv1 rfl (rv_tmp rfl)) rfl rfl ⟨_, (cle_refl _), _, h, rfl⟩
                       ·cases q331
                      ·cases q330
                     ·cases q329
                    ·cases q328
                   ·cases q327
                  ·cases q326
                 ·cases q325
                ·replace h := h.2 (of_decide_eq_true (bnot_f q324))
                 refine run_gt rfl rfl q324 ?_
                 refine run_s (ss_move rfl) rfl ?_
                 refine run_gt rfl rfl q324 ?_
                 refine run_s (ss_lss rfl rfl) rfl ?_
                 refine run_s (ss_pickF rfl q324 rfl) rfl ?_
                 refine run_s (ss_move rfl) rfl ?_
                 refine run_split (s := 201) rfl (fun q332 => ?_) (fun q332 => ?_)
                 ·replace h := h.1 (of_decide_eq_true q332)
                  refine run_gf rfl rfl q332 rfl ?_
                  refine run_gf rfl rfl q332 rfl ?_
                  refine run_gf rfl rfl q332 rfl ?_
                  refine run_s (ss_pickT rfl q332 rfl) rfl ?_
                  refine run_s (ss_move rfl) rfl ?_
                  refine run_split (s := 206) rfl (fun q333 => ?_) (fun q333 => ?_)
                  ·skip
                   refine run_gf rfl rfl q333 rfl ?_
                   refine run_gf rfl rfl q333 rfl ?_
                   refine run_s (ss_pickT rfl q333 rfl) rfl ?_
                   refine run_s (ss_move rfl) rfl ?_
                   refine run_split (s := 210) rfl (fun q334 => ?_) (fun q334 => ?_)
                   ·skip
                    refine run_gf rfl rfl q334 rfl ?_
                    refine run_gf rfl rfl q334 rfl ?_
                    refine run_gf rfl rfl q334 rfl ?_
                    refine run_s (ss_pickT rfl q334 rfl) rfl ?_
                    refine run_s (ss_move rfl) rfl ?_
                    refine run_split (s := 215) rfl (fun q335 => ?_) (fun q335 => ?_)
                    ·skip
                     refine run_gf rfl rfl q335 rfl ?_
                     refine run_gf rfl rfl q335 rfl ?_
                     refine run_gf rfl rfl q335 rfl ?_
                     refine run_gf rfl rfl q335 rfl ?_
                     refine run_gf rfl rfl q335 rfl ?_
                     refine run_gf rfl rfl q335 rfl ?_
                     refine run_gf rfl rfl q335 rfl ?_
                     refine run_gf rfl rfl q335 rfl ?_
                     refine run_gf rfl rfl q335 rfl ?_
                     refine run_s (ss_pickT rfl q335 rfl) rfl ?_
                     refine run_s (ss_move rfl) rfl ?_
                     refine run_split (s := 226) rfl (fun q336 => ?_) (fun q336 => ?_)
                     ·skip
                      refine run_gf rfl rfl q336 rfl ?_
                      refine run_gf rfl rfl q336 rfl ?_
                      refine run_gf rfl rfl q336 rfl ?_
                      refine run_gf rfl rfl q336 rfl ?_
                      refine run_gf rfl rfl q336 rfl ?_
                      refine run_gf rfl rfl q336 rfl ?_
                      refine run_gf rfl rfl q336 rfl ?_
                      refine run_gf rfl rfl q336 rfl ?_
                      refine run_gf rfl rfl q336 rfl ?_
                      refine run_s (ss_pickT rfl q336 rfl) rfl ?_
                      refine run_s (ss_move rfl) rfl ?_
                      refine run_split (s := 237) rfl (fun q337 => ?_) (fun q337 => ?_)
                      ·skip
                       refine run_gf rfl rfl q337 rfl ?_
                       refine run_gf rfl rfl q337 rfl ?_
                       refine run_gf rfl rfl q337 rfl ?_
                       refine run_gf rfl rfl q337 rfl ?_
                       refine run_s (ss_pickT rfl q337 rfl) rfl ?_
                       refine run_nil ?_
                       refine aw_cond rfl (fun q338 => ?_) (fun q338 => ?_)
                       ·skip
                        refine aw_seq ?_
                        refine aw_gh (gh_to (n := 261) (σ' := [(145, ⟨[.lst (bys o13_0), ci o13_1, cu o13_2], []⟩), (3, ⟨[.lst (rows r1_0)], []⟩)]) (env' := []) rfl rfl trivial) ?_
                        refine aw_region ?_
                        refine run_s (ss_assign rfl) rfl ?_
                        refine run_nil ?_
                        refine aw_ret ?_
                        exact retAF_mk (retv1 rfl (rv_tmp rfl)) rfl rfl ⟨_, (cle_refl _), _, h, rfl⟩
                       ·cases q338
                      ·cases q337
                     ·cases q336
                    ·cases q335
                   ·cases q334
                  ·cases q333
                 ·replace h := h.2 (of_decide_eq_false q332)
                  refine run_gt rfl rfl q332 ?_
                  refine run_s (ss_move rfl) rfl ?_
                  refine run_gt rfl rfl q332 ?_
                  refine run_s (ss_move rfl) rfl ?_
                  refine run_gt rfl rfl q332 ?_
                  refine run_s (ss_geq rfl rfl) rfl ?_
                  refine run_s (ss_pickF rfl q332 rfl) rfl ?_
                  refine run_s (ss_move rfl) rfl ?_
                  refine run_split (s := 206) rfl (fun q339 => ?_) (fun q339 => ?_)
                  ·replace h := h.1 (of_decide_eq_true q339)
                   refine run_gf rfl rfl q339 rfl ?_
                   refine run_gf rfl rfl q339 rfl ?_
                   refine run_s (ss_pickT rfl q339 rfl) rfl ?_
                   refine run_s (ss_move rfl) rfl ?_
                   refine run_split (s := 210) rfl (fun q340 => ?_) (fun q340 => ?_)
                   ·skip
                    refine run_gf rfl rfl q340 rfl ?_
                    refine run_gf rfl rfl q340 rfl ?_
                    refine run_gf rfl rfl q340 rfl ?_
                    refine run_s (ss_pickT rfl q340 rfl) rfl ?_
                    refine run_s (ss_move rfl) rfl ?_
                    refine run_split (s := 215) rfl (fun q341 => ?_) (fun q341 => ?_)
                    ·skip
                     refine run_gf rfl rfl q341 rfl ?_
                     refine run_gf rfl rfl q341 rfl ?_
                     refine run_gf rfl rfl q341 rfl ?_
                     refine run_gf rfl rfl q341 rfl ?_
                     refine run_gf rfl rfl q341 rfl ?_
                     refine run_gf rfl rfl q341 rfl ?_
                     refine run_gf rfl rfl q341 rfl ?_
                     refine run_gf rfl rfl q341 rfl ?_
                     refine run_gf rfl rfl q341 rfl ?_
                     refine run_s (ss_pickT rfl q341 rfl) rfl ?_
                     refine run_s (ss_move rfl) rfl ?_
                     refine run_split (s := 226) rfl (fun q342 => ?_) (fun q342 => ?_)
                     ·skip
                      refine run_gf rfl rfl q342 rfl ?_
                      refine run_gf rfl rfl q342 rfl ?_
                      refine run_gf rfl rfl q342 rfl ?_
                      refine run_gf rfl rfl q342 rfl ?_
                      refine run_gf rfl rfl q342 rfl ?_
                      refine run_gf rfl rfl q342 rfl ?_
                      refine run_gf rfl rfl q342 rfl ?_
                      refine run_gf rfl rfl q342 rfl ?_
                      refine run_gf rfl rfl q342 rfl ?_
                      refine run_s (ss_pickT rfl q342 rfl) rfl ?_
                      refine run_s (ss_move rfl) rfl ?_
                      refine run_split (s := 237) rfl (fun q343 => ?_) (fun q343 => ?_)
                      ·skip
                       refine run_gf rfl rfl q343 rfl ?_
                       refine run_gf rfl rfl q343 rfl ?_
                       refine run_gf rfl rfl q343 rfl ?_
                       refine run_gf rfl rfl q343 rfl ?_
                       refine run_s (ss_pickT rfl q343 rfl) rfl ?_
                       refine run_nil ?_
                       refine aw_cond rfl (fun q344 => ?_) (fun q344 => ?_)
                       ·skip
                        refine aw_seq ?_
                        refine aw_gh (gh_to (n := 261) (σ' := [(145, ⟨[.lst (bys o13_0), ci o13_1, cu o13_2], []⟩), (3, ⟨[.lst (rows r1_0)], []⟩)]) (env' := []) rfl rfl trivial) ?_
                        refine aw_region ?_
                        refine run_s (ss_assign rfl) rfl ?_
                        refine run_nil ?_
                        refine aw_ret ?_
                        exact retAF_mk (retv1 rfl (rv_tmp rfl)) rfl rfl ⟨_, (cle_refl _), _, h, rfl⟩
                       ·cases q344
                      ·cases q343
                     ·cases q342
                    ·cases q341
                   ·cases q340
                  ·replace h := h.2 (of_decide_eq_false q339)
                   refine run_gt rfl rfl q339 ?_
                   refine run_s (ss_move rfl) rfl ?_
                   refine run_gt rfl rfl q339 ?_
                   refine run_s (ss_lss rfl rfl) rfl ?_
                   refine run_s (ss_pickF rfl q339 rfl) rfl ?_
                   refine run_s (ss_move rfl) rfl ?_
                   refine run_split (s := 210) rfl (fun q345 => ?_) (fun q345 => ?_)
                   ·replace h := h.1 (of_decide_eq_true q345)
                    refine run_gf rfl rfl q345 rfl ?_
                    refine run_gf rfl rfl q345 rfl ?_
                    refine run_gf rfl rfl q345 rfl ?_
                    refine run_s (ss_pickT rfl q345 rfl) rfl ?_
                    refine run_s (ss_move rfl) rfl ?_
                    refine run_split (s := 215) rfl (fun q346 => ?_) (fun q346 => ?_)
                    ·skip
                     refine run_gf rfl rfl q346 rfl ?_
                     refine run_gf rfl rfl q346 rfl ?_
                     refine run_gf rfl rfl q346 rfl ?_
                     refine run_gf rfl rfl q346 rfl ?_
                     refine run_gf rfl rfl q346 rfl ?_
                     refine run_gf rfl rfl q346 rfl ?_
                     refine run_gf rfl rfl q346 rfl ?_
                     refine run_gf rfl rfl q346 rfl ?_
                     refine run_gf rfl rfl q346 rfl ?_
                     refine run_s (ss_pickT rfl q346 rfl) rfl ?_
                     refine run_s (ss_move rfl) rfl ?_
                     refine run_split (s := 226) rfl (fun q347 => ?_) (fun q347 => ?_)
                     ·skip
                      refine run_gf rfl rfl q347 rfl ?_
                      refine run_gf rfl rfl q347 rfl ?_
                      refine run_gf rfl rfl q347 rfl ?_
                      refine run_gf rfl rfl q347 rfl ?_
                      refine run_gf rfl rfl q347 rfl ?_
                      refine run_gf rfl rfl q347 rfl ?_
                      refine run_gf rfl rfl q347 rfl ?_
                      refine run_gf rfl rfl q347 rfl ?_
                      refine run_gf rfl rfl q347 rfl ?_
                      refine run_s (ss_pickT rfl q347 rfl) rfl ?_
                      refine run_s (ss_move rfl) rfl ?_
                      refine run_split (s := 237) rfl (fun q348 => ?_) (fun q348 => ?_)
                      ·skip
                       refine run_gf rfl rfl q348 rfl ?_
                       refine run_gf rfl rfl q348 rfl ?_
                       refine run_gf rfl rfl q348 rfl ?_
                       refine run_gf rfl rfl q348 rfl ?_
                       refine run_s (ss_pickT rfl q348 rfl) rfl ?_
                       refine run_nil ?_
                       refine aw_cond rfl (fun q349 => ?_) (fun q349 => ?_)
                       ·skip
                        refine aw_seq ?_
                        refine aw_gh (gh_to (n := 261) (σ' := [(145, ⟨[.lst (bys o13_0), ci o13_1, cu o13_2], []⟩), (3, ⟨[.lst (rows r1_0)], []⟩)]) (env' := []) rfl rfl trivial) ?_
                        refine aw_region ?_
                        refine run_s (ss_assign rfl) rfl ?_
                        refine run_nil ?_
                        refine aw_ret ?_
                        exact retAF_mk (retv1 rfl (rv_tmp rfl)) rfl rfl ⟨_, (cle_refl _), _, h, rfl⟩
                       ·cases q349
                      ·cases q348
                     ·cases q347
                    ·cases q346
                   ·replace h := h.2 (of_decide_eq_false q345)
                    refine run_gt rfl rfl q345 ?_
                    refine run_s (ss_move rfl) rfl ?_
                    refine run_gt rfl rfl q345 ?_
                    refine run_s (ss_move rfl) rfl ?_
                    refine run_gt rfl rfl q345 ?_
                    refine run_s (ss_geq rfl rfl) rfl ?_
                    refine run_s (ss_pickF rfl q345 rfl) rfl ?_
                    refine run_s (ss_move rfl) rfl ?_
                    refine run_split (s := 215) rfl (fun q350 => ?_) (fun q350 => ?_)
                    ·replace h := h.1 (of_decide_eq_true q350)
                     refine run_gf rfl rfl q350 rfl ?_
                     refine run_gf rfl rfl q350 rfl ?_
                     refine run_gf rfl rfl q350 rfl ?_
                     refine run_gf rfl rfl q350 rfl ?_
                     refine run_gf rfl rfl q350 rfl ?_
                     refine run_gf rfl rfl q350 rfl ?_
                     refine run_gf rfl rfl q350 rfl ?_
                     refine run_gf rfl rfl q350 rfl ?_
                     refine run_gf rfl rfl q350 rfl ?_
                     refine run_s (ss_pickT rfl q350 rfl) rfl ?_
                     refine run_s (ss_move rfl) rfl ?_
                     refine run_split (s := 226) rfl (fun q351 => ?_) (fun q351 => ?_)
                     ·skip
                      refine run_gf rfl rfl q351 rfl ?_
                      refine run_gf rfl rfl q351 rfl ?_
                      refine run_gf rfl rfl q351 rfl ?_
                      refine run_gf rfl rfl q351 rfl ?_
                      refine run_gf rfl rfl q351 rfl ?_
                      refine run_gf rfl rfl q351 rfl ?_
                      refine run_gf rfl rfl q351 rfl ?_
                      refine run_gf rfl rfl q351 rfl ?_
                      refine run_gf rfl rfl q351 rfl ?_
                      refine run_s (ss_pickT rfl q351 rfl) rfl ?_
                      refine run_s (ss_move rfl) rfl ?_
                      refine run_split (s := 237) rfl (fun q352 => ?_) (fun q352 => ?_)
                      ·skip
                       refine run_gf rfl rfl q352 rfl ?_
                       refine run_gf rfl rfl q352 rfl ?_
                       refine run_gf rfl rfl q352 rfl ?_
                       refine run_gf rfl rfl q352 rfl ?_
                       refine run_s (ss_pickT rfl q352 rfl) rfl ?_
                       refine run_nil ?_
                       refine aw_cond rfl (fun q353 => ?_) (fun q353 => ?_)
                       ·skip
                        refine aw_seq ?_
                        refine aw_gh (gh_to (n := 261) (σ' := [(145, ⟨[.lst (bys o13_0), ci o13_1, cu o13_2], []⟩), (3, ⟨[.lst (rows r1_0)], []⟩)]) (env' := []) rfl rfl trivial) ?_
                        refine aw_region ?_
                        refine run_s (ss_assign rfl) rfl ?_
                        refine run_nil ?_
                        refine aw_ret ?_
                        exact retAF_mk (retv1 rfl (rv_tmp rfl)) rfl rfl ⟨_, (cle_refl _), _, h, rfl⟩
                       ·cases q353
                      ·cases q352
                     ·cases q351
                    ·replace h := h.2 (of_decide_eq_false q350)
                     refine run_gt rfl rfl q350 ?_
                     refine run_s (ss_move rfl) rfl ?_
                     refine run_gt rfl rfl q350 ?_
                     refine run_s (ss_move rfl) rfl ?_
                     refine run_gt rfl rfl q350 ?_
                     obtain ⟨q354, h⟩ := h
                     refine run_s (ss_idxL rfl rfl q354) rfl ?_
                     refine run_gt rfl rfl q350 ?_
                     refine run_s (ss_loadL (f := (fun r => C.lst (ints r))) rfl q354) rfl ?_
                     refine run_gt rfl rfl q350 ?_
                     refine run_s (ss_move rfl) rfl ?_
                     refine run_gt rfl rfl q350 ?_
                     obtain ⟨q355, h⟩ := h
                     refine run_s (ss_idxL rfl rfl q355) rfl ?_
                     refine run_gt rfl rfl q350 ?_
                     refine run_s (ss_loadL (f := ci) rfl q355) rfl ?_
                     refine run_gt rfl rfl q350 ?_
                     refine run_s (ss_move rfl) rfl ?_
                     refine run_gt rfl rfl q350 ?_
                     refine run_s (ss_neq rfl rfl) rfl ?_
                     refine run_s (ss_pickF rfl q350 rfl) rfl ?_
                     refine run_s (ss_move rfl) rfl ?_
                     refine run_split (s := 226) rfl (fun q356 => ?_) (fun q356 => ?_)
                     ·replace h := h.1 (of_decide_eq_false (bnot_t q356))
                      refine run_gf rfl rfl q356 rfl ?_
                      refine run_gf rfl rfl q356 rfl ?_
                      refine run_gf rfl rfl q356 rfl ?_
                      refine run_gf rfl rfl q356 rfl ?_
                      refine run_gf rfl rfl q356 rfl ?_
                      refine run_gf rfl rfl q356 rfl ?_
                      refine run_gf rfl rfl q356 rfl ?_
                      refine run_gf rfl rfl q356 rfl ?_
                      refine run_gf rfl rfl q356 rfl ?_
                      refine run_s (ss_pickT rfl q356 rfl) rfl ?_
                      refine run_s (ss_move rfl) rfl ?_
                      refine run_split (s := 237) rfl (fun q357 => ?_) (fun q357 => ?_)
                      ·skip
                       refine run_gf rfl rfl q357 rfl ?_
                       refine run_gf rfl rfl q357 rfl ?_
                       refine run_gf rfl rfl q357 rfl ?_
                       refine run_gf rfl rfl q357 rfl ?_
                       refine run_s (ss_pickT rfl q357 rfl) rfl ?_
                       refine run_nil ?_
                       refine aw_cond rfl (fun q358 => ?_) (fun q358 => ?_)
                       ·skip
                        refine aw_seq ?_
                        refine aw_gh (gh_to (n := 261) (σ' := [(145, ⟨[.lst (bys o13_0), ci o13_1, cu o13_2], []⟩), (3, ⟨[.lst (rows r1_0)], []⟩)]) (env' := []) rfl rfl trivial) ?_
                        refine aw_region ?_
                        refine run_s (ss_assign rfl) rfl ?_
                        refine run_nil ?_
                        refine aw_ret ?_
                        exact retAF_mk (retv1 rfl (rv_tmp rfl)) rfl rfl ⟨_, (cle_refl _), _, h, rfl⟩
                       ·cases q358
                      ·cases q357
                     ·replace h := h.2 (of_decide_eq_true (bnot_f q356))
                      refine run_gt rfl rfl q356 ?_
                      refine run_s (ss_move rfl) rfl ?_
                      refine run_gt rfl rfl q356 ?_
                      refine run_s (ss_move rfl) rfl ?_
                      refine run_gt rfl rfl q356 ?_
                      refine run_s (ss_move rfl) rfl ?_
                      refine run_gt rfl rfl q356 ?_
                      obtain ⟨q359, h⟩ := h
                      refine run_s (ss_idxL rfl rfl q359) rfl ?_
                      refine run_gt rfl rfl q356 ?_
                      refine run_s (ss_loadL (f := (fun r => C.lst (ints r))) rfl q359) rfl ?_
                      refine run_gt rfl rfl q356 ?_
                      refine run_s (ss_move rfl) rfl ?_
                      refine run_gt rfl rfl q356 ?_
                      obtain ⟨q360, h⟩ := h
                      refine run_s (ss_idxL rfl rfl q360) rfl ?_
                      refine run_gt rfl rfl q356 ?_
                      refine run_s (ss_loadL (f := ci) rfl q360) rfl ?_
                      refine run_gt rfl rfl q356 ?_
                      refine run_s (ss_neq rfl rfl) rfl ?_
                      refine run_s (ss_pickF rfl q356 rfl) rfl ?_
                      refine run_s (ss_move rfl) rfl ?_
                      refine run_split (s := 237) rfl (fun q361 => ?_) (fun q361 => ?_)
                      ·replace h := h.1 (of_decide_eq_false (bnot_t q361))
                       refine run_gf rfl rfl q361 rfl ?_
                       refine run_gf rfl rfl q361 rfl ?_
                       refine run_gf rfl rfl q361 rfl ?_
                       refine run_gf rfl rfl q361 rfl ?_
                       refine run_s (ss_pickT rfl q361 rfl) rfl ?_
                       refine run_nil ?_
                       refine aw_cond rfl (fun q362 => ?_) (fun q362 => ?_)
                       ·skip
                        refine aw_seq ?_
                        refine aw_gh (gh_to (n := 261) (σ' := [(145, ⟨[.lst (bys o13_0), ci o13_1, cu o13_2], []⟩), (3, ⟨[.lst (rows r1_0)], []⟩)]) (env' := []) rfl rfl trivial) ?_
                        refine aw_region ?_
                        refine run_s (ss_assign rfl) rfl ?_
                        refine run_nil ?_
                        refine aw_ret ?_
                        exact retAF_mk (retv1 rfl (rv_tmp rfl)) rfl rfl ⟨_, (cle_refl _), _, h, rfl⟩
                       ·cases q362
                      ·replace h := h.2 (of_decide_eq_true (bnot_f q361))
                       refine run_gt rfl rfl q361 ?_
                       refine run_s (ss_move rfl) rfl ?_
                       refine run_gt rfl rfl q361 ?_
                       refine run_s (ss_lenL (f := ci) rfl) rfl ?_
                       refine run_gt rfl rfl q361 ?_
                       refine run_s (ss_move rfl) rfl ?_
                       refine run_gt rfl rfl q361 ?_
                       refine run_s (ss_neq rfl rfl) rfl ?_
                       refine run_s (ss_pickF rfl q361 rfl) rfl ?_
                       refine run_nil ?_
                       refine aw_cond rfl (fun q363 => ?_) (fun q363 => ?_)
                       ·replace h := h.1 (of_decide_eq_false (bnot_t q363))
                        refine aw_seq ?_
                        refine aw_gh (gh_to (n := 261) (σ' := [(145, ⟨[.lst (bys o13_0), ci o13_1, cu o13_2], []⟩), (3, ⟨[.lst (rows r1_0)], []⟩)]) (env' := []) rfl rfl trivial) ?_
                        refine aw_region ?_
                        refine run_s (ss_assign rfl) rfl ?_
                        refine run_nil ?_
                        refine aw_ret ?_
                        exact retAF_mk (retv1 rfl (rv_tmp rfl)) rfl rfl ⟨_, (cle_refl _), _, h, rfl⟩
                       ·replace h := h.2 (of_decide_eq_true (bnot_f q363))
                        refine aw_skip ?_
                        refine aw_seq ?_
                        refine aw_gh (gh_to (n := 261) (σ' := [(145, ⟨[.lst (bys o13_0), ci o13_1, cu o13_2], []⟩), (3, ⟨[.lst (rows r1_0)], []⟩)]) (env' := [(8, .c (.lst (rows r1_0))), (18, .c (ci r11_0)), (27, .c (.lst (ints (RowT r1_0))))]) rfl rfl ⟨rfl, rfl, rfl, trivial⟩) ?_
                        refine aw_region ?_
                        refine run_s (ss_move rfl) rfl ?_
                        refine run_s (ss_move rfl) rfl ?_
                        obtain ⟨q364, h⟩ := h
                        refine run_s (ss_idxL rfl rfl q364) rfl ?_
                        refine run_s (ss_loadL (f := (fun r => C.lst (ints r))) rfl q364) rfl ?_
                        obtain ⟨q365, h⟩ := h
                        refine run_w (ws_call (xs := [.tmp 247]) (ids := []) rfl rfl rfl rfl (c_impl_PermutationOrder (el r1_0 r11_0) q365) rfl ?_ )
                        rintro _ rfl
                        refine ⟨rfl, ?_⟩
                        refine run_s (ss_move rfl) rfl ?_
                        refine run_s (ss_extract rfl rfl) rfl ?_
                        refine run_s (ss_extract rfl rfl) rfl ?_
                        refine run_s (ss_assign rfl) rfl ?_
                        refine run_s (ss_assign rfl) rfl ?_
                        refine run_nil ?_
                        refine aw_seq ?_
                        refine aw_region ?_
                        refine run_s (ss_move rfl) rfl ?_
                        refine run_s (ss_eql rfl rfl) rfl ?_
                        refine run_s (ss_move rfl) rfl ?_
                        refine run_split (s := 253) rfl (fun q367 => ?_) (fun q367 => ?_)
                        ·replace h := h.1 (of_decide_eq_true q367)
                         refine run_gt rfl rfl q367 ?_
                         refine run_s (ss_move rfl) rfl ?_
                         refine run_gt rfl rfl q367 ?_
                         refine run_s (ss_move rfl) rfl ?_
                         refine run_gt rfl rfl q367 ?_
                         obtain ⟨q368, h⟩ := h
                         refine run_s (ss_idxL rfl rfl q368) rfl ?_
                         refine run_gt rfl rfl q367 ?_
                         refine run_s (ss_loadL (f := ci) rfl q368) rfl ?_
                         refine run_gt rfl rfl q367 ?_
                         refine run_s (ss_move rfl) rfl ?_
                         refine run_gt rfl rfl q367 ?_
                         refine run_s (ss_eql rfl rfl) rfl ?_
                         refine run_s (ss_pickT rfl q367 rfl) rfl ?_
                         refine run_s (ss_assign rfl) rfl ?_
                         refine run_nil ?_
                         refine aw_ret ?_
                         exact retAF_mk (retv1 rfl (rv_tmp rfl)) rfl rfl ⟨_, (cle_refl _), _, h, rfl⟩
                        ·replace h := h.2 (of_decide_eq_false q367)
                         refine run_gf rfl rfl q367 rfl ?_
                         refine run_gf rfl rfl q367 rfl ?_
                         refine run_gf rfl rfl q367 rfl ?_
                         refine run_gf rfl rfl q367 rfl ?_
                         refine run_gf rfl rfl q367 rfl ?_
                         refine run_gf rfl rfl q367 rfl ?_
                         refine run_s (ss_pickF rfl q367 rfl) rfl ?_
                         refine run_s (ss_assign rfl) rfl ?_
                         refine run_nil ?_
                         refine aw_ret ?_
                         exact retAF_mk (retv1 rfl (rv_tmp rfl)) rfl rfl ⟨_, (cle_refl _), _, h, rfl⟩

theorem c_laws_FnCycleFaults (code : List Int) (hp : code.length ≤ 9223372036854775807 ∧ ∀ z_ ∈ code, 0 ≤ z_ ∧ z_ ≤ 255) : AF Try.prog 6 [.lst (bys code)] (fun R_ => R_ = cb true) :=
  (w_laws_FnCycleFaults code (fun y0 => y0 = true) (p_laws_FnCycleFaults code hp)).mono (by rintro r ⟨_, rfl, rfl⟩; rfl)

end Go.Proofs.Ytbodlnpmplcaoaa
