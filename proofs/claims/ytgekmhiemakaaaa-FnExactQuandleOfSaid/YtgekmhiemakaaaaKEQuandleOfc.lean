/- Contracts of functions that the law FnExactQuandleOf reaches: conditions, plain proofs, walks; no condition. -/
import Derived.Test.YtgekmhiemakaaaaKEQuandleOfb
import Derived.Test.YtgekmhiemakaaaaPc
namespace Go.Proofs.Ytgekmhiemakaaaa

def wp_spec_l01Then (p : List Int) (q : List Int) (Q : List Int → Prop) : Prop :=
 ∃ (H1 : Int → List Int → Prop) (m1 : Int → List Int → Nat),
 H1 0 ([] : List Int) ∧
 ∀ (v6_1 : Int) (o7_1 : List Int), H1 v6_1 o7_1 →
 ( ((v6_1 < (p.length : Int) →
   (0 ≤ v6_1 ∧ v6_1 < (p.length : Int)) ∧
   (0 ≤ el p v6_1 ∧ el p v6_1 < (q.length : Int)) ∧
   ((o7_1.length : Int) + (([el q (el p v6_1)]).length : Int) ≤ 1000000000) ∧
   (InI (v6_1 + 1)) ∧
   (H1 (v6_1 + 1) (o7_1 ++ ([el q (el p v6_1)])) ∧ m1 (v6_1 + 1) (o7_1 ++ ([el q (el p v6_1)])) < m1 v6_1 o7_1)) ∧
  (¬ (v6_1 < (p.length : Int)) →
   Q o7_1)))

def wp_spec_l01Back (p : List Int) (Q : List Int → Prop) : Prop :=
 (0 ≤ (p.length : Int) ∧ (p.length : Int) ≤ 1000000000) ∧
 ∃ (H1 : Int → List Int → Prop) (m1 : Int → List Int → Nat),
 H1 0 (List.replicate (p.length : Int).toNat (0 : Int)) ∧
 ∀ (v4_1 : Int) (o7_1 : List Int), H1 v4_1 o7_1 →
 ( ((v4_1 < (p.length : Int) →
   (0 ≤ v4_1 ∧ v4_1 < (p.length : Int)) ∧
   (0 ≤ el p v4_1 ∧ el p v4_1 < (o7_1.length : Int)) ∧
   (InI (v4_1 + 1)) ∧
   (H1 (v4_1 + 1) (se o7_1 (el p v4_1) v4_1) ∧ m1 (v4_1 + 1) (se o7_1 (el p v4_1) v4_1) < m1 v4_1 o7_1)) ∧
  (¬ (v4_1 < (p.length : Int)) →
   Q o7_1)))

def wp_impl_inverse (p : List Int) (Q : List Int → Prop) : Prop :=
 (0 ≤ (p.length : Int) ∧ (p.length : Int) ≤ 1000000000) ∧
 ∃ (H1 : Int → List Int → Prop) (m1 : Int → List Int → Nat),
 H1 0 (List.replicate (p.length : Int).toNat (0 : Int)) ∧
 ∀ (v11_1 : Int) (o8_1 : List Int), H1 v11_1 o8_1 →
 ( ((v11_1 < (p.length : Int) →
   (0 ≤ v11_1 ∧ v11_1 < (p.length : Int)) ∧
   (0 ≤ el p v11_1 ∧ el p v11_1 < (o8_1.length : Int)) ∧
   (InI (v11_1 + 1)) ∧
   (H1 (v11_1 + 1) (se o8_1 (el p v11_1) v11_1) ∧ m1 (v11_1 + 1) (se o8_1 (el p v11_1) v11_1) < m1 v11_1 o8_1)) ∧
  (¬ (v11_1 < (p.length : Int)) →
   Q o8_1)))

def wp_impl_permutationRows_1 (row : List Int) (Q : Bool → Prop) : Prop :=
 (small row) ∧
 Q (!((isPerm row)))

def wp_impl_permutationRows (t : List (List Int)) (Q : Bool → Prop) : Prop :=
 (small t ∧ ∀ r_ ∈ t, (fun z0 => small z0) r_) ∧
 Q (!((t.any (fun z0 => !isPerm z0))))

def wp_impl_rackFault (t : List (List Int)) (Q : List Int → Prop) : Prop :=
 ∃ (H1 : Int → Prop) (m1 : Int → Nat),
 H1 0 ∧
 ∀ (v10_1 : Int), H1 v10_1 →
 ( ((v10_1 < (t.length : Int) →
   ∃ (H2 : Int → Prop) (m2 : Int → Nat),
   H2 0 ∧
   ∀ (v14_2 : Int), H2 v14_2 →
   ( ((v14_2 < (t.length : Int) →
     ∃ (H3 : Int → Prop) (m3 : Int → Nat),
     H3 0 ∧
     ∀ (v18_3 : Int), H3 v18_3 →
     ( ((v18_3 < (t.length : Int) →
       (0 ≤ v10_1 ∧ v10_1 < (t.length : Int)) ∧
       (0 ≤ v14_2 ∧ v14_2 < (t.length : Int)) ∧
       (0 ≤ v10_1 ∧ v10_1 < (t.length : Int)) ∧
       (0 ≤ v10_1 ∧ v10_1 < (t.length : Int)) ∧
       (0 ≤ v18_3 ∧ v18_3 < ((el t v14_2).length : Int)) ∧
       (0 ≤ el (el t v14_2) v18_3 ∧ el (el t v14_2) v18_3 < ((el t v10_1).length : Int)) ∧
       (0 ≤ v14_2 ∧ v14_2 < ((el t v10_1).length : Int)) ∧
       (0 ≤ el (el t v10_1) v14_2 ∧ el (el t v10_1) v14_2 < (t.length : Int)) ∧
       (0 ≤ v18_3 ∧ v18_3 < ((el t v10_1).length : Int)) ∧
       (0 ≤ el (el t v10_1) v18_3 ∧ el (el t v10_1) v18_3 < ((el t (el (el t v10_1) v14_2)).length : Int)) ∧
       ((¬ (el (el t v10_1) (el (el t v14_2) v18_3) = el (el t (el (el t v10_1) v14_2)) (el (el t v10_1) v18_3)) →
        Q ([v10_1, v14_2, v18_3])) ∧
       (el (el t v10_1) (el (el t v14_2) v18_3) = el (el t (el (el t v10_1) v14_2)) (el (el t v10_1) v18_3) →
        (InI (v18_3 + 1)) ∧
        (H3 (v18_3 + 1) ∧ m3 (v18_3 + 1) < m3 v18_3)))) ∧
      (¬ (v18_3 < (t.length : Int)) →
       (InI (v14_2 + 1)) ∧
       (H2 (v14_2 + 1) ∧ m2 (v14_2 + 1) < m2 v14_2))))) ∧
    (¬ (v14_2 < (t.length : Int)) →
     (InI (v10_1 + 1)) ∧
     (H1 (v10_1 + 1) ∧ m1 (v10_1 + 1) < m1 v10_1))))) ∧
  (¬ (v10_1 < (t.length : Int)) →
   Q ([]))))

def wp_spec_l03Fault (t : List (List Int)) (Q : List Int → Prop) : Prop :=
 ∃ (H1 : Int → Prop) (m1 : Int → Nat),
 H1 0 ∧
 ∀ (v4_1 : Int), H1 v4_1 →
 ( ((v4_1 < (t.length : Int) →
   ∃ (H2 : Int → Prop) (m2 : Int → Nat),
   H2 0 ∧
   ∀ (v5_2 : Int), H2 v5_2 →
   ( ((v5_2 < (t.length : Int) →
     ∃ (H3 : Int → Prop) (m3 : Int → Nat),
     H3 0 ∧
     ∀ (v6_3 : Int), H3 v6_3 →
     ( ((v6_3 < (t.length : Int) →
       (0 ≤ v4_1 ∧ v4_1 < (t.length : Int)) ∧
       (0 ≤ v5_2 ∧ v5_2 < (t.length : Int)) ∧
       (0 ≤ v4_1 ∧ v4_1 < (t.length : Int)) ∧
       (0 ≤ v4_1 ∧ v4_1 < (t.length : Int)) ∧
       (0 ≤ v6_3 ∧ v6_3 < ((el t v5_2).length : Int)) ∧
       (0 ≤ el (el t v5_2) v6_3 ∧ el (el t v5_2) v6_3 < ((el t v4_1).length : Int)) ∧
       (0 ≤ v5_2 ∧ v5_2 < ((el t v4_1).length : Int)) ∧
       (0 ≤ el (el t v4_1) v5_2 ∧ el (el t v4_1) v5_2 < (t.length : Int)) ∧
       (0 ≤ v6_3 ∧ v6_3 < ((el t v4_1).length : Int)) ∧
       (0 ≤ el (el t v4_1) v6_3 ∧ el (el t v4_1) v6_3 < ((el t (el (el t v4_1) v5_2)).length : Int)) ∧
       ((¬ (el (el t v4_1) (el (el t v5_2) v6_3) = el (el t (el (el t v4_1) v5_2)) (el (el t v4_1) v6_3)) →
        Q ([v4_1, v5_2, v6_3])) ∧
       (el (el t v4_1) (el (el t v5_2) v6_3) = el (el t (el (el t v4_1) v5_2)) (el (el t v4_1) v6_3) →
        (InI (v6_3 + 1)) ∧
        (H3 (v6_3 + 1) ∧ m3 (v6_3 + 1) < m3 v6_3)))) ∧
      (¬ (v6_3 < (t.length : Int)) →
       (InI (v5_2 + 1)) ∧
       (H2 (v5_2 + 1) ∧ m2 (v5_2 + 1) < m2 v5_2))))) ∧
    (¬ (v5_2 < (t.length : Int)) →
     (InI (v4_1 + 1)) ∧
     (H1 (v4_1 + 1) ∧ m1 (v4_1 + 1) < m1 v4_1))))) ∧
  (¬ (v4_1 < (t.length : Int)) →
   Q ([]))))

def wp_impl_IsRack (r : List (List Int)) (Q : Bool → Prop) : Prop :=
 (small2 r) ∧
 (((isTab r) = true →
  (small2 r) ∧
  (((r.all isPerm) = true →
   (((rackF r) = [] →
    (isTab r = true) ∧
    Q true) ∧
   (¬ (rackF r) = [] →
    (isTab r = true) ∧
    Q false))) ∧
  ((r.all isPerm) = false →
   Q false))) ∧
 ((isTab r) = false →
  Q false))

def wp_spec_l03Is (r : List (List Int)) (Q : Bool → Prop) : Prop :=
 (small2 r) ∧
 (((isTab r) = false →
  Q false) ∧
 ((isTab r) = true →
  ∃ (H1 : Int → Prop) (m1 : Int → Nat),
  H1 0 ∧
  ∀ (v3_1 : Int), H1 v3_1 →
  ( ((v3_1 < (r.length : Int) →
    (0 ≤ v3_1 ∧ v3_1 < (r.length : Int)) ∧
    (small (el r v3_1)) ∧
    (((permB (el r v3_1)) = false →
     Q false) ∧
    ((permB (el r v3_1)) = true →
     (InI (v3_1 + 1)) ∧
     (H1 (v3_1 + 1) ∧ m1 (v3_1 + 1) < m1 v3_1)))) ∧
   (¬ (v3_1 < (r.length : Int)) →
    (isTab r = true) ∧
    Q (decide (((rackF r).length : Int) = 0)))))))

def wp_impl_kinkOf (r : List (List Int)) (Q : List Int → Prop) : Prop :=
 (0 ≤ (r.length : Int) ∧ (r.length : Int) ≤ 1000000000) ∧
 ∃ (H1 : Int → List Int → Prop) (m1 : Int → List Int → Nat),
 H1 0 (List.replicate (r.length : Int).toNat (0 : Int)) ∧
 ∀ (v11_1 : Int) (o8_1 : List Int), H1 v11_1 o8_1 →
 ( ((v11_1 < ((List.replicate (r.length : Int).toNat (0 : Int)).length : Int) →
   (0 ≤ v11_1 ∧ v11_1 < (r.length : Int)) ∧
   (0 ≤ v11_1 ∧ v11_1 < ((el r v11_1).length : Int)) ∧
   (0 ≤ v11_1 ∧ v11_1 < (o8_1.length : Int)) ∧
   (InI (v11_1 + 1)) ∧
   (H1 (v11_1 + 1) (se o8_1 v11_1 (el (el r v11_1) v11_1)) ∧ m1 (v11_1 + 1) (se o8_1 v11_1 (el (el r v11_1) v11_1)) < m1 v11_1 o8_1)) ∧
  (¬ (v11_1 < ((List.replicate (r.length : Int).toNat (0 : Int)).length : Int)) →
   Q o8_1)))

def wp_spec_l03Kink (r : List (List Int)) (Q : List Int → Prop) : Prop :=
 ∃ (H1 : Int → List Int → Prop) (m1 : Int → List Int → Nat),
 H1 0 ([] : List Int) ∧
 ∀ (v4_1 : Int) (o5_1 : List Int), H1 v4_1 o5_1 →
 ( ((v4_1 < (r.length : Int) →
   (0 ≤ v4_1 ∧ v4_1 < (r.length : Int)) ∧
   (0 ≤ v4_1 ∧ v4_1 < ((el r v4_1).length : Int)) ∧
   ((o5_1.length : Int) + (([el (el r v4_1) v4_1]).length : Int) ≤ 1000000000) ∧
   (InI (v4_1 + 1)) ∧
   (H1 (v4_1 + 1) (o5_1 ++ ([el (el r v4_1) v4_1])) ∧ m1 (v4_1 + 1) (o5_1 ++ ([el (el r v4_1) v4_1])) < m1 v4_1 o5_1)) ∧
  (¬ (v4_1 < (r.length : Int)) →
   Q o5_1)))

def wp_impl_QuandleOf_1 (x : Int) (y : Int) (back : List Int) (r : List (List Int)) (Q : Int → Prop) : Prop :=
 (0 ≤ x ∧ x < (r.length : Int)) ∧
 (0 ≤ y ∧ y < ((el r x).length : Int)) ∧
 (0 ≤ el (el r x) y ∧ el (el r x) y < (back.length : Int)) ∧
 Q (el back (el (el r x) y))

def wp_spec_QuandleOf (r : List (List Int)) (Q : List (List Int) → Int → Prop) : Prop :=
 (small2 r) ∧
 (((isRk r) = false →
  Q ([]) 1) ∧
 ((isRk r) = true →
  (isTab r = true) ∧
  (small (diag r) ∧ isPerm (diag r) = true) ∧
  ∃ (H1 : Int → List (List Int) → Prop) (m1 : Int → List (List Int) → Nat),
  H1 0 ([] : List (List Int)) ∧
  ∀ (v6_1 : Int) (o765_1 : List (List Int)), H1 v6_1 o765_1 →
  ( ((v6_1 < (r.length : Int) →
    (0 ≤ v6_1 ∧ v6_1 < (r.length : Int)) ∧
    (small (el r v6_1) ∧ ∀ x_ ∈ (el r v6_1), 0 ≤ x_ ∧ x_ < ((backI (diag r)).length : Int)) ∧
    ((o765_1.length : Int) + (([(el r v6_1).map (el (backI (diag r)))]).length : Int) ≤ 1000000000) ∧
    (InI (v6_1 + 1)) ∧
    (H1 (v6_1 + 1) (o765_1 ++ ([(el r v6_1).map (el (backI (diag r)))])) ∧ m1 (v6_1 + 1) (o765_1 ++ ([(el r v6_1).map (el (backI (diag r)))])) < m1 v6_1 o765_1)) ∧
   (¬ (v6_1 < (r.length : Int)) →
    Q o765_1 0)))))

def wp_impl_QuandleOf (r : List (List Int)) (Q : List (List Int) → Int → Prop) : Prop :=
 (small2 r) ∧
 (((isRk r) = false →
  Q ([]) 1) ∧
 ((isRk r) = true →
  (isTab r = true) ∧
  (small (diag r) ∧ isPerm (diag r) = true) ∧
  (0 ≤ (r.length : Int) ∧ (r.length : Int) ≤ 1000000 ∧ ∀ x_ y_, 0 ≤ x_ → x_ < (r.length : Int) → 0 ≤ y_ → y_ < (r.length : Int) → (fun z0 z1 => isTab r = true ∧ ((backI (diag r)).length : Int) = (r.length : Int) ∧ 0 ≤ z0 ∧ z0 < (r.length : Int) ∧ 0 ≤ z1 ∧ z1 < (r.length : Int)) x_ y_) ∧
  Q (tab (r.length : Int) (fun z0 z1 => el (backI (diag r)) (el (el r z0) z1))) 0))


theorem maxI_step (l : List Int) (a : Int) : ∀ (i : Nat), i < l.length → (l.take (i + 1)).foldl (fun a b => if a < b then b else a) a = (if (l.take i).foldl (fun a b => if a < b then b else a) a < el l i then el l i else (l.take i).foldl (fun a b => if a < b then b else a) a) := fun i hi => by
  rw [List.take_succ_eq_append_getElem hi, List.foldl_append]
  have : el l i = l[i] := by simp [el, List.getD_eq_getElem?_getD, List.getElem?_eq_getElem hi]
  rw [this]; rfl
theorem p_spec_l01Then (p q : List Int) (hp : small p ∧ ∀ x_ ∈ p, 0 ≤ x_ ∧ x_ < (q.length : Int)) : wp_spec_l01Then p q (fun y0 => y0 = p.map (el q)) := by
  unfold wp_spec_l01Then
  obtain ⟨h1, h2⟩ := hp
  refine ⟨fun i o => 0 ≤ i ∧ i ≤ (p.length : Int) ∧ o.length = i.toNat ∧ Upto i fun x => el o x = el q (el p x), fun i _ => ((p.length : Int) - i).toNat, ⟨by omega, by omega, by simp, upto0⟩, ?_⟩
  rintro i o ⟨i0, i1, il, iI⟩
  dsimp only
  refine ⟨fun ilt => ⟨⟨i0, ilt⟩, h2 _ (el_mem ⟨i0, ilt⟩), by simp; omega, ⟨by omega, by omega⟩, ⟨by omega, by omega, by simp; omega, app1 (f := fun x => el q (el p x)) (by omega) iI rfl⟩, by omega⟩, fun ige => ext_el (by simp; omega) fun j a b => ?_⟩
  rw [el_map ⟨a, by omega⟩]; exact iI j a (by omega)
theorem p_spec_l01Back (p : List Int) (hp : small p ∧ isPerm p = true) : wp_spec_l01Back p (fun y0 => y0 = backI p) := by
  unfold wp_spec_l01Back
  obtain ⟨h1, h2⟩ := hp
  refine ⟨⟨by omega, h1⟩, fun i o => 0 ≤ i ∧ i ≤ (p.length : Int) ∧ o.length = p.length ∧ Upto i fun j => el o (el p j) = j, fun i _ => ((p.length : Int) - i).toNat, ⟨by omega, by omega, by simp, upto0⟩, ?_⟩
  rintro i o ⟨h0, h3, hl, hI⟩
  dsimp only
  refine ⟨fun hlt => ?_, fun hge => backI_uniq h2 hl fun j a b => hI j a (by omega)⟩
  have hb := isPerm_el h2 ⟨h0, hlt⟩
  refine ⟨⟨h0, hlt⟩, ⟨hb.1, by omega⟩, ⟨by omega, by omega⟩, ⟨by omega, by omega, by simp [hl], upto1 (fun j a b => ?_) (by rw [el_se_same ⟨hb.1, by omega⟩])⟩, by omega⟩
  have hj := isPerm_el h2 (i := j) ⟨a, by omega⟩
  rw [el_se_ne hb.1 hj.1 fun e => by have := isPerm_inj h2 ⟨h0, hlt⟩ ⟨a, by omega⟩ e; omega]
  exact hI j a b
theorem p_impl_inverse (p : List Int) (hp : small p ∧ isPerm p = true) : wp_impl_inverse p (fun y0 => y0 = backI p) := p_spec_l01Back p hp
theorem p_impl_permutationRows_1 (row : List Int) (hp : small row) : wp_impl_permutationRows_1 row (fun y0 => y0 = !isPerm row) := ⟨hp, rfl⟩
theorem p_impl_permutationRows (t : List (List Int)) (hp : small2 t) : wp_impl_permutationRows t (fun y0 => y0 = t.all isPerm) := by
  refine ⟨⟨hp.1, hp.2⟩, ?_⟩
  rw [List.not_any_eq_all_not]; simp
theorem p_spec_l03Fault (t : List (List Int)) (hp : isTab t = true) : wp_spec_l03Fault t (fun y0 => y0 = rackF t) := by
  unfold wp_spec_l03Fault rackF
  have hn := isTab_len hp
  have tr := fun (i : Int) (hi : 0 ≤ i ∧ i < (t.length : Int)) => isTab_row hp hi
  refine ⟨fun x => 0 ≤ x ∧ x ≤ (t.length : Int) ∧ Upto x fun a => ∀ b, 0 ≤ b → b < (t.length : Int) → ∀ c, 0 ≤ c → c < (t.length : Int) → rackB t a b c = false, fun x => ((t.length : Int) - x).toNat, ⟨by omega, by omega, upto0⟩, ?_⟩
  rintro x ⟨x0, x1, xI⟩
  dsimp only
  refine ⟨fun xlt => ?_, fun xge => (first3_none fun a h1 h2 => xI a h1 (by omega)).symm⟩
  refine ⟨fun y => 0 ≤ y ∧ y ≤ (t.length : Int) ∧ Upto y fun b => ∀ c, 0 ≤ c → c < (t.length : Int) → rackB t x b c = false, fun y => ((t.length : Int) - y).toNat, ⟨by omega, by omega, upto0⟩, ?_⟩
  rintro y ⟨y0, y1, yI⟩
  dsimp only
  refine ⟨fun ylt => ?_, fun yge => ⟨⟨by omega, by omega⟩, ⟨by omega, by omega, upto1 xI fun b h1 h2 => yI b h1 (by omega)⟩, by omega⟩⟩
  refine ⟨fun z => 0 ≤ z ∧ z ≤ (t.length : Int) ∧ Upto z fun c => rackB t x y c = false, fun z => ((t.length : Int) - z).toNat, ⟨by omega, by omega, upto0⟩, ?_⟩
  rintro z ⟨z0, z1, zI⟩
  dsimp only
  refine ⟨fun zlt => ?_, fun zge => ⟨⟨by omega, by omega⟩, ⟨by omega, by omega, upto1 yI fun c h1 h2 => zI c h1 (by omega)⟩, by omega⟩⟩
  have hx := tr x ⟨x0, xlt⟩
  have hy := tr y ⟨y0, ylt⟩
  have xy := hx.2 y y0 ylt
  have xz := hx.2 z z0 zlt
  have yz := hy.2 z z0 zlt
  have r1 := tr _ xy
  refine ⟨⟨x0, xlt⟩, ⟨y0, ylt⟩, ⟨x0, xlt⟩, ⟨x0, xlt⟩, ⟨z0, by omega⟩, ⟨yz.1, by omega⟩, ⟨y0, by omega⟩, xy, ⟨z0, by omega⟩, ⟨xz.1, by omega⟩, fun h => ?_, fun h => ⟨⟨by omega, by omega⟩, ⟨by omega, by omega, upto1 zI (by simp [rackB, h])⟩, by omega⟩⟩
  exact (first3_found ⟨x0, xlt⟩ ⟨y0, ylt⟩ ⟨z0, zlt⟩ (by simp [rackB, h]) xI yI zI).symm
theorem p_impl_rackFault (t : List (List Int)) (hp : isTab t = true) : wp_impl_rackFault t (fun y0 => y0 = rackF t) := p_spec_l03Fault t hp
theorem isEmpty_iff_nil {l : List Int} : l.isEmpty = decide ((l.length : Int) = 0) := by cases l <;> simp; omega
theorem p_impl_IsRack (r : List (List Int)) (hp : small2 r) : wp_impl_IsRack r (fun y0 => y0 = isRk r) := by
  unfold wp_impl_IsRack isRk
  refine ⟨hp, fun h => ⟨hp, fun h2 => ⟨fun h3 => ⟨h, ?_⟩, fun h3 => ⟨h, ?_⟩⟩, fun h2 => ?_⟩, fun h => ?_⟩
  · rw [h, h2, h3]; rfl
  · rw [h, h2]; cases e : rackF r with
    | nil => exact absurd e h3
    | cons x l => rfl
  · rw [h, h2]; rfl
  · rw [h]; rfl
theorem p_spec_l03Is (r : List (List Int)) (hp : small2 r) : wp_spec_l03Is r (fun y0 => y0 = isRk r) := by
  unfold wp_spec_l03Is isRk
  refine ⟨hp, fun h => by rw [h]; rfl, fun h => ?_⟩
  rw [h, ← isTab_perm h, isEmpty_iff_nil]
  refine ⟨fun i => 0 ≤ i ∧ i ≤ (r.length : Int) ∧ Upto i fun j => permB (el r j) = true, fun i => ((r.length : Int) - i).toNat, ⟨by omega, by omega, upto0⟩, ?_⟩
  rintro i ⟨h0, h3, hI⟩
  dsimp only
  refine ⟨fun hlt => ⟨⟨h0, hlt⟩, hp.2 _ (el_mem ⟨h0, hlt⟩), fun hf => by rw [all_f ⟨h0, hlt⟩ hf]; rfl, fun ht => ⟨⟨by have := isTab_len h; omega, by have := isTab_len h; omega⟩, ⟨by omega, by omega, upto1 hI ht⟩, by omega⟩⟩, fun hge => ⟨rfl, ?_⟩⟩
  rw [all_t (by rwa [show i = (r.length : Int) by omega] at hI)]; rfl
theorem small_diag {c : List (List Int)} (h : isTab c = true) : small (diag c) := by have := isTab_len h; show ((diag c).length : Int) ≤ 1000000000; simp; omega
theorem permB_diag {c : List (List Int)} (h : isTab c = true) : permB (diag c) = isPerm (diag c) := by
  have := isTab_len h
  unfold permB
  have e1 : decide (1 ≤ ((diag c).length : Int)) = true := decide_eq_true (by simp; omega)
  have e2 : decide (((diag c).length : Int) ≤ 12) = true := decide_eq_true (by simp; omega)
  rw [e1, e2]; rfl
theorem p_impl_kinkOf (r : List (List Int)) (hp : isTab r = true) : wp_impl_kinkOf r (fun y0 => y0 = diag r) := by
  unfold wp_impl_kinkOf
  have hn := isTab_len hp
  simp only [List.length_replicate]
  refine ⟨⟨by omega, by omega⟩, fun i o => 0 ≤ i ∧ i ≤ (r.length : Int) ∧ o.length = r.length ∧ Upto i fun j => el o j = el (el r j) j, fun i _ => ((r.length : Int) - i).toNat, ⟨by omega, by omega, by simp, upto0⟩, ?_⟩
  rintro i o ⟨h0, h1, hl, hI⟩
  dsimp only
  refine ⟨fun hlt => ?_, fun hge => eq_ran (by omega) fun j h2 h3 => hI j h2 (by omega)⟩
  have hr := isTab_row hp (i := i) ⟨h0, by omega⟩
  exact ⟨⟨h0, by omega⟩, ⟨h0, by omega⟩, ⟨h0, by omega⟩, ⟨by omega, by omega⟩, ⟨by omega, by omega, by simp [hl], fill1 (f := fun j => el (el r j) j) ⟨h0, by omega⟩ hI rfl⟩, by omega⟩
theorem p_spec_l03Kink (r : List (List Int)) (hp : isTab r = true) : wp_spec_l03Kink r (fun y0 => y0 = diag r) := by
  unfold wp_spec_l03Kink
  have hn := isTab_len hp
  refine ⟨fun i o => 0 ≤ i ∧ i ≤ (r.length : Int) ∧ o.length = i.toNat ∧ Upto i fun x => el o x = el (el r x) x, fun i _ => ((r.length : Int) - i).toNat, ⟨by omega, by omega, by simp, upto0⟩, ?_⟩
  rintro i o ⟨i0, i1, il, iI⟩
  dsimp only
  refine ⟨fun ilt => ?_, fun ige => eq_ran (by omega) fun j a b => iI j a (by omega)⟩
  have hr := isTab_row hp ⟨i0, ilt⟩
  exact ⟨⟨i0, ilt⟩, ⟨i0, by omega⟩, by simp; omega, ⟨by omega, by omega⟩, ⟨by omega, by omega, by simp; omega, app1 (f := fun x => el (el r x) x) (by omega) iI rfl⟩, by omega⟩
theorem tab_rows {r : List (List Int)} (h : isTab r = true) : ∀ q ∈ r, small q := (isTab_small h).2
theorem dual_loop {r : List (List Int)} (ht : isTab r = true) (hr : r.all isPerm = true) {o : List (List Int)} {i : Int} (il : o.length = i.toNat) (hi : (r.length : Int) ≤ i ∧ i ≤ (r.length : Int)) (hI : Upto i fun x => el o x = backI (el r x)) : o = r.map backI :=
  ext_el (by simp; omega) fun j a b => by rw [el_map ⟨a, by omega⟩]; exact hI j a (by omega)
theorem inv_back {row : List Int} (h : isPerm row = true) : (row = backI row) ↔ invB row = true := by
  rw [invB_iff]
  constructor
  · intro e i a b
    have := el_backI h (i := i) ⟨a, b⟩
    rw [← e] at this; exact this
  · intro hI; exact backI_uniq h rfl hI
theorem small2_tab {n : Int} {f : Int → Int → Int} (h : n ≤ 1000) : small2 (tab n f) := ⟨by show ((tab n f).length : Int) ≤ 1000000000; simp [tab]; omega, fun r hr => by
  unfold tab at hr
  unfold ran at hr
  obtain ⟨k, hk, rfl⟩ := List.mem_map.1 hr
  simp; omega⟩
theorem inN_t {n x : Int} (h : (decide (0 ≤ x) && decide (x ≤ n - 1)) = true) : inN n x = true := h
theorem aff2 {n a b c : Int} (h : (inN 12 (n - 1) && inN n a && inN n b && inN n c) = false) : [] = AffT n a b c ∧ 2 = AffE n a b c := by
  have e : AffE n a b c = 2 := by unfold AffE; rw [h]; rfl
  exact ⟨by unfold AffT; rw [e]; rfl, e.symm⟩
theorem aff5 {n a b c : Int} (h : (inN 12 (n - 1) && inN n a && inN n b && inN n c) = true) (hc : isCyc (affT n a b c) = false) : [] = AffT n a b c ∧ 5 = AffE n a b c := by
  have e : AffE n a b c = 5 := by unfold AffE; rw [h, hc]; rfl
  exact ⟨by unfold AffT; rw [e]; rfl, e.symm⟩
theorem aff0 {n a b c : Int} (h : (inN 12 (n - 1) && inN n a && inN n b && inN n c) = true) (hc : isCyc (affT n a b c) = true) : affT n a b c = AffT n a b c ∧ 0 = AffE n a b c := by
  have e : AffE n a b c = 0 := by unfold AffE; rw [h, hc]; rfl
  exact ⟨by unfold AffT; rw [e]; rfl, e.symm⟩
theorem inN_12 {n : Int} : inN 12 (n - 1) = (decide (1 ≤ n) && decide (n ≤ 12)) := by
  unfold inN
  rw [Bool.eq_iff_iff]; simp; omega
theorem rkf1 {r : List (List Int)} (h : isTab r = false) : [] = RkfT r ∧ 1 = RkfE r := by
  have e : RkfE r = 1 := by unfold RkfE; rw [h]; rfl
  exact ⟨by unfold RkfT; rw [e]; rfl, e.symm⟩
theorem rkf5 {r : List (List Int)} (h : isTab r = true) (h2 : r.all isPerm = false) : [] = RkfT r ∧ 5 = RkfE r := by
  have e : RkfE r = 5 := by unfold RkfE; rw [h, h2]; rfl
  exact ⟨by unfold RkfT; rw [e]; rfl, e.symm⟩
theorem rkf4 {r : List (List Int)} (h : isTab r = true) (h2 : r.all isPerm = true) (h3 : rackF r = []) : [] = RkfT r ∧ 4 = RkfE r := by
  have e : RkfE r = 4 := by unfold RkfE; rw [h, h2, if_pos h3]; rfl
  exact ⟨by unfold RkfT; rw [e]; rfl, e.symm⟩
theorem rkf0 {r : List (List Int)} (h : isTab r = true) (h2 : r.all isPerm = true) (h3 : ¬ rackF r = []) : rackF r = RkfT r ∧ 0 = RkfE r := by
  have e : RkfE r = 0 := by unfold RkfE; rw [h, h2, if_neg h3]; rfl
  exact ⟨by unfold RkfT; rw [e]; rfl, e.symm⟩
theorem dpw1 {c : List (List Int)} {x k : Int} (h : isCyc c = false) : 0 = DpwV c x k ∧ 1 = DpwE c x k := by
  have e : DpwE c x k = 1 := by unfold DpwE; rw [h]; rfl
  exact ⟨by unfold DpwV; rw [e]; rfl, e.symm⟩
theorem dpw2 {c : List (List Int)} {x k : Int} (h : isCyc c = true) (h2 : (inN (c.length : Int) x && inN 1001 k) = false) : 0 = DpwV c x k ∧ 2 = DpwE c x k := by
  have e : DpwE c x k = 2 := by unfold DpwE; rw [h, h2]; rfl
  exact ⟨by unfold DpwV; rw [e]; rfl, e.symm⟩
theorem dpw0 {c : List (List Int)} {x k : Int} (h : isCyc c = true) (h2 : (inN (c.length : Int) x && inN 1001 k) = true) : iterN (fun x => el (el c x) x) k.toNat x = DpwV c x k ∧ 0 = DpwE c x k := by
  have e : DpwE c x k = 0 := by unfold DpwE; rw [h, h2]; rfl
  exact ⟨by unfold DpwV; rw [e]; rfl, e.symm⟩
theorem inN_1001 {k : Int} : inN 1001 k = (decide (0 ≤ k) && decide (k ≤ 1000)) := by unfold inN; rfl
theorem dso1 {c : List (List Int)} {x z : Int} (h : isCyc c = false) : 0 = DsoV c x z ∧ 1 = DsoE c x z := by
  have e : DsoE c x z = 1 := by unfold DsoE; rw [h]; rfl
  exact ⟨by unfold DsoV; rw [e]; rfl, e.symm⟩
theorem dso2 {c : List (List Int)} {x z : Int} (h : isCyc c = true) (h2 : (inN (c.length : Int) x && inN (c.length : Int) z) = false) : 0 = DsoV c x z ∧ 2 = DsoE c x z := by
  have e : DsoE c x z = 2 := by unfold DsoE; rw [h, h2]; rfl
  exact ⟨by unfold DsoV; rw [e]; rfl, e.symm⟩
theorem dso0 {c : List (List Int)} {x z : Int} (h : isCyc c = true) (h2 : (inN (c.length : Int) x && inN (c.length : Int) z) = true) : idxI (el c x) z = DsoV c x z ∧ 0 = DsoE c x z := by
  have e : DsoE c x z = 0 := by unfold DsoE; rw [h, h2]; rfl
  exact ⟨by unfold DsoV; rw [e]; rfl, e.symm⟩
theorem p_impl_QuandleOf_1 (x y : Int) (back : List Int) (r : List (List Int)) (hp : isTab r = true ∧ (back.length : Int) = (r.length : Int) ∧ 0 ≤ x ∧ x < (r.length : Int) ∧ 0 ≤ y ∧ y < (r.length : Int)) : wp_impl_QuandleOf_1 x y back r (fun y0 => y0 = el back (el (el r x) y)) := by
  obtain ⟨h1, h2, h3, h4, h5, h6⟩ := hp
  have a := rk_len h1 ⟨h3, h4⟩
  have b := rk_el h1 ⟨h3, h4⟩ ⟨h5, h6⟩
  exact ⟨⟨h3, h4⟩, ⟨h5, by omega⟩, ⟨b.1, by omega⟩, rfl⟩
theorem p_impl_QuandleOf (r : List (List Int)) (hp : small2 r) : wp_impl_QuandleOf r (fun y0 y1 => y0 = QuaR r ∧ y1 = rkE r) := by
  unfold wp_impl_QuandleOf rkE QuaR
  refine ⟨hp, fun h => by rw [h]; exact ⟨rfl, rfl⟩, fun h => ?_⟩
  have ht := isRk_tab h
  have hn := isTab_len ht
  exact ⟨ht, ⟨small_diag ht, isPerm_kink h⟩, ⟨by omega, by omega, fun x y a b c d => ⟨ht, by simp, a, b, c, d⟩⟩, by rw [h]; exact ⟨rfl, rfl⟩⟩
theorem p_spec_QuandleOf (r : List (List Int)) (hp : small2 r) : wp_spec_QuandleOf r (fun y0 y1 => y0 = QuaR r ∧ y1 = rkE r) := by
  unfold wp_spec_QuandleOf rkE QuaR
  refine ⟨hp, fun h => by rw [h]; exact ⟨rfl, rfl⟩, fun h => ?_⟩
  have ht := isRk_tab h
  have hn := isTab_len ht
  rw [h]
  refine ⟨ht, ⟨small_diag ht, isPerm_kink h⟩, fun i o => 0 ≤ i ∧ i ≤ (r.length : Int) ∧ o.length = i.toNat ∧ Upto i fun x => el o x = ran (r.length : Int) fun y => el (backI (diag r)) (el (el r x) y), fun i _ => ((r.length : Int) - i).toNat, ⟨by omega, by omega, by simp, upto0⟩, ?_⟩
  rintro i o ⟨i0, i1, il, iI⟩
  dsimp only
  refine ⟨fun ilt => ?_, fun ige => ⟨eq_ran (by omega) fun j a b => iI j a (by omega), rfl⟩⟩
  have hl := rk_len ht ⟨i0, ilt⟩
  have he : (el r i).map (el (backI (diag r))) = ran (r.length : Int) fun y => el (backI (diag r)) (el (el r i) y) := eq_ran (by simp; omega) fun j a b => el_map ⟨a, by omega⟩
  exact ⟨⟨i0, ilt⟩, ⟨tab_rows ht _ (el_mem ⟨i0, ilt⟩), fun x hx => by
    obtain ⟨j, hj, rfl⟩ := mem_el hx
    have := rk_el ht ⟨i0, ilt⟩ (y := j) ⟨hj.1, by omega⟩
    simp; omega⟩, by simp; omega, ⟨by omega, by omega⟩, ⟨by omega, by omega, by simp; omega, app1 (f := fun x => ran (r.length : Int) fun y => el (backI (diag r)) (el (el r x) y)) (by omega) iI he⟩, by omega⟩

set_option maxRecDepth 100000 in
set_option maxHeartbeats 1000000 in
theorem w_spec_l01Then (p : List Int) (q : List Int) (Q : List Int → Prop) (h : wp_spec_l01Then p q Q) : AF Try.prog 75 [.lst (ints p), .lst (ints q)] (fun R_ => ∃ y0, Q y0 ∧ R_ = .own (ints y0)) := by
  refine AF.ofWQ (af_enter (n := 25) Try.func75 rfl (by rfl) rfl (Nat.le_of_ble_eq_true rfl) ?_)
  unfold wp_spec_l01Then at h
  refine aw_seq ?_
  refine aw_gh (gh_to (n := 25) (σ' := []) (env' := [(0, .c (.lst (ints p))), (1, .c (.lst (ints q)))]) rfl rfl ⟨rfl, rfl, trivial⟩) ?_
  refine aw_region ?_
  refine run_s (ss_assign rfl) rfl ?_
  refine run_nil ?_
  refine aw_seq ?_
  refine aw_region ?_
  refine run_w (ws_buildSlice (id := 7) (ps := []) rfl rfl (Nat.le_of_ble_eq_true rfl) rfl ⟨rfl, ?_⟩)
  refine run_s (ss_assign rfl) rfl ?_
  refine run_nil ?_
  refine aw_seq ?_
  refine aw_seq ?_
  refine aw_region ?_
  refine run_s (ss_assign rfl) rfl ?_
  refine run_nil ?_
  refine aw_block ?_
  obtain ⟨H1, m1, q1, h⟩ := h
  refine aw_loop2 (fun (v6_1 : Int) (o7_1 : List Int) => ⟨[(7, ⟨ints o7_1, []⟩)], [(0, .c (.lst (ints p))), (1, .c (.lst (ints q))), (5, .ref 7), (6, .c (ci v6_1))], 25⟩) H1 m1 ⟨0, ([] : List Int), ghe_to (n := 25) rfl rfl ⟨rfl, rfl, rfl, rfl, trivial⟩, q1⟩ ?_
  rintro v6_1 o7_1 q1
  replace h := h v6_1 o7_1 q1
  refine aw_seq ?_
  refine aw_seq ?_
  refine aw_region ?_
  refine run_s (ss_move rfl) rfl ?_
  refine run_s (ss_move rfl) rfl ?_
  refine run_s (ss_lenL (f := ci) rfl) rfl ?_
  refine run_s (ss_lss rfl rfl) rfl ?_
  refine run_nil ?_
  refine aw_cond rfl (fun q2 => ?_) (fun q2 => ?_)
  · replace h := h.1 (of_decide_eq_true q2)
    refine aw_skip ?_
    refine aw_seq ?_
    refine aw_block ?_
    refine aw_region ?_
    refine run_s (ss_move rfl) rfl ?_
    refine run_s (ss_move rfl) rfl ?_
    refine run_s (ss_move rfl) rfl ?_
    refine run_s (ss_move rfl) rfl ?_
    obtain ⟨q3, h⟩ := h
    refine run_s (ss_idxL rfl rfl q3) rfl ?_
    refine run_s (ss_loadL (f := ci) rfl q3) rfl ?_
    obtain ⟨q4, h⟩ := h
    refine run_s (ss_idxL rfl rfl q4) rfl ?_
    refine run_s (ss_loadL (f := ci) rfl q4) rfl ?_
    refine run_w (ws_buildSlice (id := 22) (ps := [(0, .tmp 21)]) rfl rfl (Nat.le_of_ble_eq_true rfl) rfl ⟨rfl, ?_⟩)
    obtain ⟨q5, h⟩ := h
    refine run_w (ws_app1 ci (l := o7_1) (m := [el q (el p v6_1)]) rfl rfl rfl rfl rfl (Nat.le_of_ble_eq_true rfl) q5 ⟨rfl, ?_⟩)
    refine run_s (ss_assign rfl) rfl ?_
    refine run_nil ?_
    refine aw_gh (gh_to (n := 25) (σ' := [(7, ⟨ints (o7_1 ++ ([el q (el p v6_1)])), []⟩)]) (env' := [(0, .c (.lst (ints p))), (1, .c (.lst (ints q))), (5, .ref 7), (6, .c (ci v6_1))]) rfl rfl ⟨rfl, rfl, rfl, rfl, trivial⟩) ?_
    refine aw_region ?_
    refine run_s (ss_move rfl) rfl ?_
    obtain ⟨q6, h⟩ := h
    refine run_s (ss_add rfl rfl q6) rfl ?_
    refine run_s (ss_assign rfl) rfl ?_
    refine run_nil ?_
    exact ⟨v6_1 + 1, o7_1 ++ ([el q (el p v6_1)]), ghe_to (n := 25) rfl rfl ⟨rfl, rfl, rfl, rfl, trivial⟩, h.1, h.2⟩
  · replace h := h.2 (of_decide_eq_false q2)
    refine aw_exit ?_
    refine aw_seq ?_
    refine aw_gh (gh_to (n := 25) (σ' := [(7, ⟨ints o7_1, []⟩)]) (env' := [(5, .ref 7)]) rfl rfl ⟨rfl, trivial⟩) ?_
    refine aw_region ?_
    refine run_s (ss_move rfl) rfl ?_
    refine run_s (ss_assign rfl) rfl ?_
    refine run_nil ?_
    refine aw_ret ?_
    exact retAF_mk (retv1 rfl (rv_tmp rfl)) rfl rfl ⟨_, (cle_refl _), _, h, rfl⟩

theorem c_spec_l01Then (p : List Int) (q : List Int) (hp : small p ∧ ∀ x_ ∈ p, 0 ≤ x_ ∧ x_ < (q.length : Int)) : AF Try.prog 75 [.lst (ints p), .lst (ints q)] (fun R_ => R_ = .own (ints (p.map (el q)))) :=
  (w_spec_l01Then p q (fun y0 => y0 = p.map (el q)) (p_spec_l01Then p q hp)).mono (by rintro r ⟨_, rfl, rfl⟩; rfl)

set_option maxRecDepth 100000 in
set_option maxHeartbeats 1000000 in
theorem w_spec_l01Back (p : List Int) (Q : List Int → Prop) (h : wp_spec_l01Back p Q) : AF Try.prog 70 [.lst (ints p)] (fun R_ => ∃ y0, Q y0 ∧ R_ = .own (ints y0)) := by
  refine AF.ofWQ (af_enter (n := 22) Try.func70 rfl (by rfl) rfl (Nat.le_of_ble_eq_true rfl) ?_)
  unfold wp_spec_l01Back at h
  refine aw_seq ?_
  refine aw_gh (gh_to (n := 22) (σ' := []) (env' := [(0, .c (.lst (ints p)))]) rfl rfl ⟨rfl, trivial⟩) ?_
  refine aw_region ?_
  refine run_s (ss_assign rfl) rfl ?_
  refine run_nil ?_
  refine aw_seq ?_
  refine aw_region ?_
  refine run_s (ss_move rfl) rfl ?_
  refine run_s (ss_lenL (f := ci) rfl) rfl ?_
  obtain ⟨q1, h⟩ := h
  refine run_w (ws_mk (id := 7) ci (0 : Int) rfl rfl rfl q1 (Nat.le_of_ble_eq_true rfl) rfl ⟨rfl, ?_⟩)
  refine run_s (ss_assign rfl) rfl ?_
  refine run_nil ?_
  refine aw_seq ?_
  refine aw_seq ?_
  refine aw_gh (gh_to (n := 22) (σ' := [(7, ⟨ints (List.replicate (p.length : Int).toNat (0 : Int)), []⟩)]) (env' := [(0, .c (.lst (ints p))), (3, .ref 7)]) rfl rfl ⟨rfl, rfl, trivial⟩) ?_
  refine aw_region ?_
  refine run_s (ss_assign rfl) rfl ?_
  refine run_nil ?_
  refine aw_block ?_
  obtain ⟨H1, m1, q2, h⟩ := h
  refine aw_loop2 (fun (v4_1 : Int) (o7_1 : List Int) => ⟨[(7, ⟨ints o7_1, []⟩)], [(0, .c (.lst (ints p))), (3, .ref 7), (4, .c (ci v4_1))], 22⟩) H1 m1 ⟨0, List.replicate (p.length : Int).toNat (0 : Int), ghe_to (n := 22) rfl rfl ⟨rfl, rfl, rfl, trivial⟩, q2⟩ ?_
  rintro v4_1 o7_1 q2
  replace h := h v4_1 o7_1 q2
  refine aw_seq ?_
  refine aw_seq ?_
  refine aw_region ?_
  refine run_s (ss_move rfl) rfl ?_
  refine run_s (ss_move rfl) rfl ?_
  refine run_s (ss_lenL (f := ci) rfl) rfl ?_
  refine run_s (ss_lss rfl rfl) rfl ?_
  refine run_nil ?_
  refine aw_cond rfl (fun q3 => ?_) (fun q3 => ?_)
  · replace h := h.1 (of_decide_eq_true q3)
    refine aw_skip ?_
    refine aw_seq ?_
    refine aw_block ?_
    refine aw_region ?_
    refine run_s (ss_move rfl) rfl ?_
    refine run_s (ss_move rfl) rfl ?_
    refine run_s (ss_move rfl) rfl ?_
    obtain ⟨q4, h⟩ := h
    refine run_s (ss_idxL rfl rfl q4) rfl ?_
    refine run_s (ss_loadL (f := ci) rfl q4) rfl ?_
    refine run_s (ss_move rfl) rfl ?_
    obtain ⟨q5, h⟩ := h
    refine run_s (ss_idxR (f := ci) rfl rfl rfl q5) rfl ?_
    refine run_w (ws_storeE rfl rfl (map_lt q5) rfl rfl (map_se (f := ci)) rfl ⟨rfl, ?_⟩)
    refine run_nil ?_
    refine aw_gh (gh_to (n := 22) (σ' := [(7, ⟨ints (se o7_1 (el p v4_1) v4_1), []⟩)]) (env' := [(0, .c (.lst (ints p))), (3, .ref 7), (4, .c (ci v4_1))]) rfl rfl ⟨rfl, rfl, rfl, trivial⟩) ?_
    refine aw_region ?_
    refine run_s (ss_move rfl) rfl ?_
    obtain ⟨q6, h⟩ := h
    refine run_s (ss_add rfl rfl q6) rfl ?_
    refine run_s (ss_assign rfl) rfl ?_
    refine run_nil ?_
    exact ⟨v4_1 + 1, se o7_1 (el p v4_1) v4_1, ghe_to (n := 22) rfl rfl ⟨rfl, rfl, rfl, trivial⟩, h.1, h.2⟩
  · replace h := h.2 (of_decide_eq_false q3)
    refine aw_exit ?_
    refine aw_seq ?_
    refine aw_gh (gh_to (n := 22) (σ' := [(7, ⟨ints o7_1, []⟩)]) (env' := [(3, .ref 7)]) rfl rfl ⟨rfl, trivial⟩) ?_
    refine aw_region ?_
    refine run_s (ss_move rfl) rfl ?_
    refine run_s (ss_assign rfl) rfl ?_
    refine run_nil ?_
    refine aw_ret ?_
    exact retAF_mk (retv1 rfl (rv_tmp rfl)) rfl rfl ⟨_, (cle_refl _), _, h, rfl⟩

theorem c_spec_l01Back (p : List Int) (hp : small p ∧ isPerm p = true) : AF Try.prog 70 [.lst (ints p)] (fun R_ => R_ = .own (ints (backI p))) :=
  (w_spec_l01Back p (fun y0 => y0 = backI p) (p_spec_l01Back p hp)).mono (by rintro r ⟨_, rfl, rfl⟩; rfl)

set_option maxRecDepth 100000 in
set_option maxHeartbeats 1000000 in
theorem w_impl_inverse (p : List Int) (Q : List Int → Prop) (h : wp_impl_inverse p Q) : AF Try.prog 76 [.lst (ints p)] (fun R_ => ∃ y0, Q y0 ∧ R_ = .own (ints y0)) := by
  refine AF.ofWQ (af_enter (n := 22) Try.func76 rfl (by rfl) rfl (Nat.le_of_ble_eq_true rfl) ?_)
  unfold wp_impl_inverse at h
  refine aw_seq ?_
  refine aw_gh (gh_to (n := 22) (σ' := []) (env' := [(0, .c (.lst (ints p)))]) rfl rfl ⟨rfl, trivial⟩) ?_
  refine aw_region ?_
  refine run_s (ss_assign rfl) rfl ?_
  refine run_nil ?_
  refine aw_seq ?_
  refine aw_region ?_
  refine run_s (ss_move rfl) rfl ?_
  refine run_s (ss_lenL (f := ci) rfl) rfl ?_
  obtain ⟨q1, h⟩ := h
  refine run_w (ws_mk (id := 8) ci (0 : Int) rfl rfl rfl q1 (Nat.le_of_ble_eq_true rfl) rfl ⟨rfl, ?_⟩)
  refine run_s (ss_assign rfl) rfl ?_
  refine run_nil ?_
  refine aw_seq ?_
  refine aw_seq ?_
  refine aw_region ?_
  refine run_s (ss_move rfl) rfl ?_
  refine run_s (ss_lenL (f := ci) rfl) rfl ?_
  refine run_s (ss_move rfl) rfl ?_
  refine run_nil ?_
  refine aw_block ?_
  obtain ⟨H1, m1, q2, h⟩ := h
  refine aw_loop2 (fun (v11_1 : Int) (o8_1 : List Int) => ⟨[(8, ⟨ints o8_1, []⟩)], [(3, .ref 8), (9, .c (.lst (ints p))), (10, .c (ci (p.length : Int))), (11, .c (ci v11_1))], 22⟩) H1 m1 ⟨0, List.replicate (p.length : Int).toNat (0 : Int), ghe_to (n := 22) rfl rfl ⟨rfl, rfl, rfl, rfl, trivial⟩, q2⟩ ?_
  rintro v11_1 o8_1 q2
  replace h := h v11_1 o8_1 q2
  refine aw_seq ?_
  refine aw_region ?_
  refine run_s (ss_lss rfl rfl) rfl ?_
  refine run_nil ?_
  refine aw_seq ?_
  refine aw_cond rfl (fun q3 => ?_) (fun q3 => ?_)
  · replace h := h.1 (of_decide_eq_true q3)
    refine aw_skip ?_
    refine aw_seq ?_
    refine aw_block ?_
    refine aw_seq ?_
    refine aw_region ?_
    refine run_s (ss_move rfl) rfl ?_
    obtain ⟨q4, h⟩ := h
    refine run_s (ss_idxL rfl rfl q4) rfl ?_
    refine run_s (ss_loadL (f := ci) rfl q4) rfl ?_
    refine run_s (ss_assign rfl) rfl ?_
    refine run_s (ss_assign rfl) rfl ?_
    refine run_nil ?_
    refine aw_region ?_
    refine run_s (ss_move rfl) rfl ?_
    refine run_s (ss_move rfl) rfl ?_
    refine run_s (ss_move rfl) rfl ?_
    obtain ⟨q5, h⟩ := h
    refine run_s (ss_idxR (f := ci) rfl rfl rfl q5) rfl ?_
    refine run_w (ws_storeE rfl rfl (map_lt q5) rfl rfl (map_se (f := ci)) rfl ⟨rfl, ?_⟩)
    refine run_nil ?_
    refine aw_gh (gh_to (n := 22) (σ' := [(8, ⟨ints (se o8_1 (el p v11_1) v11_1), []⟩)]) (env' := [(3, .ref 8), (9, .c (.lst (ints p))), (10, .c (ci (p.length : Int))), (11, .c (ci v11_1))]) rfl rfl ⟨rfl, rfl, rfl, rfl, trivial⟩) ?_
    refine aw_region ?_
    obtain ⟨q6, h⟩ := h
    refine run_s (ss_add rfl rfl q6) rfl ?_
    refine run_s (ss_move rfl) rfl ?_
    refine run_nil ?_
    exact ⟨v11_1 + 1, se o8_1 (el p v11_1) v11_1, ghe_to (n := 22) rfl rfl ⟨rfl, rfl, rfl, rfl, trivial⟩, h.1, h.2⟩
  · replace h := h.2 (of_decide_eq_false q3)
    refine aw_exit ?_
    refine aw_seq ?_
    refine aw_region ?_
    refine run_s (ss_move rfl) rfl ?_
    refine run_s (ss_assign rfl) rfl ?_
    refine run_nil ?_
    refine aw_ret ?_
    exact retAF_mk (retv1 rfl (rv_tmp rfl)) rfl rfl ⟨_, (cle_refl _), _, h, rfl⟩

theorem c_impl_inverse (p : List Int) (hp : small p ∧ isPerm p = true) : AF Try.prog 76 [.lst (ints p)] (fun R_ => R_ = .own (ints (backI p))) :=
  (w_impl_inverse p (fun y0 => y0 = backI p) (p_impl_inverse p hp)).mono (by rintro r ⟨_, rfl, rfl⟩; rfl)

set_option maxRecDepth 100000 in
set_option maxHeartbeats 1000000 in
theorem w_impl_permutationRows_1 (row : List Int) (Q : Bool → Prop) (h : wp_impl_permutationRows_1 row Q) : AF Try.prog 121 [.lst (ints row)] (fun R_ => ∃ y0, Q y0 ∧ R_ = cb y0) := by
  refine AF.ofWQ (af_enter (n := 6) Try.func121 rfl (by rfl) rfl (Nat.le_of_ble_eq_true rfl) ?_)
  unfold wp_impl_permutationRows_1 at h
  refine aw_seq ?_
  refine aw_gh (gh_to (n := 6) (σ' := []) (env' := [(0, .c (.lst (ints row)))]) rfl rfl ⟨rfl, trivial⟩) ?_
  refine aw_region ?_
  refine run_s (ss_assign rfl) rfl ?_
  refine run_nil ?_
  refine aw_seq ?_
  refine aw_region ?_
  refine run_s (ss_move rfl) rfl ?_
  obtain ⟨q1, h⟩ := h
  refine run_w (ws_call (xs := [.tmp 3]) (ids := []) rfl rfl rfl rfl (c_impl_isPermuted row q1) rfl ?_ )
  rintro _ rfl
  refine ⟨rfl, ?_⟩
  refine run_s (ss_not rfl) rfl ?_
  refine run_s (ss_assign rfl) rfl ?_
  refine run_nil ?_
  refine aw_ret ?_
  exact retAF_mk (retv1 rfl (rv_tmp rfl)) rfl rfl ⟨_, (cle_refl _), _, h, rfl⟩

theorem c_impl_permutationRows_1 (row : List Int) (hp : small row) : AF Try.prog 121 [.lst (ints row)] (fun R_ => R_ = cb (!isPerm row)) :=
  (w_impl_permutationRows_1 row (fun y0 => y0 = !isPerm row) (p_impl_permutationRows_1 row hp)).mono (by rintro r ⟨_, rfl, rfl⟩; rfl)

set_option maxRecDepth 100000 in
set_option maxHeartbeats 1000000 in
theorem w_impl_permutationRows (t : List (List Int)) (Q : Bool → Prop) (h : wp_impl_permutationRows t Q) : AF Try.prog 101 [.lst (rows t)] (fun R_ => ∃ y0, Q y0 ∧ R_ = cb y0) := by
  refine AF.ofWQ (af_enter (n := 6) Try.func101 rfl (by rfl) rfl (Nat.le_of_ble_eq_true rfl) ?_)
  unfold wp_impl_permutationRows at h
  refine aw_seq ?_
  refine aw_gh (gh_to (n := 6) (σ' := []) (env' := [(0, .c (.lst (rows t)))]) rfl rfl ⟨rfl, trivial⟩) ?_
  refine aw_region ?_
  refine run_s (ss_assign rfl) rfl ?_
  refine run_nil ?_
  refine aw_seq ?_
  refine aw_region ?_
  refine run_s (ss_move rfl) rfl ?_
  obtain ⟨q1, h⟩ := h
  refine run_w (ws_call (xs := [.tmp 3, .func 121]) (ids := []) rfl rfl rfl rfl (c_k_ContainsFunc_rows t 121 [] (fun z0 => !isPerm z0) (fun z0 => small z0) (fun z0 hD => c_impl_permutationRows_1 z0 hD) q1) rfl ?_ )
  rintro _ rfl
  refine ⟨rfl, ?_⟩
  refine run_s (ss_not rfl) rfl ?_
  refine run_s (ss_assign rfl) rfl ?_
  refine run_nil ?_
  refine aw_ret ?_
  exact retAF_mk (retv1 rfl (rv_tmp rfl)) rfl rfl ⟨_, (cle_refl _), _, h, rfl⟩

theorem c_impl_permutationRows (t : List (List Int)) (hp : small2 t) : AF Try.prog 101 [.lst (rows t)] (fun R_ => R_ = cb (t.all isPerm)) :=
  (w_impl_permutationRows t (fun y0 => y0 = t.all isPerm) (p_impl_permutationRows t hp)).mono (by rintro r ⟨_, rfl, rfl⟩; rfl)

set_option maxRecDepth 100000 in
set_option maxHeartbeats 1000000 in
theorem w_impl_rackFault (t : List (List Int)) (Q : List Int → Prop) (h : wp_impl_rackFault t Q) : AF Try.prog 108 [.lst (rows t)] (fun R_ => ∃ y0, Q y0 ∧ R_ = onil y0) := by
  refine AF.ofWQ (af_enter (n := 61) Try.func108 rfl (by rfl) rfl (Nat.le_of_ble_eq_true rfl) ?_)
  unfold wp_impl_rackFault at h
  refine aw_seq ?_
  refine aw_gh (gh_to (n := 61) (σ' := []) (env' := [(0, .c (.lst (rows t)))]) rfl rfl ⟨rfl, trivial⟩) ?_
  refine aw_region ?_
  refine run_s (ss_assign rfl) rfl ?_
  refine run_nil ?_
  refine aw_seq ?_
  refine aw_region ?_
  refine run_s (ss_move rfl) rfl ?_
  refine run_s (ss_lenL (f := (fun r => C.lst (ints r))) rfl) rfl ?_
  refine run_s (ss_assign rfl) rfl ?_
  refine run_nil ?_
  refine aw_seq ?_
  refine aw_seq ?_
  refine aw_region ?_
  refine run_s (ss_move rfl) rfl ?_
  refine run_s (ss_move rfl) rfl ?_
  refine run_nil ?_
  refine aw_block ?_
  obtain ⟨H1, m1, q1, h⟩ := h
  refine aw_loop1 (fun (v10_1 : Int) => ⟨[], [(0, .c (.lst (rows t))), (3, .c (ci (t.length : Int))), (9, .c (ci (t.length : Int))), (10, .c (ci v10_1))], 61⟩) H1 m1 ⟨0, ghe_to (n := 61) rfl rfl ⟨rfl, rfl, rfl, rfl, trivial⟩, q1⟩ ?_
  rintro v10_1 q1
  replace h := h v10_1 q1
  refine aw_seq ?_
  refine aw_region ?_
  refine run_s (ss_lss rfl rfl) rfl ?_
  refine run_nil ?_
  refine aw_seq ?_
  refine aw_cond rfl (fun q2 => ?_) (fun q2 => ?_)
  · replace h := h.1 (of_decide_eq_true q2)
    refine aw_skip ?_
    refine aw_seq ?_
    refine aw_block ?_
    refine aw_seq ?_
    refine aw_region ?_
    refine run_s (ss_move rfl) rfl ?_
    refine run_s (ss_assign rfl) rfl ?_
    refine run_nil ?_
    refine aw_seq ?_
    refine aw_region ?_
    refine run_s (ss_move rfl) rfl ?_
    refine run_s (ss_move rfl) rfl ?_
    refine run_nil ?_
    refine aw_block ?_
    obtain ⟨H2, m2, q3, h⟩ := h
    refine aw_loop1 (fun (v14_2 : Int) => ⟨[], [(0, .c (.lst (rows t))), (3, .c (ci (t.length : Int))), (4, .c (ci v10_1)), (9, .c (ci (t.length : Int))), (10, .c (ci v10_1)), (13, .c (ci (t.length : Int))), (14, .c (ci v14_2))], 61⟩) H2 m2 ⟨0, ghe_to (n := 61) rfl rfl ⟨rfl, rfl, rfl, rfl, rfl, rfl, rfl, trivial⟩, q3⟩ ?_
    rintro v14_2 q3
    replace h := h v14_2 q3
    refine aw_seq ?_
    refine aw_region ?_
    refine run_s (ss_lss rfl rfl) rfl ?_
    refine run_nil ?_
    refine aw_seq ?_
    refine aw_cond rfl (fun q4 => ?_) (fun q4 => ?_)
    · replace h := h.1 (of_decide_eq_true q4)
      refine aw_skip ?_
      refine aw_seq ?_
      refine aw_block ?_
      refine aw_seq ?_
      refine aw_region ?_
      refine run_s (ss_move rfl) rfl ?_
      refine run_s (ss_assign rfl) rfl ?_
      refine run_nil ?_
      refine aw_seq ?_
      refine aw_region ?_
      refine run_s (ss_move rfl) rfl ?_
      refine run_s (ss_move rfl) rfl ?_
      refine run_nil ?_
      refine aw_block ?_
      obtain ⟨H3, m3, q5, h⟩ := h
      refine aw_loop1 (fun (v18_3 : Int) => ⟨[], [(0, .c (.lst (rows t))), (3, .c (ci (t.length : Int))), (4, .c (ci v10_1)), (5, .c (ci v14_2)), (9, .c (ci (t.length : Int))), (10, .c (ci v10_1)), (13, .c (ci (t.length : Int))), (14, .c (ci v14_2)), (17, .c (ci (t.length : Int))), (18, .c (ci v18_3))], 61⟩) H3 m3 ⟨0, ghe_to (n := 61) rfl rfl ⟨rfl, rfl, rfl, rfl, rfl, rfl, rfl, rfl, rfl, rfl, trivial⟩, q5⟩ ?_
      rintro v18_3 q5
      replace h := h v18_3 q5
      refine aw_seq ?_
      refine aw_region ?_
      refine run_s (ss_lss rfl rfl) rfl ?_
      refine run_nil ?_
      refine aw_seq ?_
      refine aw_cond rfl (fun q6 => ?_) (fun q6 => ?_)
      · replace h := h.1 (of_decide_eq_true q6)
        refine aw_skip ?_
        refine aw_seq ?_
        refine aw_block ?_
        refine aw_seq ?_
        refine aw_region ?_
        refine run_s (ss_move rfl) rfl ?_
        refine run_s (ss_assign rfl) rfl ?_
        refine run_nil ?_
        refine aw_seq ?_
        refine aw_gh (gh_to (n := 61) (σ' := []) (env' := [(0, .c (.lst (rows t))), (3, .c (ci (t.length : Int))), (4, .c (ci v10_1)), (5, .c (ci v14_2)), (6, .c (ci v18_3)), (9, .c (ci (t.length : Int))), (10, .c (ci v10_1)), (13, .c (ci (t.length : Int))), (14, .c (ci v14_2)), (17, .c (ci (t.length : Int))), (18, .c (ci v18_3))]) rfl rfl ⟨rfl, rfl, rfl, rfl, rfl, rfl, rfl, rfl, rfl, rfl, rfl, trivial⟩) ?_
        refine aw_regionD (kd := kdl [0, 0, 0, 1, 0, 0, 0, 1, 0, 0, 1, 0, 1, 0, 0, 0, 0, 1, 0, 0, 1, 0, 1, 0, 0, 0, 1, 0, 0, 1, 0, 1, 0]) (ord := [0, 1, 2, 4, 5, 6, 8, 13, 14, 15, 16, 18, 23, 24, 25, 27, 3, 7, 9, 10, 11, 12, 17, 19, 20, 21, 22, 26, 28, 29, 30, 31, 32]) [] mixed (by kernel_rfl) ?_
        refine rd_s rfl rfl trivial (ss_move rfl) rfl ?_
        refine rd_s rfl rfl trivial (ss_move rfl) rfl ?_
        obtain ⟨q7, h⟩ := h
        refine rd_s rfl rfl trivial (ss_idxL rfl rfl q7) rfl ?_
        refine rd_s rfl rfl trivial (ss_move rfl) rfl ?_
        refine rd_s rfl rfl trivial (ss_move rfl) rfl ?_
        obtain ⟨q8, h⟩ := h
        refine rd_s rfl rfl trivial (ss_idxL rfl rfl q8) rfl ?_
        refine rd_s rfl rfl trivial (ss_move rfl) rfl ?_
        refine rd_s rfl rfl trivial (ss_move rfl) rfl ?_
        refine rd_s rfl rfl trivial (ss_move rfl) rfl ?_
        refine rd_s rfl rfl trivial (ss_move rfl) rfl ?_
        obtain ⟨q9, h⟩ := h
        refine rd_s rfl rfl trivial (ss_idxL rfl rfl q9) rfl ?_
        refine rd_s rfl rfl trivial (ss_move rfl) rfl ?_
        refine rd_s rfl rfl trivial (ss_move rfl) rfl ?_
        refine rd_s rfl rfl trivial (ss_move rfl) rfl ?_
        obtain ⟨q10, h⟩ := h
        refine rd_s rfl rfl trivial (ss_idxL rfl rfl q10) rfl ?_
        refine rd_s rfl rfl trivial (ss_move rfl) rfl ?_
        refine rd_l rfl rfl trivial (ss_loadL (f := (fun r => C.lst (ints r))) rfl q7) rfl ?_
        refine rd_l rfl rfl trivial (ss_loadL (f := (fun r => C.lst (ints r))) rfl q8) rfl ?_
        obtain ⟨q11, h⟩ := h
        refine rd_s rfl rfl trivial (ss_idxL rfl rfl q11) rfl ?_
        refine rd_l rfl rfl trivial (ss_loadL (f := ci) rfl q11) rfl ?_
        obtain ⟨q12, h⟩ := h
        refine rd_s rfl rfl trivial (ss_idxL rfl rfl q12) rfl ?_
        refine rd_l rfl rfl trivial (ss_loadL (f := ci) rfl q12) rfl ?_
        refine rd_l rfl rfl trivial (ss_loadL (f := (fun r => C.lst (ints r))) rfl q9) rfl ?_
        obtain ⟨q13, h⟩ := h
        refine rd_s rfl rfl trivial (ss_idxL rfl rfl q13) rfl ?_
        refine rd_l rfl rfl trivial (ss_loadL (f := ci) rfl q13) rfl ?_
        obtain ⟨q14, h⟩ := h
        refine rd_s rfl rfl trivial (ss_idxL rfl rfl q14) rfl ?_
        refine rd_l rfl rfl trivial (ss_loadL (f := (fun r => C.lst (ints r))) rfl q14) rfl ?_
        refine rd_l rfl rfl trivial (ss_loadL (f := (fun r => C.lst (ints r))) rfl q10) rfl ?_
        obtain ⟨q15, h⟩ := h
        refine rd_s rfl rfl trivial (ss_idxL rfl rfl q15) rfl ?_
        refine rd_l rfl rfl trivial (ss_loadL (f := ci) rfl q15) rfl ?_
        obtain ⟨q16, h⟩ := h
        refine rd_s rfl rfl trivial (ss_idxL rfl rfl q16) rfl ?_
        refine rd_l rfl rfl trivial (ss_loadL (f := ci) rfl q16) rfl ?_
        refine rd_s rfl rfl trivial (ss_neq rfl rfl) rfl ?_
        refine rd_nil ?_
        refine aw_cond rfl (fun q17 => ?_) (fun q17 => ?_)
        · replace h := h.1 (of_decide_eq_false (bnot_t q17))
          refine aw_seq ?_
          refine aw_gh (gh_to (n := 61) (σ' := []) (env' := [(4, .c (ci v10_1)), (5, .c (ci v14_2)), (6, .c (ci v18_3))]) rfl rfl ⟨rfl, rfl, rfl, trivial⟩) ?_
          refine aw_region ?_
          refine run_s (ss_move rfl) rfl ?_
          refine run_s (ss_move rfl) rfl ?_
          refine run_s (ss_move rfl) rfl ?_
          refine run_w (ws_buildSlice (id := 57) (ps := [(0, .tmp 54), (1, .tmp 55), (2, .tmp 56)]) rfl rfl (Nat.le_of_ble_eq_true rfl) rfl ⟨rfl, ?_⟩)
          refine run_s (ss_assign rfl) rfl ?_
          refine run_nil ?_
          refine aw_ret ?_
          exact retAF_mk (retv1 rfl (rv_tmp rfl)) rfl rfl ⟨_, (cle_refl _), _, h, rfl⟩
        · replace h := h.2 (of_decide_eq_true (bnot_f q17))
          refine aw_skip ?_
          refine aw_gh (gh_to (n := 61) (σ' := []) (env' := [(0, .c (.lst (rows t))), (3, .c (ci (t.length : Int))), (4, .c (ci v10_1)), (5, .c (ci v14_2)), (9, .c (ci (t.length : Int))), (10, .c (ci v10_1)), (13, .c (ci (t.length : Int))), (14, .c (ci v14_2)), (17, .c (ci (t.length : Int))), (18, .c (ci v18_3))]) rfl rfl ⟨rfl, rfl, rfl, rfl, rfl, rfl, rfl, rfl, rfl, rfl, trivial⟩) ?_
          refine aw_region ?_
          obtain ⟨q18, h⟩ := h
          refine run_s (ss_add rfl rfl q18) rfl ?_
          refine run_s (ss_move rfl) rfl ?_
          refine run_nil ?_
          exact ⟨v18_3 + 1, ghe_to (n := 61) rfl rfl ⟨rfl, rfl, rfl, rfl, rfl, rfl, rfl, rfl, rfl, rfl, trivial⟩, h.1, h.2⟩
      · replace h := h.2 (of_decide_eq_false q6)
        refine aw_exit ?_
        refine aw_gh (gh_to (n := 61) (σ' := []) (env' := [(0, .c (.lst (rows t))), (3, .c (ci (t.length : Int))), (4, .c (ci v10_1)), (9, .c (ci (t.length : Int))), (10, .c (ci v10_1)), (13, .c (ci (t.length : Int))), (14, .c (ci v14_2))]) rfl rfl ⟨rfl, rfl, rfl, rfl, rfl, rfl, rfl, trivial⟩) ?_
        refine aw_region ?_
        obtain ⟨q19, h⟩ := h
        refine run_s (ss_add rfl rfl q19) rfl ?_
        refine run_s (ss_move rfl) rfl ?_
        refine run_nil ?_
        exact ⟨v14_2 + 1, ghe_to (n := 61) rfl rfl ⟨rfl, rfl, rfl, rfl, rfl, rfl, rfl, trivial⟩, h.1, h.2⟩
    · replace h := h.2 (of_decide_eq_false q4)
      refine aw_exit ?_
      refine aw_gh (gh_to (n := 61) (σ' := []) (env' := [(0, .c (.lst (rows t))), (3, .c (ci (t.length : Int))), (9, .c (ci (t.length : Int))), (10, .c (ci v10_1))]) rfl rfl ⟨rfl, rfl, rfl, rfl, trivial⟩) ?_
      refine aw_region ?_
      obtain ⟨q20, h⟩ := h
      refine run_s (ss_add rfl rfl q20) rfl ?_
      refine run_s (ss_move rfl) rfl ?_
      refine run_nil ?_
      exact ⟨v10_1 + 1, ghe_to (n := 61) rfl rfl ⟨rfl, rfl, rfl, rfl, trivial⟩, h.1, h.2⟩
  · replace h := h.2 (of_decide_eq_false q2)
    refine aw_exit ?_
    refine aw_seq ?_
    refine aw_gh (gh_to (n := 61) (σ' := []) (env' := []) rfl rfl trivial) ?_
    refine aw_region ?_
    refine run_s (ss_assign rfl) rfl ?_
    refine run_nil ?_
    refine aw_ret ?_
    exact retAF_mk (retv1 rfl (rv_tmp rfl)) rfl rfl ⟨_, (cle_refl _), _, h, rfl⟩

theorem c_impl_rackFault (t : List (List Int)) (hp : isTab t = true) : AF Try.prog 108 [.lst (rows t)] (fun R_ => R_ = onil (rackF t)) :=
  (w_impl_rackFault t (fun y0 => y0 = rackF t) (p_impl_rackFault t hp)).mono (by rintro r ⟨_, rfl, rfl⟩; rfl)

set_option maxRecDepth 100000 in
set_option maxHeartbeats 1000000 in
theorem w_spec_l03Fault (t : List (List Int)) (Q : List Int → Prop) (h : wp_spec_l03Fault t Q) : AF Try.prog 107 [.lst (rows t)] (fun R_ => ∃ y0, Q y0 ∧ R_ = .own (ints y0)) := by
  refine AF.ofWQ (af_enter (n := 61) Try.func107 rfl (by rfl) rfl (Nat.le_of_ble_eq_true rfl) ?_)
  unfold wp_spec_l03Fault at h
  refine aw_seq ?_
  refine aw_gh (gh_to (n := 61) (σ' := []) (env' := [(0, .c (.lst (rows t)))]) rfl rfl ⟨rfl, trivial⟩) ?_
  refine aw_region ?_
  refine run_s (ss_assign rfl) rfl ?_
  refine run_nil ?_
  refine aw_seq ?_
  refine aw_region ?_
  refine run_s (ss_move rfl) rfl ?_
  refine run_s (ss_lenL (f := (fun r => C.lst (ints r))) rfl) rfl ?_
  refine run_s (ss_assign rfl) rfl ?_
  refine run_nil ?_
  refine aw_seq ?_
  refine aw_seq ?_
  refine aw_region ?_
  refine run_s (ss_assign rfl) rfl ?_
  refine run_nil ?_
  refine aw_block ?_
  obtain ⟨H1, m1, q1, h⟩ := h
  refine aw_loop1 (fun (v4_1 : Int) => ⟨[], [(0, .c (.lst (rows t))), (3, .c (ci (t.length : Int))), (4, .c (ci v4_1))], 61⟩) H1 m1 ⟨0, ghe_to (n := 61) rfl rfl ⟨rfl, rfl, rfl, trivial⟩, q1⟩ ?_
  rintro v4_1 q1
  replace h := h v4_1 q1
  refine aw_seq ?_
  refine aw_seq ?_
  refine aw_region ?_
  refine run_s (ss_move rfl) rfl ?_
  refine run_s (ss_move rfl) rfl ?_
  refine run_s (ss_lss rfl rfl) rfl ?_
  refine run_nil ?_
  refine aw_cond rfl (fun q2 => ?_) (fun q2 => ?_)
  · replace h := h.1 (of_decide_eq_true q2)
    refine aw_skip ?_
    refine aw_seq ?_
    refine aw_block ?_
    refine aw_seq ?_
    refine aw_region ?_
    refine run_s (ss_assign rfl) rfl ?_
    refine run_nil ?_
    refine aw_block ?_
    obtain ⟨H2, m2, q3, h⟩ := h
    refine aw_loop1 (fun (v5_2 : Int) => ⟨[], [(0, .c (.lst (rows t))), (3, .c (ci (t.length : Int))), (4, .c (ci v4_1)), (5, .c (ci v5_2))], 61⟩) H2 m2 ⟨0, ghe_to (n := 61) rfl rfl ⟨rfl, rfl, rfl, rfl, trivial⟩, q3⟩ ?_
    rintro v5_2 q3
    replace h := h v5_2 q3
    refine aw_seq ?_
    refine aw_seq ?_
    refine aw_region ?_
    refine run_s (ss_move rfl) rfl ?_
    refine run_s (ss_move rfl) rfl ?_
    refine run_s (ss_lss rfl rfl) rfl ?_
    refine run_nil ?_
    refine aw_cond rfl (fun q4 => ?_) (fun q4 => ?_)
    · replace h := h.1 (of_decide_eq_true q4)
      refine aw_skip ?_
      refine aw_seq ?_
      refine aw_block ?_
      refine aw_seq ?_
      refine aw_region ?_
      refine run_s (ss_assign rfl) rfl ?_
      refine run_nil ?_
      refine aw_block ?_
      obtain ⟨H3, m3, q5, h⟩ := h
      refine aw_loop1 (fun (v6_3 : Int) => ⟨[], [(0, .c (.lst (rows t))), (3, .c (ci (t.length : Int))), (4, .c (ci v4_1)), (5, .c (ci v5_2)), (6, .c (ci v6_3))], 61⟩) H3 m3 ⟨0, ghe_to (n := 61) rfl rfl ⟨rfl, rfl, rfl, rfl, rfl, trivial⟩, q5⟩ ?_
      rintro v6_3 q5
      replace h := h v6_3 q5
      refine aw_seq ?_
      refine aw_seq ?_
      refine aw_region ?_
      refine run_s (ss_move rfl) rfl ?_
      refine run_s (ss_move rfl) rfl ?_
      refine run_s (ss_lss rfl rfl) rfl ?_
      refine run_nil ?_
      refine aw_cond rfl (fun q6 => ?_) (fun q6 => ?_)
      · replace h := h.1 (of_decide_eq_true q6)
        refine aw_skip ?_
        refine aw_seq ?_
        refine aw_block ?_
        refine aw_seq ?_
        refine aw_gh (gh_to (n := 61) (σ' := []) (env' := [(0, .c (.lst (rows t))), (3, .c (ci (t.length : Int))), (4, .c (ci v4_1)), (5, .c (ci v5_2)), (6, .c (ci v6_3))]) rfl rfl ⟨rfl, rfl, rfl, rfl, rfl, trivial⟩) ?_
        refine aw_regionD (kd := kdl [0, 0, 0, 1, 0, 0, 0, 1, 0, 0, 1, 0, 1, 0, 0, 0, 0, 1, 0, 0, 1, 0, 1, 0, 0, 0, 1, 0, 0, 1, 0, 1, 0]) (ord := [0, 1, 2, 4, 5, 6, 8, 13, 14, 15, 16, 18, 23, 24, 25, 27, 3, 7, 9, 10, 11, 12, 17, 19, 20, 21, 22, 26, 28, 29, 30, 31, 32]) [] mixed (by kernel_rfl) ?_
        refine rd_s rfl rfl trivial (ss_move rfl) rfl ?_
        refine rd_s rfl rfl trivial (ss_move rfl) rfl ?_
        obtain ⟨q7, h⟩ := h
        refine rd_s rfl rfl trivial (ss_idxL rfl rfl q7) rfl ?_
        refine rd_s rfl rfl trivial (ss_move rfl) rfl ?_
        refine rd_s rfl rfl trivial (ss_move rfl) rfl ?_
        obtain ⟨q8, h⟩ := h
        refine rd_s rfl rfl trivial (ss_idxL rfl rfl q8) rfl ?_
        refine rd_s rfl rfl trivial (ss_move rfl) rfl ?_
        refine rd_s rfl rfl trivial (ss_move rfl) rfl ?_
        refine rd_s rfl rfl trivial (ss_move rfl) rfl ?_
        refine rd_s rfl rfl trivial (ss_move rfl) rfl ?_
        obtain ⟨q9, h⟩ := h
        refine rd_s rfl rfl trivial (ss_idxL rfl rfl q9) rfl ?_
        refine rd_s rfl rfl trivial (ss_move rfl) rfl ?_
        refine rd_s rfl rfl trivial (ss_move rfl) rfl ?_
        refine rd_s rfl rfl trivial (ss_move rfl) rfl ?_
        obtain ⟨q10, h⟩ := h
        refine rd_s rfl rfl trivial (ss_idxL rfl rfl q10) rfl ?_
        refine rd_s rfl rfl trivial (ss_move rfl) rfl ?_
        refine rd_l rfl rfl trivial (ss_loadL (f := (fun r => C.lst (ints r))) rfl q7) rfl ?_
        refine rd_l rfl rfl trivial (ss_loadL (f := (fun r => C.lst (ints r))) rfl q8) rfl ?_
        obtain ⟨q11, h⟩ := h
        refine rd_s rfl rfl trivial (ss_idxL rfl rfl q11) rfl ?_
        refine rd_l rfl rfl trivial (ss_loadL (f := ci) rfl q11) rfl ?_
        obtain ⟨q12, h⟩ := h
        refine rd_s rfl rfl trivial (ss_idxL rfl rfl q12) rfl ?_
        refine rd_l rfl rfl trivial (ss_loadL (f := ci) rfl q12) rfl ?_
        refine rd_l rfl rfl trivial (ss_loadL (f := (fun r => C.lst (ints r))) rfl q9) rfl ?_
        obtain ⟨q13, h⟩ := h
        refine rd_s rfl rfl trivial (ss_idxL rfl rfl q13) rfl ?_
        refine rd_l rfl rfl trivial (ss_loadL (f := ci) rfl q13) rfl ?_
        obtain ⟨q14, h⟩ := h
        refine rd_s rfl rfl trivial (ss_idxL rfl rfl q14) rfl ?_
        refine rd_l rfl rfl trivial (ss_loadL (f := (fun r => C.lst (ints r))) rfl q14) rfl ?_
        refine rd_l rfl rfl trivial (ss_loadL (f := (fun r => C.lst (ints r))) rfl q10) rfl ?_
        obtain ⟨q15, h⟩ := h
        refine rd_s rfl rfl trivial (ss_idxL rfl rfl q15) rfl ?_
        refine rd_l rfl rfl trivial (ss_loadL (f := ci) rfl q15) rfl ?_
        obtain ⟨q16, h⟩ := h
        refine rd_s rfl rfl trivial (ss_idxL rfl rfl q16) rfl ?_
        refine rd_l rfl rfl trivial (ss_loadL (f := ci) rfl q16) rfl ?_
        refine rd_s rfl rfl trivial (ss_neq rfl rfl) rfl ?_
        refine rd_nil ?_
        refine aw_cond rfl (fun q17 => ?_) (fun q17 => ?_)
        · replace h := h.1 (of_decide_eq_false (bnot_t q17))
          refine aw_seq ?_
          refine aw_gh (gh_to (n := 61) (σ' := []) (env' := [(4, .c (ci v4_1)), (5, .c (ci v5_2)), (6, .c (ci v6_3))]) rfl rfl ⟨rfl, rfl, rfl, trivial⟩) ?_
          refine aw_region ?_
          refine run_s (ss_move rfl) rfl ?_
          refine run_s (ss_move rfl) rfl ?_
          refine run_s (ss_move rfl) rfl ?_
          refine run_w (ws_buildSlice (id := 60) (ps := [(0, .tmp 57), (1, .tmp 58), (2, .tmp 59)]) rfl rfl (Nat.le_of_ble_eq_true rfl) rfl ⟨rfl, ?_⟩)
          refine run_s (ss_assign rfl) rfl ?_
          refine run_nil ?_
          refine aw_ret ?_
          exact retAF_mk (retv1 rfl (rv_tmp rfl)) rfl rfl ⟨_, (cle_refl _), _, h, rfl⟩
        · replace h := h.2 (of_decide_eq_true (bnot_f q17))
          refine aw_skip ?_
          refine aw_gh (gh_to (n := 61) (σ' := []) (env' := [(0, .c (.lst (rows t))), (3, .c (ci (t.length : Int))), (4, .c (ci v4_1)), (5, .c (ci v5_2)), (6, .c (ci v6_3))]) rfl rfl ⟨rfl, rfl, rfl, rfl, rfl, trivial⟩) ?_
          refine aw_region ?_
          refine run_s (ss_move rfl) rfl ?_
          obtain ⟨q18, h⟩ := h
          refine run_s (ss_add rfl rfl q18) rfl ?_
          refine run_s (ss_assign rfl) rfl ?_
          refine run_nil ?_
          exact ⟨v6_3 + 1, ghe_to (n := 61) rfl rfl ⟨rfl, rfl, rfl, rfl, rfl, trivial⟩, h.1, h.2⟩
      · replace h := h.2 (of_decide_eq_false q6)
        refine aw_exit ?_
        refine aw_region ?_
        refine run_s (ss_move rfl) rfl ?_
        obtain ⟨q19, h⟩ := h
        refine run_s (ss_add rfl rfl q19) rfl ?_
        refine run_s (ss_assign rfl) rfl ?_
        refine run_nil ?_
        exact ⟨v5_2 + 1, ghe_to (n := 61) rfl rfl ⟨rfl, rfl, rfl, rfl, trivial⟩, h.1, h.2⟩
    · replace h := h.2 (of_decide_eq_false q4)
      refine aw_exit ?_
      refine aw_region ?_
      refine run_s (ss_move rfl) rfl ?_
      obtain ⟨q20, h⟩ := h
      refine run_s (ss_add rfl rfl q20) rfl ?_
      refine run_s (ss_assign rfl) rfl ?_
      refine run_nil ?_
      exact ⟨v4_1 + 1, ghe_to (n := 61) rfl rfl ⟨rfl, rfl, rfl, trivial⟩, h.1, h.2⟩
  · replace h := h.2 (of_decide_eq_false q2)
    refine aw_exit ?_
    refine aw_seq ?_
    refine aw_gh (gh_to (n := 61) (σ' := []) (env' := []) rfl rfl trivial) ?_
    refine aw_region ?_
    refine run_s (ss_assign rfl) rfl ?_
    refine run_nil ?_
    refine aw_ret ?_
    exact retAF_mk (retv1 rfl (rv_tmp rfl)) rfl rfl ⟨_, cle_nilO, _, h, rfl⟩

theorem c_spec_l03Fault (t : List (List Int)) (hp : isTab t = true) : AF Try.prog 107 [.lst (rows t)] (fun R_ => R_ = .own (ints (rackF t))) :=
  (w_spec_l03Fault t (fun y0 => y0 = rackF t) (p_spec_l03Fault t hp)).mono (by rintro r ⟨_, rfl, rfl⟩; rfl)

set_option maxRecDepth 100000 in
set_option maxHeartbeats 1000000 in
theorem w_impl_IsRack (r : List (List Int)) (Q : Bool → Prop) (h : wp_impl_IsRack r Q) : AF Try.prog 66 [.agg [.lst (rows r)]] (fun R_ => ∃ y0, Q y0 ∧ R_ = cb y0) := by
  refine AF.ofWQ (af_enter (n := 17) Try.func66 rfl (by rfl) rfl (Nat.le_of_ble_eq_true rfl) ?_)
  unfold wp_impl_IsRack at h
  refine aw_seq ?_
  refine aw_gh (gh_to (n := 17) (σ' := []) (env' := [(0, .c (.agg [.lst (rows r)]))]) rfl rfl ⟨rfl, trivial⟩) ?_
  refine aw_region ?_
  refine run_w (ws_boxR rfl (.inl rfl) rfl ⟨rfl, ?_⟩)
  refine run_s (ss_assign rfl) rfl ?_
  refine run_nil ?_
  refine aw_seq ?_
  refine aw_region ?_
  refine run_s (ss_field_ptr rfl) rfl ?_
  refine run_s (ss_load_ptr rfl rfl) rfl ?_
  obtain ⟨q1, h⟩ := h
  refine run_w (ws_call (xs := [.tmp 4]) (ids := []) rfl rfl rfl rfl (c_impl_IsTable r q1) rfl ?_ )
  rintro _ rfl
  refine ⟨rfl, ?_⟩
  refine run_s (ss_move rfl) rfl ?_
  refine run_split (s := 6) rfl (fun q3 => ?_) (fun q3 => ?_)
  · replace h := h.1 (q3)
    refine run_gt rfl rfl q3 ?_
    refine run_s (ss_field_ptr rfl) rfl ?_
    refine run_gt rfl rfl q3 ?_
    refine run_s (ss_load_ptr rfl rfl) rfl ?_
    refine run_gt rfl rfl q3 ?_
    obtain ⟨q4, h⟩ := h
    refine run_w (ws_call (xs := [.tmp 8]) (ids := []) rfl rfl rfl rfl (c_impl_permutationRows r q4) rfl ?_ )
    rintro _ rfl
    refine ⟨rfl, ?_⟩
    refine run_s (ss_pickT rfl q3 rfl) rfl ?_
    refine run_s (ss_move rfl) rfl ?_
    refine run_split (s := 11) rfl (fun q6 => ?_) (fun q6 => ?_)
    · replace h := h.1 (q6)
      refine run_gt rfl rfl q6 ?_
      refine run_s (ss_field_ptr rfl) rfl ?_
      refine run_gt rfl rfl q6 ?_
      refine run_s (ss_load_ptr rfl rfl) rfl ?_
      refine run_gt rfl rfl q6 ?_
      by_cases q7 : (rackF r) = []
      · replace h := h.1 q7
        obtain ⟨q8, h⟩ := h
        refine run_w (ws_call (xs := [.tmp 13]) (ids := []) rfl rfl rfl rfl (AF.onil_n (c_impl_rackFault r q8) q7) rfl ?_ )
        rintro _ rfl
        refine ⟨rfl, ?_⟩
        refine run_gt rfl rfl q6 ?_
        refine run_s (ss_eql_nil (b' := none) rfl rfl) rfl ?_
        refine run_s (ss_pickT rfl q6 rfl) rfl ?_
        refine run_s (ss_assign rfl) rfl ?_
        refine run_nil ?_
        refine aw_ret ?_
        exact retAF_mk (retv1 rfl (rv_tmp rfl)) rfl rfl ⟨_, (cle_refl _), _, h, rfl⟩
      · replace h := h.2 q7
        obtain ⟨q10, h⟩ := h
        refine run_w (ws_call (xs := [.tmp 13]) (ids := [14]) rfl rfl rfl rfl (AF.onil_o (c_impl_rackFault r q10) q7) rfl ?_ )
        rintro _ rfl
        refine ⟨rfl, ?_⟩
        refine run_gt rfl rfl q6 ?_
        refine run_s (ss_eql_refNil rfl rfl (map_ne q7) rfl) rfl ?_
        refine run_s (ss_pickT rfl q6 rfl) rfl ?_
        refine run_s (ss_assign rfl) rfl ?_
        refine run_nil ?_
        refine aw_ret ?_
        exact retAF_mk (retv1 rfl (rv_tmp rfl)) rfl rfl ⟨_, (cle_refl _), _, h, rfl⟩
    · replace h := h.2 (q6)
      refine run_gf rfl rfl q6 rfl ?_
      refine run_gf rfl rfl q6 rfl ?_
      refine run_gf rfl rfl q6 rfl ?_
      refine run_gf rfl rfl q6 rfl ?_
      refine run_s (ss_pickF rfl q6 rfl) rfl ?_
      refine run_s (ss_assign rfl) rfl ?_
      refine run_nil ?_
      refine aw_ret ?_
      exact retAF_mk (retv1 rfl (rv_tmp rfl)) rfl rfl ⟨_, (cle_refl _), _, h, rfl⟩
  · replace h := h.2 (q3)
    refine run_gf rfl rfl q3 rfl ?_
    refine run_gf rfl rfl q3 rfl ?_
    refine run_gf rfl rfl q3 rfl ?_
    refine run_s (ss_pickF rfl q3 rfl) rfl ?_
    refine run_s (ss_move rfl) rfl ?_
    refine run_split (s := 11) rfl (fun q12 => ?_) (fun q12 => ?_)
    · cases q12
    · skip
      refine run_gf rfl rfl q12 rfl ?_
      refine run_gf rfl rfl q12 rfl ?_
      refine run_gf rfl rfl q12 rfl ?_
      refine run_gf rfl rfl q12 rfl ?_
      refine run_s (ss_pickF rfl q12 rfl) rfl ?_
      refine run_s (ss_assign rfl) rfl ?_
      refine run_nil ?_
      refine aw_ret ?_
      exact retAF_mk (retv1 rfl (rv_tmp rfl)) rfl rfl ⟨_, (cle_refl _), _, h, rfl⟩

theorem c_impl_IsRack (r : List (List Int)) (hp : small2 r) : AF Try.prog 66 [.agg [.lst (rows r)]] (fun R_ => R_ = cb (isRk r)) :=
  (w_impl_IsRack r (fun y0 => y0 = isRk r) (p_impl_IsRack r hp)).mono (by rintro r ⟨_, rfl, rfl⟩; rfl)

set_option maxRecDepth 100000 in
set_option maxHeartbeats 1000000 in
theorem w_spec_l03Is (r : List (List Int)) (Q : Bool → Prop) (h : wp_spec_l03Is r Q) : AF Try.prog 65 [.agg [.lst (rows r)]] (fun R_ => ∃ y0, Q y0 ∧ R_ = cb y0) := by
  refine AF.ofWQ (af_enter (n := 27) Try.func65 rfl (by rfl) rfl (Nat.le_of_ble_eq_true rfl) ?_)
  unfold wp_spec_l03Is at h
  refine aw_seq ?_
  refine aw_gh (gh_to (n := 27) (σ' := []) (env' := [(0, .c (.agg [.lst (rows r)]))]) rfl rfl ⟨rfl, trivial⟩) ?_
  refine aw_region ?_
  refine run_w (ws_boxR rfl (.inl rfl) rfl ⟨rfl, ?_⟩)
  refine run_s (ss_assign rfl) rfl ?_
  refine run_nil ?_
  refine aw_seq ?_
  refine aw_seq ?_
  refine aw_region ?_
  refine run_s (ss_field_ptr rfl) rfl ?_
  refine run_s (ss_load_ptr rfl rfl) rfl ?_
  obtain ⟨q1, h⟩ := h
  refine run_w (ws_call (xs := [.tmp 5]) (ids := []) rfl rfl rfl rfl (c_spec_l01Table r q1) rfl ?_ )
  rintro _ rfl
  refine ⟨rfl, ?_⟩
  refine run_s (ss_not rfl) rfl ?_
  refine run_nil ?_
  refine aw_cond rfl (fun q3 => ?_) (fun q3 => ?_)
  · replace h := h.1 ((bnot_t q3))
    refine aw_seq ?_
    refine aw_gh (gh_to (n := 27) (σ' := []) (env' := [(2, .c (cb false))]) rfl rfl ⟨rfl, trivial⟩) ?_
    refine aw_region ?_
    refine run_s (ss_assign rfl) rfl ?_
    refine run_nil ?_
    refine aw_ret ?_
    exact retAF_mk (retv1 rfl (rv_tmp rfl)) rfl rfl ⟨_, (cle_refl _), _, h, rfl⟩
  · replace h := h.2 ((bnot_f q3))
    refine aw_skip ?_
    refine aw_seq ?_
    refine aw_seq ?_
    refine aw_gh (gh_to (n := 27) (σ' := []) (env' := [(1, .c (.ptr [.lst (rows r)]))]) rfl rfl ⟨rfl, trivial⟩) ?_
    refine aw_region ?_
    refine run_s (ss_assign rfl) rfl ?_
    refine run_nil ?_
    refine aw_block ?_
    obtain ⟨H1, m1, q4, h⟩ := h
    refine aw_loop1 (fun (v3_1 : Int) => ⟨[], [(1, .c (.ptr [.lst (rows r)])), (3, .c (ci v3_1))], 27⟩) H1 m1 ⟨0, ghe_to (n := 27) rfl rfl ⟨rfl, rfl, trivial⟩, q4⟩ ?_
    rintro v3_1 q4
    replace h := h v3_1 q4
    refine aw_seq ?_
    refine aw_seq ?_
    refine aw_region ?_
    refine run_s (ss_move rfl) rfl ?_
    refine run_s (ss_field_ptr rfl) rfl ?_
    refine run_s (ss_load_ptr rfl rfl) rfl ?_
    refine run_s (ss_lenL (f := (fun r => C.lst (ints r))) rfl) rfl ?_
    refine run_s (ss_lss rfl rfl) rfl ?_
    refine run_nil ?_
    refine aw_cond rfl (fun q5 => ?_) (fun q5 => ?_)
    · replace h := h.1 (of_decide_eq_true q5)
      refine aw_skip ?_
      refine aw_seq ?_
      refine aw_block ?_
      refine aw_seq ?_
      refine aw_region ?_
      refine run_s (ss_field_ptr rfl) rfl ?_
      refine run_s (ss_load_ptr rfl rfl) rfl ?_
      refine run_s (ss_move rfl) rfl ?_
      obtain ⟨q6, h⟩ := h
      refine run_s (ss_idxL rfl rfl q6) rfl ?_
      refine run_s (ss_loadL (f := (fun r => C.lst (ints r))) rfl q6) rfl ?_
      obtain ⟨q7, h⟩ := h
      refine run_w (ws_call (xs := [.tmp 19]) (ids := []) rfl rfl rfl rfl (c_spec_l01Perm (el r v3_1) q7) rfl ?_ )
      rintro _ rfl
      refine ⟨rfl, ?_⟩
      refine run_s (ss_not rfl) rfl ?_
      refine run_nil ?_
      refine aw_cond rfl (fun q9 => ?_) (fun q9 => ?_)
      · replace h := h.1 ((bnot_t q9))
        refine aw_seq ?_
        refine aw_gh (gh_to (n := 27) (σ' := []) (env' := []) rfl rfl trivial) ?_
        refine aw_region ?_
        refine run_s (ss_assign rfl) rfl ?_
        refine run_nil ?_
        refine aw_ret ?_
        exact retAF_mk (retv1 rfl (rv_tmp rfl)) rfl rfl ⟨_, (cle_refl _), _, h, rfl⟩
      · replace h := h.2 ((bnot_f q9))
        refine aw_skip ?_
        refine aw_gh (gh_to (n := 27) (σ' := []) (env' := [(1, .c (.ptr [.lst (rows r)])), (3, .c (ci v3_1))]) rfl rfl ⟨rfl, rfl, trivial⟩) ?_
        refine aw_region ?_
        refine run_s (ss_move rfl) rfl ?_
        obtain ⟨q10, h⟩ := h
        refine run_s (ss_add rfl rfl q10) rfl ?_
        refine run_s (ss_assign rfl) rfl ?_
        refine run_nil ?_
        exact ⟨v3_1 + 1, ghe_to (n := 27) rfl rfl ⟨rfl, rfl, trivial⟩, h.1, h.2⟩
    · replace h := h.2 (of_decide_eq_false q5)
      refine aw_exit ?_
      refine aw_seq ?_
      refine aw_region ?_
      refine run_s (ss_field_ptr rfl) rfl ?_
      refine run_s (ss_load_ptr rfl rfl) rfl ?_
      obtain ⟨q11, h⟩ := h
      refine run_w (ws_call (xs := [.tmp 23]) (ids := [24]) rfl rfl rfl rfl (c_spec_l03Fault r q11) rfl ?_ )
      rintro _ rfl
      refine ⟨rfl, ?_⟩
      refine run_s (ss_lenR (f := ci) rfl rfl) rfl ?_
      refine run_s (ss_eql rfl rfl) rfl ?_
      refine run_s (ss_assign rfl) rfl ?_
      refine run_nil ?_
      refine aw_ret ?_
      exact retAF_mk (retv1 rfl (rv_tmp rfl)) rfl rfl ⟨_, (cle_refl _), _, h, rfl⟩

theorem c_spec_l03Is (r : List (List Int)) (hp : small2 r) : AF Try.prog 65 [.agg [.lst (rows r)]] (fun R_ => R_ = cb (isRk r)) :=
  (w_spec_l03Is r (fun y0 => y0 = isRk r) (p_spec_l03Is r hp)).mono (by rintro r ⟨_, rfl, rfl⟩; rfl)

set_option maxRecDepth 100000 in
set_option maxHeartbeats 1000000 in
theorem w_impl_kinkOf (r : List (List Int)) (Q : List Int → Prop) (h : wp_impl_kinkOf r Q) : AF Try.prog 77 [.agg [.lst (rows r)]] (fun R_ => ∃ y0, Q y0 ∧ R_ = .own (ints y0)) := by
  refine AF.ofWQ (af_enter (n := 27) Try.func77 rfl (by rfl) rfl (Nat.le_of_ble_eq_true rfl) ?_)
  unfold wp_impl_kinkOf at h
  refine aw_seq ?_
  refine aw_gh (gh_to (n := 27) (σ' := []) (env' := [(0, .c (.agg [.lst (rows r)]))]) rfl rfl ⟨rfl, trivial⟩) ?_
  refine aw_region ?_
  refine run_w (ws_boxR rfl (.inl rfl) rfl ⟨rfl, ?_⟩)
  refine run_s (ss_assign rfl) rfl ?_
  refine run_nil ?_
  refine aw_seq ?_
  refine aw_region ?_
  refine run_s (ss_field_ptr rfl) rfl ?_
  refine run_s (ss_load_ptr rfl rfl) rfl ?_
  refine run_s (ss_lenL (f := (fun r => C.lst (ints r))) rfl) rfl ?_
  obtain ⟨q1, h⟩ := h
  refine run_w (ws_mk (id := 8) ci (0 : Int) rfl rfl rfl q1 (Nat.le_of_ble_eq_true rfl) rfl ⟨rfl, ?_⟩)
  refine run_s (ss_assign rfl) rfl ?_
  refine run_nil ?_
  refine aw_seq ?_
  refine aw_seq ?_
  refine aw_gh (gh_to (n := 27) (σ' := [(8, ⟨ints (List.replicate (r.length : Int).toNat (0 : Int)), []⟩)]) (env' := [(1, .c (.ptr [.lst (rows r)])), (3, .ref 8)]) rfl rfl ⟨rfl, rfl, trivial⟩) ?_
  refine aw_region ?_
  refine run_s (ss_move rfl) rfl ?_
  refine run_s (ss_lenR (f := ci) rfl rfl) rfl ?_
  refine run_s (ss_move rfl) rfl ?_
  refine run_nil ?_
  refine aw_block ?_
  obtain ⟨H1, m1, q2, h⟩ := h
  refine aw_loop2 (fun (v11_1 : Int) (o8_1 : List Int) => ⟨[(8, ⟨ints o8_1, []⟩)], [(1, .c (.ptr [.lst (rows r)])), (3, .ref 8), (10, .c (ci ((List.replicate (r.length : Int).toNat (0 : Int)).length : Int))), (11, .c (ci v11_1))], 27⟩) H1 m1 ⟨0, List.replicate (r.length : Int).toNat (0 : Int), ghe_to (n := 27) rfl rfl ⟨rfl, rfl, rfl, rfl, trivial⟩, q2⟩ ?_
  rintro v11_1 o8_1 q2
  replace h := h v11_1 o8_1 q2
  refine aw_seq ?_
  refine aw_region ?_
  refine run_s (ss_lss rfl rfl) rfl ?_
  refine run_nil ?_
  refine aw_seq ?_
  refine aw_cond rfl (fun q3 => ?_) (fun q3 => ?_)
  · replace h := h.1 (of_decide_eq_true q3)
    refine aw_skip ?_
    refine aw_seq ?_
    refine aw_block ?_
    refine aw_seq ?_
    refine aw_region ?_
    refine run_s (ss_move rfl) rfl ?_
    refine run_s (ss_assign rfl) rfl ?_
    refine run_nil ?_
    refine aw_region ?_
    refine run_s (ss_move rfl) rfl ?_
    refine run_s (ss_move rfl) rfl ?_
    refine run_s (ss_field_ptr rfl) rfl ?_
    refine run_s (ss_load_ptr rfl rfl) rfl ?_
    refine run_s (ss_move rfl) rfl ?_
    obtain ⟨q4, h⟩ := h
    refine run_s (ss_idxL rfl rfl q4) rfl ?_
    refine run_s (ss_loadL (f := (fun r => C.lst (ints r))) rfl q4) rfl ?_
    refine run_s (ss_move rfl) rfl ?_
    obtain ⟨q5, h⟩ := h
    refine run_s (ss_idxL rfl rfl q5) rfl ?_
    refine run_s (ss_loadL (f := ci) rfl q5) rfl ?_
    obtain ⟨q6, h⟩ := h
    refine run_s (ss_idxR (f := ci) rfl rfl rfl q6) rfl ?_
    refine run_w (ws_storeE rfl rfl (map_lt q6) rfl rfl (map_se (f := ci)) rfl ⟨rfl, ?_⟩)
    refine run_nil ?_
    refine aw_gh (gh_to (n := 27) (σ' := [(8, ⟨ints (se o8_1 v11_1 (el (el r v11_1) v11_1)), []⟩)]) (env' := [(1, .c (.ptr [.lst (rows r)])), (3, .ref 8), (10, .c (ci ((List.replicate (r.length : Int).toNat (0 : Int)).length : Int))), (11, .c (ci v11_1))]) rfl rfl ⟨rfl, rfl, rfl, rfl, trivial⟩) ?_
    refine aw_region ?_
    obtain ⟨q7, h⟩ := h
    refine run_s (ss_add rfl rfl q7) rfl ?_
    refine run_s (ss_move rfl) rfl ?_
    refine run_nil ?_
    exact ⟨v11_1 + 1, se o8_1 v11_1 (el (el r v11_1) v11_1), ghe_to (n := 27) rfl rfl ⟨rfl, rfl, rfl, rfl, trivial⟩, h.1, h.2⟩
  · replace h := h.2 (of_decide_eq_false q3)
    refine aw_exit ?_
    refine aw_seq ?_
    refine aw_region ?_
    refine run_s (ss_move rfl) rfl ?_
    refine run_s (ss_assign rfl) rfl ?_
    refine run_nil ?_
    refine aw_ret ?_
    exact retAF_mk (retv1 rfl (rv_tmp rfl)) rfl rfl ⟨_, (cle_refl _), _, h, rfl⟩

theorem c_impl_kinkOf (r : List (List Int)) (hp : isTab r = true) : AF Try.prog 77 [.agg [.lst (rows r)]] (fun R_ => R_ = .own (ints (diag r))) :=
  (w_impl_kinkOf r (fun y0 => y0 = diag r) (p_impl_kinkOf r hp)).mono (by rintro r ⟨_, rfl, rfl⟩; rfl)

set_option maxRecDepth 100000 in
set_option maxHeartbeats 1000000 in
theorem w_spec_l03Kink (r : List (List Int)) (Q : List Int → Prop) (h : wp_spec_l03Kink r Q) : AF Try.prog 74 [.agg [.lst (rows r)]] (fun R_ => ∃ y0, Q y0 ∧ R_ = .own (ints y0)) := by
  refine AF.ofWQ (af_enter (n := 25) Try.func74 rfl (by rfl) rfl (Nat.le_of_ble_eq_true rfl) ?_)
  unfold wp_spec_l03Kink at h
  refine aw_seq ?_
  refine aw_gh (gh_to (n := 25) (σ' := []) (env' := [(0, .c (.agg [.lst (rows r)]))]) rfl rfl ⟨rfl, trivial⟩) ?_
  refine aw_region ?_
  refine run_w (ws_boxR rfl (.inl rfl) rfl ⟨rfl, ?_⟩)
  refine run_s (ss_assign rfl) rfl ?_
  refine run_nil ?_
  refine aw_seq ?_
  refine aw_region ?_
  refine run_w (ws_buildSlice (id := 5) (ps := []) rfl rfl (Nat.le_of_ble_eq_true rfl) rfl ⟨rfl, ?_⟩)
  refine run_s (ss_assign rfl) rfl ?_
  refine run_nil ?_
  refine aw_seq ?_
  refine aw_seq ?_
  refine aw_region ?_
  refine run_s (ss_assign rfl) rfl ?_
  refine run_nil ?_
  refine aw_block ?_
  obtain ⟨H1, m1, q1, h⟩ := h
  refine aw_loop2 (fun (v4_1 : Int) (o5_1 : List Int) => ⟨[(5, ⟨ints o5_1, []⟩)], [(1, .c (.ptr [.lst (rows r)])), (3, .ref 5), (4, .c (ci v4_1))], 25⟩) H1 m1 ⟨0, ([] : List Int), ghe_to (n := 25) rfl rfl ⟨rfl, rfl, rfl, trivial⟩, q1⟩ ?_
  rintro v4_1 o5_1 q1
  replace h := h v4_1 o5_1 q1
  refine aw_seq ?_
  refine aw_seq ?_
  refine aw_region ?_
  refine run_s (ss_move rfl) rfl ?_
  refine run_s (ss_field_ptr rfl) rfl ?_
  refine run_s (ss_load_ptr rfl rfl) rfl ?_
  refine run_s (ss_lenL (f := (fun r => C.lst (ints r))) rfl) rfl ?_
  refine run_s (ss_lss rfl rfl) rfl ?_
  refine run_nil ?_
  refine aw_cond rfl (fun q2 => ?_) (fun q2 => ?_)
  · replace h := h.1 (of_decide_eq_true q2)
    refine aw_skip ?_
    refine aw_seq ?_
    refine aw_block ?_
    refine aw_region ?_
    refine run_s (ss_move rfl) rfl ?_
    refine run_s (ss_field_ptr rfl) rfl ?_
    refine run_s (ss_load_ptr rfl rfl) rfl ?_
    refine run_s (ss_move rfl) rfl ?_
    obtain ⟨q3, h⟩ := h
    refine run_s (ss_idxL rfl rfl q3) rfl ?_
    refine run_s (ss_loadL (f := (fun r => C.lst (ints r))) rfl q3) rfl ?_
    refine run_s (ss_move rfl) rfl ?_
    obtain ⟨q4, h⟩ := h
    refine run_s (ss_idxL rfl rfl q4) rfl ?_
    refine run_s (ss_loadL (f := ci) rfl q4) rfl ?_
    refine run_w (ws_buildSlice (id := 22) (ps := [(0, .tmp 21)]) rfl rfl (Nat.le_of_ble_eq_true rfl) rfl ⟨rfl, ?_⟩)
    obtain ⟨q5, h⟩ := h
    refine run_w (ws_app1 ci (l := o5_1) (m := [el (el r v4_1) v4_1]) rfl rfl rfl rfl rfl (Nat.le_of_ble_eq_true rfl) q5 ⟨rfl, ?_⟩)
    refine run_s (ss_assign rfl) rfl ?_
    refine run_nil ?_
    refine aw_gh (gh_to (n := 25) (σ' := [(5, ⟨ints (o5_1 ++ ([el (el r v4_1) v4_1])), []⟩)]) (env' := [(1, .c (.ptr [.lst (rows r)])), (3, .ref 5), (4, .c (ci v4_1))]) rfl rfl ⟨rfl, rfl, rfl, trivial⟩) ?_
    refine aw_region ?_
    refine run_s (ss_move rfl) rfl ?_
    obtain ⟨q6, h⟩ := h
    refine run_s (ss_add rfl rfl q6) rfl ?_
    refine run_s (ss_assign rfl) rfl ?_
    refine run_nil ?_
    exact ⟨v4_1 + 1, o5_1 ++ ([el (el r v4_1) v4_1]), ghe_to (n := 25) rfl rfl ⟨rfl, rfl, rfl, trivial⟩, h.1, h.2⟩
  · replace h := h.2 (of_decide_eq_false q2)
    refine aw_exit ?_
    refine aw_seq ?_
    refine aw_gh (gh_to (n := 25) (σ' := [(5, ⟨ints o5_1, []⟩)]) (env' := [(3, .ref 5)]) rfl rfl ⟨rfl, trivial⟩) ?_
    refine aw_region ?_
    refine run_s (ss_move rfl) rfl ?_
    refine run_s (ss_assign rfl) rfl ?_
    refine run_nil ?_
    refine aw_ret ?_
    exact retAF_mk (retv1 rfl (rv_tmp rfl)) rfl rfl ⟨_, (cle_refl _), _, h, rfl⟩

theorem c_spec_l03Kink (r : List (List Int)) (hp : isTab r = true) : AF Try.prog 74 [.agg [.lst (rows r)]] (fun R_ => R_ = .own (ints (diag r))) :=
  (w_spec_l03Kink r (fun y0 => y0 = diag r) (p_spec_l03Kink r hp)).mono (by rintro r ⟨_, rfl, rfl⟩; rfl)

set_option maxRecDepth 100000 in
set_option maxHeartbeats 1000000 in
theorem w_impl_QuandleOf_1 (x : Int) (y : Int) (back : List Int) (r : List (List Int)) (Q : Int → Prop) (h : wp_impl_QuandleOf_1 x y back r Q) : AF Try.prog 79 [ci x, ci y, .ptr [.lst (ints back)], .ptr [.lst (rows r)]] (fun R_ => ∃ y0, Q y0 ∧ R_ = ci y0) := by
  refine AF.ofWQ (af_enter (n := 18) Try.func79 rfl (by rfl) rfl (Nat.le_of_ble_eq_true rfl) ?_)
  unfold wp_impl_QuandleOf_1 at h
  refine aw_seq ?_
  refine aw_gh (gh_to (n := 18) (σ' := []) (env' := [(0, .c (ci x)), (1, .c (ci y)), (2, .c (.ptr [.lst (ints back)])), (3, .c (.ptr [.lst (rows r)]))]) rfl rfl ⟨rfl, rfl, rfl, rfl, trivial⟩) ?_
  refine aw_region ?_
  refine run_s (ss_assign rfl) rfl ?_
  refine run_nil ?_
  refine aw_seq ?_
  refine aw_gh (gh_to (n := 18) (σ' := []) (env' := [(0, .c (ci x)), (1, .c (ci y)), (2, .c (.ptr [.lst (ints back)])), (3, .c (.ptr [.lst (rows r)])), (6, .c (ci 0))]) rfl rfl ⟨rfl, rfl, rfl, rfl, rfl, trivial⟩) ?_
  refine aw_regionD (kd := kdl [1, 0, 1, 0, 0, 1, 0, 0, 1, 0, 1, 0]) (ord := [1, 3, 6, 0, 2, 4, 5, 7, 8, 9, 10, 11]) [] mixed (by kernel_rfl) ?_
  refine rd_s rfl rfl trivial (ss_field_ptr rfl) rfl ?_
  refine rd_s rfl rfl trivial (ss_move rfl) rfl ?_
  refine rd_s rfl rfl trivial (ss_move rfl) rfl ?_
  refine rd_l rfl rfl trivial (ss_load_ptr rfl rfl) rfl ?_
  refine rd_l rfl rfl trivial (ss_load_ptr rfl rfl) rfl ?_
  obtain ⟨q1, h⟩ := h
  refine rd_s rfl rfl trivial (ss_idxL rfl rfl q1) rfl ?_
  refine rd_l rfl rfl trivial (ss_loadL (f := (fun r => C.lst (ints r))) rfl q1) rfl ?_
  obtain ⟨q2, h⟩ := h
  refine rd_s rfl rfl trivial (ss_idxL rfl rfl q2) rfl ?_
  refine rd_l rfl rfl trivial (ss_loadL (f := ci) rfl q2) rfl ?_
  obtain ⟨q3, h⟩ := h
  refine rd_s rfl rfl trivial (ss_idxL rfl rfl q3) rfl ?_
  refine rd_l rfl rfl trivial (ss_loadL (f := ci) rfl q3) rfl ?_
  refine rd_s rfl rfl trivial (ss_assign rfl) rfl ?_
  refine rd_nil ?_
  refine aw_ret ?_
  exact retAF_mk (retv1 rfl (rv_tmp rfl)) rfl rfl ⟨_, (cle_refl _), _, h, rfl⟩

theorem c_impl_QuandleOf_1 (x : Int) (y : Int) (back : List Int) (r : List (List Int)) (hp : isTab r = true ∧ (back.length : Int) = (r.length : Int) ∧ 0 ≤ x ∧ x < (r.length : Int) ∧ 0 ≤ y ∧ y < (r.length : Int)) : AF Try.prog 79 [ci x, ci y, .ptr [.lst (ints back)], .ptr [.lst (rows r)]] (fun R_ => R_ = ci (el back (el (el r x) y))) :=
  (w_impl_QuandleOf_1 x y back r (fun y0 => y0 = el back (el (el r x) y)) (p_impl_QuandleOf_1 x y back r hp)).mono (by rintro r ⟨_, rfl, rfl⟩; rfl)

set_option maxRecDepth 100000 in
set_option maxHeartbeats 1000000 in
theorem w_spec_QuandleOf (r : List (List Int)) (Q : List (List Int) → Int → Prop) (h : wp_spec_QuandleOf r Q) : AF Try.prog 31 [.agg [.lst (rows r)]] (fun R_ => ∃ y0 y1, Q y0 y1 ∧ R_ = .tup [.agg [.own (orows y0)], ci y1]) := by
  refine AF.ofWQ (af_enter (n := 35) Try.func31 rfl (by rfl) rfl (Nat.le_of_ble_eq_true rfl) ?_)
  unfold wp_spec_QuandleOf at h
  refine aw_seq ?_
  refine aw_gh (gh_to (n := 35) (σ' := []) (env' := [(0, .c (.agg [.lst (rows r)]))]) rfl rfl ⟨rfl, trivial⟩) ?_
  refine aw_region ?_
  refine run_w (ws_boxR rfl (.inl rfl) rfl ⟨rfl, ?_⟩)
  refine run_w (ws_alloc (id := 2) rfl (Nat.le_of_ble_eq_true rfl) ⟨rfl, ?_⟩)
  refine run_s (ss_assign rfl) rfl ?_
  refine run_nil ?_
  refine aw_seq ?_
  refine aw_seq ?_
  refine aw_region ?_
  refine run_s (ss_load_struct rfl (Nat.le_of_ble_eq_true rfl)) rfl ?_
  obtain ⟨q1, h⟩ := h
  refine run_w (ws_call (xs := [.tmp 7]) (ids := []) rfl rfl rfl rfl (c_spec_l03Is r q1) rfl ?_ )
  rintro _ rfl
  refine ⟨rfl, ?_⟩
  refine run_s (ss_not rfl) rfl ?_
  refine run_nil ?_
  refine aw_cond rfl (fun q3 => ?_) (fun q3 => ?_)
  · replace h := h.1 ((bnot_t q3))
    refine aw_seq ?_
    refine aw_gh (gh_to (n := 35) (σ' := [(2, ⟨[cnil], []⟩)]) (env' := [(2, .cell 2 0), (3, .c (ci 0))]) rfl rfl ⟨rfl, rfl, trivial⟩) ?_
    refine aw_region ?_
    refine run_s (ss_build0) rfl ?_
    refine run_w (ws_storeS rfl rfl (Nat.le_of_ble_eq_true rfl) rfl rfl rfl ⟨rfl, ?_⟩)
    refine run_s (ss_assign rfl) rfl ?_
    refine run_nil ?_
    refine aw_ret ?_
    exact retAF_mk (retv2 rfl (rv_struct rfl rfl rfl) (rv_tmp rfl)) rfl rfl ⟨_, (cle_tup (cleL_cons (cle_agg (cleL_cons cle_nilO cleL_nil)) (cleL_cons (cle_refl _) cleL_nil))), _, _, h, rfl⟩
  · replace h := h.2 ((bnot_f q3))
    refine aw_skip ?_
    refine aw_seq ?_
    refine aw_region ?_
    refine run_s (ss_load_struct rfl (Nat.le_of_ble_eq_true rfl)) rfl ?_
    obtain ⟨q4, h⟩ := h
    refine run_w (ws_call (xs := [.tmp 11]) (ids := [12]) rfl rfl rfl rfl (c_spec_l03Kink r q4) rfl ?_ )
    rintro _ rfl
    refine ⟨rfl, ?_⟩
    obtain ⟨q6, h⟩ := h
    refine run_w (ws_callR (xs := [.tmp 12]) (cs := [.own (ints (diag r))]) (ids := [13]) rfl (.inr ⟨rfl, rfl⟩) rfl rfl (fz_cons (fz_own (fz_map (fun _ => rfl) _)) fz_nil) (c_spec_l01Back (diag r) q6) rfl ?_ )
    rintro _ rfl
    refine ⟨(slf_own (slfL_map (f := ci) (fun _ => rfl) _)), rfl, ?_⟩
    refine run_s (ss_build0) rfl ?_
    refine run_w (ws_alloc (id := 5) rfl (Nat.le_of_ble_eq_true rfl) ⟨rfl, ?_⟩)
    refine run_s (ss_assign rfl) rfl ?_
    refine run_w (ws_storeS rfl rfl (Nat.le_of_ble_eq_true rfl) rfl rfl rfl ⟨rfl, ?_⟩)
    refine run_nil ?_
    refine aw_seq ?_
    refine aw_seq ?_
    refine aw_gh (gh_to (n := 35) (σ' := [(5, ⟨[cnil], []⟩), (13, ⟨ints (backI (diag r)), []⟩), (12, ⟨ints (diag r), []⟩), (2, ⟨[cnil], []⟩)]) (env' := [(1, .c (.ptr [.lst (rows r)])), (2, .cell 2 0), (4, .ref 13), (5, .cell 5 0)]) rfl rfl ⟨rfl, rfl, rfl, rfl, trivial⟩) ?_
    refine aw_region ?_
    refine run_s (ss_assign rfl) rfl ?_
    refine run_nil ?_
    refine aw_block ?_
    refine aw_gh (gh_frzE (id := 12) ci rfl (fun _ => rfl)) ?_
    obtain ⟨H1, m1, q8, h⟩ := h
    refine aw_loop2 (fun (v6_1 : Int) (o765_1 : List (List Int)) => ⟨[(765, ⟨orows o765_1, []⟩), (5, ⟨[.hole], [(0, .ref 765)]⟩), (13, ⟨ints (backI (diag r)), []⟩), (2, ⟨[cnil], []⟩)], [(1, .c (.ptr [.lst (rows r)])), (2, .cell 2 0), (4, .ref 13), (5, .cell 5 0), (6, .c (ci v6_1))], 35⟩) H1 m1 ⟨0, ([] : List (List Int)), ghe_step (gh_nilH (id0 := 5) (j := 0) (id := 765) rfl rfl rfl rfl) (ghe_to (n := 35) rfl rfl ⟨rfl, rfl, rfl, rfl, rfl, trivial⟩), q8⟩ ?_
    rintro v6_1 o765_1 q8
    replace h := h v6_1 o765_1 q8
    refine aw_seq ?_
    refine aw_seq ?_
    refine aw_region ?_
    refine run_s (ss_move rfl) rfl ?_
    refine run_s (ss_field_ptr rfl) rfl ?_
    refine run_s (ss_load_ptr rfl rfl) rfl ?_
    refine run_s (ss_lenL (f := (fun r => C.lst (ints r))) rfl) rfl ?_
    refine run_s (ss_lss rfl rfl) rfl ?_
    refine run_nil ?_
    refine aw_cond rfl (fun q9 => ?_) (fun q9 => ?_)
    · replace h := h.1 (of_decide_eq_true q9)
      refine aw_skip ?_
      refine aw_seq ?_
      refine aw_block ?_
      refine aw_gh (gh_to (n := 35) (σ' := [(765, ⟨orows o765_1, []⟩), (5, ⟨[.hole], [(0, .ref 765)]⟩), (13, ⟨ints (backI (diag r)), []⟩), (2, ⟨[cnil], []⟩)]) (env' := [(1, .c (.ptr [.lst (rows r)])), (2, .cell 2 0), (4, .ref 13), (5, .cell 5 0), (6, .c (ci v6_1))]) rfl rfl ⟨rfl, rfl, rfl, rfl, rfl, trivial⟩) ?_
      refine aw_regionD (kd := kdl [0, 1, 0, 1, 0, 0, 1, 0, 2, 2, 2, 0, 3]) (ord := [0, 2, 4, 7, 1, 3, 5, 6, 8, 9, 10, 11, 12]) [30, 31, 765] mixed (by kernel_rfl) ?_
      refine rd_s rfl rfl trivial (ss_field_cell rfl) rfl ?_
      refine rd_s rfl rfl trivial (ss_field_ptr rfl) rfl ?_
      refine rd_s rfl rfl trivial (ss_move rfl) rfl ?_
      refine rd_s rfl rfl trivial (ss_move rfl) rfl ?_
      refine rd_l rfl rfl trivial (ss_loadH rfl rfl rfl rfl) rfl ?_
      refine rd_l rfl rfl trivial (ss_load_ptr rfl rfl) rfl ?_
      obtain ⟨q10, h⟩ := h
      refine rd_s rfl rfl trivial (ss_idxL rfl rfl q10) rfl ?_
      refine rd_l rfl rfl trivial (ss_loadL (f := (fun r => C.lst (ints r))) rfl q10) rfl ?_
      obtain ⟨q11, h⟩ := h
      refine rd_w rfl rfl trivial rfl rfl (ws_callR (xs := [.tmp 28, .tmp 29]) (cs := [.lst (ints (el r v6_1)), .own (ints (backI (diag r)))]) (ids := [30]) rfl (.inr ⟨rfl, rfl⟩) rfl rfl (fz_cons rfl (fz_cons (fz_own (fz_map (fun _ => rfl) _)) fz_nil)) (c_spec_l01Then (el r v6_1) (backI (diag r)) q11) rfl ?_ )
      rintro _ rfl
      refine ⟨(slf_own (slfL_map (f := ci) (fun _ => rfl) _)), rfl, ?_⟩
      refine rd_w rfl rfl trivial rfl rfl (ws_buildSlice (id := 31) (ps := [(0, .tmp 30)]) rfl rfl (Nat.le_of_ble_eq_true rfl) rfl ⟨rfl, ?_⟩)
      obtain ⟨q13, h⟩ := h
      refine rd_w rfl rfl trivial rfl rfl (ws_gh (gh_fill (id := 31) (id2 := 30) (j := 0) rfl rfl (Nat.le_of_ble_eq_true rfl) rfl rfl rfl) (ws_app1 (fun r => C.own (ints r)) (l := o765_1) (m := [(el r v6_1).map (el (backI (diag r)))]) rfl rfl rfl rfl rfl (Nat.le_of_ble_eq_true rfl) q13 ⟨rfl, ?_⟩))
      refine rd_s rfl rfl trivial (ss_field_cell rfl) rfl ?_
      refine rd_f rfl rfl trivial (ws_store rfl rfl (Nat.le_of_ble_eq_true rfl) rfl rfl ⟨rfl, ?_⟩)
      refine rd_nil ?_
      refine aw_gh (gh_to (n := 35) (σ' := [(765, ⟨orows (o765_1 ++ ([(el r v6_1).map (el (backI (diag r)))])), []⟩), (5, ⟨[.hole], [(0, .ref 765)]⟩), (13, ⟨ints (backI (diag r)), []⟩), (2, ⟨[cnil], []⟩)]) (env' := [(1, .c (.ptr [.lst (rows r)])), (2, .cell 2 0), (4, .ref 13), (5, .cell 5 0), (6, .c (ci v6_1))]) rfl rfl ⟨rfl, rfl, rfl, rfl, rfl, trivial⟩) ?_
      refine aw_region ?_
      refine run_s (ss_move rfl) rfl ?_
      obtain ⟨q14, h⟩ := h
      refine run_s (ss_add rfl rfl q14) rfl ?_
      refine run_s (ss_assign rfl) rfl ?_
      refine run_nil ?_
      exact ⟨v6_1 + 1, o765_1 ++ ([(el r v6_1).map (el (backI (diag r)))]), ghe_to (n := 35) rfl rfl ⟨rfl, rfl, rfl, rfl, rfl, trivial⟩, h.1, h.2⟩
    · replace h := h.2 (of_decide_eq_false q9)
      refine aw_exit ?_
      refine aw_seq ?_
      refine aw_gh (gh_to (n := 35) (σ' := [(765, ⟨orows o765_1, []⟩), (5, ⟨[.hole], [(0, .ref 765)]⟩), (13, ⟨ints (backI (diag r)), []⟩), (2, ⟨[cnil], []⟩)]) (env' := [(2, .cell 2 0), (5, .cell 5 0)]) rfl rfl ⟨rfl, rfl, trivial⟩) ?_
      refine aw_region ?_
      refine run_s (ss_loadS rfl rfl rfl rfl) rfl ?_
      refine run_w (ws_storeS rfl rfl (Nat.le_of_ble_eq_true rfl) rfl rfl rfl ⟨rfl, ?_⟩)
      refine run_s (ss_assign rfl) rfl ?_
      refine run_nil ?_
      refine aw_ret ?_
      exact retAF_mk (retv2 rfl (rv_struct rfl rfl rfl) (rv_tmp rfl)) rfl rfl ⟨_, (cle_refl _), _, _, h, rfl⟩

theorem c_spec_QuandleOf (r : List (List Int)) (hp : small2 r) : AF Try.prog 31 [.agg [.lst (rows r)]] (fun R_ => R_ = .tup [.agg [.own (orows (QuaR r))], ci (rkE r)]) :=
  (w_spec_QuandleOf r (fun y0 y1 => y0 = QuaR r ∧ y1 = rkE r) (p_spec_QuandleOf r hp)).mono (by rintro r ⟨_, _, ⟨rfl, rfl⟩, rfl⟩; rfl)

set_option maxRecDepth 100000 in
set_option maxHeartbeats 1000000 in
theorem w_impl_QuandleOf (r : List (List Int)) (Q : List (List Int) → Int → Prop) (h : wp_impl_QuandleOf r Q) : AF Try.prog 32 [.agg [.lst (rows r)]] (fun R_ => ∃ y0 y1, Q y0 y1 ∧ R_ = .tup [.agg [.own (orows y0)], ci y1]) := by
  refine AF.ofWQ (af_enter (n := 18) Try.func32 rfl (by rfl) rfl (Nat.le_of_ble_eq_true rfl) ?_)
  unfold wp_impl_QuandleOf at h
  refine aw_seq ?_
  refine aw_gh (gh_to (n := 18) (σ' := []) (env' := [(0, .c (.agg [.lst (rows r)]))]) rfl rfl ⟨rfl, trivial⟩) ?_
  refine aw_region ?_
  refine run_w (ws_boxR rfl (.inl rfl) rfl ⟨rfl, ?_⟩)
  refine run_w (ws_alloc (id := 2) rfl (Nat.le_of_ble_eq_true rfl) ⟨rfl, ?_⟩)
  refine run_s (ss_assign rfl) rfl ?_
  refine run_nil ?_
  refine aw_seq ?_
  refine aw_seq ?_
  refine aw_region ?_
  refine run_s (ss_load_struct rfl (Nat.le_of_ble_eq_true rfl)) rfl ?_
  obtain ⟨q1, h⟩ := h
  refine run_w (ws_call (xs := [.tmp 5]) (ids := []) rfl rfl rfl rfl (c_impl_IsRack r q1) rfl ?_ )
  rintro _ rfl
  refine ⟨rfl, ?_⟩
  refine run_s (ss_not rfl) rfl ?_
  refine run_nil ?_
  refine aw_cond rfl (fun q3 => ?_) (fun q3 => ?_)
  · replace h := h.1 ((bnot_t q3))
    refine aw_seq ?_
    refine aw_gh (gh_to (n := 18) (σ' := [(2, ⟨[cnil], []⟩)]) (env' := [(2, .cell 2 0), (3, .c (ci 0))]) rfl rfl ⟨rfl, rfl, trivial⟩) ?_
    refine aw_region ?_
    refine run_s (ss_build0) rfl ?_
    refine run_w (ws_storeS rfl rfl (Nat.le_of_ble_eq_true rfl) rfl rfl rfl ⟨rfl, ?_⟩)
    refine run_s (ss_assign rfl) rfl ?_
    refine run_nil ?_
    refine aw_ret ?_
    exact retAF_mk (retv2 rfl (rv_struct rfl rfl rfl) (rv_tmp rfl)) rfl rfl ⟨_, (cle_tup (cleL_cons (cle_agg (cleL_cons cle_nilO cleL_nil)) (cleL_cons (cle_refl _) cleL_nil))), _, _, h, rfl⟩
  · replace h := h.2 ((bnot_f q3))
    refine aw_skip ?_
    refine aw_seq ?_
    refine aw_region ?_
    refine run_s (ss_load_struct rfl (Nat.le_of_ble_eq_true rfl)) rfl ?_
    obtain ⟨q4, h⟩ := h
    refine run_w (ws_call (xs := [.tmp 9]) (ids := [10]) rfl rfl rfl rfl (c_impl_kinkOf r q4) rfl ?_ )
    rintro _ rfl
    refine ⟨rfl, ?_⟩
    obtain ⟨q6, h⟩ := h
    refine run_w (ws_callR (xs := [.tmp 10]) (cs := [.own (ints (diag r))]) (ids := [11]) rfl (.inr ⟨rfl, rfl⟩) rfl rfl (fz_cons (fz_own (fz_map (fun _ => rfl) _)) fz_nil) (c_impl_inverse (diag r) q6) rfl ?_ )
    rintro _ rfl
    refine ⟨(slf_own (slfL_map (f := ci) (fun _ => rfl) _)), rfl, ?_⟩
    refine run_w (ws_alloc (id := 4) rfl (Nat.le_of_ble_eq_true rfl) ⟨rfl, ?_⟩)
    refine run_w (ws_store rfl rfl (Nat.le_of_ble_eq_true rfl) rfl rfl ⟨rfl, ?_⟩)
    refine run_nil ?_
    refine aw_seq ?_
    refine aw_gh (gh_to (n := 18) (σ' := [(4, ⟨[.hole], [(0, .ref 11)]⟩), (11, ⟨ints (backI (diag r)), []⟩), (10, ⟨ints (diag r), []⟩), (2, ⟨[cnil], []⟩)]) (env' := [(1, .c (.ptr [.lst (rows r)])), (2, .cell 2 0), (3, .c (ci 0)), (4, .cell 4 0)]) rfl rfl ⟨rfl, rfl, rfl, rfl, trivial⟩) ?_
    refine aw_region ?_
    refine run_s (ss_field_ptr rfl) rfl ?_
    refine run_s (ss_load_ptr rfl rfl) rfl ?_
    refine run_s (ss_lenL (f := (fun r => C.lst (ints r))) rfl) rfl ?_
    refine run_gh (gh_frzE (id := 11) ci rfl (fun _ => rfl)) ?_
    refine run_gh (gh_fillc (id := 4) (j := 0) rfl rfl (Nat.le_of_ble_eq_true rfl)) ?_
    refine run_gh (gh_freeze (id := 4) rfl rfl) ?_
    refine run_gh (gh_to (n := 18) (σ' := [(10, ⟨ints (diag r), []⟩), (2, ⟨[cnil], []⟩)]) (env' := [(1, .c (.ptr [.lst (rows r)])), (2, .cell 2 0), (3, .c (ci 0)), (4, .c (.ptr [.lst (ints (backI (diag r)))])), (12, .c (.ptr [.lst (rows r)])), (13, .c (.lst (rows r))), (14, .c (ci (r.length : Int)))]) rfl rfl ⟨rfl, rfl, rfl, rfl, rfl, rfl, rfl, trivial⟩) ?_
    refine run_s (ss_makeFunc (os := [.tmp 4, .tmp 1]) rfl) rfl ?_
    obtain ⟨q8, h⟩ := h
    refine run_w (ws_call (xs := [.tmp 14, .tmp 15]) (ids := [16]) rfl rfl rfl rfl (c_impl_tableBy (r.length : Int) 79 [.ptr [.lst (ints (backI (diag r)))], .ptr [.lst (rows r)]] (fun z0 z1 => el (backI (diag r)) (el (el r z0) z1)) (fun z0 z1 => isTab r = true ∧ ((backI (diag r)).length : Int) = (r.length : Int) ∧ 0 ≤ z0 ∧ z0 < (r.length : Int) ∧ 0 ≤ z1 ∧ z1 < (r.length : Int)) (fun z0 z1 hD => c_impl_QuandleOf_1 z0 z1 (backI (diag r)) r hD) q8) rfl ?_ )
    rintro _ rfl
    refine ⟨rfl, ?_⟩
    refine run_s (ss_build (ps := [(0, .tmp 16)]) rfl rfl) rfl ?_
    refine run_w (ws_storeS rfl rfl (Nat.le_of_ble_eq_true rfl) rfl rfl rfl ⟨rfl, ?_⟩)
    refine run_s (ss_assign rfl) rfl ?_
    refine run_nil ?_
    refine aw_ret ?_
    exact retAF_mk (retv2 rfl (rv_struct rfl rfl rfl) (rv_tmp rfl)) rfl rfl ⟨_, (cle_refl _), _, _, h, rfl⟩

theorem c_impl_QuandleOf (r : List (List Int)) (hp : small2 r) : AF Try.prog 32 [.agg [.lst (rows r)]] (fun R_ => R_ = .tup [.agg [.own (orows (QuaR r))], ci (rkE r)]) :=
  (w_impl_QuandleOf r (fun y0 y1 => y0 = QuaR r ∧ y1 = rkE r) (p_impl_QuandleOf r hp)).mono (by rintro r ⟨_, _, ⟨rfl, rfl⟩, rfl⟩; rfl)

end Go.Proofs.Ytgekmhiemakaaaa
