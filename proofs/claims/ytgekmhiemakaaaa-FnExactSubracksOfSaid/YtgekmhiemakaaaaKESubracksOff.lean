/- Contracts of functions that the law FnExactSubracksOf reaches: conditions, plain proofs, walks; no condition. -/
import Derived.Test.YtgekmhiemakaaaaKESubracksOfe
import Derived.Test.YtgekmhiemakaaaaPf
namespace Go.Proofs.Ytgekmhiemakaaaa

def wp_impl_isSubrack (r : List (List Int)) (list : List Int) (Q : Bool → Prop) : Prop :=
 ∃ (H1 : Int → Prop) (m1 : Int → Nat),
 H1 0 ∧
 ∀ (v11_1 : Int), H1 v11_1 →
 ( ((v11_1 < (list.length : Int) →
   (0 ≤ v11_1 ∧ v11_1 < (list.length : Int)) ∧
   ∃ (H2 : Int → Prop) (m2 : Int → Nat),
   H2 0 ∧
   ∀ (v17_2 : Int), H2 v17_2 →
   ( ((v17_2 < (list.length : Int) →
     (0 ≤ v17_2 ∧ v17_2 < (list.length : Int)) ∧
     (0 ≤ el list v11_1 ∧ el list v11_1 < (r.length : Int)) ∧
     (0 ≤ el list v17_2 ∧ el list v17_2 < ((el r (el list v11_1)).length : Int)) ∧
     (small list) ∧
     (((list.contains (el (el r (el list v11_1)) (el list v17_2))) = false →
      Q false) ∧
     ((list.contains (el (el r (el list v11_1)) (el list v17_2))) = true →
      (InI (v17_2 + 1)) ∧
      (H2 (v17_2 + 1) ∧ m2 (v17_2 + 1) < m2 v17_2)))) ∧
    (¬ (v17_2 < (list.length : Int)) →
     (InI (v11_1 + 1)) ∧
     (H1 (v11_1 + 1) ∧ m1 (v11_1 + 1) < m1 v11_1))))) ∧
  (¬ (v11_1 < (list.length : Int)) →
   Q true)))

def wp_spec_l04Closed (t : List (List Int)) (mask : Int) (Q : Bool → Prop) : Prop :=
 ∃ (H1 : Int → Prop) (m1 : Int → Nat),
 H1 0 ∧
 ∀ (v5_1 : Int), H1 v5_1 →
 ( ((v5_1 < (t.length : Int) →
   ∃ (H2 : Int → Prop) (m2 : Int → Nat),
   H2 0 ∧
   ∀ (v6_2 : Int), H2 v6_2 →
   ( ((v6_2 < (t.length : Int) →
     ((0 : Int) ≤ v5_1 ∧ v5_1 ≤ 18446744073709551615) ∧
     ((0 : Int) ≤ mask ∧ (0 : Int) ≤ v5_1 ∧ v5_1 ≤ 62) ∧
     ((0 : Int) ≤ mask / (2 : Int) ^ v5_1.toNat ∧ mask / (2 : Int) ^ v5_1.toNat ≤ 9223372036854775807) ∧
     (((mask / (2 : Int) ^ v5_1.toNat) % 2 = 1 →
      ((0 : Int) ≤ v6_2 ∧ v6_2 ≤ 18446744073709551615) ∧
      ((0 : Int) ≤ mask ∧ (0 : Int) ≤ v6_2 ∧ v6_2 ≤ 62) ∧
      ((0 : Int) ≤ mask / (2 : Int) ^ v6_2.toNat ∧ mask / (2 : Int) ^ v6_2.toNat ≤ 9223372036854775807) ∧
      (((mask / (2 : Int) ^ v6_2.toNat) % 2 = 1 →
       (0 ≤ v5_1 ∧ v5_1 < (t.length : Int)) ∧
       (0 ≤ v6_2 ∧ v6_2 < ((el t v5_1).length : Int)) ∧
       ((0 : Int) ≤ el (el t v5_1) v6_2 ∧ el (el t v5_1) v6_2 ≤ 18446744073709551615) ∧
       ((0 : Int) ≤ mask ∧ (0 : Int) ≤ el (el t v5_1) v6_2 ∧ el (el t v5_1) v6_2 ≤ 62) ∧
       ((0 : Int) ≤ mask / (2 : Int) ^ (el (el t v5_1) v6_2).toNat ∧ mask / (2 : Int) ^ (el (el t v5_1) v6_2).toNat ≤ 9223372036854775807) ∧
       (((mask / (2 : Int) ^ (el (el t v5_1) v6_2).toNat) % 2 = 0 →
        Q false) ∧
       (¬ ((mask / (2 : Int) ^ (el (el t v5_1) v6_2).toNat) % 2 = 0) →
        (InI (v6_2 + 1)) ∧
        (H2 (v6_2 + 1) ∧ m2 (v6_2 + 1) < m2 v6_2)))) ∧
      (¬ ((mask / (2 : Int) ^ v6_2.toNat) % 2 = 1) →
       (InI (v6_2 + 1)) ∧
       (H2 (v6_2 + 1) ∧ m2 (v6_2 + 1) < m2 v6_2)))) ∧
     (¬ ((mask / (2 : Int) ^ v5_1.toNat) % 2 = 1) →
      (InI (v6_2 + 1)) ∧
      (H2 (v6_2 + 1) ∧ m2 (v6_2 + 1) < m2 v6_2)))) ∧
    (¬ (v6_2 < (t.length : Int)) →
     (InI (v5_1 + 1)) ∧
     (H1 (v5_1 + 1) ∧ m1 (v5_1 + 1) < m1 v5_1))))) ∧
  (¬ (v5_1 < (t.length : Int)) →
   Q true)))

def wp_spec_SubracksOf (r : List (List Int)) (Q : List Int → Int → Prop) : Prop :=
 (small2 r) ∧
 (((isRk r) = false →
  Q ([]) 1) ∧
 ((isRk r) = true →
  ∃ (H1 : Int → List Int → Prop) (m1 : Int → List Int → Nat),
  H1 1 ([] : List Int) ∧
  ∀ (v5_1 : Int) (o9_1 : List Int), H1 v5_1 o9_1 →
  ( ((0 : Int) ≤ (r.length : Int) ∧ (r.length : Int) ≤ 18446744073709551615) ∧
   ((0 : Int) ≤ (r.length : Int) ∧ (r.length : Int) ≤ 62 ∧ InI (1 * (2 : Int) ^ (r.length : Int).toNat)) ∧
   ((v5_1 < 1 * (2 : Int) ^ (r.length : Int).toNat →
    (isTab r = true ∧ 0 ≤ v5_1 ∧ v5_1 ≤ 9223372036854775807) ∧
    (((dec (CloM r v5_1)) = true →
     ((o9_1.length : Int) + (([v5_1]).length : Int) ≤ 1000000000) ∧
     (InI (v5_1 + 1)) ∧
     (H1 (v5_1 + 1) (o9_1 ++ ([v5_1])) ∧ m1 (v5_1 + 1) (o9_1 ++ ([v5_1])) < m1 v5_1 o9_1)) ∧
    ((dec (CloM r v5_1)) = false →
     (InI (v5_1 + 1)) ∧
     (H1 (v5_1 + 1) o9_1 ∧ m1 (v5_1 + 1) o9_1 < m1 v5_1 o9_1)))) ∧
   (¬ (v5_1 < 1 * (2 : Int) ^ (r.length : Int).toNat) →
    Q o9_1 0)))))

def wp_impl_SubracksOf (r : List (List Int)) (Q : List Int → Int → Prop) : Prop :=
 (small2 r) ∧
 (((isRk r) = false →
  Q ([]) 1) ∧
 ((isRk r) = true →
  ∃ (H1 : Int → List Int → Prop) (m1 : Int → List Int → Nat),
  H1 1 ([] : List Int) ∧
  ∀ (v5_1 : Int) (o100004_1 : List Int), H1 v5_1 o100004_1 →
  ( ((0 : Int) ≤ (r.length : Int) ∧ (r.length : Int) ≤ 62 ∧ InI (1 * (2 : Int) ^ (r.length : Int).toNat)) ∧
   ((v5_1 < 1 * (2 : Int) ^ (r.length : Int).toNat →
    ∃ (H2 : Int → List Int → Prop) (m2 : Int → List Int → Nat),
    H2 0 ([] : List Int) ∧
    ∀ (v22_2 : Int) (o100006_2 : List Int), H2 v22_2 o100006_2 →
    ( ((v22_2 < (r.length : Int) →
      ((0 : Int) ≤ v5_1 ∧ (0 : Int) ≤ v22_2 ∧ v22_2 ≤ 62) ∧
      ((0 : Int) ≤ v5_1 / (2 : Int) ^ v22_2.toNat ∧ v5_1 / (2 : Int) ^ v22_2.toNat ≤ 9223372036854775807) ∧
      (((v5_1 / (2 : Int) ^ v22_2.toNat) % 2 = 1 →
       ((o100006_2.length : Int) + (([v22_2]).length : Int) ≤ 1000000000) ∧
       (InI (v22_2 + 1)) ∧
       (H2 (v22_2 + 1) (o100006_2 ++ ([v22_2])) ∧ m2 (v22_2 + 1) (o100006_2 ++ ([v22_2])) < m2 v22_2 o100006_2)) ∧
      (¬ ((v5_1 / (2 : Int) ^ v22_2.toNat) % 2 = 1) →
       (InI (v22_2 + 1)) ∧
       (H2 (v22_2 + 1) o100006_2 ∧ m2 (v22_2 + 1) o100006_2 < m2 v22_2 o100006_2)))) ∧
     (¬ (v22_2 < (r.length : Int)) →
      (isTab r = true ∧ small o100006_2 ∧ ∀ x_ ∈ o100006_2, 0 ≤ x_ ∧ x_ < (r.length : Int)) ∧
      (((dec (SubP r o100006_2)) = true →
       ((o100004_1.length : Int) + (([v5_1]).length : Int) ≤ 1000000000) ∧
       (InI (v5_1 + 1)) ∧
       (H1 (v5_1 + 1) (o100004_1 ++ ([v5_1])) ∧ m1 (v5_1 + 1) (o100004_1 ++ ([v5_1])) < m1 v5_1 o100004_1)) ∧
      ((dec (SubP r o100006_2)) = false →
       (InI (v5_1 + 1)) ∧
       (H1 (v5_1 + 1) o100004_1 ∧ m1 (v5_1 + 1) o100004_1 < m1 v5_1 o100004_1))))))) ∧
   (¬ (v5_1 < 1 * (2 : Int) ^ (r.length : Int).toNat) →
    Q o100004_1 0)))))


theorem p_impl_isSubrack (r : List (List Int)) (list : List Int) (hp : isTab r = true ∧ small list ∧ ∀ x_ ∈ list, 0 ≤ x_ ∧ x_ < (r.length : Int)) : wp_impl_isSubrack r list (fun y0 => y0 = dec (SubP r list)) := by
  unfold wp_impl_isSubrack
  obtain ⟨hr, hs, hl⟩ := hp
  have hs' : (list.length : Int) ≤ 1000000000 := hs
  refine ⟨fun i => 0 ≤ i ∧ i ≤ (list.length : Int) ∧ Upto i fun i => ∀ j, 0 ≤ j → j < (list.length : Int) → el (el r (el list i)) (el list j) ∈ list, fun i => ((list.length : Int) - i).toNat, ⟨by omega, by omega, upto0⟩, ?_⟩
  rintro i ⟨i0, i1, iI⟩
  dsimp only
  refine ⟨fun ilt => ⟨⟨i0, ilt⟩, ?_⟩, fun ige => ?_⟩
  · refine ⟨fun j => 0 ≤ j ∧ j ≤ (list.length : Int) ∧ Upto j fun j => el (el r (el list i)) (el list j) ∈ list, fun j => ((list.length : Int) - j).toNat, ⟨by omega, by omega, upto0⟩, ?_⟩
    rintro j ⟨j0, j1, jI⟩
    dsimp only
    refine ⟨fun jlt => ?_, fun jge => ⟨⟨by omega, by omega⟩, ⟨by omega, by omega, upto1 iI fun j a b => jI j a (by omega)⟩, by omega⟩⟩
    have hi := hl _ (el_mem (l := list) (i := i) ⟨i0, ilt⟩)
    have hj := hl _ (el_mem (l := list) (i := j) ⟨j0, jlt⟩)
    have ll := rk_len hr hi
    refine ⟨⟨j0, jlt⟩, hi, ⟨hj.1, by omega⟩, hs, fun h => ?_, fun h => ⟨⟨by omega, by omega⟩, ⟨by omega, by omega, upto1 jI (List.contains_iff_mem.1 h)⟩, by omega⟩⟩
    refine (dec_f fun hS => ?_).symm
    rw [List.contains_iff_mem.2 (hS _ (el_mem (l := list) (i := i) ⟨i0, ilt⟩) _ (el_mem (l := list) (i := j) ⟨j0, jlt⟩))] at h
    cases h
  · refine (dec_t fun x hx y hy => ?_).symm
    obtain ⟨a, ha, rfl⟩ := mem_el hx
    obtain ⟨b, hb, rfl⟩ := mem_el hy
    exact iI a ha.1 (by omega) b hb.1 hb.2
theorem p_spec_l04Closed (t : List (List Int)) (mask : Int) (hp : isTab t = true ∧ 0 ≤ mask ∧ mask ≤ 9223372036854775807) : wp_spec_l04Closed t mask (fun y0 => y0 = dec (CloM t mask)) := by
  unfold wp_spec_l04Closed
  obtain ⟨ht, hm⟩ := hp
  have hn := isTab_len ht
  refine ⟨fun x => 0 ≤ x ∧ x ≤ (t.length : Int) ∧ Upto x fun x => ∀ y, 0 ≤ y → y < (t.length : Int) → bitP mask x → bitP mask y → bitP mask (el (el t x) y), fun x => ((t.length : Int) - x).toNat, ⟨by omega, by omega, upto0⟩, ?_⟩
  rintro x ⟨x0, x1, xI⟩
  dsimp only
  refine ⟨fun xlt => ?_, fun xge => (dec_t fun x y a b c d => xI x a (by omega) y c d).symm⟩
  refine ⟨fun y => 0 ≤ y ∧ y ≤ (t.length : Int) ∧ Upto y fun y => bitP mask x → bitP mask y → bitP mask (el (el t x) y), fun y => ((t.length : Int) - y).toNat, ⟨by omega, by omega, upto0⟩, ?_⟩
  rintro y ⟨y0, y1, yI⟩
  dsimp only
  refine ⟨fun ylt => ?_, fun yge => ⟨⟨by omega, by omega⟩, ⟨by omega, by omega, upto1 xI fun y a b => yI y a (by omega)⟩, by omega⟩⟩
  have e := rk_el ht (x := x) (y := y) ⟨x0, xlt⟩ ⟨y0, ylt⟩
  have l := rk_len ht (x := x) ⟨x0, xlt⟩
  have st : (bitP mask x → bitP mask y → bitP mask (el (el t x) y)) → InI (y + 1) ∧ (0 ≤ y + 1 ∧ y + 1 ≤ (t.length : Int) ∧ Upto (y + 1) fun y => bitP mask x → bitP mask y → bitP mask (el (el t x) y)) ∧ ((t.length : Int) - (y + 1)).toNat < ((t.length : Int) - y).toNat := fun h => ⟨⟨by omega, by omega⟩, ⟨by omega, by omega, upto1 yI h⟩, by omega⟩
  refine ⟨⟨x0, by omega⟩, ⟨hm.1, x0, by omega⟩, dv2 hm, fun h1 => ⟨⟨y0, by omega⟩, ⟨hm.1, y0, by omega⟩, dv2 hm, fun h2 => ⟨⟨x0, xlt⟩, ⟨y0, by omega⟩, ⟨e.1, by omega⟩, ⟨hm.1, e.1, by omega⟩, dv2 hm, fun h3 => ?_, fun h3 => st fun _ _ => ?_⟩, fun h2 => st fun _ h => absurd h h2⟩, fun h1 => st fun h _ => absurd h h1⟩
  · refine (dec_f fun hC => ?_).symm
    have := hC x y x0 xlt y0 ylt h1 h2
    unfold bitP at this
    omega
  · unfold bitP; omega
theorem p_spec_SubracksOf (r : List (List Int)) (hp : small2 r) : wp_spec_SubracksOf r (fun y0 y1 => y0 = SubT r ∧ y1 = rkE r) := by
  unfold wp_spec_SubracksOf SubT rkE
  refine ⟨hp, fun h => by rw [h]; exact ⟨rfl, rfl⟩, fun h => ?_⟩
  rw [h]
  have ht := isRk_tab h
  have hn := isTab_len ht
  have p2 := pow2_le (k := r.length) (by omega)
  rw [Int.toNat_natCast, Int.one_mul]
  refine ⟨fun s o => 1 ≤ s ∧ s ≤ (2 : Int) ^ r.length ∧ o = subsI r s, fun s _ => ((2 : Int) ^ r.length - s).toNat, ⟨by omega, by omega, by rfl⟩, ?_⟩
  rintro s o ⟨s0, s1, rfl⟩
  dsimp only
  have ol := subsI_len r s
  refine ⟨⟨by omega, by omega⟩, ⟨by omega, by omega, by omega, by omega⟩, fun slt => ⟨⟨ht, by omega, by omega⟩, fun h1 => ⟨by simp; omega, ⟨by omega, by omega⟩, ⟨by omega, by omega, by rw [subsI_succ s0, h1]; rfl⟩, by omega⟩, fun h1 => ⟨⟨by omega, by omega⟩, ⟨by omega, by omega, by rw [subsI_succ s0, h1]; simp⟩, by omega⟩⟩, fun sge => ⟨by rw [show s = (2 : Int) ^ r.length by omega]; rfl, rfl⟩⟩
theorem p_impl_SubracksOf (r : List (List Int)) (hp : small2 r) : wp_impl_SubracksOf r (fun y0 y1 => y0 = SubT r ∧ y1 = rkE r) := by
  unfold wp_impl_SubracksOf SubT rkE
  refine ⟨hp, fun h => by rw [h]; exact ⟨rfl, rfl⟩, fun h => ?_⟩
  rw [h]
  have ht := isRk_tab h
  have hn := isTab_len ht
  have p2 := pow2_le (k := r.length) (by omega)
  rw [Int.toNat_natCast, Int.one_mul]
  refine ⟨fun s o => 1 ≤ s ∧ s ≤ (2 : Int) ^ r.length ∧ o = subsI r s, fun s _ => ((2 : Int) ^ r.length - s).toNat, ⟨by omega, by omega, by rfl⟩, ?_⟩
  rintro s o ⟨s0, s1, rfl⟩
  dsimp only
  have ol := subsI_len r s
  refine ⟨⟨by omega, by omega, by omega, by omega⟩, fun slt => ?_, fun sge => ⟨by rw [show s = (2 : Int) ^ r.length by omega]; rfl, rfl⟩⟩
  refine ⟨fun x o => 0 ≤ x ∧ x ≤ (r.length : Int) ∧ o = memI x s, fun x _ => ((r.length : Int) - x).toNat, ⟨by omega, by omega, rfl⟩, ?_⟩
  rintro x o ⟨x0, x1, rfl⟩
  dsimp only
  have ml := memI_len x s
  refine ⟨fun xlt => ⟨⟨by omega, x0, by omega⟩, dv2 ⟨by omega, by omega⟩, fun h1 => ⟨by simp; omega, ⟨by omega, by omega⟩, ⟨by omega, by omega, by rw [memI_succ x0, dec_t (P := bitP s x) h1]; rfl⟩, by omega⟩, fun h1 => ⟨⟨by omega, by omega⟩, ⟨by omega, by omega, by rw [memI_succ x0, dec_f (P := bitP s x) h1]; simp⟩, by omega⟩⟩, fun xge => ?_⟩
  have hx : x = (r.length : Int) := by omega
  subst hx
  rw [dec_congr (clo_sub ht s)]
  exact ⟨⟨ht, by show _ ≤ (1000000000 : Int); omega, fun y hy => (mem_memI.1 hy).1⟩, fun h1 => ⟨by simp; omega, ⟨by omega, by omega⟩, ⟨by omega, by omega, by rw [subsI_succ s0, h1]; rfl⟩, by omega⟩, fun h1 => ⟨⟨by omega, by omega⟩, ⟨by omega, by omega, by rw [subsI_succ s0, h1]; simp⟩, by omega⟩⟩

set_option maxRecDepth 100000 in
set_option maxHeartbeats 1000000 in
theorem w_impl_isSubrack (r : List (List Int)) (list : List Int) (Q : Bool → Prop) (h : wp_impl_isSubrack r list Q) : AF Try.prog 94 [.agg [.lst (rows r)], .lst (ints list)] (fun R_ => ∃ y0, Q y0 ∧ R_ = cb y0) := by
  refine AF.ofWQ (af_enter (n := 34) Try.func94 rfl (by rfl) rfl (Nat.le_of_ble_eq_true rfl) ?_)
  unfold wp_impl_isSubrack at h
  refine aw_seq ?_
  refine aw_gh (gh_to (n := 34) (σ' := []) (env' := [(0, .c (.agg [.lst (rows r)])), (1, .c (.lst (ints list)))]) rfl rfl ⟨rfl, rfl, trivial⟩) ?_
  refine aw_region ?_
  refine run_w (ws_boxR rfl (.inl rfl) rfl ⟨rfl, ?_⟩)
  refine run_s (ss_assign rfl) rfl ?_
  refine run_nil ?_
  refine aw_seq ?_
  refine aw_seq ?_
  refine aw_region ?_
  refine run_s (ss_move rfl) rfl ?_
  refine run_s (ss_lenL (f := ci) rfl) rfl ?_
  refine run_s (ss_move rfl) rfl ?_
  refine run_nil ?_
  refine aw_block ?_
  obtain ⟨H1, m1, q1, h⟩ := h
  refine aw_loop1 (fun (v11_1 : Int) => ⟨[], [(1, .c (.lst (ints list))), (2, .c (.ptr [.lst (rows r)])), (9, .c (.lst (ints list))), (10, .c (ci (list.length : Int))), (11, .c (ci v11_1))], 34⟩) H1 m1 ⟨0, ghe_to (n := 34) rfl rfl ⟨rfl, rfl, rfl, rfl, rfl, trivial⟩, q1⟩ ?_
  rintro v11_1 q1
  replace h := h v11_1 q1
  refine aw_seq ?_
  refine aw_region ?_
  refine run_s (ss_lss rfl rfl) rfl ?_
  refine run_nil ?_
  refine aw_seq ?_
  refine aw_cond rfl (fun q2 => ?_) (fun q2 => ?_)
  · replace h := h.1 (of_decide_eq_true q2)
    refine aw_skip ?_
    refine aw_seq ?_
    refine aw_block ?_
    refine aw_seq ?_
    refine aw_region ?_
    obtain ⟨q3, h⟩ := h
    refine run_s (ss_idxL rfl rfl q3) rfl ?_
    refine run_s (ss_loadL (f := ci) rfl q3) rfl ?_
    refine run_s (ss_assign rfl) rfl ?_
    refine run_nil ?_
    refine aw_seq ?_
    refine aw_region ?_
    refine run_s (ss_move rfl) rfl ?_
    refine run_s (ss_lenL (f := ci) rfl) rfl ?_
    refine run_s (ss_move rfl) rfl ?_
    refine run_nil ?_
    refine aw_block ?_
    obtain ⟨H2, m2, q4, h⟩ := h
    refine aw_loop1 (fun (v17_2 : Int) => ⟨[], [(1, .c (.lst (ints list))), (2, .c (.ptr [.lst (rows r)])), (6, .c (ci (el list v11_1))), (9, .c (.lst (ints list))), (10, .c (ci (list.length : Int))), (11, .c (ci v11_1)), (15, .c (.lst (ints list))), (16, .c (ci (list.length : Int))), (17, .c (ci v17_2))], 34⟩) H2 m2 ⟨0, ghe_to (n := 34) rfl rfl ⟨rfl, rfl, rfl, rfl, rfl, rfl, rfl, rfl, rfl, trivial⟩, q4⟩ ?_
    rintro v17_2 q4
    replace h := h v17_2 q4
    refine aw_seq ?_
    refine aw_region ?_
    refine run_s (ss_lss rfl rfl) rfl ?_
    refine run_nil ?_
    refine aw_seq ?_
    refine aw_cond rfl (fun q5 => ?_) (fun q5 => ?_)
    · replace h := h.1 (of_decide_eq_true q5)
      refine aw_skip ?_
      refine aw_seq ?_
      refine aw_block ?_
      refine aw_seq ?_
      refine aw_region ?_
      obtain ⟨q6, h⟩ := h
      refine run_s (ss_idxL rfl rfl q6) rfl ?_
      refine run_s (ss_loadL (f := ci) rfl q6) rfl ?_
      refine run_s (ss_assign rfl) rfl ?_
      refine run_nil ?_
      refine aw_seq ?_
      refine aw_region ?_
      refine run_s (ss_move rfl) rfl ?_
      refine run_s (ss_field_ptr rfl) rfl ?_
      refine run_s (ss_load_ptr rfl rfl) rfl ?_
      refine run_s (ss_move rfl) rfl ?_
      obtain ⟨q7, h⟩ := h
      refine run_s (ss_idxL rfl rfl q7) rfl ?_
      refine run_s (ss_loadL (f := (fun r => C.lst (ints r))) rfl q7) rfl ?_
      refine run_s (ss_move rfl) rfl ?_
      obtain ⟨q8, h⟩ := h
      refine run_s (ss_idxL rfl rfl q8) rfl ?_
      refine run_s (ss_loadL (f := ci) rfl q8) rfl ?_
      obtain ⟨q9, h⟩ := h
      refine run_w (ws_call (xs := [.tmp 21, .tmp 29]) (ids := []) rfl rfl rfl rfl (c_k_Contains list (el (el r (el list v11_1)) (el list v17_2)) q9) rfl ?_ )
      rintro _ rfl
      refine ⟨rfl, ?_⟩
      refine run_s (ss_not rfl) rfl ?_
      refine run_nil ?_
      refine aw_cond rfl (fun q11 => ?_) (fun q11 => ?_)
      · replace h := h.1 ((bnot_t q11))
        refine aw_seq ?_
        refine aw_gh (gh_to (n := 34) (σ' := []) (env' := []) rfl rfl trivial) ?_
        refine aw_region ?_
        refine run_s (ss_assign rfl) rfl ?_
        refine run_nil ?_
        refine aw_ret ?_
        exact retAF_mk (retv1 rfl (rv_tmp rfl)) rfl rfl ⟨_, (cle_refl _), _, h, rfl⟩
      · replace h := h.2 ((bnot_f q11))
        refine aw_skip ?_
        refine aw_gh (gh_to (n := 34) (σ' := []) (env' := [(1, .c (.lst (ints list))), (2, .c (.ptr [.lst (rows r)])), (6, .c (ci (el list v11_1))), (9, .c (.lst (ints list))), (10, .c (ci (list.length : Int))), (11, .c (ci v11_1)), (15, .c (.lst (ints list))), (16, .c (ci (list.length : Int))), (17, .c (ci v17_2))]) rfl rfl ⟨rfl, rfl, rfl, rfl, rfl, rfl, rfl, rfl, rfl, trivial⟩) ?_
        refine aw_region ?_
        obtain ⟨q12, h⟩ := h
        refine run_s (ss_add rfl rfl q12) rfl ?_
        refine run_s (ss_move rfl) rfl ?_
        refine run_nil ?_
        exact ⟨v17_2 + 1, ghe_to (n := 34) rfl rfl ⟨rfl, rfl, rfl, rfl, rfl, rfl, rfl, rfl, rfl, trivial⟩, h.1, h.2⟩
    · replace h := h.2 (of_decide_eq_false q5)
      refine aw_exit ?_
      refine aw_gh (gh_to (n := 34) (σ' := []) (env' := [(1, .c (.lst (ints list))), (2, .c (.ptr [.lst (rows r)])), (9, .c (.lst (ints list))), (10, .c (ci (list.length : Int))), (11, .c (ci v11_1))]) rfl rfl ⟨rfl, rfl, rfl, rfl, rfl, trivial⟩) ?_
      refine aw_region ?_
      obtain ⟨q13, h⟩ := h
      refine run_s (ss_add rfl rfl q13) rfl ?_
      refine run_s (ss_move rfl) rfl ?_
      refine run_nil ?_
      exact ⟨v11_1 + 1, ghe_to (n := 34) rfl rfl ⟨rfl, rfl, rfl, rfl, rfl, trivial⟩, h.1, h.2⟩
  · replace h := h.2 (of_decide_eq_false q2)
    refine aw_exit ?_
    refine aw_seq ?_
    refine aw_gh (gh_to (n := 34) (σ' := []) (env' := []) rfl rfl trivial) ?_
    refine aw_region ?_
    refine run_s (ss_assign rfl) rfl ?_
    refine run_nil ?_
    refine aw_ret ?_
    exact retAF_mk (retv1 rfl (rv_tmp rfl)) rfl rfl ⟨_, (cle_refl _), _, h, rfl⟩

theorem c_impl_isSubrack (r : List (List Int)) (list : List Int) (hp : isTab r = true ∧ small list ∧ ∀ x_ ∈ list, 0 ≤ x_ ∧ x_ < (r.length : Int)) : AF Try.prog 94 [.agg [.lst (rows r)], .lst (ints list)] (fun R_ => R_ = cb (dec (SubP r list))) :=
  (w_impl_isSubrack r list (fun y0 => y0 = dec (SubP r list)) (p_impl_isSubrack r list hp)).mono (by rintro r ⟨_, rfl, rfl⟩; rfl)

set_option maxRecDepth 100000 in
set_option maxHeartbeats 1000000 in
theorem w_spec_l04Closed (t : List (List Int)) (mask : Int) (Q : Bool → Prop) (h : wp_spec_l04Closed t mask Q) : AF Try.prog 93 [.lst (rows t), ci mask] (fun R_ => ∃ y0, Q y0 ∧ R_ = cb y0) := by
  refine AF.ofWQ (af_enter (n := 47) Try.func93 rfl (by rfl) rfl (Nat.le_of_ble_eq_true rfl) ?_)
  unfold wp_spec_l04Closed at h
  refine aw_seq ?_
  refine aw_gh (gh_to (n := 47) (σ' := []) (env' := [(0, .c (.lst (rows t))), (1, .c (ci mask))]) rfl rfl ⟨rfl, rfl, trivial⟩) ?_
  refine aw_region ?_
  refine run_s (ss_assign rfl) rfl ?_
  refine run_nil ?_
  refine aw_seq ?_
  refine aw_seq ?_
  refine aw_region ?_
  refine run_s (ss_assign rfl) rfl ?_
  refine run_nil ?_
  refine aw_block ?_
  obtain ⟨H1, m1, q1, h⟩ := h
  refine aw_loop1 (fun (v5_1 : Int) => ⟨[], [(0, .c (.lst (rows t))), (1, .c (ci mask)), (5, .c (ci v5_1))], 47⟩) H1 m1 ⟨0, ghe_to (n := 47) rfl rfl ⟨rfl, rfl, rfl, trivial⟩, q1⟩ ?_
  rintro v5_1 q1
  replace h := h v5_1 q1
  refine aw_seq ?_
  refine aw_seq ?_
  refine aw_region ?_
  refine run_s (ss_move rfl) rfl ?_
  refine run_s (ss_move rfl) rfl ?_
  refine run_s (ss_lenL (f := (fun r => C.lst (ints r))) rfl) rfl ?_
  refine run_s (ss_lss rfl rfl) rfl ?_
  refine run_nil ?_
  refine aw_cond rfl (fun q2 => ?_) (fun q2 => ?_)
  · replace h := h.1 (of_decide_eq_true q2)
    refine aw_skip ?_
    refine aw_seq ?_
    refine aw_block ?_
    refine aw_seq ?_
    refine aw_region ?_
    refine run_s (ss_assign rfl) rfl ?_
    refine run_nil ?_
    refine aw_block ?_
    obtain ⟨H2, m2, q3, h⟩ := h
    refine aw_loop1 (fun (v6_2 : Int) => ⟨[], [(0, .c (.lst (rows t))), (1, .c (ci mask)), (5, .c (ci v5_1)), (6, .c (ci v6_2))], 47⟩) H2 m2 ⟨0, ghe_to (n := 47) rfl rfl ⟨rfl, rfl, rfl, rfl, trivial⟩, q3⟩ ?_
    rintro v6_2 q3
    replace h := h v6_2 q3
    refine aw_seq ?_
    refine aw_seq ?_
    refine aw_region ?_
    refine run_s (ss_move rfl) rfl ?_
    refine run_s (ss_move rfl) rfl ?_
    refine run_s (ss_lenL (f := (fun r => C.lst (ints r))) rfl) rfl ?_
    refine run_s (ss_lss rfl rfl) rfl ?_
    refine run_nil ?_
    refine aw_cond rfl (fun q4 => ?_) (fun q4 => ?_)
    · replace h := h.1 (of_decide_eq_true q4)
      refine aw_skip ?_
      refine aw_seq ?_
      refine aw_block ?_
      refine aw_seq ?_
      refine aw_region ?_
      refine run_s (ss_move rfl) rfl ?_
      refine run_s (ss_move rfl) rfl ?_
      obtain ⟨q5, h⟩ := h
      refine run_s (ss_convert rfl (IntWalk.u64_in _ q5)) rfl ?_
      obtain ⟨q6, h⟩ := h
      refine run_s (ss_shr rfl rfl q6) rfl ?_
      obtain ⟨q7, h⟩ := h
      refine run_s (ss_and1 rfl rfl q7) rfl ?_
      refine run_s (ss_eql rfl rfl) rfl ?_
      refine run_s (ss_move rfl) rfl ?_
      refine run_split (s := 25) rfl (fun q8 => ?_) (fun q8 => ?_)
      · replace h := h.1 (of_decide_eq_true q8)
        refine run_gt rfl rfl q8 ?_
        refine run_s (ss_move rfl) rfl ?_
        refine run_gt rfl rfl q8 ?_
        refine run_s (ss_move rfl) rfl ?_
        refine run_gt rfl rfl q8 ?_
        obtain ⟨q9, h⟩ := h
        refine run_s (ss_convert rfl (IntWalk.u64_in _ q9)) rfl ?_
        refine run_gt rfl rfl q8 ?_
        obtain ⟨q10, h⟩ := h
        refine run_s (ss_shr rfl rfl q10) rfl ?_
        refine run_gt rfl rfl q8 ?_
        obtain ⟨q11, h⟩ := h
        refine run_s (ss_and1 rfl rfl q11) rfl ?_
        refine run_gt rfl rfl q8 ?_
        refine run_s (ss_eql rfl rfl) rfl ?_
        refine run_s (ss_pickT rfl q8 rfl) rfl ?_
        refine run_s (ss_move rfl) rfl ?_
        refine run_split (s := 33) rfl (fun q12 => ?_) (fun q12 => ?_)
        · replace h := h.1 (of_decide_eq_true q12)
          refine run_gt rfl rfl q12 ?_
          refine run_s (ss_move rfl) rfl ?_
          refine run_gt rfl rfl q12 ?_
          refine run_s (ss_move rfl) rfl ?_
          refine run_gt rfl rfl q12 ?_
          refine run_s (ss_move rfl) rfl ?_
          refine run_gt rfl rfl q12 ?_
          obtain ⟨q13, h⟩ := h
          refine run_s (ss_idxL rfl rfl q13) rfl ?_
          refine run_gt rfl rfl q12 ?_
          refine run_s (ss_loadL (f := (fun r => C.lst (ints r))) rfl q13) rfl ?_
          refine run_gt rfl rfl q12 ?_
          refine run_s (ss_move rfl) rfl ?_
          refine run_gt rfl rfl q12 ?_
          obtain ⟨q14, h⟩ := h
          refine run_s (ss_idxL rfl rfl q14) rfl ?_
          refine run_gt rfl rfl q12 ?_
          refine run_s (ss_loadL (f := ci) rfl q14) rfl ?_
          refine run_gt rfl rfl q12 ?_
          obtain ⟨q15, h⟩ := h
          refine run_s (ss_convert rfl (IntWalk.u64_in _ q15)) rfl ?_
          refine run_gt rfl rfl q12 ?_
          obtain ⟨q16, h⟩ := h
          refine run_s (ss_shr rfl rfl q16) rfl ?_
          refine run_gt rfl rfl q12 ?_
          obtain ⟨q17, h⟩ := h
          refine run_s (ss_and1 rfl rfl q17) rfl ?_
          refine run_gt rfl rfl q12 ?_
          refine run_s (ss_eql rfl rfl) rfl ?_
          refine run_s (ss_pickT rfl q12 rfl) rfl ?_
          refine run_nil ?_
          refine aw_cond rfl (fun q18 => ?_) (fun q18 => ?_)
          · replace h := h.1 (of_decide_eq_true q18)
            refine aw_seq ?_
            refine aw_gh (gh_to (n := 47) (σ' := []) (env' := []) rfl rfl trivial) ?_
            refine aw_region ?_
            refine run_s (ss_assign rfl) rfl ?_
            refine run_nil ?_
            refine aw_ret ?_
            exact retAF_mk (retv1 rfl (rv_tmp rfl)) rfl rfl ⟨_, (cle_refl _), _, h, rfl⟩
          · replace h := h.2 (of_decide_eq_false q18)
            refine aw_skip ?_
            refine aw_gh (gh_to (n := 47) (σ' := []) (env' := [(0, .c (.lst (rows t))), (1, .c (ci mask)), (5, .c (ci v5_1)), (6, .c (ci v6_2)), (26, .c (ci mask)), (27, .c (ci v6_2)), (28, .c (.val (.int .u64 v6_2))), (29, .c (ci (mask / (2 : Int) ^ v6_2.toNat))), (30, .c (ci ((mask / (2 : Int) ^ v6_2.toNat) % 2))), (31, .c (cb (decide ((mask / (2 : Int) ^ v6_2.toNat) % 2 = 1)))), (34, .c (ci mask)), (35, .c (.lst (rows t))), (36, .c (ci v5_1)), (37, .c (.ptr ((rows t).drop v5_1.toNat))), (38, .c (.lst (ints (el t v5_1)))), (39, .c (ci v6_2)), (40, .c (.ptr ((ints (el t v5_1)).drop v6_2.toNat))), (41, .c (ci (el (el t v5_1) v6_2))), (42, .c (.val (.int .u64 (el (el t v5_1) v6_2)))), (43, .c (ci (mask / (2 : Int) ^ (el (el t v5_1) v6_2).toNat))), (44, .c (ci ((mask / (2 : Int) ^ (el (el t v5_1) v6_2).toNat) % 2))), (45, .c (cb (decide ((mask / (2 : Int) ^ (el (el t v5_1) v6_2).toNat) % 2 = 0))))]) rfl rfl ⟨rfl, rfl, rfl, rfl, rfl, rfl, rfl, rfl, rfl, rfl, rfl, rfl, rfl, rfl, rfl, rfl, rfl, rfl, rfl, rfl, rfl, rfl, trivial⟩) ?_
            refine aw_region ?_
            refine run_s (ss_move rfl) rfl ?_
            obtain ⟨q19, h⟩ := h
            refine run_s (ss_add rfl rfl q19) rfl ?_
            refine run_s (ss_assign rfl) rfl ?_
            refine run_nil ?_
            exact ⟨v6_2 + 1, ghe_to (n := 47) rfl rfl ⟨rfl, rfl, rfl, rfl, trivial⟩, h.1, h.2⟩
        · replace h := h.2 (of_decide_eq_false q12)
          refine run_gf rfl rfl q12 rfl ?_
          refine run_gf rfl rfl q12 rfl ?_
          refine run_gf rfl rfl q12 rfl ?_
          refine run_gf rfl rfl q12 rfl ?_
          refine run_gf rfl rfl q12 rfl ?_
          refine run_gf rfl rfl q12 rfl ?_
          refine run_gf rfl rfl q12 rfl ?_
          refine run_gf rfl rfl q12 rfl ?_
          refine run_gf rfl rfl q12 rfl ?_
          refine run_gf rfl rfl q12 rfl ?_
          refine run_gf rfl rfl q12 rfl ?_
          refine run_gf rfl rfl q12 rfl ?_
          refine run_s (ss_pickF rfl q12 rfl) rfl ?_
          refine run_nil ?_
          refine aw_cond rfl (fun q20 => ?_) (fun q20 => ?_)
          · cases q20
          · skip
            refine aw_skip ?_
            refine aw_gh (gh_to (n := 47) (σ' := []) (env' := [(0, .c (.lst (rows t))), (1, .c (ci mask)), (5, .c (ci v5_1)), (6, .c (ci v6_2)), (26, .c (ci mask)), (27, .c (ci v6_2)), (28, .c (.val (.int .u64 v6_2))), (29, .c (ci (mask / (2 : Int) ^ v6_2.toNat))), (30, .c (ci ((mask / (2 : Int) ^ v6_2.toNat) % 2))), (31, .c (cb (decide ((mask / (2 : Int) ^ v6_2.toNat) % 2 = 1))))]) rfl rfl ⟨rfl, rfl, rfl, rfl, rfl, rfl, rfl, rfl, rfl, rfl, trivial⟩) ?_
            refine aw_region ?_
            refine run_s (ss_move rfl) rfl ?_
            obtain ⟨q21, h⟩ := h
            refine run_s (ss_add rfl rfl q21) rfl ?_
            refine run_s (ss_assign rfl) rfl ?_
            refine run_nil ?_
            exact ⟨v6_2 + 1, ghe_to (n := 47) rfl rfl ⟨rfl, rfl, rfl, rfl, trivial⟩, h.1, h.2⟩
      · replace h := h.2 (of_decide_eq_false q8)
        refine run_gf rfl rfl q8 rfl ?_
        refine run_gf rfl rfl q8 rfl ?_
        refine run_gf rfl rfl q8 rfl ?_
        refine run_gf rfl rfl q8 rfl ?_
        refine run_gf rfl rfl q8 rfl ?_
        refine run_gf rfl rfl q8 rfl ?_
        refine run_s (ss_pickF rfl q8 rfl) rfl ?_
        refine run_s (ss_move rfl) rfl ?_
        refine run_split (s := 33) rfl (fun q22 => ?_) (fun q22 => ?_)
        · cases q22
        · skip
          refine run_gf rfl rfl q22 rfl ?_
          refine run_gf rfl rfl q22 rfl ?_
          refine run_gf rfl rfl q22 rfl ?_
          refine run_gf rfl rfl q22 rfl ?_
          refine run_gf rfl rfl q22 rfl ?_
          refine run_gf rfl rfl q22 rfl ?_
          refine run_gf rfl rfl q22 rfl ?_
          refine run_gf rfl rfl q22 rfl ?_
          refine run_gf rfl rfl q22 rfl ?_
          refine run_gf rfl rfl q22 rfl ?_
          refine run_gf rfl rfl q22 rfl ?_
          refine run_gf rfl rfl q22 rfl ?_
          refine run_s (ss_pickF rfl q22 rfl) rfl ?_
          refine run_nil ?_
          refine aw_cond rfl (fun q23 => ?_) (fun q23 => ?_)
          · cases q23
          · skip
            refine aw_skip ?_
            refine aw_gh (gh_to (n := 47) (σ' := []) (env' := [(0, .c (.lst (rows t))), (1, .c (ci mask)), (5, .c (ci v5_1)), (6, .c (ci v6_2))]) rfl rfl ⟨rfl, rfl, rfl, rfl, trivial⟩) ?_
            refine aw_region ?_
            refine run_s (ss_move rfl) rfl ?_
            obtain ⟨q24, h⟩ := h
            refine run_s (ss_add rfl rfl q24) rfl ?_
            refine run_s (ss_assign rfl) rfl ?_
            refine run_nil ?_
            exact ⟨v6_2 + 1, ghe_to (n := 47) rfl rfl ⟨rfl, rfl, rfl, rfl, trivial⟩, h.1, h.2⟩
    · replace h := h.2 (of_decide_eq_false q4)
      refine aw_exit ?_
      refine aw_region ?_
      refine run_s (ss_move rfl) rfl ?_
      obtain ⟨q25, h⟩ := h
      refine run_s (ss_add rfl rfl q25) rfl ?_
      refine run_s (ss_assign rfl) rfl ?_
      refine run_nil ?_
      exact ⟨v5_1 + 1, ghe_to (n := 47) rfl rfl ⟨rfl, rfl, rfl, trivial⟩, h.1, h.2⟩
  · replace h := h.2 (of_decide_eq_false q2)
    refine aw_exit ?_
    refine aw_seq ?_
    refine aw_gh (gh_to (n := 47) (σ' := []) (env' := []) rfl rfl trivial) ?_
    refine aw_region ?_
    refine run_s (ss_assign rfl) rfl ?_
    refine run_nil ?_
    refine aw_ret ?_
    exact retAF_mk (retv1 rfl (rv_tmp rfl)) rfl rfl ⟨_, (cle_refl _), _, h, rfl⟩

theorem c_spec_l04Closed (t : List (List Int)) (mask : Int) (hp : isTab t = true ∧ 0 ≤ mask ∧ mask ≤ 9223372036854775807) : AF Try.prog 93 [.lst (rows t), ci mask] (fun R_ => R_ = cb (dec (CloM t mask))) :=
  (w_spec_l04Closed t mask (fun y0 => y0 = dec (CloM t mask)) (p_spec_l04Closed t mask hp)).mono (by rintro r ⟨_, rfl, rfl⟩; rfl)

set_option maxRecDepth 100000 in
set_option maxHeartbeats 1000000 in
theorem w_spec_SubracksOf (r : List (List Int)) (Q : List Int → Int → Prop) (h : wp_spec_SubracksOf r Q) : AF Try.prog 49 [.agg [.lst (rows r)]] (fun R_ => ∃ y0 y1, Q y0 y1 ∧ R_ = .tup [.own (ints y0), ci y1]) := by
  refine AF.ofWQ (af_enter (n := 28) Try.func49 rfl (by rfl) rfl (Nat.le_of_ble_eq_true rfl) ?_)
  unfold wp_spec_SubracksOf at h
  refine aw_seq ?_
  refine aw_gh (gh_to (n := 28) (σ' := []) (env' := [(0, .c (.agg [.lst (rows r)]))]) rfl rfl ⟨rfl, trivial⟩) ?_
  refine aw_region ?_
  refine run_w (ws_boxR rfl (.inl rfl) rfl ⟨rfl, ?_⟩)
  refine run_s (ss_assign rfl) rfl ?_
  refine run_s (ss_assign rfl) rfl ?_
  refine run_nil ?_
  refine aw_seq ?_
  refine aw_seq ?_
  refine aw_region ?_
  refine run_s (ss_load_struct rfl (Nat.le_of_ble_eq_true rfl)) rfl ?_
  obtain ⟨q1, h⟩ := h
  refine run_w (ws_call (xs := [.tmp 6]) (ids := []) rfl rfl rfl rfl (c_spec_l03Is r q1) rfl ?_ )
  rintro _ rfl
  refine ⟨rfl, ?_⟩
  refine run_s (ss_not rfl) rfl ?_
  refine run_nil ?_
  refine aw_cond rfl (fun q3 => ?_) (fun q3 => ?_)
  · replace h := h.1 ((bnot_t q3))
    refine aw_seq ?_
    refine aw_gh (gh_to (n := 28) (σ' := []) (env' := [(2, .c (cnil)), (3, .c (ci 0))]) rfl rfl ⟨rfl, rfl, trivial⟩) ?_
    refine aw_region ?_
    refine run_s (ss_assign rfl) rfl ?_
    refine run_s (ss_assign rfl) rfl ?_
    refine run_nil ?_
    refine aw_ret ?_
    exact retAF_mk (retv2 rfl (rv_tmp rfl) (rv_tmp rfl)) rfl rfl ⟨_, (cle_tup (cleL_cons cle_nilO (cleL_cons (cle_refl _) cleL_nil))), _, _, h, rfl⟩
  · replace h := h.2 ((bnot_f q3))
    refine aw_skip ?_
    refine aw_seq ?_
    refine aw_gh (gh_to (n := 28) (σ' := []) (env' := [(1, .c (.ptr [.lst (rows r)]))]) rfl rfl ⟨rfl, trivial⟩) ?_
    refine aw_region ?_
    refine run_w (ws_buildSlice (id := 9) (ps := []) rfl rfl (Nat.le_of_ble_eq_true rfl) rfl ⟨rfl, ?_⟩)
    refine run_s (ss_assign rfl) rfl ?_
    refine run_nil ?_
    refine aw_seq ?_
    refine aw_seq ?_
    refine aw_region ?_
    refine run_s (ss_assign rfl) rfl ?_
    refine run_nil ?_
    refine aw_block ?_
    obtain ⟨H1, m1, q4, h⟩ := h
    refine aw_loop2 (fun (v5_1 : Int) (o9_1 : List Int) => ⟨[(9, ⟨ints o9_1, []⟩)], [(1, .c (.ptr [.lst (rows r)])), (4, .ref 9), (5, .c (ci v5_1))], 28⟩) H1 m1 ⟨1, ([] : List Int), ghe_to (n := 28) rfl rfl ⟨rfl, rfl, rfl, trivial⟩, q4⟩ ?_
    rintro v5_1 o9_1 q4
    replace h := h v5_1 o9_1 q4
    refine aw_seq ?_
    refine aw_seq ?_
    refine aw_region ?_
    refine run_s (ss_move rfl) rfl ?_
    refine run_s (ss_field_ptr rfl) rfl ?_
    refine run_s (ss_load_ptr rfl rfl) rfl ?_
    refine run_s (ss_lenL (f := (fun r => C.lst (ints r))) rfl) rfl ?_
    obtain ⟨q5, h⟩ := h
    refine run_s (ss_convert rfl (IntWalk.u64_in _ q5)) rfl ?_
    obtain ⟨q6, h⟩ := h
    refine run_s (ss_shl rfl rfl q6) rfl ?_
    refine run_s (ss_lss rfl rfl) rfl ?_
    refine run_nil ?_
    refine aw_cond rfl (fun q7 => ?_) (fun q7 => ?_)
    · replace h := h.1 (of_decide_eq_true q7)
      refine aw_skip ?_
      refine aw_seq ?_
      refine aw_block ?_
      refine aw_seq ?_
      refine aw_gh (gh_to (n := 28) (σ' := [(9, ⟨ints o9_1, []⟩)]) (env' := [(1, .c (.ptr [.lst (rows r)])), (4, .ref 9), (5, .c (ci v5_1))]) rfl rfl ⟨rfl, rfl, rfl, trivial⟩) ?_
      refine aw_region ?_
      refine run_s (ss_field_ptr rfl) rfl ?_
      refine run_s (ss_load_ptr rfl rfl) rfl ?_
      refine run_s (ss_move rfl) rfl ?_
      obtain ⟨q8, h⟩ := h
      refine run_w (ws_call (xs := [.tmp 20, .tmp 21]) (ids := []) rfl rfl rfl rfl (c_spec_l04Closed r v5_1 q8) rfl ?_ )
      rintro _ rfl
      refine ⟨rfl, ?_⟩
      refine run_nil ?_
      refine aw_cond rfl (fun q10 => ?_) (fun q10 => ?_)
      · replace h := h.1 (q10)
        refine aw_region ?_
        refine run_s (ss_move rfl) rfl ?_
        refine run_s (ss_move rfl) rfl ?_
        refine run_w (ws_buildSlice (id := 25) (ps := [(0, .tmp 24)]) rfl rfl (Nat.le_of_ble_eq_true rfl) rfl ⟨rfl, ?_⟩)
        obtain ⟨q11, h⟩ := h
        refine run_w (ws_app1 ci (l := o9_1) (m := [v5_1]) rfl rfl rfl rfl rfl (Nat.le_of_ble_eq_true rfl) q11 ⟨rfl, ?_⟩)
        refine run_s (ss_assign rfl) rfl ?_
        refine run_nil ?_
        refine aw_gh (gh_to (n := 28) (σ' := [(9, ⟨ints (o9_1 ++ ([v5_1])), []⟩)]) (env' := [(1, .c (.ptr [.lst (rows r)])), (4, .ref 9), (5, .c (ci v5_1))]) rfl rfl ⟨rfl, rfl, rfl, trivial⟩) ?_
        refine aw_region ?_
        refine run_s (ss_move rfl) rfl ?_
        obtain ⟨q12, h⟩ := h
        refine run_s (ss_add rfl rfl q12) rfl ?_
        refine run_s (ss_assign rfl) rfl ?_
        refine run_nil ?_
        exact ⟨v5_1 + 1, o9_1 ++ ([v5_1]), ghe_to (n := 28) rfl rfl ⟨rfl, rfl, rfl, trivial⟩, h.1, h.2⟩
      · replace h := h.2 (q10)
        refine aw_skip ?_
        refine aw_region ?_
        refine run_s (ss_move rfl) rfl ?_
        obtain ⟨q13, h⟩ := h
        refine run_s (ss_add rfl rfl q13) rfl ?_
        refine run_s (ss_assign rfl) rfl ?_
        refine run_nil ?_
        exact ⟨v5_1 + 1, o9_1, ghe_to (n := 28) rfl rfl ⟨rfl, rfl, rfl, trivial⟩, h.1, h.2⟩
    · replace h := h.2 (of_decide_eq_false q7)
      refine aw_exit ?_
      refine aw_seq ?_
      refine aw_gh (gh_to (n := 28) (σ' := [(9, ⟨ints o9_1, []⟩)]) (env' := [(4, .ref 9)]) rfl rfl ⟨rfl, trivial⟩) ?_
      refine aw_region ?_
      refine run_s (ss_move rfl) rfl ?_
      refine run_s (ss_assign rfl) rfl ?_
      refine run_s (ss_assign rfl) rfl ?_
      refine run_nil ?_
      refine aw_ret ?_
      exact retAF_mk (retv2 rfl (rv_tmp rfl) (rv_tmp rfl)) rfl rfl ⟨_, (cle_refl _), _, _, h, rfl⟩

theorem c_spec_SubracksOf (r : List (List Int)) (hp : small2 r) : AF Try.prog 49 [.agg [.lst (rows r)]] (fun R_ => R_ = .tup [.own (ints (SubT r)), ci (rkE r)]) :=
  (w_spec_SubracksOf r (fun y0 y1 => y0 = SubT r ∧ y1 = rkE r) (p_spec_SubracksOf r hp)).mono (by rintro r ⟨_, _, ⟨rfl, rfl⟩, rfl⟩; rfl)

set_option maxRecDepth 100000 in
set_option maxHeartbeats 1000000 in
theorem w_impl_SubracksOf (r : List (List Int)) (Q : List Int → Int → Prop) (h : wp_impl_SubracksOf r Q) : AF Try.prog 50 [.agg [.lst (rows r)]] (fun R_ => ∃ y0 y1, Q y0 y1 ∧ R_ = .tup [.own (ints y0), ci y1]) := by
  refine AF.ofWQ (af_enter (n := 43) Try.func50 rfl (by rfl) rfl (Nat.le_of_ble_eq_true rfl) ?_)
  unfold wp_impl_SubracksOf at h
  refine aw_seq ?_
  refine aw_gh (gh_to (n := 43) (σ' := []) (env' := [(0, .c (.agg [.lst (rows r)]))]) rfl rfl ⟨rfl, trivial⟩) ?_
  refine aw_region ?_
  refine run_w (ws_boxR rfl (.inl rfl) rfl ⟨rfl, ?_⟩)
  refine run_s (ss_assign rfl) rfl ?_
  refine run_s (ss_assign rfl) rfl ?_
  refine run_nil ?_
  refine aw_seq ?_
  refine aw_seq ?_
  refine aw_region ?_
  refine run_s (ss_load_struct rfl (Nat.le_of_ble_eq_true rfl)) rfl ?_
  obtain ⟨q1, h⟩ := h
  refine run_w (ws_call (xs := [.tmp 8]) (ids := []) rfl rfl rfl rfl (c_impl_IsRack r q1) rfl ?_ )
  rintro _ rfl
  refine ⟨rfl, ?_⟩
  refine run_s (ss_not rfl) rfl ?_
  refine run_nil ?_
  refine aw_cond rfl (fun q3 => ?_) (fun q3 => ?_)
  · replace h := h.1 ((bnot_t q3))
    refine aw_seq ?_
    refine aw_gh (gh_to (n := 43) (σ' := []) (env' := [(2, .c (cnil)), (3, .c (ci 0))]) rfl rfl ⟨rfl, rfl, trivial⟩) ?_
    refine aw_region ?_
    refine run_s (ss_assign rfl) rfl ?_
    refine run_s (ss_assign rfl) rfl ?_
    refine run_nil ?_
    refine aw_ret ?_
    exact retAF_mk (retv2 rfl (rv_tmp rfl) (rv_tmp rfl)) rfl rfl ⟨_, (cle_tup (cleL_cons cle_nilO (cleL_cons (cle_refl _) cleL_nil))), _, _, h, rfl⟩
  · replace h := h.2 ((bnot_f q3))
    refine aw_skip ?_
    refine aw_seq ?_
    refine aw_gh (gh_to (n := 43) (σ' := []) (env' := [(1, .c (.ptr [.lst (rows r)]))]) rfl rfl ⟨rfl, trivial⟩) ?_
    refine aw_region ?_
    refine run_s (ss_assign rfl) rfl ?_
    refine run_nil ?_
    refine aw_seq ?_
    refine aw_seq ?_
    refine aw_region ?_
    refine run_s (ss_assign rfl) rfl ?_
    refine run_nil ?_
    refine aw_block ?_
    obtain ⟨H1, m1, q4, h⟩ := h
    refine aw_loop2 (fun (v5_1 : Int) (o100004_1 : List Int) => ⟨[(100004, ⟨ints o100004_1, []⟩)], [(1, .c (.ptr [.lst (rows r)])), (4, .ref 100004), (5, .c (ci v5_1))], 43⟩) H1 m1 ⟨1, ([] : List Int), ghe_step (gh_nilE (i := 4) (id := 100004) rfl rfl) (ghe_to (n := 43) rfl rfl ⟨rfl, rfl, rfl, trivial⟩), q4⟩ ?_
    rintro v5_1 o100004_1 q4
    replace h := h v5_1 o100004_1 q4
    refine aw_seq ?_
    refine aw_seq ?_
    refine aw_region ?_
    refine run_s (ss_move rfl) rfl ?_
    refine run_s (ss_field_ptr rfl) rfl ?_
    refine run_s (ss_load_ptr rfl rfl) rfl ?_
    refine run_s (ss_lenL (f := (fun r => C.lst (ints r))) rfl) rfl ?_
    obtain ⟨q5, h⟩ := h
    refine run_s (ss_shl rfl rfl q5) rfl ?_
    refine run_s (ss_lss rfl rfl) rfl ?_
    refine run_nil ?_
    refine aw_cond rfl (fun q6 => ?_) (fun q6 => ?_)
    · replace h := h.1 (of_decide_eq_true q6)
      refine aw_skip ?_
      refine aw_seq ?_
      refine aw_block ?_
      refine aw_seq ?_
      refine aw_gh (gh_to (n := 43) (σ' := [(100004, ⟨ints o100004_1, []⟩)]) (env' := [(1, .c (.ptr [.lst (rows r)])), (4, .ref 100004), (5, .c (ci v5_1))]) rfl rfl ⟨rfl, rfl, rfl, trivial⟩) ?_
      refine aw_region ?_
      refine run_s (ss_assign rfl) rfl ?_
      refine run_nil ?_
      refine aw_seq ?_
      refine aw_seq ?_
      refine aw_region ?_
      refine run_s (ss_field_ptr rfl) rfl ?_
      refine run_s (ss_load_ptr rfl rfl) rfl ?_
      refine run_s (ss_lenL (f := (fun r => C.lst (ints r))) rfl) rfl ?_
      refine run_s (ss_move rfl) rfl ?_
      refine run_nil ?_
      refine aw_block ?_
      obtain ⟨H2, m2, q7, h⟩ := h
      refine aw_loop2 (fun (v22_2 : Int) (o100006_2 : List Int) => ⟨[(100006, ⟨ints o100006_2, []⟩), (100004, ⟨ints o100004_1, []⟩)], [(1, .c (.ptr [.lst (rows r)])), (4, .ref 100004), (5, .c (ci v5_1)), (6, .ref 100006), (21, .c (ci (r.length : Int))), (22, .c (ci v22_2))], 43⟩) H2 m2 ⟨0, ([] : List Int), ghe_step (gh_nilE (i := 6) (id := 100006) rfl rfl) (ghe_to (n := 43) rfl rfl ⟨rfl, rfl, rfl, rfl, rfl, rfl, trivial⟩), q7⟩ ?_
      rintro v22_2 o100006_2 q7
      replace h := h v22_2 o100006_2 q7
      refine aw_seq ?_
      refine aw_region ?_
      refine run_s (ss_lss rfl rfl) rfl ?_
      refine run_nil ?_
      refine aw_seq ?_
      refine aw_cond rfl (fun q8 => ?_) (fun q8 => ?_)
      · replace h := h.1 (of_decide_eq_true q8)
        refine aw_skip ?_
        refine aw_seq ?_
        refine aw_block ?_
        refine aw_seq ?_
        refine aw_region ?_
        refine run_s (ss_move rfl) rfl ?_
        refine run_s (ss_assign rfl) rfl ?_
        refine run_nil ?_
        refine aw_seq ?_
        refine aw_region ?_
        refine run_s (ss_move rfl) rfl ?_
        refine run_s (ss_move rfl) rfl ?_
        obtain ⟨q9, h⟩ := h
        refine run_s (ss_shr rfl rfl q9) rfl ?_
        obtain ⟨q10, h⟩ := h
        refine run_s (ss_and1 rfl rfl q10) rfl ?_
        refine run_s (ss_eql rfl rfl) rfl ?_
        refine run_nil ?_
        refine aw_cond rfl (fun q11 => ?_) (fun q11 => ?_)
        · replace h := h.1 (of_decide_eq_true q11)
          refine aw_gh (gh_to (n := 43) (σ' := [(100006, ⟨ints o100006_2, []⟩), (100004, ⟨ints o100004_1, []⟩)]) (env' := [(1, .c (.ptr [.lst (rows r)])), (4, .ref 100004), (5, .c (ci v5_1)), (6, .ref 100006), (7, .c (ci v22_2)), (21, .c (ci (r.length : Int))), (22, .c (ci v22_2))]) rfl rfl ⟨rfl, rfl, rfl, rfl, rfl, rfl, rfl, trivial⟩) ?_
          refine aw_region ?_
          refine run_s (ss_move rfl) rfl ?_
          refine run_s (ss_move rfl) rfl ?_
          refine run_w (ws_buildSlice (id := 32) (ps := [(0, .tmp 31)]) rfl rfl (Nat.le_of_ble_eq_true rfl) rfl ⟨rfl, ?_⟩)
          obtain ⟨q12, h⟩ := h
          refine run_w (ws_app1 ci (l := o100006_2) (m := [v22_2]) rfl rfl rfl rfl rfl (Nat.le_of_ble_eq_true rfl) q12 ⟨rfl, ?_⟩)
          refine run_s (ss_assign rfl) rfl ?_
          refine run_nil ?_
          refine aw_gh (gh_to (n := 43) (σ' := [(100006, ⟨ints (o100006_2 ++ ([v22_2])), []⟩), (100004, ⟨ints o100004_1, []⟩)]) (env' := [(1, .c (.ptr [.lst (rows r)])), (4, .ref 100004), (5, .c (ci v5_1)), (6, .ref 100006), (21, .c (ci (r.length : Int))), (22, .c (ci v22_2))]) rfl rfl ⟨rfl, rfl, rfl, rfl, rfl, rfl, trivial⟩) ?_
          refine aw_region ?_
          obtain ⟨q13, h⟩ := h
          refine run_s (ss_add rfl rfl q13) rfl ?_
          refine run_s (ss_move rfl) rfl ?_
          refine run_nil ?_
          exact ⟨v22_2 + 1, o100006_2 ++ ([v22_2]), ghe_to (n := 43) rfl rfl ⟨rfl, rfl, rfl, rfl, rfl, rfl, trivial⟩, h.1, h.2⟩
        · replace h := h.2 (of_decide_eq_false q11)
          refine aw_skip ?_
          refine aw_gh (gh_to (n := 43) (σ' := [(100006, ⟨ints o100006_2, []⟩), (100004, ⟨ints o100004_1, []⟩)]) (env' := [(1, .c (.ptr [.lst (rows r)])), (4, .ref 100004), (5, .c (ci v5_1)), (6, .ref 100006), (21, .c (ci (r.length : Int))), (22, .c (ci v22_2))]) rfl rfl ⟨rfl, rfl, rfl, rfl, rfl, rfl, trivial⟩) ?_
          refine aw_region ?_
          obtain ⟨q14, h⟩ := h
          refine run_s (ss_add rfl rfl q14) rfl ?_
          refine run_s (ss_move rfl) rfl ?_
          refine run_nil ?_
          exact ⟨v22_2 + 1, o100006_2, ghe_to (n := 43) rfl rfl ⟨rfl, rfl, rfl, rfl, rfl, rfl, trivial⟩, h.1, h.2⟩
      · replace h := h.2 (of_decide_eq_false q8)
        refine aw_exit ?_
        refine aw_seq ?_
        refine aw_region ?_
        refine run_s (ss_load_struct rfl (Nat.le_of_ble_eq_true rfl)) rfl ?_
        refine run_s (ss_move rfl) rfl ?_
        obtain ⟨q15, h⟩ := h
        refine run_w (ws_callR (xs := [.tmp 35, .tmp 36]) (cs := [.agg [.lst (rows r)], .own (ints o100006_2)]) (ids := []) rfl (.inr ⟨rfl, rfl⟩) rfl rfl (fz_cons rfl (fz_cons (fz_own (fz_map (fun _ => rfl) _)) fz_nil)) (c_impl_isSubrack r o100006_2 q15) rfl ?_ )
        rintro _ rfl
        refine ⟨rfl, rfl, ?_⟩
        refine run_nil ?_
        refine aw_cond rfl (fun q17 => ?_) (fun q17 => ?_)
        · replace h := h.1 (q17)
          refine aw_gh (gh_to (n := 43) (σ' := [(100006, ⟨ints o100006_2, []⟩), (100004, ⟨ints o100004_1, []⟩)]) (env' := [(1, .c (.ptr [.lst (rows r)])), (4, .ref 100004), (5, .c (ci v5_1))]) rfl rfl ⟨rfl, rfl, rfl, trivial⟩) ?_
          refine aw_region ?_
          refine run_s (ss_move rfl) rfl ?_
          refine run_s (ss_move rfl) rfl ?_
          refine run_w (ws_buildSlice (id := 40) (ps := [(0, .tmp 39)]) rfl rfl (Nat.le_of_ble_eq_true rfl) rfl ⟨rfl, ?_⟩)
          obtain ⟨q18, h⟩ := h
          refine run_w (ws_app1 ci (l := o100004_1) (m := [v5_1]) rfl rfl rfl rfl rfl (Nat.le_of_ble_eq_true rfl) q18 ⟨rfl, ?_⟩)
          refine run_s (ss_assign rfl) rfl ?_
          refine run_nil ?_
          refine aw_region ?_
          refine run_s (ss_move rfl) rfl ?_
          obtain ⟨q19, h⟩ := h
          refine run_s (ss_add rfl rfl q19) rfl ?_
          refine run_s (ss_assign rfl) rfl ?_
          refine run_nil ?_
          exact ⟨v5_1 + 1, o100004_1 ++ ([v5_1]), ghe_step (gh_frzE (id := 100006) ci rfl (fun _ => rfl)) (ghe_to (n := 43) rfl rfl ⟨rfl, rfl, rfl, trivial⟩), h.1, h.2⟩
        · replace h := h.2 (q17)
          refine aw_skip ?_
          refine aw_gh (gh_to (n := 43) (σ' := [(100006, ⟨ints o100006_2, []⟩), (100004, ⟨ints o100004_1, []⟩)]) (env' := [(1, .c (.ptr [.lst (rows r)])), (4, .ref 100004), (5, .c (ci v5_1))]) rfl rfl ⟨rfl, rfl, rfl, trivial⟩) ?_
          refine aw_region ?_
          refine run_s (ss_move rfl) rfl ?_
          obtain ⟨q20, h⟩ := h
          refine run_s (ss_add rfl rfl q20) rfl ?_
          refine run_s (ss_assign rfl) rfl ?_
          refine run_nil ?_
          exact ⟨v5_1 + 1, o100004_1, ghe_step (gh_frzE (id := 100006) ci rfl (fun _ => rfl)) (ghe_to (n := 43) rfl rfl ⟨rfl, rfl, rfl, trivial⟩), h.1, h.2⟩
    · replace h := h.2 (of_decide_eq_false q6)
      refine aw_exit ?_
      refine aw_seq ?_
      refine aw_gh (gh_to (n := 43) (σ' := [(100004, ⟨ints o100004_1, []⟩)]) (env' := [(4, .ref 100004)]) rfl rfl ⟨rfl, trivial⟩) ?_
      refine aw_region ?_
      refine run_s (ss_move rfl) rfl ?_
      refine run_s (ss_assign rfl) rfl ?_
      refine run_s (ss_assign rfl) rfl ?_
      refine run_nil ?_
      refine aw_ret ?_
      exact retAF_mk (retv2 rfl (rv_tmp rfl) (rv_tmp rfl)) rfl rfl ⟨_, (cle_refl _), _, _, h, rfl⟩

theorem c_impl_SubracksOf (r : List (List Int)) (hp : small2 r) : AF Try.prog 50 [.agg [.lst (rows r)]] (fun R_ => R_ = .tup [.own (ints (SubT r)), ci (rkE r)]) :=
  (w_impl_SubracksOf r (fun y0 y1 => y0 = SubT r ∧ y1 = rkE r) (p_impl_SubracksOf r hp)).mono (by rintro r ⟨_, _, ⟨rfl, rfl⟩, rfl⟩; rfl)

end Go.Proofs.Ytgekmhiemakaaaa
