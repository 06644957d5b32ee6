/- Contracts of functions that the law FnRackMaps reaches: conditions, plain proofs, walks; no condition. -/
import Derived.Test.YtjolbldlhjfciaaKRackMapse
namespace Go.Proofs.Ytjolbldlhjfciaa

def wp_laws_FnRackMaps (code : List Int) (Q : Bool → Prop) : Prop :=
 ((4096 < (code.length : Int) →
 Q true) ∧
 (¬ (4096 < (code.length : Int)) →
 (small code ∧ bytes code) ∧
 ∀ (r1_0 : List (List Int)) (r1_1 : List (List Int)), (drT 6 r1_0 ∧ drT 6 r1_1) →
 (small2 r1_0 ∧ small2 r1_1) ∧
 (small2 r1_0 ∧ small2 r1_1) ∧
 ((¬ (CrmE r1_0 r1_1 = CrmE r1_0 r1_1) →
 Q false) ∧
 (CrmE r1_0 r1_1 = CrmE r1_0 r1_1 →
 ((¬ (CrmV r1_0 r1_1 = CrmV r1_0 r1_1) →
 Q false) ∧
 (CrmV r1_0 r1_1 = CrmV r1_0 r1_1 →
 ((¬ (CrmE r1_0 r1_1 = 0) →
 ((CrmE r1_0 r1_1 = 0 →
 Q true) ∧
 (¬ (CrmE r1_0 r1_1 = 0) →
 Q (decide (CrmV r1_0 r1_1 = 0))))) ∧
 (CrmE r1_0 r1_1 = 0 →
 ((5 < (r1_0.length : Int) →
 ((CrmE r1_0 r1_1 = 0 →
 Q true) ∧
 (¬ (CrmE r1_0 r1_1 = 0) →
 Q (decide (CrmV r1_0 r1_1 = 0))))) ∧
 (¬ (5 < (r1_0.length : Int)) →
 ((5 < (r1_1.length : Int) →
 ((CrmE r1_0 r1_1 = 0 →
 Q true) ∧
 (¬ (CrmE r1_0 r1_1 = 0) →
 Q (decide (CrmV r1_0 r1_1 = 0))))) ∧
 (¬ (5 < (r1_1.length : Int)) →
 (small2 r1_1 ∧ small2 (TrivT (2 : Int))) ∧
 (small2 r1_0 ∧ small2 (TrivT (2 : Int))) ∧
 (small2 r1_0 ∧ small2 (ProT r1_1 (TrivT (2 : Int)))) ∧
 (small2 r1_0 ∧ small2 (ProT r1_1 (TrivT (2 : Int)))) ∧
 ((¬ (CrmE r1_0 (ProT r1_1 (TrivT (2 : Int))) = CrmE r1_0 (ProT r1_1 (TrivT (2 : Int)))) →
 Q false) ∧
 (CrmE r1_0 (ProT r1_1 (TrivT (2 : Int))) = CrmE r1_0 (ProT r1_1 (TrivT (2 : Int))) →
 ((¬ (TrivE (2 : Int) = 0) →
 Q false) ∧
 (TrivE (2 : Int) = 0 →
 ((¬ (ProE r1_1 (TrivT (2 : Int)) = 0) →
 Q false) ∧
 (ProE r1_1 (TrivT (2 : Int)) = 0 →
 ((¬ (CrmE r1_0 (TrivT (2 : Int)) = 0) →
 Q false) ∧
 (CrmE r1_0 (TrivT (2 : Int)) = 0 →
 ((CrmE r1_0 (ProT r1_1 (TrivT (2 : Int))) = 0 →
 (InI ((CrmV r1_0 r1_1) * (CrmV r1_0 (TrivT (2 : Int))))) ∧
 ((¬ (CrmV r1_0 (ProT r1_1 (TrivT (2 : Int))) = (CrmV r1_0 r1_1) * (CrmV r1_0 (TrivT (2 : Int)))) →
 Q false) ∧
 (CrmV r1_0 (ProT r1_1 (TrivT (2 : Int))) = (CrmV r1_0 r1_1) * (CrmV r1_0 (TrivT (2 : Int))) →
 (small2 r1_0) ∧
 (small2 r1_0 ∧ small2 r1_0) ∧
 ((AutE r1_0 = 0 →
 ((CrmE r1_0 r1_0 = 0 →
 ((1 ≤ AutV r1_0 →
 ((AutV r1_0 ≤ CrmV r1_0 r1_0 →
 (0 ≤ (r1_0.length : Int) ∧ (r1_0.length : Int) ≤ 12) ∧
 ((0 : Int) ≤ (facI (r1_0.length : Int)) ∧ (0 : Int) < AutV r1_0) ∧
 Q (decide ((facI (r1_0.length : Int)) % (AutV r1_0) = 0))) ∧
 (¬ (AutV r1_0 ≤ CrmV r1_0 r1_0) →
 Q false))) ∧
 (¬ (1 ≤ AutV r1_0) →
 Q false))) ∧
 (¬ (CrmE r1_0 r1_0 = 0) →
 Q false))) ∧
 (¬ (AutE r1_0 = 0) →
 Q false))))) ∧
 (¬ (CrmE r1_0 (ProT r1_1 (TrivT (2 : Int))) = 0) →
 (small2 r1_0) ∧
 (small2 r1_0 ∧ small2 r1_0) ∧
 ((AutE r1_0 = 0 →
 ((CrmE r1_0 r1_0 = 0 →
 ((1 ≤ AutV r1_0 →
 ((AutV r1_0 ≤ CrmV r1_0 r1_0 →
 (0 ≤ (r1_0.length : Int) ∧ (r1_0.length : Int) ≤ 12) ∧
 ((0 : Int) ≤ (facI (r1_0.length : Int)) ∧ (0 : Int) < AutV r1_0) ∧
 Q (decide ((facI (r1_0.length : Int)) % (AutV r1_0) = 0))) ∧
 (¬ (AutV r1_0 ≤ CrmV r1_0 r1_0) →
 Q false))) ∧
 (¬ (1 ≤ AutV r1_0) →
 Q false))) ∧
 (¬ (CrmE r1_0 r1_0 = 0) →
 Q false))) ∧
 (¬ (AutE r1_0 = 0) →
 Q false))))))))))))))))))))))))

@[reducible] def fine2 (t : List (List Int)) : Prop := small2 t ∧ tot t ≤ 1000000000
theorem fine2_nil : fine2 [] := ⟨⟨by simp, by simp⟩, by simp [tot]⟩
theorem mem_ranf {α : Type} {n : Int} {f : Int → α} {r : α} (h : r ∈ ran n f) : ∃ i, (0 ≤ i ∧ i < n) ∧ r = f i := by
  unfold ran at h
  obtain ⟨k, hk, rfl⟩ := List.mem_map.1 h
  have := List.mem_range.1 hk
  exact ⟨k, ⟨by omega, by omega⟩, rfl⟩
theorem fine2_tab {n : Int} {f : Int → Int → Int} (h : n ≤ 1000) : fine2 (tab n f) := by
  refine ⟨⟨by simp [tab]; omega, fun r hr => ?_⟩, ?_⟩
  · obtain ⟨i, _, rfl⟩ := mem_ranf hr
    simp; omega
  · rw [tot_tab]
    have : n.toNat ≤ 1000 := by omega
    have : n.toNat * n.toNat ≤ 1000 * 1000 := Nat.mul_le_mul this this
    omega
theorem fine2_ite {c : Prop} [Decidable c] {t : List (List Int)} (h : c → fine2 t) : fine2 (if c then t else []) := by
  split
  · exact h (by assumption)
  · exact fine2_nil
theorem fine_TrivT (n : Int) : fine2 (TrivT n) := fine2_ite fun h => fine2_tab (by omega)
theorem fine_Pro (a b : List (List Int)) : fine2 (ProT a b) := fine2_ite fun h => fine2_tab (by
  unfold ProE at h
  split at h
  · rename_i h2
    simp only [Bool.and_eq_true] at h2
    have x := isTab_len (isRk_tab h2.1)
    have y := isTab_len (isRk_tab h2.2)
    have := mulB (a := (a.length : Int)) (i := (b.length : Int)) (A := 12) (B := 12) ⟨by omega, by omega, by omega, by omega⟩
    omega
  · cases h)
theorem drT_small {m : Int} {t : List (List Int)} (hm : m ≤ 1000) (h : drT m t) : small2 t := ⟨by show (_ : Int) ≤ _; have := h.1; omega, fun q hq => by show (_ : Int) ≤ _; have := (h.2 q hq).1; omega⟩
theorem bytes_of {code : List Int} (hp : code.length ≤ 9223372036854775807 ∧ ∀ z_ ∈ code, 0 ≤ z_ ∧ z_ ≤ 255) (h : ¬ (4096 < (code.length : Int))) : small code ∧ bytes code :=
  ⟨by show (_ : Int) ≤ _; omega, fun i i0 i1 => hp.2 _ (el_mem ⟨i0, i1⟩)⟩
theorem triv2 : isRk (TrivT (2 : Int)) = true ∧ TrivE (2 : Int) = 0 ∧ ((TrivT (2 : Int)).length : Int) = 2 := by decide
theorem crm_zero {r s : List (List Int)} (hr : isRk r = true) (hs : isRk s = true) (h1 : (r.length : Int) ≤ 5) (h2 : (s.length : Int) ≤ 5) : CrmE r s = 0 ∧ CrmV r s = ((homL r s).length : Int) := by
  have n1 := isTab_len (isRk_tab hr)
  have n2 := isTab_len (isRk_tab hs)
  have hp : ¬ (1000000 : Int) < (s.length : Int) ^ r.length := by
    have h3 : s.length ^ r.length ≤ 5 ^ 5 := Nat.le_trans (Nat.pow_le_pow_left (show s.length ≤ 5 by omega) _) (Nat.pow_le_pow_right (by omega) (by omega))
    have h4 : (5 : Nat) ^ 5 = 3125 := by decide
    have h5 : (s.length : Int) ^ r.length = ((s.length ^ r.length : Nat) : Int) := by rw [Int.natCast_pow]
    rw [h5]; omega
  have e : CrmE r s = 0 := by unfold CrmE; rw [hr, hs, Bool.and_self, if_pos rfl, if_neg hp]
  exact ⟨e, by unfold CrmV; rw [if_pos e, hom_cnt]⟩
theorem crm_rk {r s : List (List Int)} (h : CrmE r s = 0) : isRk r = true ∧ isRk s = true := by
  unfold CrmE at h
  split at h
  · rename_i g; simpa using g
  · cases h
theorem crm_none {r s : List (List Int)} (h : ¬ CrmE r s = 0) : CrmV r s = 0 := by unfold CrmV; rw [if_neg h]
theorem aut_zero {r : List (List Int)} (hr : isRk r = true) (h : (r.length : Int) ≤ 5) : AutE r = 0 ∧ AutV r = ((isoL [r] [r]).length : Int) := by
  have e : AutE r = 0 := by unfold AutE; rw [if_pos hr, if_neg (by omega)]
  exact ⟨e, by unfold AutV; rw [if_pos e]⟩
def rmT (r : List (List Int)) (Q : Bool → Prop) : Prop :=
  (small2 r) ∧
    (small2 r ∧ small2 r) ∧
    ((AutE r = 0 →
     ((CrmE r r = 0 →
      ((1 ≤ AutV r →
       ((AutV r ≤ CrmV r r →
        (0 ≤ (r.length : Int) ∧ (r.length : Int) ≤ 12) ∧
        ((0 : Int) ≤ (facI (r.length : Int)) ∧ (0 : Int) < AutV r) ∧
        Q (decide ((facI (r.length : Int)) % (AutV r) = 0))) ∧
       (¬ (AutV r ≤ CrmV r r) →
        Q false))) ∧
      (¬ (1 ≤ AutV r) →
       Q false))) ∧
     (¬ (CrmE r r = 0) →
      Q false))) ∧
    (¬ (AutE r = 0) →
     Q false))
theorem rm_ok {r : List (List Int)} (hs : small2 r) (hr : isRk r = true) (h5 : (r.length : Int) ≤ 5) : rmT r (fun y0 => y0 = true) := by
  have ht := isRk_tab hr
  have hn := isTab_len ht
  obtain ⟨a1, a2⟩ := aut_zero hr h5
  obtain ⟨c1, c2⟩ := crm_zero hr hr h5 h5
  have one := aut_one ht
  have le : AutV r ≤ CrmV r r := by
    rw [a2, c2]
    have := nodup_len (isoL [r] [r]) (homL r r) (aut_nodup ht) fun p hp => aut_hom ht hp
    omega
  have dv := aut_div ht
  rw [← a2] at dv
  have o1 : 1 ≤ AutV r := by omega
  exact ⟨hs, ⟨hs, hs⟩, fun _ => ⟨fun _ => ⟨fun _ => ⟨fun _ => ⟨⟨by omega, by omega⟩, ⟨by unfold facI; omega, by omega⟩, decide_eq_true dv⟩, fun k => absurd le k⟩, fun k => absurd o1 k⟩, fun k => absurd c1 k⟩, fun k => absurd a1 k⟩
theorem p_laws_FnRackMaps (code : List Int) (hp : code.length ≤ 9223372036854775807 ∧ ∀ z_ ∈ code, 0 ≤ z_ ∧ z_ ≤ 255) : wp_laws_FnRackMaps code (fun y0 => y0 = true) := by
  unfold wp_laws_FnRackMaps
  refine ⟨fun _ => rfl, fun hc => ?_⟩
  have hb := bytes_of hp hc
  refine ⟨hb, fun r s ⟨hr, hs⟩ => ?_⟩
  have sr : small2 r := drT_small (by omega) hr
  have ss : small2 s := drT_small (by omega) hs
  refine ⟨⟨sr, ss⟩, ⟨sr, ss⟩, fun k => absurd rfl k, fun _ => ⟨fun k => absurd rfl k, fun _ => ⟨fun h => ⟨fun k => absurd k h, fun _ => decide_eq_true (crm_none h)⟩, fun h => ?_⟩⟩⟩
  refine ⟨fun _ => ⟨fun _ => rfl, fun k => absurd h k⟩, fun r5 => ⟨fun _ => ⟨fun _ => rfl, fun k => absurd h k⟩, fun s5 => ?_⟩⟩
  have r5 : (r.length : Int) ≤ 5 := by omega
  have s5 : (s.length : Int) ≤ 5 := by omega
  obtain ⟨kr, ks⟩ := crm_rk h
  obtain ⟨t1, t2, t3⟩ := triv2
  have tr := isRk_tab kr; have ts := isRk_tab ks; have tt := isRk_tab t1
  have pE : ProE s (TrivT (2 : Int)) = 0 := by unfold ProE; rw [ks, t1, Bool.and_self, if_pos rfl, if_neg (by rw [t3]; omega)]
  have pT : ProT s (TrivT (2 : Int)) = proT s (TrivT (2 : Int)) := by unfold ProT; rw [if_pos pE]
  have st : small2 (TrivT (2 : Int)) := (fine_TrivT 2).1
  have sp : small2 (ProT s (TrivT (2 : Int))) := (fine_Pro s (TrivT 2)).1
  obtain ⟨z1, z2⟩ := crm_zero kr t1 r5 (by omega)
  obtain ⟨w1, w2⟩ := crm_zero kr ks r5 s5
  have b1 := hom_le (r := r) (s := s) r5 s5
  have b2 := hom_le (r := r) (s := TrivT (2 : Int)) r5 (by omega)
  have b3 : (CrmV r s) * (CrmV r (TrivT (2 : Int))) ≤ 3125 * 3125 := by
    rw [w2, z2]; exact Int.mul_le_mul b1 b2 (by omega) (by omega)
  have b4 : 0 ≤ (CrmV r s) * (CrmV r (TrivT (2 : Int))) := by rw [w2, z2]; exact Int.mul_nonneg (by omega) (by omega)
  refine ⟨⟨ss, st⟩, ⟨sr, st⟩, ⟨sr, sp⟩, ⟨sr, sp⟩, fun k => absurd rfl k, fun _ => ⟨fun k => absurd t2 k, fun _ => ⟨fun k => absurd pE k, fun _ => ⟨fun k => absurd z1 k, fun _ => ⟨fun h2 => ⟨⟨by omega, by omega⟩, fun k => absurd ?_ k, fun _ => rm_ok sr kr r5⟩, fun _ => rm_ok sr kr r5⟩⟩⟩⟩⟩
  have e : CrmV r (ProT s (TrivT (2 : Int))) = ((homL r (ProT s (TrivT (2 : Int)))).length : Int) := by unfold CrmV; rw [if_pos h2, hom_cnt]
  rw [e, pT, hom_pro tr ts tt, w2, z2, Int.natCast_mul]

set_option maxRecDepth 100000 in
set_option maxHeartbeats 4000000 in
theorem w_laws_FnRackMaps (code : List Int) (Q : Bool → Prop) (h : wp_laws_FnRackMaps code Q) : AF Try.prog 3 [.lst (bys code)] (fun R_ => ∃ y0, Q y0 ∧ R_ = cb y0) := by
  refine AF.ofWQ (af_enter (n := 159) Try.func3 rfl (by rfl) rfl (Nat.le_of_ble_eq_true rfl) ?_)
  unfold wp_laws_FnRackMaps at h
  refine aw_seq ?_
  refine aw_gh (gh_to (n := 159) (σ' := []) (env' := [(0, .c (.lst (bys code)))]) rfl rfl ⟨rfl, trivial⟩) ?_
  refine aw_region ?_
  refine run_s (ss_assign rfl) rfl ?_
  refine run_nil ?_
  refine aw_seq ?_
  refine aw_seq ?_
  refine aw_region ?_
  refine run_s (ss_move rfl) rfl ?_
  refine run_w (ws_call (xs := [.tmp 23]) (ids := []) rfl rfl rfl rfl (c_laws_big code) rfl ?_ )
  rintro _ rfl
  refine ⟨rfl, ?_⟩
  refine run_nil ?_
  refine aw_cond rfl (fun q2 => ?_) (fun q2 => ?_)
  ·replace h := h.1 (of_decide_eq_true q2)
   refine aw_seq ?_
   refine aw_gh (gh_to (n := 159) (σ' := []) (env' := [(2, .c (cb false))]) rfl rfl ⟨rfl, trivial⟩) ?_
   refine aw_region ?_
   refine run_s (ss_assign rfl) rfl ?_
   refine run_nil ?_
   refine aw_ret ?_
   exact retAF_mk (retv1 rfl (rv_tmp rfl)) rfl rfl ⟨_, (cle_refl _), _, h, rfl⟩
  ·replace h := h.2 (of_decide_eq_false q2)
   refine aw_skip ?_
   refine aw_seq ?_
   refine aw_region ?_
   refine run_s (ss_move rfl) rfl ?_
   obtain ⟨q3, h⟩ := h
   refine run_w (ws_call (xs := [.tmp 26]) (ids := [27, 1001]) rfl rfl rfl rfl (c_spec_DrawCountRackMaps code q3) rfl ?_ )
   rintro _ ⟨r1_0, r1_1, q4, rfl⟩
   replace h := h r1_0 r1_1 q4
   refine ⟨rfl, ?_⟩
   refine run_s (ss_move rfl) rfl ?_
   refine run_s (ss_extract rfl rfl) rfl ?_
   refine run_s (ss_extract rfl rfl) rfl ?_
   refine run_w (ws_alloc (id := 3) rfl (Nat.le_of_ble_eq_true rfl) ⟨rfl, ?_⟩)
   refine run_w (ws_alloc (id := 4) rfl (Nat.le_of_ble_eq_true rfl) ⟨rfl, ?_⟩)
   refine run_w (ws_storeS rfl rfl (Nat.le_of_ble_eq_true rfl) rfl rfl rfl ⟨rfl, ?_⟩)
   refine run_w (ws_storeS rfl rfl (Nat.le_of_ble_eq_true rfl) rfl rfl rfl ⟨rfl, ?_⟩)
   refine run_nil ?_
   refine aw_gh (gh_to (n := 159) (σ' := [(4, ⟨[.hole], [(0, .ref 1001)]⟩), (3, ⟨[.hole], [(0, .ref 27)]⟩), (27, ⟨orows r1_0, []⟩), (1001, ⟨orows r1_1, []⟩)]) (env' := [(3, .cell 3 0), (4, .cell 4 0)]) rfl rfl ⟨rfl, rfl, trivial⟩) ?_
   refine aw_gh (gh_frzE (id := 27) (fun r => C.lst (ints r)) rfl (fun _ => (fz_own (fz_map (fun _ => rfl) _)))) ?_
   refine aw_gh (gh_fillc (id := 3) (j := 0) rfl rfl (Nat.le_of_ble_eq_true rfl)) ?_
   refine aw_gh (gh_to (n := 159) (σ' := [(4, ⟨[.hole], [(0, .ref 1001)]⟩), (3, ⟨[.lst (rows r1_0)], []⟩), (1001, ⟨orows r1_1, []⟩)]) (env' := [(3, .cell 3 0), (4, .cell 4 0)]) rfl rfl ⟨rfl, rfl, trivial⟩) ?_
   refine aw_gh (gh_frzE (id := 1001) (fun r => C.lst (ints r)) rfl (fun _ => (fz_own (fz_map (fun _ => rfl) _)))) ?_
   refine aw_gh (gh_fillc (id := 4) (j := 0) rfl rfl (Nat.le_of_ble_eq_true rfl)) ?_
   refine aw_gh (gh_to (n := 159) (σ' := [(4, ⟨[.lst (rows r1_1)], []⟩), (3, ⟨[.lst (rows r1_0)], []⟩)]) (env' := [(3, .cell 3 0), (4, .cell 4 0)]) rfl rfl ⟨rfl, rfl, trivial⟩) ?_
   refine aw_seq ?_
   refine aw_region ?_
   refine run_s (ss_loadS rfl rfl rfl rfl) rfl ?_
   refine run_s (ss_loadS rfl rfl rfl rfl) rfl ?_
   obtain ⟨q5, h⟩ := h
   refine run_w (ws_call (xs := [.tmp 31, .tmp 32]) (ids := []) rfl rfl rfl rfl (c_impl_CountRackMaps r1_0 r1_1 q5) rfl ?_ )
   rintro _ rfl
   refine ⟨rfl, ?_⟩
   refine run_s (ss_move rfl) rfl ?_
   refine run_s (ss_extract rfl rfl) rfl ?_
   refine run_s (ss_extract rfl rfl) rfl ?_
   refine run_s (ss_assign rfl) rfl ?_
   refine run_s (ss_assign rfl) rfl ?_
   refine run_nil ?_
   refine aw_seq ?_
   refine aw_seq ?_
   refine aw_region ?_
   refine run_s (ss_loadS rfl rfl rfl rfl) rfl ?_
   refine run_s (ss_loadS rfl rfl rfl rfl) rfl ?_
   obtain ⟨q7, h⟩ := h
   refine run_w (ws_call (xs := [.tmp 37, .tmp 38]) (ids := []) rfl rfl rfl rfl (c_spec_CountRackMaps r1_0 r1_1 q7) rfl ?_ )
   rintro _ rfl
   refine ⟨rfl, ?_⟩
   refine run_s (ss_move rfl) rfl ?_
   refine run_s (ss_extract rfl rfl) rfl ?_
   refine run_s (ss_extract rfl rfl) rfl ?_
   refine run_s (ss_assign rfl) rfl ?_
   refine run_s (ss_assign rfl) rfl ?_
   refine run_nil ?_
   refine aw_seq ?_
   refine aw_region ?_
   refine run_s (ss_move rfl) rfl ?_
   refine run_s (ss_move rfl) rfl ?_
   refine run_s (ss_neq rfl rfl) rfl ?_
   refine run_s (ss_move rfl) rfl ?_
   refine run_split (s := 45) rfl (fun q9 => ?_) (fun q9 => ?_)
   ·replace h := h.1 (of_decide_eq_false (bnot_t q9))
    refine run_gf rfl rfl q9 rfl ?_
    refine run_gf rfl rfl q9 rfl ?_
    refine run_gf rfl rfl q9 rfl ?_
    refine run_s (ss_pickT rfl q9 rfl) rfl ?_
    refine run_nil ?_
    refine aw_cond rfl (fun q10 => ?_) (fun q10 => ?_)
    ·skip
     refine aw_seq ?_
     refine aw_gh (gh_to (n := 159) (σ' := [(4, ⟨[.lst (rows r1_1)], []⟩), (3, ⟨[.lst (rows r1_0)], []⟩)]) (env' := []) rfl rfl trivial) ?_
     refine aw_region ?_
     refine run_s (ss_assign rfl) rfl ?_
     refine run_nil ?_
     refine aw_ret ?_
     exact retAF_mk (retv1 rfl (rv_tmp rfl)) rfl rfl ⟨_, (cle_refl _), _, h, rfl⟩
    ·cases q10
   ·replace h := h.2 (of_decide_eq_true (bnot_f q9))
    refine run_gt rfl rfl q9 ?_
    refine run_s (ss_move rfl) rfl ?_
    refine run_gt rfl rfl q9 ?_
    refine run_s (ss_move rfl) rfl ?_
    refine run_gt rfl rfl q9 ?_
    refine run_s (ss_neq rfl rfl) rfl ?_
    refine run_s (ss_pickF rfl q9 rfl) rfl ?_
    refine run_nil ?_
    refine aw_cond rfl (fun q11 => ?_) (fun q11 => ?_)
    ·replace h := h.1 (of_decide_eq_false (bnot_t q11))
     refine aw_seq ?_
     refine aw_gh (gh_to (n := 159) (σ' := [(4, ⟨[.lst (rows r1_1)], []⟩), (3, ⟨[.lst (rows r1_0)], []⟩)]) (env' := []) rfl rfl trivial) ?_
     refine aw_region ?_
     refine run_s (ss_assign rfl) rfl ?_
     refine run_nil ?_
     refine aw_ret ?_
     exact retAF_mk (retv1 rfl (rv_tmp rfl)) rfl rfl ⟨_, (cle_refl _), _, h, rfl⟩
    ·replace h := h.2 (of_decide_eq_true (bnot_f q11))
     refine aw_skip ?_
     refine aw_seq ?_
     refine aw_seq ?_
     refine aw_region ?_
     refine run_s (ss_move rfl) rfl ?_
     refine run_s (ss_neq rfl rfl) rfl ?_
     refine run_s (ss_move rfl) rfl ?_
     refine run_split (s := 52) rfl (fun q12 => ?_) (fun q12 => ?_)
     ·replace h := h.1 (of_decide_eq_false (bnot_t q12))
      refine run_gf rfl rfl q12 rfl ?_
      refine run_gf rfl rfl q12 rfl ?_
      refine run_gf rfl rfl q12 rfl ?_
      refine run_gf rfl rfl q12 rfl ?_
      refine run_s (ss_pickT rfl q12 rfl) rfl ?_
      refine run_s (ss_move rfl) rfl ?_
      refine run_split (s := 58) rfl (fun q13 => ?_) (fun q13 => ?_)
      ·skip
       refine run_gf rfl rfl q13 rfl ?_
       refine run_gf rfl rfl q13 rfl ?_
       refine run_gf rfl rfl q13 rfl ?_
       refine run_gf rfl rfl q13 rfl ?_
       refine run_s (ss_pickT rfl q13 rfl) rfl ?_
       refine run_nil ?_
       refine aw_cond rfl (fun q14 => ?_) (fun q14 => ?_)
       ·skip
        refine aw_seq ?_
        refine aw_gh (gh_to (n := 159) (σ' := [(4, ⟨[.lst (rows r1_1)], []⟩), (3, ⟨[.lst (rows r1_0)], []⟩)]) (env' := [(5, .c (ci (CrmV r1_0 r1_1))), (6, .c (ci (CrmE r1_0 r1_1)))]) rfl rfl ⟨rfl, rfl, trivial⟩) ?_
        refine aw_region ?_
        refine run_s (ss_move rfl) rfl ?_
        refine run_s (ss_eql rfl rfl) rfl ?_
        refine run_s (ss_move rfl) rfl ?_
        refine run_split (s := 66) rfl (fun q15 => ?_) (fun q15 => ?_)
        ·replace h := h.1 (of_decide_eq_true q15)
         refine run_gf rfl rfl q15 rfl ?_
         refine run_gf rfl rfl q15 rfl ?_
         refine run_s (ss_pickT rfl q15 rfl) rfl ?_
         refine run_s (ss_assign rfl) rfl ?_
         refine run_nil ?_
         refine aw_ret ?_
         exact retAF_mk (retv1 rfl (rv_tmp rfl)) rfl rfl ⟨_, (cle_refl _), _, h, rfl⟩
        ·replace h := h.2 (of_decide_eq_false q15)
         refine run_gt rfl rfl q15 ?_
         refine run_s (ss_move rfl) rfl ?_
         refine run_gt rfl rfl q15 ?_
         refine run_s (ss_eql rfl rfl) rfl ?_
         refine run_s (ss_pickF rfl q15 rfl) rfl ?_
         refine run_s (ss_assign rfl) rfl ?_
         refine run_nil ?_
         refine aw_ret ?_
         exact retAF_mk (retv1 rfl (rv_tmp rfl)) rfl rfl ⟨_, (cle_refl _), _, h, rfl⟩
       ·cases q14
      ·cases q13
     ·replace h := h.2 (of_decide_eq_true (bnot_f q12))
      refine run_gt rfl rfl q12 ?_
      refine run_s (ss_field_cell rfl) rfl ?_
      refine run_gt rfl rfl q12 ?_
      refine run_s (ss_loadC rfl rfl rfl rfl rfl) rfl ?_
      refine run_gt rfl rfl q12 ?_
      refine run_s (ss_lenL (f := (fun r => C.lst (ints r))) rfl) rfl ?_
      refine run_gt rfl rfl q12 ?_
      refine run_s (ss_gtr rfl rfl) rfl ?_
      refine run_s (ss_pickF rfl q12 rfl) rfl ?_
      refine run_s (ss_move rfl) rfl ?_
      refine run_split (s := 58) rfl (fun q16 => ?_) (fun q16 => ?_)
      ·replace h := h.1 (of_decide_eq_true q16)
       refine run_gf rfl rfl q16 rfl ?_
       refine run_gf rfl rfl q16 rfl ?_
       refine run_gf rfl rfl q16 rfl ?_
       refine run_gf rfl rfl q16 rfl ?_
       refine run_s (ss_pickT rfl q16 rfl) rfl ?_
       refine run_nil ?_
       refine aw_cond rfl (fun q17 => ?_) (fun q17 => ?_)
       ·skip
        refine aw_seq ?_
        refine aw_gh (gh_to (n := 159) (σ' := [(4, ⟨[.lst (rows r1_1)], []⟩), (3, ⟨[.lst (rows r1_0)], []⟩)]) (env' := [(5, .c (ci (CrmV r1_0 r1_1))), (6, .c (ci (CrmE r1_0 r1_1)))]) rfl rfl ⟨rfl, rfl, trivial⟩) ?_
        refine aw_region ?_
        refine run_s (ss_move rfl) rfl ?_
        refine run_s (ss_eql rfl rfl) rfl ?_
        refine run_s (ss_move rfl) rfl ?_
        refine run_split (s := 66) rfl (fun q18 => ?_) (fun q18 => ?_)
        ·replace h := h.1 (of_decide_eq_true q18)
         refine run_gf rfl rfl q18 rfl ?_
         refine run_gf rfl rfl q18 rfl ?_
         refine run_s (ss_pickT rfl q18 rfl) rfl ?_
         refine run_s (ss_assign rfl) rfl ?_
         refine run_nil ?_
         refine aw_ret ?_
         exact retAF_mk (retv1 rfl (rv_tmp rfl)) rfl rfl ⟨_, (cle_refl _), _, h, rfl⟩
        ·replace h := h.2 (of_decide_eq_false q18)
         refine run_gt rfl rfl q18 ?_
         refine run_s (ss_move rfl) rfl ?_
         refine run_gt rfl rfl q18 ?_
         refine run_s (ss_eql rfl rfl) rfl ?_
         refine run_s (ss_pickF rfl q18 rfl) rfl ?_
         refine run_s (ss_assign rfl) rfl ?_
         refine run_nil ?_
         refine aw_ret ?_
         exact retAF_mk (retv1 rfl (rv_tmp rfl)) rfl rfl ⟨_, (cle_refl _), _, h, rfl⟩
       ·cases q17
      ·replace h := h.2 (of_decide_eq_false q16)
       refine run_gt rfl rfl q16 ?_
       refine run_s (ss_field_cell rfl) rfl ?_
       refine run_gt rfl rfl q16 ?_
       refine run_s (ss_loadC rfl rfl rfl rfl rfl) rfl ?_
       refine run_gt rfl rfl q16 ?_
       refine run_s (ss_lenL (f := (fun r => C.lst (ints r))) rfl) rfl ?_
       refine run_gt rfl rfl q16 ?_
       refine run_s (ss_gtr rfl rfl) rfl ?_
       refine run_s (ss_pickF rfl q16 rfl) rfl ?_
       refine run_nil ?_
       refine aw_cond rfl (fun q19 => ?_) (fun q19 => ?_)
       ·replace h := h.1 (of_decide_eq_true q19)
        refine aw_seq ?_
        refine aw_gh (gh_to (n := 159) (σ' := [(4, ⟨[.lst (rows r1_1)], []⟩), (3, ⟨[.lst (rows r1_0)], []⟩)]) (env' := [(5, .c (ci (CrmV r1_0 r1_1))), (6, .c (ci (CrmE r1_0 r1_1)))]) rfl rfl ⟨rfl, rfl, trivial⟩) ?_
        refine aw_region ?_
        refine run_s (ss_move rfl) rfl ?_
        refine run_s (ss_eql rfl rfl) rfl ?_
        refine run_s (ss_move rfl) rfl ?_
        refine run_split (s := 66) rfl (fun q20 => ?_) (fun q20 => ?_)
        ·replace h := h.1 (of_decide_eq_true q20)
         refine run_gf rfl rfl q20 rfl ?_
         refine run_gf rfl rfl q20 rfl ?_
         refine run_s (ss_pickT rfl q20 rfl) rfl ?_
         refine run_s (ss_assign rfl) rfl ?_
         refine run_nil ?_
         refine aw_ret ?_
         exact retAF_mk (retv1 rfl (rv_tmp rfl)) rfl rfl ⟨_, (cle_refl _), _, h, rfl⟩
        ·replace h := h.2 (of_decide_eq_false q20)
         refine run_gt rfl rfl q20 ?_
         refine run_s (ss_move rfl) rfl ?_
         refine run_gt rfl rfl q20 ?_
         refine run_s (ss_eql rfl rfl) rfl ?_
         refine run_s (ss_pickF rfl q20 rfl) rfl ?_
         refine run_s (ss_assign rfl) rfl ?_
         refine run_nil ?_
         refine aw_ret ?_
         exact retAF_mk (retv1 rfl (rv_tmp rfl)) rfl rfl ⟨_, (cle_refl _), _, h, rfl⟩
       ·replace h := h.2 (of_decide_eq_false q19)
        refine aw_skip ?_
        refine aw_seq ?_
        refine aw_region ?_
        refine run_w (ws_call (xs := [.const (.int .i64 (2))]) (ids := [71]) rfl rfl rfl rfl (c_impl_TrivialRack 2) rfl ?_ )
        rintro _ rfl
        refine ⟨rfl, ?_⟩
        refine run_s (ss_move rfl) rfl ?_
        refine run_s (ss_extract rfl rfl) rfl ?_
        refine run_s (ss_extract rfl rfl) rfl ?_
        refine run_w (ws_alloc (id := 9) rfl (Nat.le_of_ble_eq_true rfl) ⟨rfl, ?_⟩)
        refine run_w (ws_storeS rfl rfl (Nat.le_of_ble_eq_true rfl) rfl rfl rfl ⟨rfl, ?_⟩)
        refine run_s (ss_assign rfl) rfl ?_
        refine run_nil ?_
        refine aw_gh (gh_to (n := 159) (σ' := [(9, ⟨[.hole], [(0, .ref 71)]⟩), (71, ⟨orows (TrivT (2 : Int)), []⟩), (4, ⟨[.lst (rows r1_1)], []⟩), (3, ⟨[.lst (rows r1_0)], []⟩)]) (env' := [(3, .cell 3 0), (4, .cell 4 0), (5, .c (ci (CrmV r1_0 r1_1))), (9, .cell 9 0), (10, .c (ci (TrivE (2 : Int))))]) rfl rfl ⟨rfl, rfl, rfl, rfl, rfl, trivial⟩) ?_
        refine aw_gh (gh_frzE (id := 71) (fun r => C.lst (ints r)) rfl (fun _ => (fz_own (fz_map (fun _ => rfl) _)))) ?_
        refine aw_gh (gh_fillc (id := 9) (j := 0) rfl rfl (Nat.le_of_ble_eq_true rfl)) ?_
        refine aw_gh (gh_to (n := 159) (σ' := [(9, ⟨[.lst (rows (TrivT (2 : Int)))], []⟩), (4, ⟨[.lst (rows r1_1)], []⟩), (3, ⟨[.lst (rows r1_0)], []⟩)]) (env' := [(3, .cell 3 0), (4, .cell 4 0), (5, .c (ci (CrmV r1_0 r1_1))), (9, .cell 9 0), (10, .c (ci (TrivE (2 : Int))))]) rfl rfl ⟨rfl, rfl, rfl, rfl, rfl, trivial⟩) ?_
        refine aw_seq ?_
        refine aw_region ?_
        refine run_s (ss_loadS rfl rfl rfl rfl) rfl ?_
        refine run_s (ss_loadS rfl rfl rfl rfl) rfl ?_
        obtain ⟨q22, h⟩ := h
        refine run_w (ws_call (xs := [.tmp 75, .tmp 76]) (ids := [77]) rfl rfl rfl rfl (c_impl_ProductRack r1_1 (TrivT (2 : Int)) q22) rfl ?_ )
        rintro _ rfl
        refine ⟨rfl, ?_⟩
        refine run_s (ss_move rfl) rfl ?_
        refine run_s (ss_extract rfl rfl) rfl ?_
        refine run_s (ss_extract rfl rfl) rfl ?_
        refine run_w (ws_alloc (id := 11) rfl (Nat.le_of_ble_eq_true rfl) ⟨rfl, ?_⟩)
        refine run_w (ws_storeS rfl rfl (Nat.le_of_ble_eq_true rfl) rfl rfl rfl ⟨rfl, ?_⟩)
        refine run_s (ss_assign rfl) rfl ?_
        refine run_nil ?_
        refine aw_gh (gh_to (n := 159) (σ' := [(11, ⟨[.hole], [(0, .ref 77)]⟩), (77, ⟨orows (ProT r1_1 (TrivT (2 : Int))), []⟩), (9, ⟨[.lst (rows (TrivT (2 : Int)))], []⟩), (4, ⟨[.lst (rows r1_1)], []⟩), (3, ⟨[.lst (rows r1_0)], []⟩)]) (env' := [(3, .cell 3 0), (5, .c (ci (CrmV r1_0 r1_1))), (9, .cell 9 0), (10, .c (ci (TrivE (2 : Int)))), (11, .cell 11 0), (12, .c (ci (ProE r1_1 (TrivT (2 : Int)))))]) rfl rfl ⟨rfl, rfl, rfl, rfl, rfl, rfl, trivial⟩) ?_
        refine aw_gh (gh_frzE (id := 77) (fun r => C.lst (ints r)) rfl (fun _ => (fz_own (fz_map (fun _ => rfl) _)))) ?_
        refine aw_gh (gh_fillc (id := 11) (j := 0) rfl rfl (Nat.le_of_ble_eq_true rfl)) ?_
        refine aw_gh (gh_to (n := 159) (σ' := [(11, ⟨[.lst (rows (ProT r1_1 (TrivT (2 : Int))))], []⟩), (9, ⟨[.lst (rows (TrivT (2 : Int)))], []⟩), (4, ⟨[.lst (rows r1_1)], []⟩), (3, ⟨[.lst (rows r1_0)], []⟩)]) (env' := [(3, .cell 3 0), (5, .c (ci (CrmV r1_0 r1_1))), (9, .cell 9 0), (10, .c (ci (TrivE (2 : Int)))), (11, .cell 11 0), (12, .c (ci (ProE r1_1 (TrivT (2 : Int)))))]) rfl rfl ⟨rfl, rfl, rfl, rfl, rfl, rfl, trivial⟩) ?_
        refine aw_seq ?_
        refine aw_region ?_
        refine run_s (ss_loadS rfl rfl rfl rfl) rfl ?_
        refine run_s (ss_loadS rfl rfl rfl rfl) rfl ?_
        obtain ⟨q24, h⟩ := h
        refine run_w (ws_call (xs := [.tmp 81, .tmp 82]) (ids := []) rfl rfl rfl rfl (c_impl_CountRackMaps r1_0 (TrivT (2 : Int)) q24) rfl ?_ )
        rintro _ rfl
        refine ⟨rfl, ?_⟩
        refine run_s (ss_move rfl) rfl ?_
        refine run_s (ss_extract rfl rfl) rfl ?_
        refine run_s (ss_extract rfl rfl) rfl ?_
        refine run_s (ss_assign rfl) rfl ?_
        refine run_s (ss_assign rfl) rfl ?_
        refine run_nil ?_
        refine aw_seq ?_
        refine aw_region ?_
        refine run_s (ss_loadS rfl rfl rfl rfl) rfl ?_
        refine run_s (ss_loadS rfl rfl rfl rfl) rfl ?_
        obtain ⟨q26, h⟩ := h
        refine run_w (ws_call (xs := [.tmp 87, .tmp 88]) (ids := []) rfl rfl rfl rfl (c_impl_CountRackMaps r1_0 (ProT r1_1 (TrivT (2 : Int))) q26) rfl ?_ )
        rintro _ rfl
        refine ⟨rfl, ?_⟩
        refine run_s (ss_move rfl) rfl ?_
        refine run_s (ss_extract rfl rfl) rfl ?_
        refine run_s (ss_extract rfl rfl) rfl ?_
        refine run_s (ss_assign rfl) rfl ?_
        refine run_s (ss_assign rfl) rfl ?_
        refine run_nil ?_
        refine aw_seq ?_
        refine aw_seq ?_
        refine aw_region ?_
        refine run_s (ss_loadS rfl rfl rfl rfl) rfl ?_
        refine run_s (ss_loadS rfl rfl rfl rfl) rfl ?_
        obtain ⟨q28, h⟩ := h
        refine run_w (ws_call (xs := [.tmp 93, .tmp 94]) (ids := []) rfl rfl rfl rfl (c_spec_CountRackMaps r1_0 (ProT r1_1 (TrivT (2 : Int))) q28) rfl ?_ )
        rintro _ rfl
        refine ⟨rfl, ?_⟩
        refine run_s (ss_move rfl) rfl ?_
        refine run_s (ss_extract rfl rfl) rfl ?_
        refine run_s (ss_extract rfl rfl) rfl ?_
        refine run_s (ss_assign rfl) rfl ?_
        refine run_s (ss_assign rfl) rfl ?_
        refine run_nil ?_
        refine aw_seq ?_
        refine aw_region ?_
        refine run_s (ss_move rfl) rfl ?_
        refine run_s (ss_move rfl) rfl ?_
        refine run_s (ss_neq rfl rfl) rfl ?_
        refine run_s (ss_move rfl) rfl ?_
        refine run_split (s := 101) rfl (fun q30 => ?_) (fun q30 => ?_)
        ·replace h := h.1 (of_decide_eq_false (bnot_t q30))
         refine run_gf rfl rfl q30 rfl ?_
         refine run_gf rfl rfl q30 rfl ?_
         refine run_s (ss_pickT rfl q30 rfl) rfl ?_
         refine run_s (ss_move rfl) rfl ?_
         refine run_split (s := 105) rfl (fun q31 => ?_) (fun q31 => ?_)
         ·skip
          refine run_gf rfl rfl q31 rfl ?_
          refine run_gf rfl rfl q31 rfl ?_
          refine run_s (ss_pickT rfl q31 rfl) rfl ?_
          refine run_s (ss_move rfl) rfl ?_
          refine run_split (s := 109) rfl (fun q32 => ?_) (fun q32 => ?_)
          ·skip
           refine run_gf rfl rfl q32 rfl ?_
           refine run_gf rfl rfl q32 rfl ?_
           refine run_s (ss_pickT rfl q32 rfl) rfl ?_
           refine run_s (ss_move rfl) rfl ?_
           refine run_split (s := 113) rfl (fun q33 => ?_) (fun q33 => ?_)
           ·skip
            refine run_gf rfl rfl q33 rfl ?_
            refine run_gf rfl rfl q33 rfl ?_
            refine run_gfu rfl rfl q33 rfl ?_
            refine run_gu rfl rfl rfl ?_
            refine run_gu rfl rfl rfl ?_
            refine run_gu rfl rfl rfl ?_
            refine run_gu rfl rfl rfl ?_
            refine run_gu rfl rfl rfl ?_
            refine run_gf rfl rfl q33 rfl ?_
            refine run_s (ss_pickT rfl q33 rfl) rfl ?_
            refine run_nil ?_
            refine aw_cond rfl (fun q34 => ?_) (fun q34 => ?_)
            ·skip
             refine aw_seq ?_
             refine aw_gh (gh_to (n := 159) (σ' := [(11, ⟨[.lst (rows (ProT r1_1 (TrivT (2 : Int))))], []⟩), (9, ⟨[.lst (rows (TrivT (2 : Int)))], []⟩), (4, ⟨[.lst (rows r1_1)], []⟩), (3, ⟨[.lst (rows r1_0)], []⟩)]) (env' := []) rfl rfl trivial) ?_
             refine aw_region ?_
             refine run_s (ss_assign rfl) rfl ?_
             refine run_nil ?_
             refine aw_ret ?_
             exact retAF_mk (retv1 rfl (rv_tmp rfl)) rfl rfl ⟨_, (cle_refl _), _, h, rfl⟩
            ·cases q34
           ·cases q33
          ·cases q32
         ·cases q31
        ·replace h := h.2 (of_decide_eq_true (bnot_f q30))
         refine run_gt rfl rfl q30 ?_
         refine run_s (ss_move rfl) rfl ?_
         refine run_gt rfl rfl q30 ?_
         refine run_s (ss_neq rfl rfl) rfl ?_
         refine run_s (ss_pickF rfl q30 rfl) rfl ?_
         refine run_s (ss_move rfl) rfl ?_
         refine run_split (s := 105) rfl (fun q35 => ?_) (fun q35 => ?_)
         ·replace h := h.1 (of_decide_eq_false (bnot_t q35))
          refine run_gf rfl rfl q35 rfl ?_
          refine run_gf rfl rfl q35 rfl ?_
          refine run_s (ss_pickT rfl q35 rfl) rfl ?_
          refine run_s (ss_move rfl) rfl ?_
          refine run_split (s := 109) rfl (fun q36 => ?_) (fun q36 => ?_)
          ·skip
           refine run_gf rfl rfl q36 rfl ?_
           refine run_gf rfl rfl q36 rfl ?_
           refine run_s (ss_pickT rfl q36 rfl) rfl ?_
           refine run_s (ss_move rfl) rfl ?_
           refine run_split (s := 113) rfl (fun q37 => ?_) (fun q37 => ?_)
           ·skip
            refine run_gf rfl rfl q37 rfl ?_
            refine run_gf rfl rfl q37 rfl ?_
            refine run_gfu rfl rfl q37 rfl ?_
            refine run_gu rfl rfl rfl ?_
            refine run_gu rfl rfl rfl ?_
            refine run_gu rfl rfl rfl ?_
            refine run_gu rfl rfl rfl ?_
            refine run_gu rfl rfl rfl ?_
            refine run_gf rfl rfl q37 rfl ?_
            refine run_s (ss_pickT rfl q37 rfl) rfl ?_
            refine run_nil ?_
            refine aw_cond rfl (fun q38 => ?_) (fun q38 => ?_)
            ·skip
             refine aw_seq ?_
             refine aw_gh (gh_to (n := 159) (σ' := [(11, ⟨[.lst (rows (ProT r1_1 (TrivT (2 : Int))))], []⟩), (9, ⟨[.lst (rows (TrivT (2 : Int)))], []⟩), (4, ⟨[.lst (rows r1_1)], []⟩), (3, ⟨[.lst (rows r1_0)], []⟩)]) (env' := []) rfl rfl trivial) ?_
             refine aw_region ?_
             refine run_s (ss_assign rfl) rfl ?_
             refine run_nil ?_
             refine aw_ret ?_
             exact retAF_mk (retv1 rfl (rv_tmp rfl)) rfl rfl ⟨_, (cle_refl _), _, h, rfl⟩
            ·cases q38
           ·cases q37
          ·cases q36
         ·replace h := h.2 (of_decide_eq_true (bnot_f q35))
          refine run_gt rfl rfl q35 ?_
          refine run_s (ss_move rfl) rfl ?_
          refine run_gt rfl rfl q35 ?_
          refine run_s (ss_neq rfl rfl) rfl ?_
          refine run_s (ss_pickF rfl q35 rfl) rfl ?_
          refine run_s (ss_move rfl) rfl ?_
          refine run_split (s := 109) rfl (fun q39 => ?_) (fun q39 => ?_)
          ·replace h := h.1 (of_decide_eq_false (bnot_t q39))
           refine run_gf rfl rfl q39 rfl ?_
           refine run_gf rfl rfl q39 rfl ?_
           refine run_s (ss_pickT rfl q39 rfl) rfl ?_
           refine run_s (ss_move rfl) rfl ?_
           refine run_split (s := 113) rfl (fun q40 => ?_) (fun q40 => ?_)
           ·skip
            refine run_gf rfl rfl q40 rfl ?_
            refine run_gf rfl rfl q40 rfl ?_
            refine run_gfu rfl rfl q40 rfl ?_
            refine run_gu rfl rfl rfl ?_
            refine run_gu rfl rfl rfl ?_
            refine run_gu rfl rfl rfl ?_
            refine run_gu rfl rfl rfl ?_
            refine run_gu rfl rfl rfl ?_
            refine run_gf rfl rfl q40 rfl ?_
            refine run_s (ss_pickT rfl q40 rfl) rfl ?_
            refine run_nil ?_
            refine aw_cond rfl (fun q41 => ?_) (fun q41 => ?_)
            ·skip
             refine aw_seq ?_
             refine aw_gh (gh_to (n := 159) (σ' := [(11, ⟨[.lst (rows (ProT r1_1 (TrivT (2 : Int))))], []⟩), (9, ⟨[.lst (rows (TrivT (2 : Int)))], []⟩), (4, ⟨[.lst (rows r1_1)], []⟩), (3, ⟨[.lst (rows r1_0)], []⟩)]) (env' := []) rfl rfl trivial) ?_
             refine aw_region ?_
             refine run_s (ss_assign rfl) rfl ?_
             refine run_nil ?_
             refine aw_ret ?_
             exact retAF_mk (retv1 rfl (rv_tmp rfl)) rfl rfl ⟨_, (cle_refl _), _, h, rfl⟩
            ·cases q41
           ·cases q40
          ·replace h := h.2 (of_decide_eq_true (bnot_f q39))
           refine run_gt rfl rfl q39 ?_
           refine run_s (ss_move rfl) rfl ?_
           refine run_gt rfl rfl q39 ?_
           refine run_s (ss_neq rfl rfl) rfl ?_
           refine run_s (ss_pickF rfl q39 rfl) rfl ?_
           refine run_s (ss_move rfl) rfl ?_
           refine run_split (s := 113) rfl (fun q42 => ?_) (fun q42 => ?_)
           ·replace h := h.1 (of_decide_eq_false (bnot_t q42))
            refine run_gf rfl rfl q42 rfl ?_
            refine run_gf rfl rfl q42 rfl ?_
            refine run_gfu rfl rfl q42 rfl ?_
            refine run_gu rfl rfl rfl ?_
            refine run_gu rfl rfl rfl ?_
            refine run_gu rfl rfl rfl ?_
            refine run_gu rfl rfl rfl ?_
            refine run_gu rfl rfl rfl ?_
            refine run_gf rfl rfl q42 rfl ?_
            refine run_s (ss_pickT rfl q42 rfl) rfl ?_
            refine run_nil ?_
            refine aw_cond rfl (fun q43 => ?_) (fun q43 => ?_)
            ·skip
             refine aw_seq ?_
             refine aw_gh (gh_to (n := 159) (σ' := [(11, ⟨[.lst (rows (ProT r1_1 (TrivT (2 : Int))))], []⟩), (9, ⟨[.lst (rows (TrivT (2 : Int)))], []⟩), (4, ⟨[.lst (rows r1_1)], []⟩), (3, ⟨[.lst (rows r1_0)], []⟩)]) (env' := []) rfl rfl trivial) ?_
             refine aw_region ?_
             refine run_s (ss_assign rfl) rfl ?_
             refine run_nil ?_
             refine aw_ret ?_
             exact retAF_mk (retv1 rfl (rv_tmp rfl)) rfl rfl ⟨_, (cle_refl _), _, h, rfl⟩
            ·cases q43
           ·replace h := h.2 (of_decide_eq_true (bnot_f q42))
            refine run_gt rfl rfl q42 ?_
            refine run_s (ss_move rfl) rfl ?_
            refine run_gt rfl rfl q42 ?_
            refine run_s (ss_eql rfl rfl) rfl ?_
            refine run_gt rfl rfl q42 ?_
            refine run_s (ss_move rfl) rfl ?_
            refine run_split (s := 116) rfl (fun q44 => ?_) (fun q44 => ?_)
            ·replace h := h.1 (of_decide_eq_true q44)
             refine run_gt rfl rfl q44 ?_
             refine run_s (ss_move rfl) rfl ?_
             refine run_gt rfl rfl q44 ?_
             refine run_s (ss_move rfl) rfl ?_
             refine run_gt rfl rfl q44 ?_
             refine run_s (ss_move rfl) rfl ?_
             refine run_gt rfl rfl q44 ?_
             obtain ⟨q45, h⟩ := h
             refine run_s (ss_mul rfl rfl q45) rfl ?_
             refine run_gt rfl rfl q44 ?_
             refine run_s (ss_neq rfl rfl) rfl ?_
             refine run_gt rfl rfl q42 ?_
             refine run_s (ss_pickT rfl q44 rfl) rfl ?_
             refine run_s (ss_pickF rfl q42 rfl) rfl ?_
             refine run_nil ?_
             refine aw_cond rfl (fun q46 => ?_) (fun q46 => ?_)
             ·replace h := h.1 (of_decide_eq_false (bnot_t q46))
              refine aw_seq ?_
              refine aw_gh (gh_to (n := 159) (σ' := [(11, ⟨[.lst (rows (ProT r1_1 (TrivT (2 : Int))))], []⟩), (9, ⟨[.lst (rows (TrivT (2 : Int)))], []⟩), (4, ⟨[.lst (rows r1_1)], []⟩), (3, ⟨[.lst (rows r1_0)], []⟩)]) (env' := []) rfl rfl trivial) ?_
              refine aw_region ?_
              refine run_s (ss_assign rfl) rfl ?_
              refine run_nil ?_
              refine aw_ret ?_
              exact retAF_mk (retv1 rfl (rv_tmp rfl)) rfl rfl ⟨_, (cle_refl _), _, h, rfl⟩
             ·replace h := h.2 (of_decide_eq_true (bnot_f q46))
              refine aw_skip ?_
              refine aw_seq ?_
              refine aw_gh (gh_to (n := 159) (σ' := [(11, ⟨[.lst (rows (ProT r1_1 (TrivT (2 : Int))))], []⟩), (9, ⟨[.lst (rows (TrivT (2 : Int)))], []⟩), (4, ⟨[.lst (rows r1_1)], []⟩), (3, ⟨[.lst (rows r1_0)], []⟩)]) (env' := [(3, .cell 3 0)]) rfl rfl ⟨rfl, trivial⟩) ?_
              refine aw_region ?_
              refine run_s (ss_loadS rfl rfl rfl rfl) rfl ?_
              obtain ⟨q47, h⟩ := h
              refine run_w (ws_call (xs := [.tmp 125]) (ids := []) rfl rfl rfl rfl (c_impl_CountRackAutomorphisms r1_0 q47) rfl ?_ )
              rintro _ rfl
              refine ⟨rfl, ?_⟩
              refine run_s (ss_move rfl) rfl ?_
              refine run_s (ss_extract rfl rfl) rfl ?_
              refine run_s (ss_extract rfl rfl) rfl ?_
              refine run_s (ss_assign rfl) rfl ?_
              refine run_s (ss_assign rfl) rfl ?_
              refine run_nil ?_
              refine aw_seq ?_
              refine aw_region ?_
              refine run_s (ss_loadS rfl rfl rfl rfl) rfl ?_
              refine run_s (ss_loadS rfl rfl rfl rfl) rfl ?_
              obtain ⟨q49, h⟩ := h
              refine run_w (ws_call (xs := [.tmp 130, .tmp 131]) (ids := []) rfl rfl rfl rfl (c_impl_CountRackMaps r1_0 r1_0 q49) rfl ?_ )
              rintro _ rfl
              refine ⟨rfl, ?_⟩
              refine run_s (ss_move rfl) rfl ?_
              refine run_s (ss_extract rfl rfl) rfl ?_
              refine run_s (ss_extract rfl rfl) rfl ?_
              refine run_s (ss_assign rfl) rfl ?_
              refine run_s (ss_assign rfl) rfl ?_
              refine run_nil ?_
              refine aw_seq ?_
              refine aw_region ?_
              refine run_s (ss_move rfl) rfl ?_
              refine run_s (ss_eql rfl rfl) rfl ?_
              refine run_s (ss_move rfl) rfl ?_
              refine run_split (s := 137) rfl (fun q51 => ?_) (fun q51 => ?_)
              ·replace h := h.1 (of_decide_eq_true q51)
               refine run_gt rfl rfl q51 ?_
               refine run_s (ss_move rfl) rfl ?_
               refine run_gt rfl rfl q51 ?_
               refine run_s (ss_eql rfl rfl) rfl ?_
               refine run_s (ss_pickT rfl q51 rfl) rfl ?_
               refine run_s (ss_move rfl) rfl ?_
               refine run_split (s := 141) rfl (fun q52 => ?_) (fun q52 => ?_)
               ·replace h := h.1 (of_decide_eq_true q52)
                refine run_gt rfl rfl q52 ?_
                refine run_s (ss_move rfl) rfl ?_
                refine run_gt rfl rfl q52 ?_
                refine run_s (ss_geq rfl rfl) rfl ?_
                refine run_s (ss_pickT rfl q52 rfl) rfl ?_
                refine run_s (ss_move rfl) rfl ?_
                refine run_split (s := 145) rfl (fun q53 => ?_) (fun q53 => ?_)
                ·replace h := h.1 (of_decide_eq_true q53)
                 refine run_gt rfl rfl q53 ?_
                 refine run_s (ss_move rfl) rfl ?_
                 refine run_gt rfl rfl q53 ?_
                 refine run_s (ss_move rfl) rfl ?_
                 refine run_gt rfl rfl q53 ?_
                 refine run_s (ss_leq rfl rfl) rfl ?_
                 refine run_s (ss_pickT rfl q53 rfl) rfl ?_
                 refine run_s (ss_move rfl) rfl ?_
                 refine run_split (s := 150) rfl (fun q54 => ?_) (fun q54 => ?_)
                 ·replace h := h.1 (of_decide_eq_true q54)
                  refine run_gt rfl rfl q54 ?_
                  refine run_s (ss_field_cell rfl) rfl ?_
                  refine run_gt rfl rfl q54 ?_
                  refine run_s (ss_loadC rfl rfl rfl rfl rfl) rfl ?_
                  refine run_gt rfl rfl q54 ?_
                  refine run_s (ss_lenL (f := (fun r => C.lst (ints r))) rfl) rfl ?_
                  refine run_gt rfl rfl q54 ?_
                  obtain ⟨q55, h⟩ := h
                  refine run_w (ws_call (xs := [.tmp 153]) (ids := []) rfl rfl rfl rfl (c_laws_fact9 (r1_0.length : Int) q55) rfl ?_ )
                  rintro _ rfl
                  refine ⟨rfl, ?_⟩
                  refine run_gt rfl rfl q54 ?_
                  refine run_s (ss_move rfl) rfl ?_
                  refine run_gt rfl rfl q54 ?_
                  obtain ⟨q57, h⟩ := h
                  refine run_s (ss_rem rfl rfl q57) rfl ?_
                  refine run_gt rfl rfl q54 ?_
                  refine run_s (ss_eql rfl rfl) rfl ?_
                  refine run_s (ss_pickT rfl q54 rfl) rfl ?_
                  refine run_s (ss_assign rfl) rfl ?_
                  refine run_nil ?_
                  refine aw_ret ?_
                  exact retAF_mk (retv1 rfl (rv_tmp rfl)) rfl rfl ⟨_, (cle_refl _), _, h, rfl⟩
                 ·replace h := h.2 (of_decide_eq_false q54)
                  refine run_gf rfl rfl q54 rfl ?_
                  refine run_gf rfl rfl q54 rfl ?_
                  refine run_gf rfl rfl q54 rfl ?_
                  refine run_gf rfl rfl q54 rfl ?_
                  refine run_gf rfl rfl q54 rfl ?_
                  refine run_gf rfl rfl q54 rfl ?_
                  refine run_gf rfl rfl q54 rfl ?_
                  refine run_s (ss_pickF rfl q54 rfl) rfl ?_
                  refine run_s (ss_assign rfl) rfl ?_
                  refine run_nil ?_
                  refine aw_ret ?_
                  exact retAF_mk (retv1 rfl (rv_tmp rfl)) rfl rfl ⟨_, (cle_refl _), _, h, rfl⟩
                ·replace h := h.2 (of_decide_eq_false q53)
                 refine run_gf rfl rfl q53 rfl ?_
                 refine run_gf rfl rfl q53 rfl ?_
                 refine run_gf rfl rfl q53 rfl ?_
                 refine run_s (ss_pickF rfl q53 rfl) rfl ?_
                 refine run_s (ss_move rfl) rfl ?_
                 refine run_split (s := 150) rfl (fun q58 => ?_) (fun q58 => ?_)
                 ·cases q58
                 ·skip
                  refine run_gf rfl rfl q58 rfl ?_
                  refine run_gf rfl rfl q58 rfl ?_
                  refine run_gf rfl rfl q58 rfl ?_
                  refine run_gf rfl rfl q58 rfl ?_
                  refine run_gf rfl rfl q58 rfl ?_
                  refine run_gf rfl rfl q58 rfl ?_
                  refine run_gf rfl rfl q58 rfl ?_
                  refine run_s (ss_pickF rfl q58 rfl) rfl ?_
                  refine run_s (ss_assign rfl) rfl ?_
                  refine run_nil ?_
                  refine aw_ret ?_
                  exact retAF_mk (retv1 rfl (rv_tmp rfl)) rfl rfl ⟨_, (cle_refl _), _, h, rfl⟩
               ·replace h := h.2 (of_decide_eq_false q52)
                refine run_gf rfl rfl q52 rfl ?_
                refine run_gf rfl rfl q52 rfl ?_
                refine run_s (ss_pickF rfl q52 rfl) rfl ?_
                refine run_s (ss_move rfl) rfl ?_
                refine run_split (s := 145) rfl (fun q59 => ?_) (fun q59 => ?_)
                ·cases q59
                ·skip
                 refine run_gf rfl rfl q59 rfl ?_
                 refine run_gf rfl rfl q59 rfl ?_
                 refine run_gf rfl rfl q59 rfl ?_
                 refine run_s (ss_pickF rfl q59 rfl) rfl ?_
                 refine run_s (ss_move rfl) rfl ?_
                 refine run_split (s := 150) rfl (fun q60 => ?_) (fun q60 => ?_)
                 ·cases q60
                 ·skip
                  refine run_gf rfl rfl q60 rfl ?_
                  refine run_gf rfl rfl q60 rfl ?_
                  refine run_gf rfl rfl q60 rfl ?_
                  refine run_gf rfl rfl q60 rfl ?_
                  refine run_gf rfl rfl q60 rfl ?_
                  refine run_gf rfl rfl q60 rfl ?_
                  refine run_gf rfl rfl q60 rfl ?_
                  refine run_s (ss_pickF rfl q60 rfl) rfl ?_
                  refine run_s (ss_assign rfl) rfl ?_
                  refine run_nil ?_
                  refine aw_ret ?_
                  exact retAF_mk (retv1 rfl (rv_tmp rfl)) rfl rfl ⟨_, (cle_refl _), _, h, rfl⟩
              ·replace h := h.2 (of_decide_eq_false q51)
               refine run_gf rfl rfl q51 rfl ?_
               refine run_gf rfl rfl q51 rfl ?_
               refine run_s (ss_pickF rfl q51 rfl) rfl ?_
               refine run_s (ss_move rfl) rfl ?_
               refine run_split (s := 141) rfl (fun q61 => ?_) (fun q61 => ?_)
               ·cases q61
               ·skip
                refine run_gf rfl rfl q61 rfl ?_
                refine run_gf rfl rfl q61 rfl ?_
                refine run_s (ss_pickF rfl q61 rfl) rfl ?_
                refine run_s (ss_move rfl) rfl ?_
                refine run_split (s := 145) rfl (fun q62 => ?_) (fun q62 => ?_)
                ·cases q62
                ·skip
                 refine run_gf rfl rfl q62 rfl ?_
                 refine run_gf rfl rfl q62 rfl ?_
                 refine run_gf rfl rfl q62 rfl ?_
                 refine run_s (ss_pickF rfl q62 rfl) rfl ?_
                 refine run_s (ss_move rfl) rfl ?_
                 refine run_split (s := 150) rfl (fun q63 => ?_) (fun q63 => ?_)
                 ·cases q63
                 ·skip
                  refine run_gf rfl rfl q63 rfl ?_
                  refine run_gf rfl rfl q63 rfl ?_
                  refine run_gf rfl rfl q63 rfl ?_
                  refine run_gf rfl rfl q63 rfl ?_
                  refine run_gf rfl rfl q63 rfl ?_
                  refine run_gf rfl rfl q63 rfl ?_
                  refine run_gf rfl rfl q63 rfl ?_
                  refine run_s (ss_pickF rfl q63 rfl) rfl ?_
                  refine run_s (ss_assign rfl) rfl ?_
                  refine run_nil ?_
                  refine aw_ret ?_
                  exact retAF_mk (retv1 rfl (rv_tmp rfl)) rfl rfl ⟨_, (cle_refl _), _, h, rfl⟩
            ·replace h := h.2 (of_decide_eq_false q44)
             refine run_gf rfl rfl q44 rfl ?_
             refine run_gf rfl rfl q44 rfl ?_
             refine run_gf rfl rfl q44 rfl ?_
             refine run_gf rfl rfl q44 rfl ?_
             refine run_gf rfl rfl q44 rfl ?_
             refine run_gt rfl rfl q42 ?_
             refine run_s (ss_pickF rfl q44 rfl) rfl ?_
             refine run_s (ss_pickF rfl q42 rfl) rfl ?_
             refine run_nil ?_
             refine aw_cond rfl (fun q64 => ?_) (fun q64 => ?_)
             ·cases q64
             ·skip
              refine aw_skip ?_
              refine aw_seq ?_
              refine aw_gh (gh_to (n := 159) (σ' := [(11, ⟨[.lst (rows (ProT r1_1 (TrivT (2 : Int))))], []⟩), (9, ⟨[.lst (rows (TrivT (2 : Int)))], []⟩), (4, ⟨[.lst (rows r1_1)], []⟩), (3, ⟨[.lst (rows r1_0)], []⟩)]) (env' := [(3, .cell 3 0)]) rfl rfl ⟨rfl, trivial⟩) ?_
              refine aw_region ?_
              refine run_s (ss_loadS rfl rfl rfl rfl) rfl ?_
              obtain ⟨q65, h⟩ := h
              refine run_w (ws_call (xs := [.tmp 125]) (ids := []) rfl rfl rfl rfl (c_impl_CountRackAutomorphisms r1_0 q65) rfl ?_ )
              rintro _ rfl
              refine ⟨rfl, ?_⟩
              refine run_s (ss_move rfl) rfl ?_
              refine run_s (ss_extract rfl rfl) rfl ?_
              refine run_s (ss_extract rfl rfl) rfl ?_
              refine run_s (ss_assign rfl) rfl ?_
              refine run_s (ss_assign rfl) rfl ?_
              refine run_nil ?_
              refine aw_seq ?_
              refine aw_region ?_
              refine run_s (ss_loadS rfl rfl rfl rfl) rfl ?_
              refine run_s (ss_loadS rfl rfl rfl rfl) rfl ?_
              obtain ⟨q67, h⟩ := h
              refine run_w (ws_call (xs := [.tmp 130, .tmp 131]) (ids := []) rfl rfl rfl rfl (c_impl_CountRackMaps r1_0 r1_0 q67) rfl ?_ )
              rintro _ rfl
              refine ⟨rfl, ?_⟩
              refine run_s (ss_move rfl) rfl ?_
              refine run_s (ss_extract rfl rfl) rfl ?_
              refine run_s (ss_extract rfl rfl) rfl ?_
              refine run_s (ss_assign rfl) rfl ?_
              refine run_s (ss_assign rfl) rfl ?_
              refine run_nil ?_
              refine aw_seq ?_
              refine aw_region ?_
              refine run_s (ss_move rfl) rfl ?_
              refine run_s (ss_eql rfl rfl) rfl ?_
              refine run_s (ss_move rfl) rfl ?_
              refine run_split (s := 137) rfl (fun q69 => ?_) (fun q69 => ?_)
              ·replace h := h.1 (of_decide_eq_true q69)
               refine run_gt rfl rfl q69 ?_
               refine run_s (ss_move rfl) rfl ?_
               refine run_gt rfl rfl q69 ?_
               refine run_s (ss_eql rfl rfl) rfl ?_
               refine run_s (ss_pickT rfl q69 rfl) rfl ?_
               refine run_s (ss_move rfl) rfl ?_
               refine run_split (s := 141) rfl (fun q70 => ?_) (fun q70 => ?_)
               ·replace h := h.1 (of_decide_eq_true q70)
                refine run_gt rfl rfl q70 ?_
                refine run_s (ss_move rfl) rfl ?_
                refine run_gt rfl rfl q70 ?_
                refine run_s (ss_geq rfl rfl) rfl ?_
                refine run_s (ss_pickT rfl q70 rfl) rfl ?_
                refine run_s (ss_move rfl) rfl ?_
                refine run_split (s := 145) rfl (fun q71 => ?_) (fun q71 => ?_)
                ·replace h := h.1 (of_decide_eq_true q71)
                 refine run_gt rfl rfl q71 ?_
                 refine run_s (ss_move rfl) rfl ?_
                 refine run_gt rfl rfl q71 ?_
                 refine run_s (ss_move rfl) rfl ?_
                 refine run_gt rfl rfl q71 ?_
                 refine run_s (ss_leq rfl rfl) rfl ?_
                 refine run_s (ss_pickT rfl q71 rfl) rfl ?_
                 refine run_s (ss_move rfl) rfl ?_
                 refine run_split (s := 150) rfl (fun q72 => ?_) (fun q72 => ?_)
                 ·replace h := h.1 (of_decide_eq_true q72)
                  refine run_gt rfl rfl q72 ?_
                  refine run_s (ss_field_cell rfl) rfl ?_
                  refine run_gt rfl rfl q72 ?_
                  refine run_s (ss_loadC rfl rfl rfl rfl rfl) rfl ?_
                  refine run_gt rfl rfl q72 ?_
                  refine run_s (ss_lenL (f := (fun r => C.lst (ints r))) rfl) rfl ?_
                  refine run_gt rfl rfl q72 ?_
                  obtain ⟨q73, h⟩ := h
                  refine run_w (ws_call (xs := [.tmp 153]) (ids := []) rfl rfl rfl rfl (c_laws_fact9 (r1_0.length : Int) q73) rfl ?_ )
                  rintro _ rfl
                  refine ⟨rfl, ?_⟩
                  refine run_gt rfl rfl q72 ?_
                  refine run_s (ss_move rfl) rfl ?_
                  refine run_gt rfl rfl q72 ?_
                  obtain ⟨q75, h⟩ := h
                  refine run_s (ss_rem rfl rfl q75) rfl ?_
                  refine run_gt rfl rfl q72 ?_
                  refine run_s (ss_eql rfl rfl) rfl ?_
                  refine run_s (ss_pickT rfl q72 rfl) rfl ?_
                  refine run_s (ss_assign rfl) rfl ?_
                  refine run_nil ?_
                  refine aw_ret ?_
                  exact retAF_mk (retv1 rfl (rv_tmp rfl)) rfl rfl ⟨_, (cle_refl _), _, h, rfl⟩
                 ·replace h := h.2 (of_decide_eq_false q72)
                  refine run_gf rfl rfl q72 rfl ?_
                  refine run_gf rfl rfl q72 rfl ?_
                  refine run_gf rfl rfl q72 rfl ?_
                  refine run_gf rfl rfl q72 rfl ?_
                  refine run_gf rfl rfl q72 rfl ?_
                  refine run_gf rfl rfl q72 rfl ?_
                  refine run_gf rfl rfl q72 rfl ?_
                  refine run_s (ss_pickF rfl q72 rfl) rfl ?_
                  refine run_s (ss_assign rfl) rfl ?_
                  refine run_nil ?_
                  refine aw_ret ?_
                  exact retAF_mk (retv1 rfl (rv_tmp rfl)) rfl rfl ⟨_, (cle_refl _), _, h, rfl⟩
                ·replace h := h.2 (of_decide_eq_false q71)
                 refine run_gf rfl rfl q71 rfl ?_
                 refine run_gf rfl rfl q71 rfl ?_
                 refine run_gf rfl rfl q71 rfl ?_
                 refine run_s (ss_pickF rfl q71 rfl) rfl ?_
                 refine run_s (ss_move rfl) rfl ?_
                 refine run_split (s := 150) rfl (fun q76 => ?_) (fun q76 => ?_)
                 ·cases q76
                 ·skip
                  refine run_gf rfl rfl q76 rfl ?_
                  refine run_gf rfl rfl q76 rfl ?_
                  refine run_gf rfl rfl q76 rfl ?_
                  refine run_gf rfl rfl q76 rfl ?_
                  refine run_gf rfl rfl q76 rfl ?_
                  refine run_gf rfl rfl q76 rfl ?_
                  refine run_gf rfl rfl q76 rfl ?_
                  refine run_s (ss_pickF rfl q76 rfl) rfl ?_
                  refine run_s (ss_assign rfl) rfl ?_
                  refine run_nil ?_
                  refine aw_ret ?_
                  exact retAF_mk (retv1 rfl (rv_tmp rfl)) rfl rfl ⟨_, (cle_refl _), _, h, rfl⟩
               ·replace h := h.2 (of_decide_eq_false q70)
                refine run_gf rfl rfl q70 rfl ?_
                refine run_gf rfl rfl q70 rfl ?_
                refine run_s (ss_pickF rfl q70 rfl) rfl ?_
                refine run_s (ss_move rfl) rfl ?_
                refine run_split (s := 145) rfl (fun q77 => ?_) (fun q77 => ?_)
                ·cases q77
                ·skip
                 refine run_gf rfl rfl q77 rfl ?_
                 refine run_gf rfl rfl q77 rfl ?_
                 refine run_gf rfl rfl q77 rfl ?_
                 refine run_s (ss_pickF rfl q77 rfl) rfl ?_
                 refine run_s (ss_move rfl) rfl ?_
                 refine run_split (s := 150) rfl (fun q78 => ?_) (fun q78 => ?_)
                 ·cases q78
                 ·skip
                  refine run_gf rfl rfl q78 rfl ?_
                  refine run_gf rfl rfl q78 rfl ?_
                  refine run_gf rfl rfl q78 rfl ?_
                  refine run_gf rfl rfl q78 rfl ?_
                  refine run_gf rfl rfl q78 rfl ?_
                  refine run_gf rfl rfl q78 rfl ?_
                  refine run_gf rfl rfl q78 rfl ?_
                  refine run_s (ss_pickF rfl q78 rfl) rfl ?_
                  refine run_s (ss_assign rfl) rfl ?_
                  refine run_nil ?_
                  refine aw_ret ?_
                  exact retAF_mk (retv1 rfl (rv_tmp rfl)) rfl rfl ⟨_, (cle_refl _), _, h, rfl⟩
              ·replace h := h.2 (of_decide_eq_false q69)
               refine run_gf rfl rfl q69 rfl ?_
               refine run_gf rfl rfl q69 rfl ?_
               refine run_s (ss_pickF rfl q69 rfl) rfl ?_
               refine run_s (ss_move rfl) rfl ?_
               refine run_split (s := 141) rfl (fun q79 => ?_) (fun q79 => ?_)
               ·cases q79
               ·skip
                refine run_gf rfl rfl q79 rfl ?_
                refine run_gf rfl rfl q79 rfl ?_
                refine run_s (ss_pickF rfl q79 rfl) rfl ?_
                refine run_s (ss_move rfl) rfl ?_
                refine run_split (s := 145) rfl (fun q80 => ?_) (fun q80 => ?_)
                ·cases q80
                ·skip
                 refine run_gf rfl rfl q80 rfl ?_
                 refine run_gf rfl rfl q80 rfl ?_
                 refine run_gf rfl rfl q80 rfl ?_
                 refine run_s (ss_pickF rfl q80 rfl) rfl ?_
                 refine run_s (ss_move rfl) rfl ?_
                 refine run_split (s := 150) rfl (fun q81 => ?_) (fun q81 => ?_)
                 ·cases q81
                 ·skip
                  refine run_gf rfl rfl q81 rfl ?_
                  refine run_gf rfl rfl q81 rfl ?_
                  refine run_gf rfl rfl q81 rfl ?_
                  refine run_gf rfl rfl q81 rfl ?_
                  refine run_gf rfl rfl q81 rfl ?_
                  refine run_gf rfl rfl q81 rfl ?_
                  refine run_gf rfl rfl q81 rfl ?_
                  refine run_s (ss_pickF rfl q81 rfl) rfl ?_
                  refine run_s (ss_assign rfl) rfl ?_
                  refine run_nil ?_
                  refine aw_ret ?_
                  exact retAF_mk (retv1 rfl (rv_tmp rfl)) rfl rfl ⟨_, (cle_refl _), _, h, rfl⟩

theorem c_laws_FnRackMaps (code : List Int) (hp : code.length ≤ 9223372036854775807 ∧ ∀ z_ ∈ code, 0 ≤ z_ ∧ z_ ≤ 255) : AF Try.prog 3 [.lst (bys code)] (fun R_ => R_ = cb true) :=
  (w_laws_FnRackMaps code (fun y0 => y0 = true) (p_laws_FnRackMaps code hp)).mono (by rintro r ⟨_, rfl, rfl⟩; rfl)

end Go.Proofs.Ytjolbldlhjfciaa
