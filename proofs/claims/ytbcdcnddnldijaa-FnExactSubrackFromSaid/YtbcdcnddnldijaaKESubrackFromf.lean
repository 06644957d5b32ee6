/- Contracts of functions that the law FnExactSubrackFrom reaches: conditions, plain proofs, walks; no condition. -/
import Derived.Test.YtbcdcnddnldijaaKESubrackFrome
import Derived.Test.YtbcdcnddnldijaaPf
namespace Go.Proofs.Ytbcdcnddnldijaa

def wp_spec_l04Closed (t : List (List Int)) (mask : Int) (Q : Bool → Prop) : Prop :=
 ∃ (H1 : Int → Prop) (m1 : Int → Nat),
 H1 0 ∧
 ∀ (v5_1 : Int), H1 v5_1 →
 ( ((v5_1 < (t.length : Int) →
   ∃ (H2 : Int → Prop) (m2 : Int → Nat),
   H2 0 ∧
   ∀ (v6_2 : Int), H2 v6_2 →
   ( ((v6_2 < (t.length : Int) →
     ((0 : Int) ≤ v5_1 ∧ v5_1 ≤ 18446744073709551615) ∧
     ((0 : Int) ≤ mask ∧ (0 : Int) ≤ v5_1 ∧ v5_1 ≤ 62) ∧
     ((0 : Int) ≤ mask / (2 : Int) ^ v5_1.toNat ∧ mask / (2 : Int) ^ v5_1.toNat ≤ 9223372036854775807) ∧
     (((mask / (2 : Int) ^ v5_1.toNat) % 2 = 1 →
      ((0 : Int) ≤ v6_2 ∧ v6_2 ≤ 18446744073709551615) ∧
      ((0 : Int) ≤ mask ∧ (0 : Int) ≤ v6_2 ∧ v6_2 ≤ 62) ∧
      ((0 : Int) ≤ mask / (2 : Int) ^ v6_2.toNat ∧ mask / (2 : Int) ^ v6_2.toNat ≤ 9223372036854775807) ∧
      (((mask / (2 : Int) ^ v6_2.toNat) % 2 = 1 →
       (0 ≤ v5_1 ∧ v5_1 < (t.length : Int)) ∧
       (0 ≤ v6_2 ∧ v6_2 < ((el t v5_1).length : Int)) ∧
       ((0 : Int) ≤ el (el t v5_1) v6_2 ∧ el (el t v5_1) v6_2 ≤ 18446744073709551615) ∧
       ((0 : Int) ≤ mask ∧ (0 : Int) ≤ el (el t v5_1) v6_2 ∧ el (el t v5_1) v6_2 ≤ 62) ∧
       ((0 : Int) ≤ mask / (2 : Int) ^ (el (el t v5_1) v6_2).toNat ∧ mask / (2 : Int) ^ (el (el t v5_1) v6_2).toNat ≤ 9223372036854775807) ∧
       (((mask / (2 : Int) ^ (el (el t v5_1) v6_2).toNat) % 2 = 0 →
        Q false) ∧
       (¬ ((mask / (2 : Int) ^ (el (el t v5_1) v6_2).toNat) % 2 = 0) →
        (InI (v6_2 + 1)) ∧
        (H2 (v6_2 + 1) ∧ m2 (v6_2 + 1) < m2 v6_2)))) ∧
      (¬ ((mask / (2 : Int) ^ v6_2.toNat) % 2 = 1) →
       (InI (v6_2 + 1)) ∧
       (H2 (v6_2 + 1) ∧ m2 (v6_2 + 1) < m2 v6_2)))) ∧
     (¬ ((mask / (2 : Int) ^ v5_1.toNat) % 2 = 1) →
      (InI (v6_2 + 1)) ∧
      (H2 (v6_2 + 1) ∧ m2 (v6_2 + 1) < m2 v6_2)))) ∧
    (¬ (v6_2 < (t.length : Int)) →
     (InI (v5_1 + 1)) ∧
     (H1 (v5_1 + 1) ∧ m1 (v5_1 + 1) < m1 v5_1))))) ∧
  (¬ (v5_1 < (t.length : Int)) →
   Q true)))


theorem p_spec_l04Closed (t : List (List Int)) (mask : Int) (hp : isTab t = true ∧ 0 ≤ mask ∧ mask ≤ 9223372036854775807) : wp_spec_l04Closed t mask (fun y0 => y0 = dec (CloM t mask)) := by
  unfold wp_spec_l04Closed
  obtain ⟨ht, hm⟩ := hp
  have hn := isTab_len ht
  refine ⟨fun x => 0 ≤ x ∧ x ≤ (t.length : Int) ∧ Upto x fun x => ∀ y, 0 ≤ y → y < (t.length : Int) → bitP mask x → bitP mask y → bitP mask (el (el t x) y), fun x => ((t.length : Int) - x).toNat, ⟨by omega, by omega, upto0⟩, ?_⟩
  rintro x ⟨x0, x1, xI⟩
  dsimp only
  refine ⟨fun xlt => ?_, fun xge => (dec_t fun x y a b c d => xI x a (by omega) y c d).symm⟩
  refine ⟨fun y => 0 ≤ y ∧ y ≤ (t.length : Int) ∧ Upto y fun y => bitP mask x → bitP mask y → bitP mask (el (el t x) y), fun y => ((t.length : Int) - y).toNat, ⟨by omega, by omega, upto0⟩, ?_⟩
  rintro y ⟨y0, y1, yI⟩
  dsimp only
  refine ⟨fun ylt => ?_, fun yge => ⟨⟨by omega, by omega⟩, ⟨by omega, by omega, upto1 xI fun y a b => yI y a (by omega)⟩, by omega⟩⟩
  have e := rk_el ht (x := x) (y := y) ⟨x0, xlt⟩ ⟨y0, ylt⟩
  have l := rk_len ht (x := x) ⟨x0, xlt⟩
  have st : (bitP mask x → bitP mask y → bitP mask (el (el t x) y)) → InI (y + 1) ∧ (0 ≤ y + 1 ∧ y + 1 ≤ (t.length : Int) ∧ Upto (y + 1) fun y => bitP mask x → bitP mask y → bitP mask (el (el t x) y)) ∧ ((t.length : Int) - (y + 1)).toNat < ((t.length : Int) - y).toNat := fun h => ⟨⟨by omega, by omega⟩, ⟨by omega, by omega, upto1 yI h⟩, by omega⟩
  refine ⟨⟨x0, by omega⟩, ⟨hm.1, x0, by omega⟩, dv2 hm, fun h1 => ⟨⟨y0, by omega⟩, ⟨hm.1, y0, by omega⟩, dv2 hm, fun h2 => ⟨⟨x0, xlt⟩, ⟨y0, by omega⟩, ⟨e.1, by omega⟩, ⟨hm.1, e.1, by omega⟩, dv2 hm, fun h3 => ?_, fun h3 => st fun _ _ => ?_⟩, fun h2 => st fun _ h => absurd h h2⟩, fun h1 => st fun h _ => absurd h h1⟩
  · refine (dec_f fun hC => ?_).symm
    have := hC x y x0 xlt y0 ylt h1 h2
    unfold bitP at this
    omega
  · unfold bitP; omega
set_option maxRecDepth 100000 in
set_option maxHeartbeats 1000000 in
theorem w_spec_l04Closed (t : List (List Int)) (mask : Int) (Q : Bool → Prop) (h : wp_spec_l04Closed t mask Q) : AF Try.prog 46 [.lst (rows t), ci mask] (fun R_ => ∃ y0, Q y0 ∧ R_ = cb y0) := by
  refine AF.ofWQ (af_enter (n := 47) Try.func46 rfl (by rfl) rfl (Nat.le_of_ble_eq_true rfl) ?_)
  unfold wp_spec_l04Closed at h
  refine aw_seq ?_
  refine aw_gh (gh_to (n := 47) (σ' := []) (env' := [(0, .c (.lst (rows t))), (1, .c (ci mask))]) rfl rfl ⟨rfl, rfl, trivial⟩) ?_
  refine aw_region ?_
  refine run_s (ss_assign rfl) rfl ?_
  refine run_nil ?_
  refine aw_seq ?_
  refine aw_seq ?_
  refine aw_region ?_
  refine run_s (ss_assign rfl) rfl ?_
  refine run_nil ?_
  refine aw_block ?_
  obtain ⟨H1, m1, q1, h⟩ := h
  refine aw_loop1 (fun (v5_1 : Int) => ⟨[], [(0, .c (.lst (rows t))), (1, .c (ci mask)), (5, .c (ci v5_1))], 47⟩) H1 m1 ⟨0, ghe_to (n := 47) rfl rfl ⟨rfl, rfl, rfl, trivial⟩, q1⟩ ?_
  rintro v5_1 q1
  replace h := h v5_1 q1
  refine aw_seq ?_
  refine aw_seq ?_
  refine aw_region ?_
  refine run_s (ss_move rfl) rfl ?_
  refine run_s (ss_move rfl) rfl ?_
  refine run_s (ss_lenL (f := (fun r => C.lst (ints r))) rfl) rfl ?_
  refine run_s (ss_lss rfl rfl) rfl ?_
  refine run_nil ?_
  refine aw_cond rfl (fun q2 => ?_) (fun q2 => ?_)
  · replace h := h.1 (of_decide_eq_true q2)
    refine aw_skip ?_
    refine aw_seq ?_
    refine aw_block ?_
    refine aw_seq ?_
    refine aw_region ?_
    refine run_s (ss_assign rfl) rfl ?_
    refine run_nil ?_
    refine aw_block ?_
    obtain ⟨H2, m2, q3, h⟩ := h
    refine aw_loop1 (fun (v6_2 : Int) => ⟨[], [(0, .c (.lst (rows t))), (1, .c (ci mask)), (5, .c (ci v5_1)), (6, .c (ci v6_2))], 47⟩) H2 m2 ⟨0, ghe_to (n := 47) rfl rfl ⟨rfl, rfl, rfl, rfl, trivial⟩, q3⟩ ?_
    rintro v6_2 q3
    replace h := h v6_2 q3
    refine aw_seq ?_
    refine aw_seq ?_
    refine aw_region ?_
    refine run_s (ss_move rfl) rfl ?_
    refine run_s (ss_move rfl) rfl ?_
    refine run_s (ss_lenL (f := (fun r => C.lst (ints r))) rfl) rfl ?_
    refine run_s (ss_lss rfl rfl) rfl ?_
    refine run_nil ?_
    refine aw_cond rfl (fun q4 => ?_) (fun q4 => ?_)
    · replace h := h.1 (of_decide_eq_true q4)
      refine aw_skip ?_
      refine aw_seq ?_
      refine aw_block ?_
      refine aw_seq ?_
      refine aw_region ?_
      refine run_s (ss_move rfl) rfl ?_
      refine run_s (ss_move rfl) rfl ?_
      obtain ⟨q5, h⟩ := h
      refine run_s (ss_convert rfl (IntWalk.u64_in _ q5)) rfl ?_
      obtain ⟨q6, h⟩ := h
      refine run_s (ss_shr rfl rfl q6) rfl ?_
      obtain ⟨q7, h⟩ := h
      refine run_s (ss_and1 rfl rfl q7) rfl ?_
      refine run_s (ss_eql rfl rfl) rfl ?_
      refine run_s (ss_move rfl) rfl ?_
      refine run_split (s := 25) rfl (fun q8 => ?_) (fun q8 => ?_)
      · replace h := h.1 (of_decide_eq_true q8)
        refine run_gt rfl rfl q8 ?_
        refine run_s (ss_move rfl) rfl ?_
        refine run_gt rfl rfl q8 ?_
        refine run_s (ss_move rfl) rfl ?_
        refine run_gt rfl rfl q8 ?_
        obtain ⟨q9, h⟩ := h
        refine run_s (ss_convert rfl (IntWalk.u64_in _ q9)) rfl ?_
        refine run_gt rfl rfl q8 ?_
        obtain ⟨q10, h⟩ := h
        refine run_s (ss_shr rfl rfl q10) rfl ?_
        refine run_gt rfl rfl q8 ?_
        obtain ⟨q11, h⟩ := h
        refine run_s (ss_and1 rfl rfl q11) rfl ?_
        refine run_gt rfl rfl q8 ?_
        refine run_s (ss_eql rfl rfl) rfl ?_
        refine run_s (ss_pickT rfl q8 rfl) rfl ?_
        refine run_s (ss_move rfl) rfl ?_
        refine run_split (s := 33) rfl (fun q12 => ?_) (fun q12 => ?_)
        · replace h := h.1 (of_decide_eq_true q12)
          refine run_gt rfl rfl q12 ?_
          refine run_s (ss_move rfl) rfl ?_
          refine run_gt rfl rfl q12 ?_
          refine run_s (ss_move rfl) rfl ?_
          refine run_gt rfl rfl q12 ?_
          refine run_s (ss_move rfl) rfl ?_
          refine run_gt rfl rfl q12 ?_
          obtain ⟨q13, h⟩ := h
          refine run_s (ss_idxL rfl rfl q13) rfl ?_
          refine run_gt rfl rfl q12 ?_
          refine run_s (ss_loadL (f := (fun r => C.lst (ints r))) rfl q13) rfl ?_
          refine run_gt rfl rfl q12 ?_
          refine run_s (ss_move rfl) rfl ?_
          refine run_gt rfl rfl q12 ?_
          obtain ⟨q14, h⟩ := h
          refine run_s (ss_idxL rfl rfl q14) rfl ?_
          refine run_gt rfl rfl q12 ?_
          refine run_s (ss_loadL (f := ci) rfl q14) rfl ?_
          refine run_gt rfl rfl q12 ?_
          obtain ⟨q15, h⟩ := h
          refine run_s (ss_convert rfl (IntWalk.u64_in _ q15)) rfl ?_
          refine run_gt rfl rfl q12 ?_
          obtain ⟨q16, h⟩ := h
          refine run_s (ss_shr rfl rfl q16) rfl ?_
          refine run_gt rfl rfl q12 ?_
          obtain ⟨q17, h⟩ := h
          refine run_s (ss_and1 rfl rfl q17) rfl ?_
          refine run_gt rfl rfl q12 ?_
          refine run_s (ss_eql rfl rfl) rfl ?_
          refine run_s (ss_pickT rfl q12 rfl) rfl ?_
          refine run_nil ?_
          refine aw_cond rfl (fun q18 => ?_) (fun q18 => ?_)
          · replace h := h.1 (of_decide_eq_true q18)
            refine aw_seq ?_
            refine aw_gh (gh_to (n := 47) (σ' := []) (env' := []) rfl rfl trivial) ?_
            refine aw_region ?_
            refine run_s (ss_assign rfl) rfl ?_
            refine run_nil ?_
            refine aw_ret ?_
            exact retAF_mk (retv1 rfl (rv_tmp rfl)) rfl rfl ⟨_, (cle_refl _), _, h, rfl⟩
          · replace h := h.2 (of_decide_eq_false q18)
            refine aw_skip ?_
            refine aw_gh (gh_to (n := 47) (σ' := []) (env' := [(0, .c (.lst (rows t))), (1, .c (ci mask)), (5, .c (ci v5_1)), (6, .c (ci v6_2)), (26, .c (ci mask)), (27, .c (ci v6_2)), (28, .c (.val (.int .u64 v6_2))), (29, .c (ci (mask / (2 : Int) ^ v6_2.toNat))), (30, .c (ci ((mask / (2 : Int) ^ v6_2.toNat) % 2))), (31, .c (cb (decide ((mask / (2 : Int) ^ v6_2.toNat) % 2 = 1)))), (34, .c (ci mask)), (35, .c (.lst (rows t))), (36, .c (ci v5_1)), (37, .c (.ptr ((rows t).drop v5_1.toNat))), (38, .c (.lst (ints (el t v5_1)))), (39, .c (ci v6_2)), (40, .c (.ptr ((ints (el t v5_1)).drop v6_2.toNat))), (41, .c (ci (el (el t v5_1) v6_2))), (42, .c (.val (.int .u64 (el (el t v5_1) v6_2)))), (43, .c (ci (mask / (2 : Int) ^ (el (el t v5_1) v6_2).toNat))), (44, .c (ci ((mask / (2 : Int) ^ (el (el t v5_1) v6_2).toNat) % 2))), (45, .c (cb (decide ((mask / (2 : Int) ^ (el (el t v5_1) v6_2).toNat) % 2 = 0))))]) rfl rfl ⟨rfl, rfl, rfl, rfl, rfl, rfl, rfl, rfl, rfl, rfl, rfl, rfl, rfl, rfl, rfl, rfl, rfl, rfl, rfl, rfl, rfl, rfl, trivial⟩) ?_
            refine aw_region ?_
            refine run_s (ss_move rfl) rfl ?_
            obtain ⟨q19, h⟩ := h
            refine run_s (ss_add rfl rfl q19) rfl ?_
            refine run_s (ss_assign rfl) rfl ?_
            refine run_nil ?_
            exact ⟨v6_2 + 1, ghe_to (n := 47) rfl rfl ⟨rfl, rfl, rfl, rfl, trivial⟩, h.1, h.2⟩
        · replace h := h.2 (of_decide_eq_false q12)
          refine run_gf rfl rfl q12 rfl ?_
          refine run_gf rfl rfl q12 rfl ?_
          refine run_gf rfl rfl q12 rfl ?_
          refine run_gf rfl rfl q12 rfl ?_
          refine run_gf rfl rfl q12 rfl ?_
          refine run_gf rfl rfl q12 rfl ?_
          refine run_gf rfl rfl q12 rfl ?_
          refine run_gf rfl rfl q12 rfl ?_
          refine run_gf rfl rfl q12 rfl ?_
          refine run_gf rfl rfl q12 rfl ?_
          refine run_gf rfl rfl q12 rfl ?_
          refine run_gf rfl rfl q12 rfl ?_
          refine run_s (ss_pickF rfl q12 rfl) rfl ?_
          refine run_nil ?_
          refine aw_cond rfl (fun q20 => ?_) (fun q20 => ?_)
          · cases q20
          · skip
            refine aw_skip ?_
            refine aw_gh (gh_to (n := 47) (σ' := []) (env' := [(0, .c (.lst (rows t))), (1, .c (ci mask)), (5, .c (ci v5_1)), (6, .c (ci v6_2)), (26, .c (ci mask)), (27, .c (ci v6_2)), (28, .c (.val (.int .u64 v6_2))), (29, .c (ci (mask / (2 : Int) ^ v6_2.toNat))), (30, .c (ci ((mask / (2 : Int) ^ v6_2.toNat) % 2))), (31, .c (cb (decide ((mask / (2 : Int) ^ v6_2.toNat) % 2 = 1))))]) rfl rfl ⟨rfl, rfl, rfl, rfl, rfl, rfl, rfl, rfl, rfl, rfl, trivial⟩) ?_
            refine aw_region ?_
            refine run_s (ss_move rfl) rfl ?_
            obtain ⟨q21, h⟩ := h
            refine run_s (ss_add rfl rfl q21) rfl ?_
            refine run_s (ss_assign rfl) rfl ?_
            refine run_nil ?_
            exact ⟨v6_2 + 1, ghe_to (n := 47) rfl rfl ⟨rfl, rfl, rfl, rfl, trivial⟩, h.1, h.2⟩
      · replace h := h.2 (of_decide_eq_false q8)
        refine run_gf rfl rfl q8 rfl ?_
        refine run_gf rfl rfl q8 rfl ?_
        refine run_gf rfl rfl q8 rfl ?_
        refine run_gf rfl rfl q8 rfl ?_
        refine run_gf rfl rfl q8 rfl ?_
        refine run_gf rfl rfl q8 rfl ?_
        refine run_s (ss_pickF rfl q8 rfl) rfl ?_
        refine run_s (ss_move rfl) rfl ?_
        refine run_split (s := 33) rfl (fun q22 => ?_) (fun q22 => ?_)
        · cases q22
        · skip
          refine run_gf rfl rfl q22 rfl ?_
          refine run_gf rfl rfl q22 rfl ?_
          refine run_gf rfl rfl q22 rfl ?_
          refine run_gf rfl rfl q22 rfl ?_
          refine run_gf rfl rfl q22 rfl ?_
          refine run_gf rfl rfl q22 rfl ?_
          refine run_gf rfl rfl q22 rfl ?_
          refine run_gf rfl rfl q22 rfl ?_
          refine run_gf rfl rfl q22 rfl ?_
          refine run_gf rfl rfl q22 rfl ?_
          refine run_gf rfl rfl q22 rfl ?_
          refine run_gf rfl rfl q22 rfl ?_
          refine run_s (ss_pickF rfl q22 rfl) rfl ?_
          refine run_nil ?_
          refine aw_cond rfl (fun q23 => ?_) (fun q23 => ?_)
          · cases q23
          · skip
            refine aw_skip ?_
            refine aw_gh (gh_to (n := 47) (σ' := []) (env' := [(0, .c (.lst (rows t))), (1, .c (ci mask)), (5, .c (ci v5_1)), (6, .c (ci v6_2))]) rfl rfl ⟨rfl, rfl, rfl, rfl, trivial⟩) ?_
            refine aw_region ?_
            refine run_s (ss_move rfl) rfl ?_
            obtain ⟨q24, h⟩ := h
            refine run_s (ss_add rfl rfl q24) rfl ?_
            refine run_s (ss_assign rfl) rfl ?_
            refine run_nil ?_
            exact ⟨v6_2 + 1, ghe_to (n := 47) rfl rfl ⟨rfl, rfl, rfl, rfl, trivial⟩, h.1, h.2⟩
    · replace h := h.2 (of_decide_eq_false q4)
      refine aw_exit ?_
      refine aw_region ?_
      refine run_s (ss_move rfl) rfl ?_
      obtain ⟨q25, h⟩ := h
      refine run_s (ss_add rfl rfl q25) rfl ?_
      refine run_s (ss_assign rfl) rfl ?_
      refine run_nil ?_
      exact ⟨v5_1 + 1, ghe_to (n := 47) rfl rfl ⟨rfl, rfl, rfl, trivial⟩, h.1, h.2⟩
  · replace h := h.2 (of_decide_eq_false q2)
    refine aw_exit ?_
    refine aw_seq ?_
    refine aw_gh (gh_to (n := 47) (σ' := []) (env' := []) rfl rfl trivial) ?_
    refine aw_region ?_
    refine run_s (ss_assign rfl) rfl ?_
    refine run_nil ?_
    refine aw_ret ?_
    exact retAF_mk (retv1 rfl (rv_tmp rfl)) rfl rfl ⟨_, (cle_refl _), _, h, rfl⟩

theorem c_spec_l04Closed (t : List (List Int)) (mask : Int) (hp : isTab t = true ∧ 0 ≤ mask ∧ mask ≤ 9223372036854775807) : AF Try.prog 46 [.lst (rows t), ci mask] (fun R_ => R_ = cb (dec (CloM t mask))) :=
  (w_spec_l04Closed t mask (fun y0 => y0 = dec (CloM t mask)) (p_spec_l04Closed t mask hp)).mono (by rintro r ⟨_, rfl, rfl⟩; rfl)

end Go.Proofs.Ytbcdcnddnldijaa
