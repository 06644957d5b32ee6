/- Contracts of functions that the law FnRackGroups reaches: conditions, plain proofs, walks; no condition. -/
import Derived.Test.YtggeeemecgmhiaaKRackGroupsb
import Derived.Test.YtggeeemecgmhiaaPP
namespace Go.Proofs.Ytggeeemecgmhiaa

def wp_spec_l01From (code : List Int) (Q : List Int → Int → Int → Prop) : Prop :=
 ((0 : Int) ≤ (code.length : Int) ∧ (code.length : Int) ≤ 18446744073709551615) ∧
 ∃ (H1 : Int → Int → Prop) (m1 : Int → Int → Nat),
 H1 0 (w64 ((6553 : Int) + (code.length : Int))) ∧
 ∀ (v4_1 : Int) (f11_2_1 : Int), H1 v4_1 f11_2_1 →
 ( ((v4_1 < (code.length : Int) →
 ((v4_1 < 4096 →
 (0 ≤ v4_1 ∧ v4_1 < (code.length : Int)) ∧
 ((0 : Int) ≤ el code v4_1 ∧ el code v4_1 ≤ 18446744073709551615) ∧
 (InI (v4_1 + 1)) ∧
 (H1 (v4_1 + 1) (w64 ((w64 ((w64 (f11_2_1 * (1099511628211 : Int))) + (el code v4_1))) + (11 : Int))) ∧ m1 (v4_1 + 1) (w64 ((w64 ((w64 (f11_2_1 * (1099511628211 : Int))) + (el code v4_1))) + (11 : Int))) < m1 v4_1 f11_2_1)) ∧
 (¬ (v4_1 < 4096) →
 Q code 0 f11_2_1))) ∧
 (¬ (v4_1 < (code.length : Int)) →
 Q code 0 f11_2_1)))

def wp_spec_l01Next (s1 : List Int) (s2 : Int) (s3 : Int) (n : Int) (Q : Int → List Int → Int → Int → Prop) : Prop :=
 ((n < 1 →
 Q 0 s1 s2 s3) ∧
 (¬ (n < 1) →
 ((0 : Int) ≤ w64 ((w64 (s3 * (6364136223846793005 : Int))) + (1442695040888963407 : Int)) ∧ (0 : Int) ≤ (33 : Int) ∧ (33 : Int) ≤ 62) ∧
 (((0 : Int) ≤ (w64 ((w64 (s3 * (6364136223846793005 : Int))) + (1442695040888963407 : Int))) / (2 : Int) ^ (33 : Int).toNat ∧ (w64 ((w64 (s3 * (6364136223846793005 : Int))) + (1442695040888963407 : Int))) / (2 : Int) ^ (33 : Int).toNat ≤ 18446744073709551615) ∧ (0 : Int) ≤ (16777215 : Int) ∧ (16777215 : Int) ≤ 18446744073709551615) ∧
 (InI ((((w64 ((w64 (s3 * (6364136223846793005 : Int))) + (1442695040888963407 : Int))) / (2 : Int) ^ (33 : Int).toNat).toNat &&& (16777215 : Int).toNat : Nat) : Int)) ∧
 ((s2 < (s1.length : Int) →
 (0 ≤ s2 ∧ s2 < (s1.length : Int)) ∧
 (InI (el s1 s2)) ∧
 (InI (((((w64 ((w64 (s3 * (6364136223846793005 : Int))) + (1442695040888963407 : Int))) / (2 : Int) ^ (33 : Int).toNat).toNat &&& (16777215 : Int).toNat : Nat) : Int) + (el s1 s2))) ∧
 (InI (s2 + 1)) ∧
 ((0 : Int) ≤ ((((w64 ((w64 (s3 * (6364136223846793005 : Int))) + (1442695040888963407 : Int))) / (2 : Int) ^ (33 : Int).toNat).toNat &&& (16777215 : Int).toNat : Nat) : Int) + (el s1 s2) ∧ (0 : Int) < n) ∧
 Q ((((((w64 ((w64 (s3 * (6364136223846793005 : Int))) + (1442695040888963407 : Int))) / (2 : Int) ^ (33 : Int).toNat).toNat &&& (16777215 : Int).toNat : Nat) : Int) + (el s1 s2)) % n) s1 (s2 + 1) (w64 ((w64 (s3 * (6364136223846793005 : Int))) + (1442695040888963407 : Int)))) ∧
 (¬ (s2 < (s1.length : Int)) →
 ((0 : Int) ≤ ((((w64 ((w64 (s3 * (6364136223846793005 : Int))) + (1442695040888963407 : Int))) / (2 : Int) ^ (33 : Int).toNat).toNat &&& (16777215 : Int).toNat : Nat) : Int) ∧ (0 : Int) < n) ∧
 Q (((((w64 ((w64 (s3 * (6364136223846793005 : Int))) + (1442695040888963407 : Int))) / (2 : Int) ^ (33 : Int).toNat).toNat &&& (16777215 : Int).toNat : Nat) : Int) % n) s1 s2 (w64 ((w64 (s3 * (6364136223846793005 : Int))) + (1442695040888963407 : Int)))))))

def wp_spec_l03DrawPerm (s1 : List Int) (s2 : Int) (s3 : Int) (n : Int) (Q : List Int → List Int → Int → Int → Prop) : Prop :=
 ∃ (H1 : Int → List Int → List Int → Int → Int → Prop) (m1 : Int → List Int → List Int → Int → Int → Nat),
 H1 0 ([] : List Int) s1 s2 s3 ∧
 ∀ (v6_1 : Int) (o9_1 : List Int) (f800_0_1 : List Int) (f800_1_1 : Int) (f800_2_1 : Int), H1 v6_1 o9_1 f800_0_1 f800_1_1 f800_2_1 →
 ( ((v6_1 < n →
 (InI (v6_1 + 1)) ∧
 (okS f800_0_1 f800_1_1 f800_2_1 ∧ InI (v6_1 + 1)) ∧
 ∀ (r1_0 : Int) (o1_0 : List Int) (o1_1 : Int) (o1_2 : Int), (nxP (v6_1 + 1) r1_0 ∧ o1_0 = f800_0_1 ∧ okS f800_0_1 o1_1 o1_2) →
 (0 ≤ r1_0 ∧ r1_0 ≤ (o9_1.length : Int) ∧ (o9_1.length : Int) ≤ (o9_1.length : Int)) ∧
 ((([v6_1]).length : Int) + ((sl o9_1 r1_0 (o9_1.length : Int)).length : Int) ≤ 1000000000) ∧
 ((0 : Int) ≤ 0 ∧ 0 ≤ r1_0 ∧ r1_0 ≤ (o9_1.length : Int)) ∧
 ((([] : List Int).length : Int) + ((sl o9_1 0 r1_0).length : Int) ≤ 1000000000) ∧
 (((([] : List Int) ++ (sl o9_1 0 r1_0)).length : Int) + ((([v6_1]) ++ (sl o9_1 r1_0 (o9_1.length : Int))).length : Int) ≤ 1000000000) ∧
 (InI (v6_1 + 1)) ∧
 (H1 (v6_1 + 1) ((([] : List Int) ++ (sl o9_1 0 r1_0)) ++ (([v6_1]) ++ (sl o9_1 r1_0 (o9_1.length : Int)))) o1_0 o1_1 o1_2 ∧ m1 (v6_1 + 1) ((([] : List Int) ++ (sl o9_1 0 r1_0)) ++ (([v6_1]) ++ (sl o9_1 r1_0 (o9_1.length : Int)))) o1_0 o1_1 o1_2 < m1 v6_1 o9_1 f800_0_1 f800_1_1 f800_2_1)) ∧
 (¬ (v6_1 < n) →
 Q o9_1 f800_0_1 f800_1_1 f800_2_1)))

theorem p_spec_l01From (code : List Int) (hp : small code ∧ bytes code) : wp_spec_l01From code (fun y0 y1 y2 => y0 = code ∧ okS code y1 y2) := by
  have hs : (code.length : Int) ≤ 1000000000 := hp.1
  refine ⟨⟨by omega, by omega⟩, fun i h => (0 ≤ i ∧ i ≤ (code.length : Int)) ∧ 0 ≤ h ∧ h ≤ 18446744073709551615, fun i _ => ((code.length : Int) - i).toNat, ⟨⟨by omega, by omega⟩, w64_in _⟩, ?_⟩
  rintro i h ⟨⟨i0, i1⟩, hh⟩
  dsimp only
  have fin : code = code ∧ okS code 0 h := ⟨rfl, hp, ⟨by omega, by omega⟩, hh⟩
  refine ⟨fun ilt => ⟨fun _ => ?_, fun _ => fin⟩, fun _ => fin⟩
  have hb := hp.2 i i0 ilt
  exact ⟨⟨i0, ilt⟩, ⟨hb.1, by omega⟩, ⟨by omega, by omega⟩, ⟨⟨by omega, by omega⟩, w64_in _⟩, by omega⟩
theorem p_spec_l01Next (s1 : List Int) (s2 s3 n : Int) (hp : okS s1 s2 s3 ∧ InI n) : wp_spec_l01Next s1 s2 s3 n (fun y0 w0 w1 w2 => nxP n y0 ∧ w0 = s1 ∧ okS s1 w1 w2) := by
  obtain ⟨⟨⟨hs, hb⟩, ha, hh⟩, hn⟩ := hp
  have hs' : (s1.length : Int) ≤ 1000000000 := hs
  unfold wp_spec_l01Next
  refine ⟨fun h => ⟨⟨fun _ => rfl, fun g => absurd h g⟩, rfl, ⟨hs, hb⟩, ha, hh⟩, fun h => ?_⟩
  generalize hH : w64 (w64 (s3 * (6364136223846793005 : Int)) + (1442695040888963407 : Int)) = H
  have hw : 0 ≤ H ∧ H ≤ 18446744073709551615 := by rw [← hH]; exact w64_in _
  have hd := shr_bd hw (33 : Int).toNat
  have hx := and_bd (H / (2 : Int) ^ (33 : Int).toNat).toNat
  generalize (((H / (2 : Int) ^ (33 : Int).toNat).toNat &&& (16777215 : Int).toNat : Nat) : Int) = B at hx ⊢
  have hn1 : 0 < n := by omega
  have md : ∀ z : Int, 0 ≤ z → nxP n (z % n) := fun z _ => ⟨fun g => absurd g h, fun _ => ⟨Int.emod_nonneg _ (by omega), Int.emod_lt_of_pos _ hn1⟩⟩
  refine ⟨⟨hw.1, by omega, by omega⟩, ⟨hd, by omega, by omega⟩, ⟨by omega, by omega⟩, fun g => ?_, fun g => ?_⟩
  · have hbb := hb s2 ha.1 g
    exact ⟨⟨ha.1, g⟩, ⟨by omega, by omega⟩, ⟨by omega, by omega⟩, ⟨by omega, by omega⟩, ⟨by omega, hn1⟩, md _ (by omega), rfl, ⟨hs, hb⟩, ⟨by omega, by omega⟩, hw⟩
  · exact ⟨⟨by omega, hn1⟩, md _ hx.1, rfl, ⟨hs, hb⟩, ha, hw⟩
theorem sl_len2 {l : List Int} {a b : Int} (h : 0 ≤ a ∧ a ≤ b ∧ b ≤ (l.length : Int)) : ((sl l a b).length : Int) = b - a := by simp [sl]; omega
theorem p_spec_l03DrawPerm (s1 : List Int) (s2 s3 n : Int) (hp : okS s1 s2 s3 ∧ n ≤ 1000) : wp_spec_l03DrawPerm s1 s2 s3 n (fun y0 w0 w1 w2 => ((y0.length : Int) = max n 0 ∧ (∀ z_ ∈ y0, 0 ≤ z_ ∧ z_ < n) ∧ y0.Nodup) ∧ w0 = s1 ∧ okS s1 w1 w2) := by
  obtain ⟨hs, hn⟩ := hp
  refine ⟨fun i v c a h => (0 ≤ i ∧ i ≤ max n 0) ∧ (v.length : Int) = i ∧ ((∀ z ∈ v, 0 ≤ z ∧ z < i) ∧ v.Nodup) ∧ c = s1 ∧ okS s1 a h, fun i _ _ _ _ => (n - i).toNat, ⟨⟨by omega, by omega⟩, rfl, ⟨by simp, List.nodup_nil⟩, rfl, hs⟩, ?_⟩
  rintro i v c a h ⟨⟨i0, i1⟩, hl, ⟨hv, hN⟩, rfl, hS⟩
  dsimp only
  refine ⟨fun ilt => ⟨⟨by omega, by omega⟩, ⟨hS, by omega, by omega⟩, ?_⟩, fun ige => ⟨⟨by omega, fun z hz => by have := hv z hz; omega, hN⟩, rfl, hS⟩⟩
  rintro r o0 o1 o2 ⟨hr, rfl, hS2⟩
  have hr2 := hr.2 (by omega)
  have l1 := sl_len2 (l := v) (a := r) (b := (v.length : Int)) ⟨hr2.1, by omega, by omega⟩
  have l2 := sl_len2 (l := v) (a := 0) (b := r) ⟨by omega, hr2.1, by omega⟩
  have e0 : sl v 0 r ++ sl v r (v.length : Int) = v := by
    have h1 : sl v 0 r = v.take r.toNat := by simp [sl]
    have h2 : sl v r (v.length : Int) = v.drop r.toNat := by simp [sl]
    rw [h1, h2, List.take_append_drop]
  have eP : (([] : List Int) ++ sl v 0 r ++ ([i] ++ sl v r (v.length : Int))).Perm (i :: v) := by
    have e1 : ([] : List Int) ++ sl v 0 r ++ ([i] ++ sl v r (v.length : Int)) = sl v 0 r ++ i :: sl v r (v.length : Int) := by simp
    rw [e1]
    exact List.perm_middle.trans (List.Perm.cons i (by rw [e0]))
  refine ⟨⟨hr2.1, by omega, by omega⟩, by rw [List.length_singleton]; omega, ⟨by omega, hr2.1, by omega⟩, by rw [List.length_nil]; omega, by simp only [List.nil_append, List.length_append, List.length_singleton]; omega, ⟨by omega, by omega⟩, ⟨⟨by omega, by omega⟩, ?_, ⟨?_, ?_⟩, rfl, hS2⟩, by omega⟩
  · simp only [List.nil_append, List.length_append, List.length_singleton]; omega
  · intro z hz
    rcases List.mem_cons.1 (eP.mem_iff.1 hz) with h1 | h1
    · omega
    · have := hv z h1; omega
  · exact eP.nodup_iff.2 (List.nodup_cons.2 ⟨fun hm => by have := hv i hm; omega, hN⟩)

set_option maxRecDepth 100000 in
set_option maxHeartbeats 4000000 in
theorem w_spec_l01From (code : List Int) (Q : List Int → Int → Int → Prop) (h : wp_spec_l01From code Q) : AF Try.prog 33 [.lst (bys code)] (fun R_ => ∃ y0 y1 y2, Q y0 y1 y2 ∧ R_ = .obox [.lst (bys y0), ci y1, cu y2]) := by
  refine AF.ofWQ (af_enter (n := 38) Try.func33 rfl (by rfl) rfl (Nat.le_of_ble_eq_true rfl) ?_)
  unfold wp_spec_l01From at h
  refine aw_seq ?_
  refine aw_gh (gh_to (n := 38) (σ' := []) (env' := [(0, .c (.lst (bys code)))]) rfl rfl ⟨rfl, trivial⟩) ?_
  refine aw_region ?_
  refine run_s (ss_assign rfl) rfl ?_
  refine run_nil ?_
  refine aw_seq ?_
  refine aw_region ?_
  refine run_s (ss_move rfl) rfl ?_
  refine run_s (ss_move rfl) rfl ?_
  refine run_s (ss_lenL (f := cy) rfl) rfl ?_
  obtain ⟨q1, h⟩ := h
  refine run_s (ss_convert rfl (IntWalk.u64_in _ q1)) rfl ?_
  refine run_s (ss_addU rfl rfl) rfl ?_
  refine run_s (ss_buildG (ps := [(0, .tmp 5), (2, .tmp 9)]) rfl) rfl ?_
  refine run_w (ws_boxS (id := 11) rfl rfl rfl (Nat.le_of_ble_eq_true rfl) rfl ⟨rfl, ?_⟩)
  refine run_s (ss_assign rfl) rfl ?_
  refine run_nil ?_
  refine aw_seq ?_
  refine aw_seq ?_
  refine aw_gh (gh_to (n := 38) (σ' := [(11, ⟨[.lst (bys code), ci 0, cu (w64 ((6553 : Int) + (code.length : Int)))], []⟩)]) (env' := [(0, .c (.lst (bys code))), (3, .cell 11 0)]) rfl rfl ⟨rfl, rfl, trivial⟩) ?_
  refine aw_region ?_
  refine run_s (ss_assign rfl) rfl ?_
  refine run_nil ?_
  refine aw_block ?_
  obtain ⟨H1, m1, q2, h⟩ := h
  refine aw_loop2 (fun (v4_1 : Int) (f11_2_1 : Int) => ⟨[(11, ⟨[.lst (bys code), ci 0, cu f11_2_1], []⟩)], [(0, .c (.lst (bys code))), (3, .cell 11 0), (4, .c (ci v4_1))], 38⟩) H1 m1 ⟨0, w64 ((6553 : Int) + (code.length : Int)), ghe_to (n := 38) rfl rfl ⟨rfl, rfl, rfl, trivial⟩, q2⟩ ?_
  rintro v4_1 f11_2_1 q2
  replace h := h v4_1 f11_2_1 q2
  refine aw_seq ?_
  refine aw_seq ?_
  refine aw_region ?_
  refine run_s (ss_move rfl) rfl ?_
  refine run_s (ss_move rfl) rfl ?_
  refine run_s (ss_lenL (f := cy) rfl) rfl ?_
  refine run_s (ss_lss rfl rfl) rfl ?_
  refine run_s (ss_move rfl) rfl ?_
  refine run_split (s := 16) rfl (fun q3 => ?_) (fun q3 => ?_)
  ·replace h := h.1 (of_decide_eq_true q3)
   refine run_gt rfl rfl q3 ?_
   refine run_s (ss_move rfl) rfl ?_
   refine run_gt rfl rfl q3 ?_
   refine run_s (ss_lss rfl rfl) rfl ?_
   refine run_s (ss_pickT rfl q3 rfl) rfl ?_
   refine run_nil ?_
   refine aw_cond rfl (fun q4 => ?_) (fun q4 => ?_)
   ·replace h := h.1 (of_decide_eq_true q4)
    refine aw_skip ?_
    refine aw_seq ?_
    refine aw_block ?_
    refine aw_gh (gh_to (n := 38) (σ' := [(11, ⟨[.lst (bys code), ci 0, cu f11_2_1], []⟩)]) (env' := [(0, .c (.lst (bys code))), (3, .cell 11 0), (4, .c (ci v4_1)), (17, .c (ci v4_1)), (18, .c (cb (decide (v4_1 < 4096))))]) rfl rfl ⟨rfl, rfl, rfl, rfl, rfl, trivial⟩) ?_
    refine aw_regionD (kd := kdl [0, 0, 0, 0, 1, 0, 0, 0, 0, 1, 0, 0, 0, 0, 0, 3]) (ord := [0, 1, 2, 3, 6, 7, 8, 4, 5, 9, 10, 11, 12, 13, 14, 15]) [] mixed (by kernel_rfl) ?_
    refine rd_s rfl rfl trivial (ss_move rfl) rfl ?_
    refine rd_s rfl rfl trivial (ss_move rfl) rfl ?_
    refine rd_s rfl rfl trivial (ss_nilCheck_cell rfl) rfl ?_
    refine rd_s rfl rfl trivial (ss_field_cell rfl) rfl ?_
    refine rd_s rfl rfl trivial (ss_move rfl) rfl ?_
    refine rd_s rfl rfl trivial (ss_move rfl) rfl ?_
    obtain ⟨q5, h⟩ := h
    refine rd_s rfl rfl trivial (ss_idxL rfl rfl q5) rfl ?_
    refine rd_l rfl rfl trivial (ss_loadC rfl rfl rfl rfl rfl) rfl ?_
    refine rd_s rfl rfl trivial (ss_mulU rfl rfl) rfl ?_
    refine rd_l rfl rfl trivial (ss_loadL (f := cy) rfl q5) rfl ?_
    obtain ⟨q6, h⟩ := h
    refine rd_s rfl rfl trivial (ss_convert rfl (IntWalk.u64_in _ q6)) rfl ?_
    refine rd_s rfl rfl trivial (ss_addU rfl rfl) rfl ?_
    refine rd_s rfl rfl trivial (ss_addU rfl rfl) rfl ?_
    refine rd_s rfl rfl trivial (ss_nilCheck_cell rfl) rfl ?_
    refine rd_s rfl rfl trivial (ss_field_cell rfl) rfl ?_
    refine rd_f rfl rfl trivial (ws_store rfl rfl (Nat.le_of_ble_eq_true rfl) rfl rfl ⟨rfl, ?_⟩)
    refine rd_nil ?_
    refine aw_gh (gh_to (n := 38) (σ' := [(11, ⟨[.lst (bys code), ci 0, cu (w64 ((w64 ((w64 (f11_2_1 * (1099511628211 : Int))) + (el code v4_1))) + (11 : Int)))], []⟩)]) (env' := [(0, .c (.lst (bys code))), (3, .cell 11 0), (4, .c (ci v4_1)), (17, .c (ci v4_1)), (18, .c (cb (decide (v4_1 < 4096))))]) rfl rfl ⟨rfl, rfl, rfl, rfl, rfl, trivial⟩) ?_
    refine aw_region ?_
    refine run_s (ss_move rfl) rfl ?_
    obtain ⟨q7, h⟩ := h
    refine run_s (ss_add rfl rfl q7) rfl ?_
    refine run_s (ss_assign rfl) rfl ?_
    refine run_nil ?_
    exact ⟨v4_1 + 1, w64 ((w64 ((w64 (f11_2_1 * (1099511628211 : Int))) + (el code v4_1))) + (11 : Int)), ghe_to (n := 38) rfl rfl ⟨rfl, rfl, rfl, trivial⟩, h.1, h.2⟩
   ·replace h := h.2 (of_decide_eq_false q4)
    refine aw_exit ?_
    refine aw_seq ?_
    refine aw_gh (gh_to (n := 38) (σ' := [(11, ⟨[.lst (bys code), ci 0, cu f11_2_1], []⟩)]) (env' := [(3, .cell 11 0)]) rfl rfl ⟨rfl, trivial⟩) ?_
    refine aw_region ?_
    refine run_s (ss_move rfl) rfl ?_
    refine run_s (ss_assign rfl) rfl ?_
    refine run_nil ?_
    refine aw_ret ?_
    exact retAF_mk (retv1 rfl (rv_tmp rfl)) rfl rfl ⟨_, (cle_refl _), _, _, _, h, rfl⟩
  ·replace h := h.2 (of_decide_eq_false q3)
   refine run_gf rfl rfl q3 rfl ?_
   refine run_gf rfl rfl q3 rfl ?_
   refine run_s (ss_pickF rfl q3 rfl) rfl ?_
   refine run_nil ?_
   refine aw_cond rfl (fun q8 => ?_) (fun q8 => ?_)
   ·cases q8
   ·skip
    refine aw_exit ?_
    refine aw_seq ?_
    refine aw_gh (gh_to (n := 38) (σ' := [(11, ⟨[.lst (bys code), ci 0, cu f11_2_1], []⟩)]) (env' := [(3, .cell 11 0)]) rfl rfl ⟨rfl, trivial⟩) ?_
    refine aw_region ?_
    refine run_s (ss_move rfl) rfl ?_
    refine run_s (ss_assign rfl) rfl ?_
    refine run_nil ?_
    refine aw_ret ?_
    exact retAF_mk (retv1 rfl (rv_tmp rfl)) rfl rfl ⟨_, (cle_refl _), _, _, _, h, rfl⟩

theorem c_spec_l01From (code : List Int) (hp : small code ∧ bytes code) : AF Try.prog 33 [.lst (bys code)] (fun R_ => ∃ y0 y1 y2, (y0 = code ∧ okS code y1 y2) ∧ R_ = .obox [.lst (bys y0), ci y1, cu y2]) :=
  w_spec_l01From code (fun y0 y1 y2 => y0 = code ∧ okS code y1 y2) (p_spec_l01From code hp)

set_option maxRecDepth 100000 in
set_option maxHeartbeats 4000000 in
theorem w_spec_l01Next (s1 : List Int) (s2 : Int) (s3 : Int) (n : Int) (Q : Int → List Int → Int → Int → Prop) (h : wp_spec_l01Next s1 s2 s3 n Q) : AM Try.prog 34 [.obox [.lst (bys s1), ci s2, cu s3], ci n] (fun R_ O_ => ∃ y0 w0 w1 w2, Q y0 w0 w1 w2 ∧ R_ = ci y0 ∧ O_ = [.obox [.lst (bys w0), ci w1, cu w2], ci n]) := by
  refine am_enter (n := 58) (m := 2) Try.func34 rfl (by rfl) rfl rfl (Nat.le_of_ble_eq_true rfl) [800] rfl ?_
  unfold wp_spec_l01Next at h
  refine aw_seq ?_
  refine aw_gh (gh_to (n := 58) (σ' := [(800, ⟨[.lst (bys s1), ci s2, cu s3], []⟩)]) (env' := [(0, .cell 800 0), (1, .c (ci n)), (58, .cell 800 0), (59, .c (ci n))]) rfl rfl ⟨rfl, rfl, rfl, rfl, trivial⟩) ?_
  refine aw_region ?_
  refine run_s (ss_assign rfl) rfl ?_
  refine run_nil ?_
  refine aw_seq ?_
  refine aw_seq ?_
  refine aw_region ?_
  refine run_s (ss_move rfl) rfl ?_
  refine run_s (ss_lss rfl rfl) rfl ?_
  refine run_nil ?_
  refine aw_cond rfl (fun q1 => ?_) (fun q1 => ?_)
  ·replace h := h.1 (of_decide_eq_true q1)
   refine aw_seq ?_
   refine aw_gh (gh_to (n := 58) (σ' := [(800, ⟨[.lst (bys s1), ci s2, cu s3], []⟩)]) (env' := [(4, .c (ci 0)), (58, .cell 800 0), (59, .c (ci n))]) rfl rfl ⟨rfl, rfl, rfl, trivial⟩) ?_
   refine aw_region ?_
   refine run_s (ss_assign rfl) rfl ?_
   refine run_nil ?_
   refine aw_ret ?_
   exact retAM_mk (retv1 rfl (rv_tmp rfl)) rfl rfl rfl ⟨_, _, _, _, h, rfl, rfl⟩
  ·replace h := h.2 (of_decide_eq_false q1)
   refine aw_skip ?_
   refine aw_seq ?_
   refine aw_region ?_
   refine run_s (ss_move rfl) rfl ?_
   refine run_s (ss_move rfl) rfl ?_
   refine run_s (ss_nilCheck_cell rfl) rfl ?_
   refine run_s (ss_field_cell rfl) rfl ?_
   refine run_s (ss_loadC rfl rfl rfl rfl rfl) rfl ?_
   refine run_s (ss_mulU rfl rfl) rfl ?_
   refine run_s (ss_addU rfl rfl) rfl ?_
   refine run_s (ss_nilCheck_cell rfl) rfl ?_
   refine run_s (ss_field_cell rfl) rfl ?_
   refine run_w (ws_store rfl rfl (Nat.le_of_ble_eq_true rfl) rfl rfl ⟨rfl, ?_⟩)
   refine run_nil ?_
   refine aw_seq ?_
   refine aw_gh (gh_to (n := 58) (σ' := [(800, ⟨[.lst (bys s1), ci s2, cu (w64 ((w64 (s3 * (6364136223846793005 : Int))) + (1442695040888963407 : Int)))], []⟩)]) (env' := [(0, .cell 800 0), (1, .c (ci n)), (58, .cell 800 0), (59, .c (ci n))]) rfl rfl ⟨rfl, rfl, rfl, rfl, trivial⟩) ?_
   refine aw_region ?_
   refine run_s (ss_move rfl) rfl ?_
   refine run_s (ss_nilCheck_cell rfl) rfl ?_
   refine run_s (ss_field_cell rfl) rfl ?_
   refine run_s (ss_loadC rfl rfl rfl rfl rfl) rfl ?_
   obtain ⟨q2, h⟩ := h
   refine run_s (ss_shrU rfl rfl q2) rfl ?_
   obtain ⟨q3, h⟩ := h
   refine run_s (ss_andU rfl rfl q3) rfl ?_
   obtain ⟨q4, h⟩ := h
   refine run_s (ss_convert rfl (wrap_in q4.1 q4.2)) rfl ?_
   refine run_s (ss_assign rfl) rfl ?_
   refine run_nil ?_
   refine aw_seq ?_
   refine aw_seq ?_
   refine aw_gh (gh_to (n := 58) (σ' := [(800, ⟨[.lst (bys s1), ci s2, cu (w64 ((w64 (s3 * (6364136223846793005 : Int))) + (1442695040888963407 : Int)))], []⟩)]) (env' := [(0, .cell 800 0), (1, .c (ci n)), (5, .c (ci ((((w64 ((w64 (s3 * (6364136223846793005 : Int))) + (1442695040888963407 : Int))) / (2 : Int) ^ (33 : Int).toNat).toNat &&& (16777215 : Int).toNat : Nat) : Int))), (58, .cell 800 0), (59, .c (ci n))]) rfl rfl ⟨rfl, rfl, rfl, rfl, rfl, trivial⟩) ?_
   refine aw_regionD (kd := kdl [0, 0, 0, 1, 0, 0, 0, 1, 0, 0]) (ord := [0, 1, 2, 4, 5, 6, 3, 7, 8, 9]) [] mixed (by kernel_rfl) ?_
   refine rd_s rfl rfl trivial (ss_move rfl) rfl ?_
   refine rd_s rfl rfl trivial (ss_nilCheck_cell rfl) rfl ?_
   refine rd_s rfl rfl trivial (ss_field_cell rfl) rfl ?_
   refine rd_s rfl rfl trivial (ss_move rfl) rfl ?_
   refine rd_s rfl rfl trivial (ss_nilCheck_cell rfl) rfl ?_
   refine rd_s rfl rfl trivial (ss_field_cell rfl) rfl ?_
   refine rd_l rfl rfl trivial (ss_loadC rfl rfl rfl rfl rfl) rfl ?_
   refine rd_l rfl rfl trivial (ss_loadC rfl rfl rfl rfl rfl) rfl ?_
   refine rd_s rfl rfl trivial (ss_lenL (f := cy) rfl) rfl ?_
   refine rd_s rfl rfl trivial (ss_lss rfl rfl) rfl ?_
   refine rd_nil ?_
   refine aw_cond rfl (fun q5 => ?_) (fun q5 => ?_)
   ·replace h := h.1 (of_decide_eq_true q5)
    refine aw_seq ?_
    refine aw_gh (gh_to (n := 58) (σ' := [(800, ⟨[.lst (bys s1), ci s2, cu (w64 ((w64 (s3 * (6364136223846793005 : Int))) + (1442695040888963407 : Int)))], []⟩)]) (env' := [(0, .cell 800 0), (1, .c (ci n)), (5, .c (ci ((((w64 ((w64 (s3 * (6364136223846793005 : Int))) + (1442695040888963407 : Int))) / (2 : Int) ^ (33 : Int).toNat).toNat &&& (16777215 : Int).toNat : Nat) : Int))), (58, .cell 800 0), (59, .c (ci n))]) rfl rfl ⟨rfl, rfl, rfl, rfl, rfl, trivial⟩) ?_
    refine aw_regionD (kd := kdl [0, 0, 0, 0, 1, 0, 0, 0, 1, 0, 1, 0, 0, 0]) (ord := [0, 1, 2, 3, 5, 6, 7, 4, 8, 9, 10, 11, 12, 13]) [] mixed (by kernel_rfl) ?_
    refine rd_s rfl rfl trivial (ss_move rfl) rfl ?_
    refine rd_s rfl rfl trivial (ss_move rfl) rfl ?_
    refine rd_s rfl rfl trivial (ss_nilCheck_cell rfl) rfl ?_
    refine rd_s rfl rfl trivial (ss_field_cell rfl) rfl ?_
    refine rd_s rfl rfl trivial (ss_move rfl) rfl ?_
    refine rd_s rfl rfl trivial (ss_nilCheck_cell rfl) rfl ?_
    refine rd_s rfl rfl trivial (ss_field_cell rfl) rfl ?_
    refine rd_l rfl rfl trivial (ss_loadC rfl rfl rfl rfl rfl) rfl ?_
    refine rd_l rfl rfl trivial (ss_loadC rfl rfl rfl rfl rfl) rfl ?_
    obtain ⟨q6, h⟩ := h
    refine rd_s rfl rfl trivial (ss_idxL rfl rfl q6) rfl ?_
    refine rd_l rfl rfl trivial (ss_loadL (f := cy) rfl q6) rfl ?_
    obtain ⟨q7, h⟩ := h
    refine rd_s rfl rfl trivial (ss_convert rfl (wrap_in q7.1 q7.2)) rfl ?_
    obtain ⟨q8, h⟩ := h
    refine rd_s rfl rfl trivial (ss_add rfl rfl q8) rfl ?_
    refine rd_s rfl rfl trivial (ss_assign rfl) rfl ?_
    refine rd_nil ?_
    refine aw_gh (gh_to (n := 58) (σ' := [(800, ⟨[.lst (bys s1), ci s2, cu (w64 ((w64 (s3 * (6364136223846793005 : Int))) + (1442695040888963407 : Int)))], []⟩)]) (env' := [(0, .cell 800 0), (1, .c (ci n)), (5, .c (ci (((((w64 ((w64 (s3 * (6364136223846793005 : Int))) + (1442695040888963407 : Int))) / (2 : Int) ^ (33 : Int).toNat).toNat &&& (16777215 : Int).toNat : Nat) : Int) + (el s1 s2)))), (58, .cell 800 0), (59, .c (ci n))]) rfl rfl ⟨rfl, rfl, rfl, rfl, rfl, trivial⟩) ?_
    refine aw_region ?_
    refine run_s (ss_move rfl) rfl ?_
    refine run_s (ss_move rfl) rfl ?_
    refine run_s (ss_nilCheck_cell rfl) rfl ?_
    refine run_s (ss_field_cell rfl) rfl ?_
    refine run_s (ss_loadC rfl rfl rfl rfl rfl) rfl ?_
    obtain ⟨q9, h⟩ := h
    refine run_s (ss_add rfl rfl q9) rfl ?_
    refine run_s (ss_nilCheck_cell rfl) rfl ?_
    refine run_s (ss_field_cell rfl) rfl ?_
    refine run_w (ws_store rfl rfl (Nat.le_of_ble_eq_true rfl) rfl rfl ⟨rfl, ?_⟩)
    refine run_nil ?_
    refine aw_seq ?_
    refine aw_gh (gh_to (n := 58) (σ' := [(800, ⟨[.lst (bys s1), ci (s2 + 1), cu (w64 ((w64 (s3 * (6364136223846793005 : Int))) + (1442695040888963407 : Int)))], []⟩)]) (env' := [(1, .c (ci n)), (5, .c (ci (((((w64 ((w64 (s3 * (6364136223846793005 : Int))) + (1442695040888963407 : Int))) / (2 : Int) ^ (33 : Int).toNat).toNat &&& (16777215 : Int).toNat : Nat) : Int) + (el s1 s2)))), (58, .cell 800 0), (59, .c (ci n))]) rfl rfl ⟨rfl, rfl, rfl, rfl, trivial⟩) ?_
    refine aw_region ?_
    refine run_s (ss_move rfl) rfl ?_
    refine run_s (ss_move rfl) rfl ?_
    obtain ⟨q10, h⟩ := h
    refine run_s (ss_rem rfl rfl q10) rfl ?_
    refine run_s (ss_assign rfl) rfl ?_
    refine run_nil ?_
    refine aw_ret ?_
    exact retAM_mk (retv1 rfl (rv_tmp rfl)) rfl rfl rfl ⟨_, _, _, _, h, rfl, rfl⟩
   ·replace h := h.2 (of_decide_eq_false q5)
    refine aw_skip ?_
    refine aw_seq ?_
    refine aw_gh (gh_to (n := 58) (σ' := [(800, ⟨[.lst (bys s1), ci s2, cu (w64 ((w64 (s3 * (6364136223846793005 : Int))) + (1442695040888963407 : Int)))], []⟩)]) (env' := [(1, .c (ci n)), (5, .c (ci ((((w64 ((w64 (s3 * (6364136223846793005 : Int))) + (1442695040888963407 : Int))) / (2 : Int) ^ (33 : Int).toNat).toNat &&& (16777215 : Int).toNat : Nat) : Int))), (58, .cell 800 0), (59, .c (ci n))]) rfl rfl ⟨rfl, rfl, rfl, rfl, trivial⟩) ?_
    refine aw_region ?_
    refine run_s (ss_move rfl) rfl ?_
    refine run_s (ss_move rfl) rfl ?_
    obtain ⟨q11, h⟩ := h
    refine run_s (ss_rem rfl rfl q11) rfl ?_
    refine run_s (ss_assign rfl) rfl ?_
    refine run_nil ?_
    refine aw_ret ?_
    exact retAM_mk (retv1 rfl (rv_tmp rfl)) rfl rfl rfl ⟨_, _, _, _, h, rfl, rfl⟩

theorem c_spec_l01Next (s1 : List Int) (s2 : Int) (s3 : Int) (n : Int) (hp : okS s1 s2 s3 ∧ InI n) : AM Try.prog 34 [.obox [.lst (bys s1), ci s2, cu s3], ci n] (fun R_ O_ => ∃ y0 w0 w1 w2, (nxP n y0 ∧ w0 = s1 ∧ okS s1 w1 w2) ∧ R_ = ci y0 ∧ O_ = [.obox [.lst (bys w0), ci w1, cu w2], ci n]) :=
  w_spec_l01Next s1 s2 s3 n (fun y0 w0 w1 w2 => nxP n y0 ∧ w0 = s1 ∧ okS s1 w1 w2) (p_spec_l01Next s1 s2 s3 n hp)

set_option maxRecDepth 100000 in
set_option maxHeartbeats 4000000 in
theorem w_spec_l03DrawPerm (s1 : List Int) (s2 : Int) (s3 : Int) (n : Int) (Q : List Int → List Int → Int → Int → Prop) (h : wp_spec_l03DrawPerm s1 s2 s3 n Q) : AM Try.prog 35 [.obox [.lst (bys s1), ci s2, cu s3], ci n] (fun R_ O_ => ∃ y0 w0 w1 w2, Q y0 w0 w1 w2 ∧ R_ = .own (ints y0) ∧ O_ = [.obox [.lst (bys w0), ci w1, cu w2], ci n]) := by
  refine am_enter (n := 33) (m := 2) Try.func35 rfl (by rfl) rfl rfl (Nat.le_of_ble_eq_true rfl) [800] rfl ?_
  unfold wp_spec_l03DrawPerm at h
  refine aw_seq ?_
  refine aw_gh (gh_to (n := 33) (σ' := [(800, ⟨[.lst (bys s1), ci s2, cu s3], []⟩)]) (env' := [(0, .cell 800 0), (1, .c (ci n)), (33, .cell 800 0), (34, .c (ci n))]) rfl rfl ⟨rfl, rfl, rfl, rfl, trivial⟩) ?_
  refine aw_region ?_
  refine run_s (ss_assign rfl) rfl ?_
  refine run_nil ?_
  refine aw_seq ?_
  refine aw_region ?_
  refine run_w (ws_buildSlice (id := 9) (ps := []) rfl rfl (Nat.le_of_ble_eq_true rfl) rfl ⟨rfl, ?_⟩)
  refine run_s (ss_assign rfl) rfl ?_
  refine run_nil ?_
  refine aw_seq ?_
  refine aw_seq ?_
  refine aw_gh (gh_to (n := 33) (σ' := [(9, ⟨ints ([] : List Int), []⟩), (800, ⟨[.lst (bys s1), ci s2, cu s3], []⟩)]) (env' := [(0, .cell 800 0), (1, .c (ci n)), (5, .ref 9), (33, .cell 800 0), (34, .c (ci n))]) rfl rfl ⟨rfl, rfl, rfl, rfl, rfl, trivial⟩) ?_
  refine aw_region ?_
  refine run_s (ss_assign rfl) rfl ?_
  refine run_nil ?_
  refine aw_block ?_
  obtain ⟨H1, m1, q1, h⟩ := h
  refine aw_loop5 (fun (v6_1 : Int) (o9_1 : List Int) (f800_0_1 : List Int) (f800_1_1 : Int) (f800_2_1 : Int) => ⟨[(9, ⟨ints o9_1, []⟩), (800, ⟨[.lst (bys f800_0_1), ci f800_1_1, cu f800_2_1], []⟩)], [(0, .cell 800 0), (1, .c (ci n)), (5, .ref 9), (6, .c (ci v6_1)), (33, .cell 800 0), (34, .c (ci n))], 33⟩) H1 m1 ⟨0, ([] : List Int), s1, s2, s3, ghe_to (n := 33) rfl rfl ⟨rfl, rfl, rfl, rfl, rfl, rfl, trivial⟩, q1⟩ ?_
  rintro v6_1 o9_1 f800_0_1 f800_1_1 f800_2_1 q1
  replace h := h v6_1 o9_1 f800_0_1 f800_1_1 f800_2_1 q1
  refine aw_seq ?_
  refine aw_seq ?_
  refine aw_region ?_
  refine run_s (ss_move rfl) rfl ?_
  refine run_s (ss_move rfl) rfl ?_
  refine run_s (ss_lss rfl rfl) rfl ?_
  refine run_nil ?_
  refine aw_cond rfl (fun q2 => ?_) (fun q2 => ?_)
  ·replace h := h.1 (of_decide_eq_true q2)
   refine aw_skip ?_
   refine aw_seq ?_
   refine aw_block ?_
   refine aw_seq ?_
   refine aw_region ?_
   refine run_s (ss_move rfl) rfl ?_
   refine run_s (ss_move rfl) rfl ?_
   obtain ⟨q3, h⟩ := h
   refine run_s (ss_add rfl rfl q3) rfl ?_
   obtain ⟨q4, h⟩ := h
   refine run_w (ws_callM (xs := [.tmp 15, .tmp 17]) (cs := [.obox [.lst (bys f800_0_1), ci f800_1_1, cu f800_2_1], ci (v6_1 + 1)]) (ids := []) rfl (.inr ⟨rfl, rfl⟩) rfl rfl rfl (c_spec_l01Next f800_0_1 f800_1_1 f800_2_1 (v6_1 + 1) q4) rfl rfl ?_ )
   rintro _ _ ⟨r1_0, o1_0, o1_1, o1_2, q5, rfl, rfl⟩
   replace h := h r1_0 o1_0 o1_1 o1_2 q5
   refine ⟨rfl, rfl, ?_⟩
   refine run_s (ss_assign rfl) rfl ?_
   refine run_nil ?_
   refine aw_seq ?_
   refine aw_region ?_
   refine run_s (ss_move rfl) rfl ?_
   refine run_w (ws_buildSlice (id := 20) (ps := [(0, .tmp 19)]) rfl rfl (Nat.le_of_ble_eq_true rfl) rfl ⟨rfl, ?_⟩)
   refine run_s (ss_move rfl) rfl ?_
   refine run_s (ss_move rfl) rfl ?_
   refine run_gh (gh_frzE (id := 9) ci rfl (fun _ => rfl)) ?_
   obtain ⟨q6, h⟩ := h
   refine run_s (ss_slL (f := ci) rfl ⟨_, rfl⟩ rfl q6) rfl ?_
   obtain ⟨q7, h⟩ := h
   refine run_w (ws_appL ci (l := [v6_1]) (m := sl o9_1 r1_0 (o9_1.length : Int)) rfl rfl rfl (Nat.le_of_ble_eq_true rfl) q7 ⟨rfl, ?_⟩)
   refine run_s (ss_assign rfl) rfl ?_
   refine run_nil ?_
   refine aw_gh (gh_to (n := 33) (σ' := [(20, ⟨ints (([v6_1]) ++ (sl o9_1 r1_0 (o9_1.length : Int))), []⟩), (800, ⟨[.lst (bys o1_0), ci o1_1, cu o1_2], []⟩)]) (env' := [(0, .cell 800 0), (1, .c (ci n)), (5, .c (.lst (ints o9_1))), (6, .c (ci v6_1)), (7, .c (ci r1_0)), (8, .ref 20), (33, .cell 800 0), (34, .c (ci n))]) rfl rfl ⟨rfl, rfl, rfl, rfl, rfl, rfl, rfl, rfl, trivial⟩) ?_
   refine aw_region ?_
   refine run_w (ws_buildSlice (id := 25) (ps := []) rfl rfl (Nat.le_of_ble_eq_true rfl) rfl ⟨rfl, ?_⟩)
   refine run_s (ss_move rfl) rfl ?_
   refine run_s (ss_move rfl) rfl ?_
   obtain ⟨q8, h⟩ := h
   refine run_s (ss_slL (f := ci) rfl rfl ⟨_, rfl⟩ q8) rfl ?_
   obtain ⟨q9, h⟩ := h
   refine run_w (ws_appL ci (l := ([] : List Int)) (m := sl o9_1 0 r1_0) rfl rfl rfl (Nat.le_of_ble_eq_true rfl) q9 ⟨rfl, ?_⟩)
   refine run_s (ss_move rfl) rfl ?_
   obtain ⟨q10, h⟩ := h
   refine run_w (ws_app1 ci (l := ([] : List Int) ++ (sl o9_1 0 r1_0)) (m := ([v6_1]) ++ (sl o9_1 r1_0 (o9_1.length : Int))) rfl rfl rfl rfl rfl (Nat.le_of_ble_eq_true rfl) q10 ⟨rfl, ?_⟩)
   refine run_s (ss_assign rfl) rfl ?_
   refine run_nil ?_
   refine aw_gh (gh_to (n := 33) (σ' := [(25, ⟨ints ((([] : List Int) ++ (sl o9_1 0 r1_0)) ++ (([v6_1]) ++ (sl o9_1 r1_0 (o9_1.length : Int)))), []⟩), (800, ⟨[.lst (bys o1_0), ci o1_1, cu o1_2], []⟩)]) (env' := [(0, .cell 800 0), (1, .c (ci n)), (5, .ref 25), (6, .c (ci v6_1)), (33, .cell 800 0), (34, .c (ci n))]) rfl rfl ⟨rfl, rfl, rfl, rfl, rfl, rfl, trivial⟩) ?_
   refine aw_region ?_
   refine run_s (ss_move rfl) rfl ?_
   obtain ⟨q11, h⟩ := h
   refine run_s (ss_add rfl rfl q11) rfl ?_
   refine run_s (ss_assign rfl) rfl ?_
   refine run_nil ?_
   exact ⟨v6_1 + 1, (([] : List Int) ++ (sl o9_1 0 r1_0)) ++ (([v6_1]) ++ (sl o9_1 r1_0 (o9_1.length : Int))), o1_0, o1_1, o1_2, ghe_step (gh_ren (a := 25) (b := 9) rfl rfl) (ghe_to (n := 33) rfl rfl ⟨rfl, rfl, rfl, rfl, rfl, rfl, trivial⟩), h.1, h.2⟩
  ·replace h := h.2 (of_decide_eq_false q2)
   refine aw_exit ?_
   refine aw_seq ?_
   refine aw_gh (gh_to (n := 33) (σ' := [(9, ⟨ints o9_1, []⟩), (800, ⟨[.lst (bys f800_0_1), ci f800_1_1, cu f800_2_1], []⟩)]) (env' := [(5, .ref 9), (33, .cell 800 0), (34, .c (ci n))]) rfl rfl ⟨rfl, rfl, rfl, trivial⟩) ?_
   refine aw_region ?_
   refine run_s (ss_move rfl) rfl ?_
   refine run_s (ss_assign rfl) rfl ?_
   refine run_nil ?_
   refine aw_ret ?_
   exact retAM_mk (retv1 rfl (rv_tmp rfl)) rfl rfl rfl ⟨_, _, _, _, h, rfl, rfl⟩

theorem c_spec_l03DrawPerm (s1 : List Int) (s2 : Int) (s3 : Int) (n : Int) (hp : okS s1 s2 s3 ∧ n ≤ 1000) : AM Try.prog 35 [.obox [.lst (bys s1), ci s2, cu s3], ci n] (fun R_ O_ => ∃ y0 w0 w1 w2, (((y0.length : Int) = max n 0 ∧ (∀ z_ ∈ y0, 0 ≤ z_ ∧ z_ < n) ∧ y0.Nodup) ∧ w0 = s1 ∧ okS s1 w1 w2) ∧ R_ = .own (ints y0) ∧ O_ = [.obox [.lst (bys w0), ci w1, cu w2], ci n]) :=
  w_spec_l03DrawPerm s1 s2 s3 n (fun y0 w0 w1 w2 => ((y0.length : Int) = max n 0 ∧ (∀ z_ ∈ y0, 0 ≤ z_ ∧ z_ < n) ∧ y0.Nodup) ∧ w0 = s1 ∧ okS s1 w1 w2) (p_spec_l03DrawPerm s1 s2 s3 n hp)

end Go.Proofs.Ytggeeemecgmhiaa
