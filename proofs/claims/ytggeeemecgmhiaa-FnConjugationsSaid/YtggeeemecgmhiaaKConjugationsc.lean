/- Contracts of functions that the law FnConjugations reaches: conditions, plain proofs, walks; no condition. -/
import Derived.Test.YtggeeemecgmhiaaKConjugationsb
import Derived.Test.YtggeeemecgmhiaaPP
namespace Go.Proofs.Ytggeeemecgmhiaa

def wp_spec_l01From (code : List Int) (Q : List Int → Int → Int → Prop) : Prop :=
 ((0 : Int) ≤ (code.length : Int) ∧ (code.length : Int) ≤ 18446744073709551615) ∧
 ∃ (H1 : Int → Int → Prop) (m1 : Int → Int → Nat),
 H1 0 (w64 ((6553 : Int) + (code.length : Int))) ∧
 ∀ (v4_1 : Int) (f11_2_1 : Int), H1 v4_1 f11_2_1 →
 ( ((v4_1 < (code.length : Int) →
 ((v4_1 < 4096 →
 (0 ≤ v4_1 ∧ v4_1 < (code.length : Int)) ∧
 ((0 : Int) ≤ el code v4_1 ∧ el code v4_1 ≤ 18446744073709551615) ∧
 (InI (v4_1 + 1)) ∧
 (H1 (v4_1 + 1) (w64 ((w64 ((w64 (f11_2_1 * (1099511628211 : Int))) + (el code v4_1))) + (11 : Int))) ∧ m1 (v4_1 + 1) (w64 ((w64 ((w64 (f11_2_1 * (1099511628211 : Int))) + (el code v4_1))) + (11 : Int))) < m1 v4_1 f11_2_1)) ∧
 (¬ (v4_1 < 4096) →
 Q code 0 f11_2_1))) ∧
 (¬ (v4_1 < (code.length : Int)) →
 Q code 0 f11_2_1)))

def wp_spec_l01Next (s1 : List Int) (s2 : Int) (s3 : Int) (n : Int) (Q : Int → List Int → Int → Int → Prop) : Prop :=
 ((n < 1 →
 Q 0 s1 s2 s3) ∧
 (¬ (n < 1) →
 ((0 : Int) ≤ w64 ((w64 (s3 * (6364136223846793005 : Int))) + (1442695040888963407 : Int)) ∧ (0 : Int) ≤ (33 : Int) ∧ (33 : Int) ≤ 62) ∧
 (((0 : Int) ≤ (w64 ((w64 (s3 * (6364136223846793005 : Int))) + (1442695040888963407 : Int))) / (2 : Int) ^ (33 : Int).toNat ∧ (w64 ((w64 (s3 * (6364136223846793005 : Int))) + (1442695040888963407 : Int))) / (2 : Int) ^ (33 : Int).toNat ≤ 18446744073709551615) ∧ (0 : Int) ≤ (16777215 : Int) ∧ (16777215 : Int) ≤ 18446744073709551615) ∧
 (InI ((((w64 ((w64 (s3 * (6364136223846793005 : Int))) + (1442695040888963407 : Int))) / (2 : Int) ^ (33 : Int).toNat).toNat &&& (16777215 : Int).toNat : Nat) : Int)) ∧
 ((s2 < (s1.length : Int) →
 (0 ≤ s2 ∧ s2 < (s1.length : Int)) ∧
 (InI (el s1 s2)) ∧
 (InI (((((w64 ((w64 (s3 * (6364136223846793005 : Int))) + (1442695040888963407 : Int))) / (2 : Int) ^ (33 : Int).toNat).toNat &&& (16777215 : Int).toNat : Nat) : Int) + (el s1 s2))) ∧
 (InI (s2 + 1)) ∧
 ((0 : Int) ≤ ((((w64 ((w64 (s3 * (6364136223846793005 : Int))) + (1442695040888963407 : Int))) / (2 : Int) ^ (33 : Int).toNat).toNat &&& (16777215 : Int).toNat : Nat) : Int) + (el s1 s2) ∧ (0 : Int) < n) ∧
 Q ((((((w64 ((w64 (s3 * (6364136223846793005 : Int))) + (1442695040888963407 : Int))) / (2 : Int) ^ (33 : Int).toNat).toNat &&& (16777215 : Int).toNat : Nat) : Int) + (el s1 s2)) % n) s1 (s2 + 1) (w64 ((w64 (s3 * (6364136223846793005 : Int))) + (1442695040888963407 : Int)))) ∧
 (¬ (s2 < (s1.length : Int)) →
 ((0 : Int) ≤ ((((w64 ((w64 (s3 * (6364136223846793005 : Int))) + (1442695040888963407 : Int))) / (2 : Int) ^ (33 : Int).toNat).toNat &&& (16777215 : Int).toNat : Nat) : Int) ∧ (0 : Int) < n) ∧
 Q (((((w64 ((w64 (s3 * (6364136223846793005 : Int))) + (1442695040888963407 : Int))) / (2 : Int) ^ (33 : Int).toNat).toNat &&& (16777215 : Int).toNat : Nat) : Int) % n) s1 s2 (w64 ((w64 (s3 * (6364136223846793005 : Int))) + (1442695040888963407 : Int)))))))

def wp_spec_l03DrawPerm (s1 : List Int) (s2 : Int) (s3 : Int) (n : Int) (Q : List Int → List Int → Int → Int → Prop) : Prop :=
 ∃ (H1 : Int → List Int → List Int → Int → Int → Prop) (m1 : Int → List Int → List Int → Int → Int → Nat),
 H1 0 ([] : List Int) s1 s2 s3 ∧
 ∀ (v6_1 : Int) (o9_1 : List Int) (f800_0_1 : List Int) (f800_1_1 : Int) (f800_2_1 : Int), H1 v6_1 o9_1 f800_0_1 f800_1_1 f800_2_1 →
 ( ((v6_1 < n →
 (InI (v6_1 + 1)) ∧
 (okS f800_0_1 f800_1_1 f800_2_1 ∧ InI (v6_1 + 1)) ∧
 ∀ (r1_0 : Int) (o1_0 : List Int) (o1_1 : Int) (o1_2 : Int), (nxP (v6_1 + 1) r1_0 ∧ o1_0 = f800_0_1 ∧ okS f800_0_1 o1_1 o1_2) →
 (0 ≤ r1_0 ∧ r1_0 ≤ (o9_1.length : Int) ∧ (o9_1.length : Int) ≤ (o9_1.length : Int)) ∧
 ((([v6_1]).length : Int) + ((sl o9_1 r1_0 (o9_1.length : Int)).length : Int) ≤ 1000000000) ∧
 ((0 : Int) ≤ 0 ∧ 0 ≤ r1_0 ∧ r1_0 ≤ (o9_1.length : Int)) ∧
 ((([] : List Int).length : Int) + ((sl o9_1 0 r1_0).length : Int) ≤ 1000000000) ∧
 (((([] : List Int) ++ (sl o9_1 0 r1_0)).length : Int) + ((([v6_1]) ++ (sl o9_1 r1_0 (o9_1.length : Int))).length : Int) ≤ 1000000000) ∧
 (InI (v6_1 + 1)) ∧
 (H1 (v6_1 + 1) ((([] : List Int) ++ (sl o9_1 0 r1_0)) ++ (([v6_1]) ++ (sl o9_1 r1_0 (o9_1.length : Int)))) o1_0 o1_1 o1_2 ∧ m1 (v6_1 + 1) ((([] : List Int) ++ (sl o9_1 0 r1_0)) ++ (([v6_1]) ++ (sl o9_1 r1_0 (o9_1.length : Int)))) o1_0 o1_1 o1_2 < m1 v6_1 o9_1 f800_0_1 f800_1_1 f800_2_1)) ∧
 (¬ (v6_1 < n) →
 Q o9_1 f800_0_1 f800_1_1 f800_2_1)))

theorem p_spec_l01From (code : List Int) (hp : small code ∧ bytes code) : wp_spec_l01From code (fun y0 y1 y2 => y0 = code ∧ okS code y1 y2) := by
  have hs : (code.length : Int) ≤ 1000000000 := hp.1
  refine ⟨⟨by omega, by omega⟩, fun i h => (0 ≤ i ∧ i ≤ (code.length : Int)) ∧ 0 ≤ h ∧ h ≤ 18446744073709551615, fun i _ => ((code.length : Int) - i).toNat, ⟨⟨by omega, by omega⟩, w64_in _⟩, ?_⟩
  rintro i h ⟨⟨i0, i1⟩, hh⟩
  dsimp only
  have fin : code = code ∧ okS code 0 h := ⟨rfl, hp, ⟨by omega, by omega⟩, hh⟩
  refine ⟨fun ilt => ⟨fun _ => ?_, fun _ => fin⟩, fun _ => fin⟩
  have hb := hp.2 i i0 ilt
  exact ⟨⟨i0, ilt⟩, ⟨hb.1, by omega⟩, ⟨by omega, by omega⟩, ⟨⟨by omega, by omega⟩, w64_in _⟩, by omega⟩
theorem p_spec_l01Next (s1 : List Int) (s2 s3 n : Int) (hp : okS s1 s2 s3 ∧ InI n) : wp_spec_l01Next s1 s2 s3 n (fun y0 w0 w1 w2 => nxP n y0 ∧ w0 = s1 ∧ okS s1 w1 w2) := by
  obtain ⟨⟨⟨hs, hb⟩, ha, hh⟩, hn⟩ := hp
  have hs' : (s1.length : Int) ≤ 1000000000 := hs
  unfold wp_spec_l01Next
  refine ⟨fun h => ⟨⟨fun _ => rfl, fun g => absurd h g⟩, rfl, ⟨hs, hb⟩, ha, hh⟩, fun h => ?_⟩
  generalize hH : w64 (w64 (s3 * (6364136223846793005 : Int)) + (1442695040888963407 : Int)) = H
  have hw : 0 ≤ H ∧ H ≤ 18446744073709551615 := by rw [← hH]; exact w64_in _
  have hd := shr_bd hw (33 : Int).toNat
  have hx := and_bd (H / (2 : Int) ^ (33 : Int).toNat).toNat
  generalize (((H / (2 : Int) ^ (33 : Int).toNat).toNat &&& (16777215 : Int).toNat : Nat) : Int) = B at hx ⊢
  have hn1 : 0 < n := by omega
  have md : ∀ z : Int, 0 ≤ z → nxP n (z % n) := fun z _ => ⟨fun g => absurd g h, fun _ => ⟨Int.emod_nonneg _ (by omega), Int.emod_lt_of_pos _ hn1⟩⟩
  refine ⟨⟨hw.1, by omega, by omega⟩, ⟨hd, by omega, by omega⟩, ⟨by omega, by omega⟩, fun g => ?_, fun g => ?_⟩
  · have hbb := hb s2 ha.1 g
    exact ⟨⟨ha.1, g⟩, ⟨by omega, by omega⟩, ⟨by omega, by omega⟩, ⟨by omega, by omega⟩, ⟨by omega, hn1⟩, md _ (by omega), rfl, ⟨hs, hb⟩, ⟨by omega, by omega⟩, hw⟩
  · exact ⟨⟨by omega, hn1⟩, md _ hx.1, rfl, ⟨hs, hb⟩, ha, hw⟩
theorem sl_len2 {l : List Int} {a b : Int} (h : 0 ≤ a ∧ a ≤ b ∧ b ≤ (l.length : Int)) : ((sl l a b).length : Int) = b - a := by simp [sl]; omega
theorem p_spec_l03DrawPerm (s1 : List Int) (s2 s3 n : Int) (hp : okS s1 s2 s3 ∧ n ≤ 1000) : wp_spec_l03DrawPerm s1 s2 s3 n (fun y0 w0 w1 w2 => ((y0.length : Int) = max n 0 ∧ (∀ z_ ∈ y0, 0 ≤ z_ ∧ z_ < n) ∧ y0.Nodup) ∧ w0 = s1 ∧ okS s1 w1 w2) := by
  obtain ⟨hs, hn⟩ := hp
  refine ⟨fun i v c a h => (0 ≤ i ∧ i ≤ max n 0) ∧ (v.length : Int) = i ∧ ((∀ z ∈ v, 0 ≤ z ∧ z < i) ∧ v.Nodup) ∧ c = s1 ∧ okS s1 a h, fun i _ _ _ _ => (n - i).toNat, ⟨⟨by omega, by omega⟩, rfl, ⟨by simp, List.nodup_nil⟩, rfl, hs⟩, ?_⟩
  rintro i v c a h ⟨⟨i0, i1⟩, hl, ⟨hv, hN⟩, rfl, hS⟩
  dsimp only
  refine ⟨fun ilt => ⟨⟨by omega, by omega⟩, ⟨hS, by omega, by omega⟩, ?_⟩, fun ige => ⟨⟨by omega, fun z hz => by have := hv z hz; omega, hN⟩, rfl, hS⟩⟩
  rintro r o0 o1 o2 ⟨hr, rfl, hS2⟩
  have hr2 := hr.2 (by omega)
  have l1 := sl_len2 (l := v) (a := r) (b := (v.length : Int)) ⟨hr2.1, by omega, by omega⟩
  have l2 := sl_len2 (l := v) (a := 0) (b := r) ⟨by omega, hr2.1, by omega⟩
  have e0 : sl v 0 r ++ sl v r (v.length : Int) = v := by
    have h1 : sl v 0 r = v.take r.toNat := by simp [sl]
    have h2 : sl v r (v.length : Int) = v.drop r.toNat := by simp [sl]
    rw [h1, h2, List.take_append_drop]
  have eP : (([] : List Int) ++ sl v 0 r ++ ([i] ++ sl v r (v.length : Int))).Perm (i :: v) := by
    have e1 : ([] : List Int) ++ sl v 0 r ++ ([i] ++ sl v r (v.length : Int)) = sl v 0 r ++ i :: sl v r (v.length : Int) := by simp
    rw [e1]
    exact List.perm_middle.trans (List.Perm.cons i (by rw [e0]))
  refine ⟨⟨hr2.1, by omega, by omega⟩, by rw [List.length_singleton]; omega, ⟨by omega, hr2.1, by omega⟩, by rw [List.length_nil]; omega, by simp only [List.nil_append, List.length_append, List.length_singleton]; omega, ⟨by omega, by omega⟩, ⟨⟨by omega, by omega⟩, ?_, ⟨?_, ?_⟩, rfl, hS2⟩, by omega⟩
  · simp only [List.nil_append, List.length_append, List.length_singleton]; omega
  · intro z hz
    rcases List.mem_cons.1 (eP.mem_iff.1 hz) with h1 | h1
    · omega
    · have := hv z h1; omega
  · exact eP.nodup_iff.2 (List.nodup_cons.2 ⟨fun hm => by have := hv i hm; omega, hN⟩)

set_option maxRecDepth 100000 in
set_option maxHeartbeats 4000000 in
theorem w_spec_l01From (code : List Int) (Q : List Int → Int → Int → Prop) (h : wp_spec_l01From code Q) : AF Try.prog 33 [.lst (bys code)] (fun R_ => ∃ y0 y1 y2, Q y0 y1 y2 ∧ R_ = .obox [.lst (bys y0), ci y1, cu y2]) := by
  refine AF.ofWQ (af_enter (n := 38) Try.func33 rfl (by rfl) rfl (Nat.le_of_ble_eq_true rfl) ?_)
  unfold wp_spec_l01From at h
  refine aw_seq ?_
  refine aw_gh (gh_to (n := 38) (σ' := []) (env' := [(0, .c (.lst (bys code)))]) rfl rfl ⟨rfl, trivial⟩) ?_
  refine aw_region ?_
  refine run_s (ss_assign rfl) rfl ?_
  refine run_nil ?_
  refine aw_seq ?_
  refine aw_region ?_
  refine run_s (ss_move rfl) rfl ?_
  refine run_s (ss_move rfl) rfl ?_
  refine run_s (ss_lenL (f := cy) rfl) rfl ?_
  obtain ⟨q1, h⟩ := h
  refine run_s (ss_convert rfl (IntWalk.u64_in _ q1)) rfl ?_
  refine run_s (ss_addU rfl rfl) rfl ?_
  refine run_s (ss_buildG (ps := [(0, .tmp 5), (2, .tmp 9)]) rfl) rfl ?_
  refine run_w (ws_boxS (id := 11) rfl rfl rfl (Nat.le_of_ble_eq_true rfl) rfl ⟨rfl, ?_⟩)
  refine run_s (ss_assign rfl) rfl ?_
  refine run_nil ?_
  refine aw_seq ?_
  refine aw_seq ?_
  refine aw_gh (gh_to (n := 38) (σ' := [(11, ⟨[.lst (bys code), ci 0, cu (w64 ((6553 : Int) + (code.length : Int)))], []⟩)]) (env' := [(0, .c (.lst (bys code))), (3, .cell 11 0)]) rfl rfl ⟨rfl, rfl, trivial⟩) ?_
  refine aw_region ?_
  refine run_s (ss_assign rfl) rfl ?_
  refine run_nil ?_
  refine aw_block ?_
  obtain ⟨H1, m1, q2, h⟩ := h
  refine aw_loop2 (fun (v4_1 : Int) (f11_2_1 : Int) => ⟨[(11, ⟨[.lst (bys code), ci 0, cu f11_2_1], []⟩)], [(0, .c (.lst (bys code))), (3, .cell 11 0), (4, .c (ci v4_1))], 38⟩) H1 m1 ⟨0, w64 ((6553 : Int) + (code.length : Int)), ghe_to (n := 38) rfl rfl ⟨rfl, rfl, rfl, trivial⟩, q2⟩ ?_
  rintro v4_1 f11_2_1 q2
  replace h := h v4_1 f11_2_1 q2
  refine aw_seq ?_
  refine aw_seq ?_
  refine aw_region ?_
  refine run_s (ss_move rfl) rfl ?_
  refine run_s (ss_move rfl) rfl ?_
  refine run_s (ss_lenL (f := cy) rfl) rfl ?_
  refine run_s (ss_lss rfl rfl) rfl ?_
  refine run_s (ss_move rfl) rfl ?_
  refine run_split (s := 16) rfl (fun q3 => ?_) (fun q3 => ?_)
  ·replace h := h.1 (of_decide_eq_true q3)
   refine run_gt rfl rfl q3 ?_
   refine run_s (ss_move rfl) rfl ?_
   refine run_gt rfl rfl q3 ?_
   refine run_s (ss_lss rfl rfl) rfl ?_
   refine run_s (ss_pickT rfl q3 rfl) rfl ?_
   refine run_nil ?_
   refine aw_cond rfl (fun q4 => ?_) (fun q4 => ?_)
   ·replace h := h.1 (of_decide_eq_true q4)
    refine aw_skip ?_
    refine aw_seq ?_
    refine aw_block ?_
    refine aw_gh (gh_to (n := 38) (σ' := [(11, ⟨[.lst (bys code), ci 0, cu f11_2_1], []⟩)]) (env' := [(0, .c (.lst (bys code))), (3, .cell 11 0), (4, .c (ci v4_1)), (17, .c (ci v4_1)), (18, .c (cb (decide (v4_1 < 4096))))]) rfl rfl ⟨rfl, rfl, rfl, rfl, rfl, trivial⟩) ?_
    refine aw_regionD (kd := kdl [0, 0, 0, 0, 1, 0, 0, 0, 0, 1, 0, 0, 0, 0, 0, 3]) (ord := [0, 1, 2, 3, 6, 7, 8, 4, 5, 9, 10, 11, 12, 13, 14, 15]) [] mixed (by kernel_rfl) ?_
    refine rd_s rfl rfl trivial (ss_move rfl) rfl ?_
    refine rd_s rfl rfl trivial (ss_move rfl) rfl ?_
    refine rd_s rfl rfl trivial (ss_nilCheck_cell rfl) rfl ?_
    refine rd_s rfl rfl trivial (ss_field_cell rfl) rfl ?_
    refine rd_s rfl rfl trivial (ss_move rfl) rfl ?_
    refine rd_s rfl rfl trivial (ss_move rfl) rfl ?_
    obtain ⟨q5, h⟩ := h
    refine rd_s rfl rfl trivial (ss_idxL rfl rfl q5) rfl ?_
    refine rd_l rfl rfl trivial (ss_loadC rfl rfl rfl rfl rfl) rfl ?_
    refine rd_s rfl rfl trivial (ss_mulU rfl rfl) rfl ?_
    refine rd_l rfl rfl trivial (ss_loadL (f := cy) rfl q5) rfl ?_
    obtain ⟨q6, h⟩ := h
    refine rd_s rfl rfl trivial (ss_convert rfl (IntWalk.u64_in _ q6)) rfl ?_
    refine rd_s rfl rfl trivial (ss_addU rfl rfl) rfl ?_
    refine rd_s rfl rfl trivial (ss_addU rfl rfl) rfl ?_
    refine rd_s rfl rfl trivial (ss_nilCheck_cell rfl) rfl ?_
    refine rd_s rfl rfl trivial (ss_field_cell rfl) rfl ?_
    refine rd_f rfl rfl trivial (ws_store rfl rfl (Nat.le_of_ble_eq_true rfl) rfl rfl ⟨rfl, ?_⟩)
    refine rd_nil ?_
    refine aw_gh (gh_to (n := 38) (σ' := [(11, ⟨[.lst (bys code), ci 0, cu (w64 ((w64 ((w64 (f11_2_1 * (1099511628211 : Int))) + (el code v4_1))) + (11 : Int)))], []⟩)]) (env' := [(0, .c (.lst (bys code))), (3, .cell 11 0), (4, .c (ci v4_1)), (17, .c (ci v4_1)), (18, .c (cb (decide (v4_1 < 4096))))]) rfl rfl ⟨rfl, rfl, rfl, rfl, rfl, trivial⟩) ?_
    refine aw_region ?_
    refine run_s (ss_move rfl) rfl ?_
    obtain ⟨q7, h⟩ := h
    refine run_s (ss_add rfl rfl q7) rfl ?_
    refine run_s (ss_assign rfl) rfl ?_
    refine run_nil ?_
    exact ⟨v4_1 + 1, w64 ((w64 ((w64 (f11_2_1 * (1099511628211 : Int))) + (el code v4_1))) + (11 : Int)), ghe_to (n := 38) rfl rfl ⟨rfl, rfl, rfl, trivial⟩, h.1, h.2⟩
   ·replace h := h.2 (of_decide_eq_false q4)
    refine aw_exit ?_
    refine aw_seq ?_
    refine aw_gh (gh_to (n := 38) (σ' := [(11, ⟨[.lst (bys code), ci 0, cu f11_2_1], []⟩)]) (env' := [(3, .cell 11 0)]) rfl rfl ⟨rfl, trivial⟩) ?_
    refine aw_region ?_
    refine run_s (ss_move rfl) rfl ?_
    refine run_s (ss_assign rfl) rfl ?_
    refine run_nil ?_
    refine aw_ret ?_
    exact retAF_mk (retv1 rfl (rv_tmp rfl)) rfl rfl ⟨_, (cle_refl _), _, _, _, h, rfl⟩
  ·replace h := h.2 (of_decide_eq_false q3)
   refine run_gf rfl rfl q3 rfl ?_
   refine run_gf rfl rfl q3 rfl ?_
   refine run_s (ss_pickF rfl q3 rfl) rfl ?_
   refine run_nil ?_
   refine aw_cond rfl (fun q8 => ?_) (fun q8 => ?_)
   ·cases q8
   ·skip
    refine aw_exit ?_
    refine aw_seq ?_
    refine aw_gh (gh_to (n := 38) (σ' := [(11, ⟨[.lst (bys code), ci 0, cu f11_2_1], []⟩)]) (env' := [(3, .cell 11 0)]) rfl rfl ⟨rfl, trivial⟩) ?_
    refine aw_region ?_
    refine run_s (ss_move rfl) rfl ?_
    refine run_s (ss_assign rfl) rfl ?_
    refine run_nil ?_
    refine aw_ret ?_
    exact retAF_mk (retv1 rfl (rv_tmp rfl)) rfl rfl ⟨_, (cle_refl _), _, _, _, h, rfl⟩

theorem c_spec_l01From (code : List Int) (hp : small code ∧ bytes code) : AF Try.prog 33 [.lst (bys code)] (fun R_ => ∃ y0 y1 y2, (y0 = code ∧ okS code y1 y2) ∧ R_ = .obox [.lst (bys y0), ci y1, cu y2]) :=
  w_spec_l01From code (fun y0 y1 y2 => y0 = code ∧ okS code y1 y2) (p_spec_l01From code hp)

set_option maxRecDepth 100000 in
set_option maxHeartbeats 4000000 in
theorem w_spec_l01Next (s1 : List Int) (s2 : Int) (s3 : Int) (n : Int) (Q : Int → List Int → Int → Int → Prop) (h : wp_spec_l01Next s1 s2 s3 n Q) : AM Try.prog 34 [.obox [.lst (bys s1), ci s2, cu s3], ci n] (fun R_ O_ => ∃ y0 w0 w1 w2, Q y0 w0 w1 w2 ∧ R_ = ci y0 ∧ O_ = [.obox [.lst (bys w0), ci w1, cu w2], ci n]) := by
  refine am_enter (n := 58) (m := 2) Try.func34 rfl (by rfl) rfl rfl (Nat.le_of_ble_eq_true rfl) [800] rfl ?_
  unfold wp_spec_l01Next at h
  refine aw_seq ?_
  refine aw_gh (gh_to (n := 58) (σ' := [(800, ⟨[.lst (bys s1), ci s2, cu s3], []⟩)]) (env' := [(0, .cell 800 0), (1, .c (ci n)), (58, .cell 800 0), (59, .c (ci n))]) rfl rfl ⟨rfl, rfl, rfl, rfl, trivial⟩) ?_
  refine aw_region ?_
  refine run_s (ss_assign rfl) rfl ?_
  refine run_nil ?_
  refine aw_seq ?_
  refine aw_seq ?_
  refine aw_region ?_
  refine run_s (ss_move rfl) rfl ?_
  refine run_s (ss_lss rfl rfl) rfl ?_
  refine run_nil ?_
  refine aw_cond rfl (fun q1 => ?_) (fun q1 => ?_)
  ·replace h := h.1 (of_decide_eq_true q1)
   refine aw_seq ?_
   refine aw_gh (gh_to (n := 58) (σ' := [(800, ⟨[.lst (bys s1), ci s2, cu s3], []⟩)]) (env' := [(4, .c (ci 0)), (58, .cell 800 0), (59, .c (ci n))]) rfl rfl ⟨rfl, rfl, rfl, trivial⟩) ?_
   refine aw_region ?_
   refine run_s (ss_assign rfl) rfl ?_
   refine run_nil ?_
   refine aw_ret ?_
   exact retAM_mk (retv1 rfl (rv_tmp rfl)) rfl rfl rfl ⟨_, _, _, _, h, rfl, rfl⟩
  ·replace h := h.2 (of_decide_eq_false q1)
   refine aw_skip ?_
   refine aw_seq ?_
   refine aw_region ?_
   refine run_s (ss_move rfl) rfl ?_
   refine run_s (ss_move rfl) rfl ?_
   refine run_s (ss_nilCheck_cell rfl) rfl ?_
   refine run_s (ss_field_cell rfl) rfl ?_
   refine run_s (ss_loadC rfl rfl rfl rfl rfl) rfl ?_
   refine run_s (ss_mulU rfl rfl) rfl ?_
   refine run_s (ss_addU rfl rfl) rfl ?_
   refine run_s (ss_nilCheck_cell rfl) rfl ?_
   refine run_s (ss_field_cell rfl) rfl ?_
   refine run_w (ws_store rfl rfl (Nat.le_of_ble_eq_true rfl) rfl rfl ⟨rfl, ?_⟩)
   refine run_nil ?_
   refine aw_seq ?_
   refine aw_gh (gh_to (n := 58) (σ' := [(800, ⟨[.lst (bys s1), ci s2, cu (w64 ((w64 (s3 * (6364136223846793005 : Int))) + (1442695040888963407 : Int)))], []⟩)]) (env' := [(0, .cell 800 0), (1, .c (ci n)), (58, .cell 800 0), (59, .c (ci n))]) rfl rfl ⟨rfl, rfl, rfl, rfl, trivial⟩) ?_
   refine aw_region ?_
   refine run_s (ss_move rfl) rfl ?_
   refine run_s (ss_nilCheck_cell rfl) rfl ?_
   refine run_s (ss_field_cell rfl) rfl ?_
   refine run_s (ss_loadC rfl rfl rfl rfl rfl) rfl ?_
   obtain ⟨q2, h⟩ := h
   refine run_s (ss_shrU rfl rfl q2) rfl ?_
   obtain ⟨q3, h⟩ := h
   refine run_s (ss_andU rfl rfl q3) rfl ?_
   obtain ⟨q4, h⟩ := h
   refine run_s (ss_convert rfl (wrap_in q4.1 q4.2)) rfl ?_
   refine run_s (ss_assign rfl) rfl ?_
   refine run_nil ?_
   refine aw_seq ?_
   refine aw_seq ?_
   refine aw_gh (gh_to (n := 58) (σ' := [(800, ⟨[.lst (bys s1), ci s2, cu (w64 ((w64 (s3 * (6364136223846793005 : Int))) + (1442695040888963407 : Int)))], []⟩)]) (env' := [(0, .cell 800 0), (1, .c (ci n)), (5, .c (ci ((((w64 ((w64 (s3 * (6364136223846793005 : Int))) + (1442695040888963407 : Int))) / (2 : Int) ^ (33 : Int).toNat).toNat &&& (16777215 : Int).toNat : Nat) : Int))), (58, .cell 800 0), (59, .c (ci n))]) rfl rfl ⟨rfl, rfl, rfl, rfl, rfl, trivial⟩) ?_
   refine aw_regionD (kd := kdl [0, 0, 0, 1, 0, 0, 0, 1, 0, 0]) (ord := [0, 1, 2, 4, 5, 6, 3, 7, 8, 9]) [] mixed (by kernel_rfl) ?_
   refine rd_s rfl rfl trivial (ss_move rfl) rfl ?_
   refine rd_s rfl rfl trivial (ss_nilCheck_cell rfl) rfl ?_
   refine rd_s rfl rfl trivial (ss_field_cell rfl) rfl ?_
   refine rd_s rfl rfl trivial (ss_move rfl) rfl ?_
   refine rd_s rfl rfl trivial (ss_nilCheck_cell rfl) rfl ?_
   refine rd_s rfl rfl trivial (ss_field_cell rfl) rfl ?_
   refine rd_l rfl rfl trivial (ss_loadC rfl rfl rfl rfl rfl) rfl ?_
   refine rd_l rfl rfl trivial (ss_loadC rfl rfl rfl rfl rfl) rfl ?_
   refine rd_s rfl rfl trivial (ss_lenL (f := cy) rfl) rfl ?_
   refine rd_s rfl rfl trivial (ss_lss rfl rfl) rfl ?_
   refine rd_nil ?_
   refine aw_cond rfl (fun q5 => ?_) (fun q5 => ?_)
   ·replace h := h.1 (of_decide_eq_true q5)
    refine aw_seq ?_
    refine aw_gh (gh_to (n := 58) (σ' := [(800, ⟨[.lst (bys s1), ci s2, cu (w64 ((w64 (s3 * (6364136223846793005 : Int))) + (1442695040888963407 : Int)))], []⟩)]) (env' := [(0, .cell 800 0), (1, .c (ci n)), (5, .c (ci ((((w64 ((w64 (s3 * (6364136223846793005 : Int))) + (1442695040888963407 : Int))) / (2 : Int) ^ (33 : Int).toNat).toNat &&& (16777215 : Int).toNat : Nat) : Int))), (58, .cell 800 0), (59, .c (ci n))]) rfl rfl ⟨rfl, rfl, rfl, rfl, rfl, trivial⟩) ?_
    refine aw_regionD (kd := kdl [0, 0, 0, 0, 1, 0, 0, 0, 1, 0, 1, 0, 0, 0]) (ord := [0, 1, 2, 3, 5, 6, 7, 4, 8, 9, 10, 11, 12, 13]) [] mixed (by kernel_rfl) ?_
    refine rd_s rfl rfl trivial (ss_move rfl) rfl ?_
    refine rd_s rfl rfl trivial (ss_move rfl) rfl ?_
    refine rd_s rfl rfl trivial (ss_nilCheck_cell rfl) rfl ?_
    refine rd_s rfl rfl trivial (ss_field_cell rfl) rfl ?_
    refine rd_s rfl rfl trivial (ss_move rfl) rfl ?_
    refine rd_s rfl rfl trivial (ss_nilCheck_cell rfl) rfl ?_
    refine rd_s rfl rfl trivial (ss_field_cell rfl) rfl ?_
    refine rd_l rfl rfl trivial (ss_loadC rfl rfl rfl rfl rfl) rfl ?_
    refine rd_l rfl rfl trivial (ss_loadC rfl rfl rfl rfl rfl) rfl ?_
    obtain ⟨q6, h⟩ := h
    refine rd_s rfl rfl trivial (ss_idxL rfl rfl q6) rfl ?_
    refine rd_l rfl rfl trivial (ss_loadL (f := cy) rfl q6) rfl ?_
    obtain ⟨q7, h⟩ := h
    refine rd_s rfl rfl trivial (ss_convert rfl (wrap_in q7.1 q7.2)) rfl ?_
    obtain ⟨q8, h⟩ := h
    refine rd_s rfl rfl trivial (ss_add rfl rfl q8) rfl ?_
    refine rd_s rfl rfl trivial (ss_assign rfl) rfl ?_
    refine rd_nil ?_
    refine aw_gh (gh_to (n := 58) (σ' := [(800, ⟨[.lst (bys s1), ci s2, cu (w64 ((w64 (s3 * (6364136223846793005 : Int))) + (1442695040888963407 : Int)))], []⟩)]) (env' := [(0, .cell 800 0), (1, .c (ci n)), (5, .c (ci (((((w64 ((w64 (s3 * (6364136223846793005 : Int))) + (1442695040888963407 : Int))) / (2 : Int) ^ (33 : Int).toNat).toNat &&& (16777215 : Int).toNat : Nat) : Int) + (el s1 s2)))), (58, .cell 800 0), (59, .c (ci n))]) rfl rfl ⟨rfl, rfl, rfl, rfl, rfl, trivial⟩) ?_
    refine aw_region ?_
    refine run_s (ss_move rfl) rfl ?_
    refine run_s (ss_move rfl) rfl ?_
    refine run_s (ss_nilCheck_cell rfl) rfl ?_
    refine run_s (ss_field_cell rfl) rfl ?_
    refine run_s (ss_loadC rfl rfl rfl rfl rfl) rfl ?_
    obtain ⟨q9, h⟩ := h
    refine run_s (ss_add rfl rfl q9) rfl ?_
    refine run_s (ss_nilCheck_cell rfl) rfl ?_
    refine run_s (ss_field_cell rfl) rfl ?_
    refine run_w (ws_store rfl rfl (Nat.le_of_ble_eq_true rfl) rfl rfl ⟨rfl, ?_⟩)
    refine run_nil ?_
    refine aw_seq ?_
    refine aw_gh (gh_to (n := 58) (σ' := [(800, ⟨[.lst (bys s1), ci (s2 + 1), cu (w64 ((w64 (s3 * (6364136223846793005 : Int))) + (1442695040888963407 : Int)))], []⟩)]) (env' := [(1, .c (ci n)), (5, .c (ci (((((w64 ((w64 (s3 * (6364136223846793005 : Int))) + (1442695040888963407 : Int))) / (2 : Int) ^ (33 : Int).toNat).toNat &&& (16777215 : Int).toNat : Nat) : Int) + (el s1 s2)))), (58, .cell 800 0), (59, .c (ci n))]) rfl rfl ⟨rfl, rfl, rfl, rfl, trivial⟩) ?_
    refine aw_region ?_
    refine run_s (ss_move rfl) rfl ?_
    refine run_s (ss_move rfl) rfl ?_
    obtain ⟨q10, h⟩ := h
    refine run_s (ss_rem rfl rfl q10) rfl ?_
    refine run_s (ss_assign rfl) rfl ?_
    refine run_nil ?_
    refine aw_ret ?_
    exact retAM_mk (retv1 rfl (rv_tmp rfl)) rfl rfl rfl ⟨_, _, _, _, h, rfl, rfl⟩
   ·replace h := h.2 (of_decide_eq_false q5)
    refine aw_skip ?_
    refine aw_seq ?_
    refine aw_gh (gh_to (n := 58) (σ' := [(800, ⟨[.lst (bys s1), ci s2, cu (w64 ((w64 (s3 * (6364136223846793005 : Int))) + (1442695040888963407 : Int)))], []⟩)]) (env' := [(1, .c (ci n)), (5, .c (ci ((((w64 ((w64 (s3 * (6364136223846793005 : Int))) + (1442695040888963407 : Int))) / (2 : Int) ^ (33 : Int).toNat).toNat &&& (16777215 : Int).toNat : Nat) : Int))), (58, .cell 800 0), (59, .c (ci n))]) rfl rfl ⟨rfl, rfl, rfl, rfl, trivial⟩) ?_
    refine aw_region ?_
    refine run_s (ss_move rfl) rfl ?_
    refine run_s (ss_move rfl) rfl ?_
    obtain ⟨q11, h⟩ := h
    refine run_s (ss_rem rfl rfl q11) rfl ?_
    refine run_s (ss_assign rfl) rfl ?_
    refine run_nil ?_
    refine aw_ret ?_
    exact retAM_mk (retv1 rfl (rv_tmp rfl)) rfl rfl rfl ⟨_, _, _, _, h, rfl, rfl⟩

theorem c_spec_l01Next (s1 : List Int) (s2 : Int) (s3 : Int) (n : Int) (hp : okS s1 s2 s3 ∧ InI n) : AM Try.prog 34 [.obox [.lst (bys s1), ci s2, cu s3], ci n] (fun R_ O_ => ∃ y0 w0 w1 w2, (nxP n y0 ∧ w0 = s1 ∧ okS s1 w1 w2) ∧ R_ = ci y0 ∧ O_ = [.obox [.lst (bys w0), ci w1, cu w2], ci n]) :=
  w_spec_l01Next s1 s2 s3 n (fun y0 w0 w1 w2 => nxP n y0 ∧ w0 = s1 ∧ okS s1 w1 w2) (p_spec_l01Next s1 s2 s3 n hp)

set_option maxRecDepth 100000 in
set_option maxHeartbeats 4000000 in
theorem w_spec_l03DrawPerm (s1 : List Int) (s2 : Int) (s3 : Int) (n : Int) (Q : List Int → List Int → Int → Int → Prop) (h : wp_spec_l03DrawPerm s1 s2 s3 n Q) : AM Try.prog 35 [.obox [.lst (bys s1), ci s2, cu s3], ci n] (fun R_ O_ => ∃ y0 w0 w1 w2, Q y0 w0 w1 w2 ∧ R_ = .own (ints y0) ∧ O_ = [.obox [.lst (bys w0), ci w1, cu w2], ci n]) := by
  refine am_enter (n := 33) (m := 2) Try.func35 rfl (by rfl) rfl rfl (Nat.le_of_ble_eq_true rfl) [800] rfl ?_
  unfold wp_spec_l03DrawPerm at h
  refine aw_seq ?_
  refine aw_gh (gh_to (n := 33) (σ' := [(800, ⟨[.lst (bys s1), ci s2, cu s3], []⟩)]) (env' := [(0, .cell 800 0), (1, .c (ci n)), (33, .cell 800 0), (34, .c (ci n))]) rfl rfl ⟨rfl, rfl, rfl, rfl, trivial⟩) ?_
  refine aw_region ?_
  refine run_s (ss_assign rfl) rfl ?_
  refine run_nil ?_
  refine aw_seq ?_
  refine aw_region ?_
  refine run_w (ws_buildSlice (id := 9) (ps := []) rfl rfl (Nat.le_of_ble_eq_true rfl) rfl ⟨rfl, ?_⟩)
  refine run_s (ss_assign rfl) rfl ?_
  refine run_nil ?_
  refine aw_seq ?_
  refine aw_seq ?_
  refine aw_gh (gh_to (n := 33) (σ' := [(9, ⟨ints ([] : List Int), []⟩), (800, ⟨[.lst (bys s1), ci s2, cu s3], []⟩)]) (env' := [(0, .cell 800 0), (1, .c (ci n)), (5, .ref 9), (33, .cell 800 0), (34, .c (ci n))]) rfl rfl ⟨rfl, rfl, rfl, rfl, rfl, trivial⟩) ?_
  refine aw_region ?_
  refine run_s (ss_assign rfl) rfl ?_
  refine run_nil ?_
  refine aw_block ?_
  obtain ⟨H1, m1, q1, h⟩ := h
  refine aw_loop5 (fun (v6_1 : Int) (o9_1 : List Int) (f800_0_1 : List Int) (f800_1_1 : Int) (f800_2_1 : Int) => ⟨[(9, ⟨ints o9_1, []⟩), (800, ⟨[.lst (bys f800_0_1), ci f800_1_1, cu f800_2_1], []⟩)], [(0, .cell 800 0), (1, .c (ci n)), (5, .ref 9), (6, .c (ci v6_1)), (33, .cell 800 0), (34, .c (ci n))], 33⟩) H1 m1 ⟨0, ([] : List Int), s1, s2, s3, ghe_to (n := 33) rfl rfl ⟨rfl, rfl, rfl, rfl, rfl, rfl, trivial⟩, q1⟩ ?_
  rintro v6_1 o9_1 f800_0_1 f800_1_1 f800_2_1 q1
  replace h := h v6_1 o9_1 f800_0_1 f800_1_1 f800_2_1 q1
  refine aw_seq ?_
  refine aw_seq ?_
  refine aw_region ?_
  refine run_s (ss_move rfl) rfl ?_
  refine run_s (ss_move rfl) rfl ?_
  refine run_s (ss_lss rfl rfl) rfl ?_
  refine run_nil ?_
  refine aw_cond rfl (fun q2 => ?_) (fun q2 => ?_)
  ·replace h := h.1 (of_decide_eq_true q2)
   refine aw_skip ?_
   refine aw_seq ?_
   refine aw_block ?_
   refine aw_seq ?_
   refine aw_region ?_
   refine run_s (ss_move rfl) rfl ?_
   refine run_s (ss_move rfl) rfl ?_
   obtain ⟨q3, h⟩ := h
   refine run_s (ss_add rfl rfl q3) rfl ?_
   obtain ⟨q4, h⟩ := h
   refine run_w (ws_callM (xs := [.tmp 15, .tmp 17]) (cs := [.obox [.lst (bys f800_0_1), ci f800_1_1, cu f800_2_1], ci (v6_1 + 1)]) (ids := []) rfl (.inr ⟨rfl, rfl⟩) rfl rfl rfl (c_spec_l01Next f800_0_1 f800_1_1 f800_2_1 (v6_1 + 1) q4) rfl rfl ?_ )
   rintro _ _ ⟨r1_0, o1_0, o1_1, o1_2, q5, rfl, rfl⟩
   replace h := h r1_0 o1_0 o1_1 o1_2 q5
   refine ⟨rfl, rfl, ?_⟩
   refine run_s (ss_assign rfl) rfl ?_
   refine run_nil ?_
   refine aw_seq ?_
   refine aw_region ?_
   refine run_s (ss_move rfl) rfl ?_
   refine run_w (ws_buildSlice (id := 20) (ps := [(0, .tmp 19)]) rfl rfl (Nat.le_of_ble_eq_true rfl) rfl ⟨rfl, ?_⟩)
   refine run_s (ss_move rfl) rfl ?_
   refine run_s (ss_move rfl) rfl ?_
   refine run_gh (gh_frzE (id := 9) ci rfl (fun _ => rfl)) ?_
   obtain ⟨q6, h⟩ := h
   refine run_s (ss_slL (f := ci) rfl ⟨_, rfl⟩ rfl q6) rfl ?_
   obtain ⟨q7, h⟩ := h
   refine run_w (ws_appL ci (l := [v6_1]) (m := sl o9_1 r1_0 (o9_1.length : Int)) rfl rfl rfl (Nat.le_of_ble_eq_true rfl) q7 ⟨rfl, ?_⟩)
   refine run_s (ss_assign rfl) rfl ?_
   refine run_nil ?_
   refine aw_gh (gh_to (n := 33) (σ' := [(20, ⟨ints (([v6_1]) ++ (sl o9_1 r1_0 (o9_1.length : Int))), []⟩), (800, ⟨[.lst (bys o1_0), ci o1_1, cu o1_2], []⟩)]) (env' := [(0, .cell 800 0), (1, .c (ci n)), (5, .c (.lst (ints o9_1))), (6, .c (ci v6_1)), (7, .c (ci r1_0)), (8, .ref 20), (33, .cell 800 0), (34, .c (ci n))]) rfl rfl ⟨rfl, rfl, rfl, rfl, rfl, rfl, rfl, rfl, trivial⟩) ?_
   refine aw_region ?_
   refine run_w (ws_buildSlice (id := 25) (ps := []) rfl rfl (Nat.le_of_ble_eq_true rfl) rfl ⟨rfl, ?_⟩)
   refine run_s (ss_move rfl) rfl ?_
   refine run_s (ss_move rfl) rfl ?_
   obtain ⟨q8, h⟩ := h
   refine run_s (ss_slL (f := ci) rfl rfl ⟨_, rfl⟩ q8) rfl ?_
   obtain ⟨q9, h⟩ := h
   refine run_w (ws_appL ci (l := ([] : List Int)) (m := sl o9_1 0 r1_0) rfl rfl rfl (Nat.le_of_ble_eq_true rfl) q9 ⟨rfl, ?_⟩)
   refine run_s (ss_move rfl) rfl ?_
   obtain ⟨q10, h⟩ := h
   refine run_w (ws_app1 ci (l := ([] : List Int) ++ (sl o9_1 0 r1_0)) (m := ([v6_1]) ++ (sl o9_1 r1_0 (o9_1.length : Int))) rfl rfl rfl rfl rfl (Nat.le_of_ble_eq_true rfl) q10 ⟨rfl, ?_⟩)
   refine run_s (ss_assign rfl) rfl ?_
   refine run_nil ?_
   refine aw_gh (gh_to (n := 33) (σ' := [(25, ⟨ints ((([] : List Int) ++ (sl o9_1 0 r1_0)) ++ (([v6_1]) ++ (sl o9_1 r1_0 (o9_1.length : Int)))), []⟩), (800, ⟨[.lst (bys o1_0), ci o1_1, cu o1_2], []⟩)]) (env' := [(0, .cell 800 0), (1, .c (ci n)), (5, .ref 25), (6, .c (ci v6_1)), (33, .cell 800 0), (34, .c (ci n))]) rfl rfl ⟨rfl, rfl, rfl, rfl, rfl, rfl, trivial⟩) ?_
   refine aw_region ?_
   refine run_s (ss_move rfl) rfl ?_
   obtain ⟨q11, h⟩ := h
   refine run_s (ss_add rfl rfl q11) rfl ?_
   refine run_s (ss_assign rfl) rfl ?_
   refine run_nil ?_
   exact ⟨v6_1 + 1, (([] : List Int) ++ (sl o9_1 0 r1_0)) ++ (([v6_1]) ++ (sl o9_1 r1_0 (o9_1.length : Int))), o1_0, o1_1, o1_2, ghe_step (gh_ren (a := 25) (b := 9) rfl rfl) (ghe_to (n := 33) rfl rfl ⟨rfl, rfl, rfl, rfl, rfl, rfl, trivial⟩), h.1, h.2⟩
  ·replace h := h.2 (of_decide_eq_false q2)
   refine aw_exit ?_
   refine aw_seq ?_
   refine aw_gh (gh_to (n := 33) (σ' := [(9, ⟨ints o9_1, []⟩), (800, ⟨[.lst (bys f800_0_1), ci f800_1_1, cu f800_2_1], []⟩)]) (env' := [(5, .ref 9), (33, .cell 800 0), (34, .c (ci n))]) rfl rfl ⟨rfl, rfl, rfl, trivial⟩) ?_
   refine aw_region ?_
   refine run_s (ss_move rfl) rfl ?_
   refine run_s (ss_assign rfl) rfl ?_
   refine run_nil ?_
   refine aw_ret ?_
   exact retAM_mk (retv1 rfl (rv_tmp rfl)) rfl rfl rfl ⟨_, _, _, _, h, rfl, rfl⟩

theorem c_spec_l03DrawPerm (s1 : List Int) (s2 : Int) (s3 : Int) (n : Int) (hp : okS s1 s2 s3 ∧ n ≤ 1000) : AM Try.prog 35 [.obox [.lst (bys s1), ci s2, cu s3], ci n] (fun R_ O_ => ∃ y0 w0 w1 w2, (((y0.length : Int) = max n 0 ∧ (∀ z_ ∈ y0, 0 ≤ z_ ∧ z_ < n) ∧ y0.Nodup) ∧ w0 = s1 ∧ okS s1 w1 w2) ∧ R_ = .own (ints y0) ∧ O_ = [.obox [.lst (bys w0), ci w1, cu w2], ci n]) :=
  w_spec_l03DrawPerm s1 s2 s3 n (fun y0 w0 w1 w2 => ((y0.length : Int) = max n 0 ∧ (∀ z_ ∈ y0, 0 ≤ z_ ∧ z_ < n) ∧ y0.Nodup) ∧ w0 = s1 ∧ okS s1 w1 w2) (p_spec_l03DrawPerm s1 s2 s3 n hp)

def wp_spec_l01Grow (n : Int) (start : List Int) (list : List (List Int)) (Q : List (List Int) → Prop) : Prop :=
 (((start.length : Int) = n →
 ((list.length : Int) + (([start]).length : Int) ≤ 1000000000) ∧
 Q (list ++ ([start]))) ∧
 (¬ ((start.length : Int) = n) →
 ∃ (H1 : Int → List (List Int) → Prop) (m1 : Int → List (List Int) → Nat),
 H1 0 list ∧
 ∀ (v7_1 : Int) (o801_1 : List (List Int)), H1 v7_1 o801_1 →
 ( ((v7_1 < n →
 (small start) ∧
 (((start.contains v7_1) = false →
 (small start) ∧
 ((start.length : Int) + (([v7_1]).length : Int) ≤ 1000000000) ∧
 ((n - ((start ++ ([v7_1])).length : Int)).toNat < (n - (start.length : Int)).toNat) ∧
 (((start ++ ([v7_1])).length : Int) ≤ n ∧ n ≤ 8 ∧ ((o801_1 ++ growL n (start ++ ([v7_1]))).length : Int) ≤ 100000000) ∧
 (InI (v7_1 + 1)) ∧
 (H1 (v7_1 + 1) (o801_1 ++ growL n (start ++ ([v7_1]))) ∧ m1 (v7_1 + 1) (o801_1 ++ growL n (start ++ ([v7_1]))) < m1 v7_1 o801_1)) ∧
 ((start.contains v7_1) = true →
 (InI (v7_1 + 1)) ∧
 (H1 (v7_1 + 1) o801_1 ∧ m1 (v7_1 + 1) o801_1 < m1 v7_1 o801_1)))) ∧
 (¬ (v7_1 < n) →
 Q o801_1)))))

def wp_spec_l01Perms (n : Int) (Q : List (List Int) → Prop) : Prop :=
 ((([] : List Int).length : Int) ≤ n ∧ n ≤ 8 ∧ ((([] : List (List Int)) ++ growL n ([] : List Int)).length : Int) ≤ 100000000) ∧
 Q (([] : List (List Int)) ++ growL n ([] : List Int))

def wp_laws_big (code : List Int) (Q : Bool → Prop) : Prop :=
 Q (decide (4096 < (code.length : Int)))

theorem p_spec_l01Grow (n : Int) (start : List Int) (list : List (List Int)) (hp : (start.length : Int) ≤ n ∧ n ≤ 8 ∧ ((list ++ growL n start).length : Int) ≤ 100000000) : wp_spec_l01Grow n start list (fun y0 => y0 = list ++ growL n start) := by
  obtain ⟨h1, h2, h3⟩ := hp
  refine ⟨fun e => ?_, fun e => ?_⟩
  · rw [growL_end e] at h3 ⊢
    exact ⟨by rw [List.length_append] at h3; omega, rfl⟩
  · have hs : small start := by show (start.length : Int) ≤ _; omega
    have hlt : (start.length : Int) < n := by omega
    refine ⟨fun x o => (0 ≤ x ∧ x ≤ n) ∧ o = list ++ growT n start x, fun x _ => (n - x).toNat, ⟨⟨by omega, by omega⟩, by rw [growT_zero, List.append_nil]⟩, ?_⟩
    rintro x o ⟨⟨x0, x1⟩, rfl⟩
    dsimp only
    refine ⟨fun xn => ⟨hs, fun hc => ?_, fun hc => ?_⟩, fun xn => by rw [growL_step hlt, show x = n by omega]⟩
    · refine ⟨hs, by rw [List.length_singleton]; omega, by simp; omega, ⟨by simp; omega, h2, ?_⟩, ⟨by omega, by omega⟩, ⟨⟨by omega, by omega⟩, ?_⟩, by omega⟩
      · have := growT_len (n := n) (s := start) (x := x + 1) (y := n) ⟨by omega, by omega⟩
        rw [growT_succ x0, hc] at this
        rw [growL_step hlt] at h3
        simp at this h3 ⊢; omega
      · rw [growT_succ x0, hc]; simp
    · exact ⟨⟨by omega, by omega⟩, ⟨⟨by omega, by omega⟩, by rw [growT_succ x0, hc]; simp⟩, by omega⟩
theorem p_spec_l01Perms (n : Int) (hp : 0 ≤ n ∧ n ≤ 8) : wp_spec_l01Perms n (fun y0 => y0 = growL n []) := by
  have := growL_len8 hp
  refine ⟨⟨by simp; omega, hp.2, by rw [List.nil_append]; omega⟩, by rw [List.nil_append]⟩
theorem p_laws_big (code : List Int) : wp_laws_big code (fun y0 => y0 = decide (4096 < (code.length : Int))) := rfl

set_option maxRecDepth 100000 in
set_option maxHeartbeats 4000000 in
theorem w_spec_l01Grow (n : Int) (start : List Int) (list : List (List Int)) (Q : List (List Int) → Prop) (hrec : ∀ (n' : Int) (start' : List Int) (list' : List (List Int)), (n' - (start'.length : Int)).toNat < (n - (start.length : Int)).toNat → ((start'.length : Int) ≤ n' ∧ n' ≤ 8 ∧ ((list' ++ growL n' start').length : Int) ≤ 100000000) → AM Try.prog 97 [ci n', .own (ints start'), .own (orows list')] (fun R_ O_ => R_ = .own (orows (list' ++ growL n' start')) ∧ O_ = [ci n', .hole, .hole])) (h : wp_spec_l01Grow n start list Q) : AM Try.prog 97 [ci n, .own (ints start), .own (orows list)] (fun R_ O_ => ∃ y0, Q y0 ∧ R_ = .own (orows y0) ∧ O_ = [ci n, .hole, .hole]) := by
  refine am_enter (n := 34) (m := 3) Try.func97 rfl (by rfl) rfl rfl (Nat.le_of_ble_eq_true rfl) [800, 801] rfl ?_
  unfold wp_spec_l01Grow at h
  refine aw_gh (gh_to (n := 34) (σ' := [(800, ⟨ints start, []⟩), (801, ⟨orows list, []⟩)]) (env' := [(0, .c (ci n)), (1, .ref 800), (2, .ref 801), (34, .c (ci n))]) rfl rfl ⟨rfl, rfl, rfl, rfl, trivial⟩) ?_
  refine aw_seq ?_
  refine aw_gh (gh_to (n := 34) (σ' := [(800, ⟨ints start, []⟩), (801, ⟨orows list, []⟩)]) (env' := [(0, .c (ci n)), (1, .ref 800), (2, .ref 801), (34, .c (ci n))]) rfl rfl ⟨rfl, rfl, rfl, rfl, trivial⟩) ?_
  refine aw_region ?_
  refine run_s (ss_assign rfl) rfl ?_
  refine run_nil ?_
  refine aw_seq ?_
  refine aw_seq ?_
  refine aw_region ?_
  refine run_s (ss_move rfl) rfl ?_
  refine run_s (ss_lenR (f := ci) rfl rfl) rfl ?_
  refine run_s (ss_move rfl) rfl ?_
  refine run_s (ss_eql rfl rfl) rfl ?_
  refine run_nil ?_
  refine aw_cond rfl (fun q1 => ?_) (fun q1 => ?_)
  ·replace h := h.1 (of_decide_eq_true q1)
   refine aw_seq ?_
   refine aw_region ?_
   refine run_s (ss_move rfl) rfl ?_
   refine run_s (ss_move rfl) rfl ?_
   refine run_w (ws_buildSlice (id := 14) (ps := [(0, .tmp 13)]) rfl rfl (Nat.le_of_ble_eq_true rfl) rfl ⟨rfl, ?_⟩)
   refine run_gh (gh_fill (id := 14) (id2 := 800) (j := 0) rfl rfl (Nat.le_of_ble_eq_true rfl) rfl rfl rfl) ?_
   obtain ⟨q2, h⟩ := h
   refine run_w (ws_app1 (fun r => C.own (ints r)) (l := list) (m := [start]) rfl rfl rfl rfl rfl (Nat.le_of_ble_eq_true rfl) q2 ⟨rfl, ?_⟩)
   refine run_s (ss_assign rfl) rfl ?_
   refine run_nil ?_
   refine aw_ret ?_
   exact retAM_mk (retv1 rfl (rv_tmp rfl)) rfl rfl rfl ⟨_, h, rfl, rfl⟩
  ·replace h := h.2 (of_decide_eq_false q1)
   refine aw_skip ?_
   refine aw_seq ?_
   refine aw_seq ?_
   refine aw_gh (gh_to (n := 34) (σ' := [(800, ⟨ints start, []⟩), (801, ⟨orows list, []⟩)]) (env' := [(0, .c (ci n)), (1, .ref 800), (2, .ref 801), (34, .c (ci n))]) rfl rfl ⟨rfl, rfl, rfl, rfl, trivial⟩) ?_
   refine aw_region ?_
   refine run_s (ss_assign rfl) rfl ?_
   refine run_nil ?_
   refine aw_block ?_
   obtain ⟨H1, m1, q3, h⟩ := h
   refine aw_loop2 (fun (v7_1 : Int) (o801_1 : List (List Int)) => ⟨[(800, ⟨ints start, []⟩), (801, ⟨orows o801_1, []⟩)], [(0, .c (ci n)), (1, .ref 800), (2, .ref 801), (7, .c (ci v7_1)), (34, .c (ci n))], 34⟩) H1 m1 ⟨0, list, ghe_to (n := 34) rfl rfl ⟨rfl, rfl, rfl, rfl, rfl, trivial⟩, q3⟩ ?_
   rintro v7_1 o801_1 q3
   replace h := h v7_1 o801_1 q3
   refine aw_seq ?_
   refine aw_seq ?_
   refine aw_region ?_
   refine run_s (ss_move rfl) rfl ?_
   refine run_s (ss_move rfl) rfl ?_
   refine run_s (ss_lss rfl rfl) rfl ?_
   refine run_nil ?_
   refine aw_cond rfl (fun q4 => ?_) (fun q4 => ?_)
   ·replace h := h.1 (of_decide_eq_true q4)
    refine aw_skip ?_
    refine aw_seq ?_
    refine aw_block ?_
    refine aw_seq ?_
    refine aw_region ?_
    refine run_s (ss_move rfl) rfl ?_
    refine run_s (ss_move rfl) rfl ?_
    obtain ⟨q5, h⟩ := h
    refine run_w (ws_callR (xs := [.tmp 21, .tmp 22]) (cs := [.own (ints start), ci v7_1]) (ids := []) rfl (.inr ⟨rfl, rfl⟩) rfl rfl (fz_cons (fz_own (fz_map (fun _ => rfl) _)) (fz_cons rfl fz_nil)) (c_spec_l01Has start v7_1 q5) rfl ?_ )
    rintro _ rfl
    refine ⟨rfl, rfl, ?_⟩
    refine run_s (ss_not rfl) rfl ?_
    refine run_nil ?_
    refine aw_cond rfl (fun q7 => ?_) (fun q7 => ?_)
    ·replace h := h.1 ((bnot_t q7))
     refine aw_gh (gh_to (n := 34) (σ' := [(800, ⟨ints start, []⟩), (801, ⟨orows o801_1, []⟩)]) (env' := [(0, .c (ci n)), (1, .ref 800), (2, .ref 801), (7, .c (ci v7_1)), (34, .c (ci n))]) rfl rfl ⟨rfl, rfl, rfl, rfl, rfl, trivial⟩) ?_
     refine aw_region ?_
     refine run_s (ss_move rfl) rfl ?_
     refine run_s (ss_move rfl) rfl ?_
     obtain ⟨q8, h⟩ := h
     refine run_w (ws_callR (xs := [.tmp 26]) (cs := [.own (ints start)]) (ids := [27]) rfl (.inr ⟨rfl, rfl⟩) rfl rfl (fz_cons (fz_own (fz_map (fun _ => rfl) _)) fz_nil) (c_spec_l01Own start q8) rfl ?_ )
     rintro _ rfl
     refine ⟨(slf_own (slfL_map (f := ci) (fun _ => rfl) _)), rfl, ?_⟩
     refine run_s (ss_move rfl) rfl ?_
     refine run_w (ws_buildSlice (id := 29) (ps := [(0, .tmp 28)]) rfl rfl (Nat.le_of_ble_eq_true rfl) rfl ⟨rfl, ?_⟩)
     obtain ⟨q10, h⟩ := h
     refine run_w (ws_app1 ci (l := start) (m := [v7_1]) rfl rfl rfl rfl rfl (Nat.le_of_ble_eq_true rfl) q10 ⟨rfl, ?_⟩)
     refine run_s (ss_move rfl) rfl ?_
     obtain ⟨q11, h⟩ := h
     obtain ⟨q12, h⟩ := h
     refine run_w (ws_callC (xs := [.tmp 25, .tmp 30, .tmp 31]) (cs := [ci n, .own (ints (start ++ ([v7_1]))), .own (orows o801_1)]) (ids := [32]) rfl rfl rfl rfl (hrec n (start ++ ([v7_1])) o801_1 q11 q12) rfl ?_ )
     rintro _ _ ⟨rfl, rfl⟩
     refine ⟨rfl, ?_⟩
     refine run_s (ss_assign rfl) rfl ?_
     refine run_nil ?_
     refine aw_gh (gh_to (n := 34) (σ' := [(32, ⟨orows (o801_1 ++ growL n (start ++ ([v7_1]))), []⟩), (800, ⟨ints start, []⟩)]) (env' := [(0, .c (ci n)), (1, .ref 800), (2, .ref 32), (7, .c (ci v7_1)), (34, .c (ci n))]) rfl rfl ⟨rfl, rfl, rfl, rfl, rfl, trivial⟩) ?_
     refine aw_region ?_
     refine run_s (ss_move rfl) rfl ?_
     obtain ⟨q14, h⟩ := h
     refine run_s (ss_add rfl rfl q14) rfl ?_
     refine run_s (ss_assign rfl) rfl ?_
     refine run_nil ?_
     exact ⟨v7_1 + 1, o801_1 ++ growL n (start ++ ([v7_1])), ghe_step (gh_ren (a := 32) (b := 801) rfl rfl) (ghe_step (gh_to (n := 34) (σ' := [(801, ⟨orows (o801_1 ++ growL n (start ++ ([v7_1]))), []⟩), (800, ⟨ints start, []⟩)]) (env' := [(0, .c (ci n)), (1, .ref 800), (2, .ref 801), (7, .c (ci (v7_1 + 1))), (34, .c (ci n))]) rfl rfl ⟨rfl, rfl, rfl, rfl, rfl, trivial⟩) (ghe_step (gh_sort _) (ghe_to (n := 34) rfl rfl ⟨rfl, rfl, rfl, rfl, rfl, trivial⟩))), h.1, h.2⟩
    ·replace h := h.2 ((bnot_f q7))
     refine aw_skip ?_
     refine aw_gh (gh_to (n := 34) (σ' := [(800, ⟨ints start, []⟩), (801, ⟨orows o801_1, []⟩)]) (env' := [(0, .c (ci n)), (1, .ref 800), (2, .ref 801), (7, .c (ci v7_1)), (34, .c (ci n))]) rfl rfl ⟨rfl, rfl, rfl, rfl, rfl, trivial⟩) ?_
     refine aw_region ?_
     refine run_s (ss_move rfl) rfl ?_
     obtain ⟨q15, h⟩ := h
     refine run_s (ss_add rfl rfl q15) rfl ?_
     refine run_s (ss_assign rfl) rfl ?_
     refine run_nil ?_
     exact ⟨v7_1 + 1, o801_1, ghe_to (n := 34) rfl rfl ⟨rfl, rfl, rfl, rfl, rfl, trivial⟩, h.1, h.2⟩
   ·replace h := h.2 (of_decide_eq_false q4)
    refine aw_exit ?_
    refine aw_seq ?_
    refine aw_gh (gh_to (n := 34) (σ' := [(800, ⟨ints start, []⟩), (801, ⟨orows o801_1, []⟩)]) (env' := [(2, .ref 801), (34, .c (ci n))]) rfl rfl ⟨rfl, rfl, trivial⟩) ?_
    refine aw_region ?_
    refine run_s (ss_move rfl) rfl ?_
    refine run_s (ss_assign rfl) rfl ?_
    refine run_nil ?_
    refine aw_ret ?_
    exact retAM_mk (retv1 rfl (rv_tmp rfl)) rfl rfl rfl ⟨_, h, rfl, rfl⟩

theorem c_spec_l01Grow : ∀ (n : Int) (start : List Int) (list : List (List Int)), ((start.length : Int) ≤ n ∧ n ≤ 8 ∧ ((list ++ growL n start).length : Int) ≤ 100000000) → AM Try.prog 97 [ci n, .own (ints start), .own (orows list)] (fun R_ O_ => R_ = .own (orows (list ++ growL n start)) ∧ O_ = [ci n, .hole, .hole]) := by
  have key : ∀ (k_ : Nat) (n : Int) (start : List Int) (list : List (List Int)), (n - (start.length : Int)).toNat ≤ k_ → ((start.length : Int) ≤ n ∧ n ≤ 8 ∧ ((list ++ growL n start).length : Int) ≤ 100000000) → AM Try.prog 97 [ci n, .own (ints start), .own (orows list)] (fun R_ O_ => R_ = .own (orows (list ++ growL n start)) ∧ O_ = [ci n, .hole, .hole]) := by
    intro k_; induction k_ with
    | zero => intro n start list hn hp; exact (w_spec_l01Grow n start list (fun y0 => y0 = list ++ growL n start) (fun _ _ _ hlt => absurd hlt (by omega)) (p_spec_l01Grow n start list hp)).mono (by rintro r o ⟨_, rfl, rfl, rfl⟩; exact ⟨rfl, rfl⟩)
    | succ k_ ih => intro n start list hn hp; exact (w_spec_l01Grow n start list (fun y0 => y0 = list ++ growL n start) (fun n' start' list' hlt => ih n' start' list' (by omega)) (p_spec_l01Grow n start list hp)).mono (by rintro r o ⟨_, rfl, rfl, rfl⟩; exact ⟨rfl, rfl⟩)
  exact fun n start list => key _ n start list (Nat.le_refl _)

set_option maxRecDepth 100000 in
set_option maxHeartbeats 4000000 in
theorem w_spec_l01Perms (n : Int) (Q : List (List Int) → Prop) (h : wp_spec_l01Perms n Q) : AF Try.prog 55 [ci n] (fun R_ => ∃ y0, Q y0 ∧ R_ = .own (orows y0)) := by
  refine AF.ofWQ (af_enter (n := 7) Try.func55 rfl (by rfl) rfl (Nat.le_of_ble_eq_true rfl) ?_)
  unfold wp_spec_l01Perms at h
  refine aw_seq ?_
  refine aw_gh (gh_to (n := 7) (σ' := []) (env' := [(0, .c (ci n))]) rfl rfl ⟨rfl, trivial⟩) ?_
  refine aw_region ?_
  refine run_s (ss_assign rfl) rfl ?_
  refine run_nil ?_
  refine aw_seq ?_
  refine aw_region ?_
  refine run_s (ss_move rfl) rfl ?_
  refine run_w (ws_buildSlice (id := 4) (ps := []) rfl rfl (Nat.le_of_ble_eq_true rfl) rfl ⟨rfl, ?_⟩)
  refine run_w (ws_buildSlice (id := 5) (ps := []) rfl rfl (Nat.le_of_ble_eq_true rfl) rfl ⟨rfl, ?_⟩)
  obtain ⟨q1, h⟩ := h
  refine run_w (ws_callC (xs := [.tmp 3, .tmp 4, .tmp 5]) (cs := [ci n, .own (ints ([] : List Int)), .own (orows ([] : List (List Int)))]) (ids := [6]) rfl rfl rfl rfl (c_spec_l01Grow n ([] : List Int) ([] : List (List Int)) q1) rfl ?_ )
  rintro _ _ ⟨rfl, rfl⟩
  refine ⟨rfl, ?_⟩
  refine run_s (ss_assign rfl) rfl ?_
  refine run_nil ?_
  refine aw_ret ?_
  exact retAF_mk (retv1 rfl (rv_tmp rfl)) rfl rfl ⟨_, (cle_refl _), _, h, rfl⟩

theorem c_spec_l01Perms (n : Int) (hp : 0 ≤ n ∧ n ≤ 8) : AF Try.prog 55 [ci n] (fun R_ => R_ = .own (orows (growL n []))) :=
  (w_spec_l01Perms n (fun y0 => y0 = growL n []) (p_spec_l01Perms n hp)).mono (by rintro r ⟨_, rfl, rfl⟩; rfl)

set_option maxRecDepth 100000 in
set_option maxHeartbeats 4000000 in
theorem w_laws_big (code : List Int) (Q : Bool → Prop) (h : wp_laws_big code Q) : AF Try.prog 6 [.lst (bys code)] (fun R_ => ∃ y0, Q y0 ∧ R_ = cb y0) := by
  refine AF.ofWQ (af_enter (n := 6) Try.func6 rfl (by rfl) rfl (Nat.le_of_ble_eq_true rfl) ?_)
  unfold wp_laws_big at h
  refine aw_seq ?_
  refine aw_gh (gh_to (n := 6) (σ' := []) (env' := [(0, .c (.lst (bys code)))]) rfl rfl ⟨rfl, trivial⟩) ?_
  refine aw_region ?_
  refine run_s (ss_assign rfl) rfl ?_
  refine run_nil ?_
  refine aw_seq ?_
  refine aw_region ?_
  refine run_s (ss_move rfl) rfl ?_
  refine run_s (ss_lenL (f := cy) rfl) rfl ?_
  refine run_s (ss_gtr rfl rfl) rfl ?_
  refine run_s (ss_assign rfl) rfl ?_
  refine run_nil ?_
  refine aw_ret ?_
  exact retAF_mk (retv1 rfl (rv_tmp rfl)) rfl rfl ⟨_, (cle_refl _), _, h, rfl⟩

theorem c_laws_big (code : List Int)  : AF Try.prog 6 [.lst (bys code)] (fun R_ => R_ = cb (decide (4096 < (code.length : Int)))) :=
  (w_laws_big code (fun y0 => y0 = decide (4096 < (code.length : Int))) (p_laws_big code)).mono (by rintro r ⟨_, rfl, rfl⟩; rfl)

def wp_laws_likeInts (a : List Int) (b : List Int) (Q : Bool → Prop) : Prop :=
 ((¬ ((a.length : Int) = (b.length : Int)) →
 Q false) ∧
 ((a.length : Int) = (b.length : Int) →
 ∃ (H1 : Int → Prop) (m1 : Int → Nat),
 H1 0 ∧
 ∀ (v5_1 : Int), H1 v5_1 →
 ( ((v5_1 < (a.length : Int) →
 (0 ≤ v5_1 ∧ v5_1 < (a.length : Int)) ∧
 (0 ≤ v5_1 ∧ v5_1 < (b.length : Int)) ∧
 ((¬ (el a v5_1 = el b v5_1) →
 Q false) ∧
 (el a v5_1 = el b v5_1 →
 (InI (v5_1 + 1)) ∧
 (H1 (v5_1 + 1) ∧ m1 (v5_1 + 1) < m1 v5_1)))) ∧
 (¬ (v5_1 < (a.length : Int)) →
 Q true)))))

def wp_laws_same9 (a : List (List Int)) (b : List (List Int)) (Q : Bool → Prop) : Prop :=
 ((¬ ((a.length : Int) = (b.length : Int)) →
 Q false) ∧
 ((a.length : Int) = (b.length : Int) →
 ∃ (H1 : Int → Prop) (m1 : Int → Nat),
 H1 0 ∧
 ∀ (v5_1 : Int), H1 v5_1 →
 ( ((v5_1 < (a.length : Int) →
 (0 ≤ v5_1 ∧ v5_1 < (a.length : Int)) ∧
 (0 ≤ v5_1 ∧ v5_1 < (b.length : Int)) ∧
 (small (el a v5_1) ∧ small (el b v5_1)) ∧
 ((¬ ((el a v5_1) = (el b v5_1)) →
 Q false) ∧
 ((el a v5_1) = (el b v5_1) →
 (InI (v5_1 + 1)) ∧
 (H1 (v5_1 + 1) ∧ m1 (v5_1 + 1) < m1 v5_1)))) ∧
 (¬ (v5_1 < (a.length : Int)) →
 Q true)))))

def wp_impl_IsQuandle (r : List (List Int)) (Q : Bool → Int → Prop) : Prop :=
 (small2 r) ∧
 (((isRk r) = false →
 Q false 1) ∧
 ((isRk r) = true →
 (isTab r = true) ∧
 (small (diag r)) ∧
 Q (incB (diag r)) 0))

theorem p_laws_likeInts (a b : List Int) (hp : small a ∧ small b) : wp_laws_likeInts a b (fun y0 => y0 = decide (a = b)) := by
  unfold wp_laws_likeInts
  obtain ⟨ha, hb⟩ := hp
  refine ⟨fun h => (decide_eq_false fun e => h (by rw [e])).symm, fun h => ⟨fun i => 0 ≤ i ∧ i ≤ (a.length : Int) ∧ Upto i fun j => el a j = el b j, fun i => ((a.length : Int) - i).toNat, ⟨by omega, by omega, upto0⟩, ?_⟩⟩
  rintro i ⟨h0, h1, hI⟩
  dsimp only
  refine ⟨fun hlt => ⟨⟨h0, hlt⟩, ⟨h0, by omega⟩, fun hf => (decide_eq_false fun e => hf (by rw [e])).symm, fun ht => ⟨⟨by omega, by omega⟩, ⟨by omega, by omega, upto1 hI ht⟩, by omega⟩⟩, fun hge => ?_⟩
  exact (decide_eq_true (ext_el (by omega) fun j h2 h3 => hI j h2 (by omega))).symm
theorem p_laws_same9 (a b : List (List Int)) (hp : small2 a ∧ small2 b) : wp_laws_same9 a b (fun y0 => y0 = decide (a = b)) := by
  unfold wp_laws_same9
  obtain ⟨⟨ha, ha2⟩, hb, hb2⟩ := hp
  refine ⟨fun h => (decide_eq_false fun e => h (by rw [e])).symm, fun h => ⟨fun i => 0 ≤ i ∧ i ≤ (a.length : Int) ∧ Upto i fun j => el a j = el b j, fun i => ((a.length : Int) - i).toNat, ⟨by omega, by omega, upto0⟩, ?_⟩⟩
  rintro i ⟨h0, h1, hI⟩
  dsimp only
  refine ⟨fun hlt => ⟨⟨h0, hlt⟩, ⟨h0, by omega⟩, ⟨ha2 _ (el_mem ⟨h0, hlt⟩), hb2 _ (el_mem ⟨h0, by omega⟩)⟩, fun hf => (decide_eq_false fun e => hf (by rw [e])).symm, fun ht => ⟨⟨by omega, by omega⟩, ⟨by omega, by omega, upto1 hI ht⟩, by omega⟩⟩, fun hge => ?_⟩
  exact (decide_eq_true (ext_el (by omega) fun j h2 h3 => hI j h2 (by omega))).symm
theorem p_impl_IsQuandle (r : List (List Int)) (hp : small2 r) : wp_impl_IsQuandle r (fun y0 y1 => y0 = (isRk r && decide (diag r = unitI (r.length : Int))) ∧ y1 = rkE r) := by
  unfold wp_impl_IsQuandle rkE
  refine ⟨hp, fun h => by rw [h]; exact ⟨rfl, rfl⟩, fun h => ?_⟩
  have ht := isRk_tab h
  have hn := isTab_len ht
  refine ⟨ht, by show (_ : Int) ≤ _; rw [length_diag]; omega, ?_, by rw [h]; rfl⟩
  rw [h, incB_unit fun i i0 i1 => by rw [length_diag] at i1 ⊢; rw [el_diag ⟨i0, i1⟩]; exact rk_el ht ⟨i0, i1⟩ ⟨i0, i1⟩, length_diag]
  rfl
set_option maxRecDepth 100000 in
set_option maxHeartbeats 4000000 in
theorem w_laws_likeInts (a : List Int) (b : List Int) (Q : Bool → Prop) (h : wp_laws_likeInts a b Q) : AF Try.prog 47 [.lst (ints a), .lst (ints b)] (fun R_ => ∃ y0, Q y0 ∧ R_ = cb y0) := by
  refine AF.ofWQ (af_enter (n := 26) Try.func47 rfl (by rfl) rfl (Nat.le_of_ble_eq_true rfl) ?_)
  unfold wp_laws_likeInts at h
  refine aw_seq ?_
  refine aw_gh (gh_to (n := 26) (σ' := []) (env' := [(0, .c (.lst (ints a))), (1, .c (.lst (ints b)))]) rfl rfl ⟨rfl, rfl, trivial⟩) ?_
  refine aw_region ?_
  refine run_s (ss_assign rfl) rfl ?_
  refine run_nil ?_
  refine aw_seq ?_
  refine aw_seq ?_
  refine aw_region ?_
  refine run_s (ss_move rfl) rfl ?_
  refine run_s (ss_lenL (f := ci) rfl) rfl ?_
  refine run_s (ss_move rfl) rfl ?_
  refine run_s (ss_lenL (f := ci) rfl) rfl ?_
  refine run_s (ss_neq rfl rfl) rfl ?_
  refine run_nil ?_
  refine aw_cond rfl (fun q1 => ?_) (fun q1 => ?_)
  ·replace h := h.1 (of_decide_eq_false (bnot_t q1))
   refine aw_seq ?_
   refine aw_gh (gh_to (n := 26) (σ' := []) (env' := [(4, .c (cb false))]) rfl rfl ⟨rfl, trivial⟩) ?_
   refine aw_region ?_
   refine run_s (ss_assign rfl) rfl ?_
   refine run_nil ?_
   refine aw_ret ?_
   exact retAF_mk (retv1 rfl (rv_tmp rfl)) rfl rfl ⟨_, (cle_refl _), _, h, rfl⟩
  ·replace h := h.2 (of_decide_eq_true (bnot_f q1))
   refine aw_skip ?_
   refine aw_seq ?_
   refine aw_seq ?_
   refine aw_gh (gh_to (n := 26) (σ' := []) (env' := [(0, .c (.lst (ints a))), (1, .c (.lst (ints b)))]) rfl rfl ⟨rfl, rfl, trivial⟩) ?_
   refine aw_region ?_
   refine run_s (ss_assign rfl) rfl ?_
   refine run_nil ?_
   refine aw_block ?_
   obtain ⟨H1, m1, q2, h⟩ := h
   refine aw_loop1 (fun (v5_1 : Int) => ⟨[], [(0, .c (.lst (ints a))), (1, .c (.lst (ints b))), (5, .c (ci v5_1))], 26⟩) H1 m1 ⟨0, ghe_to (n := 26) rfl rfl ⟨rfl, rfl, rfl, trivial⟩, q2⟩ ?_
   rintro v5_1 q2
   replace h := h v5_1 q2
   refine aw_seq ?_
   refine aw_seq ?_
   refine aw_region ?_
   refine run_s (ss_move rfl) rfl ?_
   refine run_s (ss_move rfl) rfl ?_
   refine run_s (ss_lenL (f := ci) rfl) rfl ?_
   refine run_s (ss_lss rfl rfl) rfl ?_
   refine run_nil ?_
   refine aw_cond rfl (fun q3 => ?_) (fun q3 => ?_)
   ·replace h := h.1 (of_decide_eq_true q3)
    refine aw_skip ?_
    refine aw_seq ?_
    refine aw_block ?_
    refine aw_seq ?_
    refine aw_gh (gh_to (n := 26) (σ' := []) (env' := [(0, .c (.lst (ints a))), (1, .c (.lst (ints b))), (5, .c (ci v5_1))]) rfl rfl ⟨rfl, rfl, rfl, trivial⟩) ?_
    refine aw_regionD (kd := kdl [0, 0, 0, 1, 0, 0, 0, 1, 0]) (ord := [0, 1, 2, 4, 5, 6, 3, 7, 8]) [] mixed (by kernel_rfl) ?_
    refine rd_s rfl rfl trivial (ss_move rfl) rfl ?_
    refine rd_s rfl rfl trivial (ss_move rfl) rfl ?_
    obtain ⟨q4, h⟩ := h
    refine rd_s rfl rfl trivial (ss_idxL rfl rfl q4) rfl ?_
    refine rd_s rfl rfl trivial (ss_move rfl) rfl ?_
    refine rd_s rfl rfl trivial (ss_move rfl) rfl ?_
    obtain ⟨q5, h⟩ := h
    refine rd_s rfl rfl trivial (ss_idxL rfl rfl q5) rfl ?_
    refine rd_l rfl rfl trivial (ss_loadL (f := ci) rfl q4) rfl ?_
    refine rd_l rfl rfl trivial (ss_loadL (f := ci) rfl q5) rfl ?_
    refine rd_s rfl rfl trivial (ss_neq rfl rfl) rfl ?_
    refine rd_nil ?_
    refine aw_cond rfl (fun q6 => ?_) (fun q6 => ?_)
    ·replace h := h.1 (of_decide_eq_false (bnot_t q6))
     refine aw_seq ?_
     refine aw_gh (gh_to (n := 26) (σ' := []) (env' := []) rfl rfl trivial) ?_
     refine aw_region ?_
     refine run_s (ss_assign rfl) rfl ?_
     refine run_nil ?_
     refine aw_ret ?_
     exact retAF_mk (retv1 rfl (rv_tmp rfl)) rfl rfl ⟨_, (cle_refl _), _, h, rfl⟩
    ·replace h := h.2 (of_decide_eq_true (bnot_f q6))
     refine aw_skip ?_
     refine aw_gh (gh_to (n := 26) (σ' := []) (env' := [(0, .c (.lst (ints a))), (1, .c (.lst (ints b))), (5, .c (ci v5_1))]) rfl rfl ⟨rfl, rfl, rfl, trivial⟩) ?_
     refine aw_region ?_
     refine run_s (ss_move rfl) rfl ?_
     obtain ⟨q7, h⟩ := h
     refine run_s (ss_add rfl rfl q7) rfl ?_
     refine run_s (ss_assign rfl) rfl ?_
     refine run_nil ?_
     exact ⟨v5_1 + 1, ghe_to (n := 26) rfl rfl ⟨rfl, rfl, rfl, trivial⟩, h.1, h.2⟩
   ·replace h := h.2 (of_decide_eq_false q3)
    refine aw_exit ?_
    refine aw_seq ?_
    refine aw_gh (gh_to (n := 26) (σ' := []) (env' := []) rfl rfl trivial) ?_
    refine aw_region ?_
    refine run_s (ss_assign rfl) rfl ?_
    refine run_nil ?_
    refine aw_ret ?_
    exact retAF_mk (retv1 rfl (rv_tmp rfl)) rfl rfl ⟨_, (cle_refl _), _, h, rfl⟩

theorem c_laws_likeInts (a : List Int) (b : List Int) (hp : small a ∧ small b) : AF Try.prog 47 [.lst (ints a), .lst (ints b)] (fun R_ => R_ = cb (decide (a = b))) :=
  (w_laws_likeInts a b (fun y0 => y0 = decide (a = b)) (p_laws_likeInts a b hp)).mono (by rintro r ⟨_, rfl, rfl⟩; rfl)

set_option maxRecDepth 100000 in
set_option maxHeartbeats 4000000 in
theorem w_laws_same9 (a : List (List Int)) (b : List (List Int)) (Q : Bool → Prop) (h : wp_laws_same9 a b Q) : AF Try.prog 10 [.lst (rows a), .lst (rows b)] (fun R_ => ∃ y0, Q y0 ∧ R_ = cb y0) := by
  refine AF.ofWQ (af_enter (n := 27) Try.func10 rfl (by rfl) rfl (Nat.le_of_ble_eq_true rfl) ?_)
  unfold wp_laws_same9 at h
  refine aw_seq ?_
  refine aw_gh (gh_to (n := 27) (σ' := []) (env' := [(0, .c (.lst (rows a))), (1, .c (.lst (rows b)))]) rfl rfl ⟨rfl, rfl, trivial⟩) ?_
  refine aw_region ?_
  refine run_s (ss_assign rfl) rfl ?_
  refine run_nil ?_
  refine aw_seq ?_
  refine aw_seq ?_
  refine aw_region ?_
  refine run_s (ss_move rfl) rfl ?_
  refine run_s (ss_lenL (f := (fun r => C.lst (ints r))) rfl) rfl ?_
  refine run_s (ss_move rfl) rfl ?_
  refine run_s (ss_lenL (f := (fun r => C.lst (ints r))) rfl) rfl ?_
  refine run_s (ss_neq rfl rfl) rfl ?_
  refine run_nil ?_
  refine aw_cond rfl (fun q1 => ?_) (fun q1 => ?_)
  ·replace h := h.1 (of_decide_eq_false (bnot_t q1))
   refine aw_seq ?_
   refine aw_gh (gh_to (n := 27) (σ' := []) (env' := [(4, .c (cb false))]) rfl rfl ⟨rfl, trivial⟩) ?_
   refine aw_region ?_
   refine run_s (ss_assign rfl) rfl ?_
   refine run_nil ?_
   refine aw_ret ?_
   exact retAF_mk (retv1 rfl (rv_tmp rfl)) rfl rfl ⟨_, (cle_refl _), _, h, rfl⟩
  ·replace h := h.2 (of_decide_eq_true (bnot_f q1))
   refine aw_skip ?_
   refine aw_seq ?_
   refine aw_seq ?_
   refine aw_gh (gh_to (n := 27) (σ' := []) (env' := [(0, .c (.lst (rows a))), (1, .c (.lst (rows b)))]) rfl rfl ⟨rfl, rfl, trivial⟩) ?_
   refine aw_region ?_
   refine run_s (ss_assign rfl) rfl ?_
   refine run_nil ?_
   refine aw_block ?_
   obtain ⟨H1, m1, q2, h⟩ := h
   refine aw_loop1 (fun (v5_1 : Int) => ⟨[], [(0, .c (.lst (rows a))), (1, .c (.lst (rows b))), (5, .c (ci v5_1))], 27⟩) H1 m1 ⟨0, ghe_to (n := 27) rfl rfl ⟨rfl, rfl, rfl, trivial⟩, q2⟩ ?_
   rintro v5_1 q2
   replace h := h v5_1 q2
   refine aw_seq ?_
   refine aw_seq ?_
   refine aw_region ?_
   refine run_s (ss_move rfl) rfl ?_
   refine run_s (ss_move rfl) rfl ?_
   refine run_s (ss_lenL (f := (fun r => C.lst (ints r))) rfl) rfl ?_
   refine run_s (ss_lss rfl rfl) rfl ?_
   refine run_nil ?_
   refine aw_cond rfl (fun q3 => ?_) (fun q3 => ?_)
   ·replace h := h.1 (of_decide_eq_true q3)
    refine aw_skip ?_
    refine aw_seq ?_
    refine aw_block ?_
    refine aw_seq ?_
    refine aw_gh (gh_to (n := 27) (σ' := []) (env' := [(0, .c (.lst (rows a))), (1, .c (.lst (rows b))), (5, .c (ci v5_1))]) rfl rfl ⟨rfl, rfl, rfl, trivial⟩) ?_
    refine aw_regionD (kd := kdl [0, 0, 0, 1, 0, 0, 0, 1, 2, 0]) (ord := [0, 1, 2, 4, 5, 6, 3, 7, 8, 9]) [] mixed (by kernel_rfl) ?_
    refine rd_s rfl rfl trivial (ss_move rfl) rfl ?_
    refine rd_s rfl rfl trivial (ss_move rfl) rfl ?_
    obtain ⟨q4, h⟩ := h
    refine rd_s rfl rfl trivial (ss_idxL rfl rfl q4) rfl ?_
    refine rd_s rfl rfl trivial (ss_move rfl) rfl ?_
    refine rd_s rfl rfl trivial (ss_move rfl) rfl ?_
    obtain ⟨q5, h⟩ := h
    refine rd_s rfl rfl trivial (ss_idxL rfl rfl q5) rfl ?_
    refine rd_l rfl rfl trivial (ss_loadL (f := (fun r => C.lst (ints r))) rfl q4) rfl ?_
    refine rd_l rfl rfl trivial (ss_loadL (f := (fun r => C.lst (ints r))) rfl q5) rfl ?_
    obtain ⟨q6, h⟩ := h
    refine rd_w rfl rfl trivial rfl rfl (ws_call (xs := [.tmp 20, .tmp 24]) (ids := []) rfl rfl rfl rfl (c_laws_likeInts (el a v5_1) (el b v5_1) q6) rfl ?_ )
    rintro _ rfl
    refine ⟨rfl, ?_⟩
    refine rd_s rfl rfl trivial (ss_not rfl) rfl ?_
    refine rd_nil ?_
    refine aw_cond rfl (fun q8 => ?_) (fun q8 => ?_)
    ·replace h := h.1 (of_decide_eq_false (bnot_t q8))
     refine aw_seq ?_
     refine aw_gh (gh_to (n := 27) (σ' := []) (env' := []) rfl rfl trivial) ?_
     refine aw_region ?_
     refine run_s (ss_assign rfl) rfl ?_
     refine run_nil ?_
     refine aw_ret ?_
     exact retAF_mk (retv1 rfl (rv_tmp rfl)) rfl rfl ⟨_, (cle_refl _), _, h, rfl⟩
    ·replace h := h.2 (of_decide_eq_true (bnot_f q8))
     refine aw_skip ?_
     refine aw_gh (gh_to (n := 27) (σ' := []) (env' := [(0, .c (.lst (rows a))), (1, .c (.lst (rows b))), (5, .c (ci v5_1))]) rfl rfl ⟨rfl, rfl, rfl, trivial⟩) ?_
     refine aw_region ?_
     refine run_s (ss_move rfl) rfl ?_
     obtain ⟨q9, h⟩ := h
     refine run_s (ss_add rfl rfl q9) rfl ?_
     refine run_s (ss_assign rfl) rfl ?_
     refine run_nil ?_
     exact ⟨v5_1 + 1, ghe_to (n := 27) rfl rfl ⟨rfl, rfl, rfl, trivial⟩, h.1, h.2⟩
   ·replace h := h.2 (of_decide_eq_false q3)
    refine aw_exit ?_
    refine aw_seq ?_
    refine aw_gh (gh_to (n := 27) (σ' := []) (env' := []) rfl rfl trivial) ?_
    refine aw_region ?_
    refine run_s (ss_assign rfl) rfl ?_
    refine run_nil ?_
    refine aw_ret ?_
    exact retAF_mk (retv1 rfl (rv_tmp rfl)) rfl rfl ⟨_, (cle_refl _), _, h, rfl⟩

theorem c_laws_same9 (a : List (List Int)) (b : List (List Int)) (hp : small2 a ∧ small2 b) : AF Try.prog 10 [.lst (rows a), .lst (rows b)] (fun R_ => R_ = cb (decide (a = b))) :=
  (w_laws_same9 a b (fun y0 => y0 = decide (a = b)) (p_laws_same9 a b hp)).mono (by rintro r ⟨_, rfl, rfl⟩; rfl)

set_option maxRecDepth 100000 in
set_option maxHeartbeats 4000000 in
theorem w_impl_IsQuandle (r : List (List Int)) (Q : Bool → Int → Prop) (h : wp_impl_IsQuandle r Q) : AF Try.prog 11 [.agg [.lst (rows r)]] (fun R_ => ∃ y0 y1, Q y0 y1 ∧ R_ = .tup [cb y0, ci y1]) := by
  refine AF.ofWQ (af_enter (n := 10) Try.func11 rfl (by rfl) rfl (Nat.le_of_ble_eq_true rfl) ?_)
  unfold wp_impl_IsQuandle at h
  refine aw_seq ?_
  refine aw_gh (gh_to (n := 10) (σ' := []) (env' := [(0, .c (.agg [.lst (rows r)]))]) rfl rfl ⟨rfl, trivial⟩) ?_
  refine aw_region ?_
  refine run_w (ws_boxR rfl (.inl rfl) rfl ⟨rfl, ?_⟩)
  refine run_s (ss_assign rfl) rfl ?_
  refine run_s (ss_assign rfl) rfl ?_
  refine run_nil ?_
  refine aw_seq ?_
  refine aw_seq ?_
  refine aw_region ?_
  refine run_s (ss_load_struct rfl (Nat.le_of_ble_eq_true rfl)) rfl ?_
  obtain ⟨q1, h⟩ := h
  refine run_w (ws_call (xs := [.tmp 4]) (ids := []) rfl rfl rfl rfl (c_impl_IsRack r q1) rfl ?_ )
  rintro _ rfl
  refine ⟨rfl, ?_⟩
  refine run_s (ss_not rfl) rfl ?_
  refine run_nil ?_
  refine aw_cond rfl (fun q3 => ?_) (fun q3 => ?_)
  ·replace h := h.1 ((bnot_t q3))
   refine aw_seq ?_
   refine aw_gh (gh_to (n := 10) (σ' := []) (env' := [(2, .c (cb false)), (3, .c (ci 0))]) rfl rfl ⟨rfl, rfl, trivial⟩) ?_
   refine aw_region ?_
   refine run_s (ss_assign rfl) rfl ?_
   refine run_s (ss_assign rfl) rfl ?_
   refine run_nil ?_
   refine aw_ret ?_
   exact retAF_mk (retv2 rfl (rv_tmp rfl) (rv_tmp rfl)) rfl rfl ⟨_, (cle_refl _), _, _, h, rfl⟩
  ·replace h := h.2 ((bnot_f q3))
   refine aw_skip ?_
   refine aw_seq ?_
   refine aw_region ?_
   refine run_s (ss_load_struct rfl (Nat.le_of_ble_eq_true rfl)) rfl ?_
   obtain ⟨q4, h⟩ := h
   refine run_w (ws_call (xs := [.tmp 7]) (ids := [8]) rfl rfl rfl rfl (c_impl_kinkOf r q4) rfl ?_ )
   rintro _ rfl
   refine ⟨rfl, ?_⟩
   obtain ⟨q6, h⟩ := h
   refine run_w (ws_callR (xs := [.tmp 8]) (cs := [.own (ints (diag r))]) (ids := []) rfl (.inr ⟨rfl, rfl⟩) rfl rfl (fz_cons (fz_own (fz_map (fun _ => rfl) _)) fz_nil) (c_impl_isIdentity (diag r) q6) rfl ?_ )
   rintro _ rfl
   refine ⟨rfl, rfl, ?_⟩
   refine run_s (ss_assign rfl) rfl ?_
   refine run_s (ss_assign rfl) rfl ?_
   refine run_nil ?_
   refine aw_ret ?_
   exact retAF_mk (retv2 rfl (rv_tmp rfl) (rv_tmp rfl)) rfl rfl ⟨_, (cle_refl _), _, _, h, rfl⟩

theorem c_impl_IsQuandle (r : List (List Int)) (hp : small2 r) : AF Try.prog 11 [.agg [.lst (rows r)]] (fun R_ => R_ = .tup [cb (isRk r && decide (diag r = unitI (r.length : Int))), ci (rkE r)]) :=
  (w_impl_IsQuandle r (fun y0 y1 => y0 = (isRk r && decide (diag r = unitI (r.length : Int))) ∧ y1 = rkE r) (p_impl_IsQuandle r hp)).mono (by rintro r ⟨_, _, ⟨rfl, rfl⟩, rfl⟩; rfl)

def wp_cmp_isNaN_int64_ (x : Int) (Q : Bool → Prop) : Prop :=
 Q (!(decide (x = x)))

def wp_cmp_Compare_int64_ (x : Int) (y : Int) (Q : Int → Prop) : Prop :=
 ((x < y →
 Q (-1)) ∧
 (¬ (x < y) →
 ((y < x →
 Q 1) ∧
 (¬ (y < x) →
 Q 0))))

def wp_slices_Compare___int64_int64_ (s1 : List Int) (s2 : List Int) (Q : Int → Prop) : Prop :=
 ∃ (H1 : Int → Prop) (m1 : Int → Nat),
 H1 0 ∧
 ∀ (v11_1 : Int), H1 v11_1 →
 ( ((v11_1 < (s1.length : Int) →
 (0 ≤ v11_1 ∧ v11_1 < (s1.length : Int)) ∧
 (((s2.length : Int) ≤ v11_1 →
 Q 1) ∧
 (¬ ((s2.length : Int) ≤ v11_1) →
 (0 ≤ v11_1 ∧ v11_1 < (s2.length : Int)) ∧
 ((¬ (cmp1 (el s1 v11_1) (el s2 v11_1) = 0) →
 Q (cmp1 (el s1 v11_1) (el s2 v11_1))) ∧
 (cmp1 (el s1 v11_1) (el s2 v11_1) = 0 →
 (InI (v11_1 + 1)) ∧
 (H1 (v11_1 + 1) ∧ m1 (v11_1 + 1) < m1 v11_1)))))) ∧
 (¬ (v11_1 < (s1.length : Int)) →
 (((s1.length : Int) < (s2.length : Int) →
 Q (-1)) ∧
 (¬ ((s1.length : Int) < (s2.length : Int)) →
 Q 0)))))

def wp_spec_l01Less (a : List Int) (b : List Int) (Q : Bool → Prop) : Prop :=
 ∃ (H1 : Int → Prop) (m1 : Int → Nat),
 H1 0 ∧
 ∀ (v5_1 : Int), H1 v5_1 →
 ( ((v5_1 < (a.length : Int) →
 ((v5_1 < (b.length : Int) →
 (0 ≤ v5_1 ∧ v5_1 < (a.length : Int)) ∧
 (0 ≤ v5_1 ∧ v5_1 < (b.length : Int)) ∧
 ((¬ (el a v5_1 = el b v5_1) →
 (0 ≤ v5_1 ∧ v5_1 < (a.length : Int)) ∧
 (0 ≤ v5_1 ∧ v5_1 < (b.length : Int)) ∧
 Q (decide (el a v5_1 < el b v5_1))) ∧
 (el a v5_1 = el b v5_1 →
 (InI (v5_1 + 1)) ∧
 (H1 (v5_1 + 1) ∧ m1 (v5_1 + 1) < m1 v5_1)))) ∧
 (¬ (v5_1 < (b.length : Int)) →
 Q (decide ((a.length : Int) < (b.length : Int)))))) ∧
 (¬ (v5_1 < (a.length : Int)) →
 Q (decide ((a.length : Int) < (b.length : Int))))))

def wp_impl_nextPermutation (p : List Int) (Q : Bool → List Int → Prop) : Prop :=
 (InI ((p.length : Int) - 2)) ∧
 ∃ (H1 : Int → Prop) (m1 : Int → Nat),
 H1 ((p.length : Int) - 2) ∧
 ∀ (v3_1 : Int), H1 v3_1 →
 ( ((0 ≤ v3_1 →
 (0 ≤ v3_1 ∧ v3_1 < (p.length : Int)) ∧
 (InI (v3_1 + 1)) ∧
 (0 ≤ v3_1 + 1 ∧ v3_1 + 1 < (p.length : Int)) ∧
 ((el p (v3_1 + 1) < el p v3_1 →
 (InI (v3_1 - 1)) ∧
 (H1 (v3_1 - 1) ∧ m1 (v3_1 - 1) < m1 v3_1)) ∧
 (¬ (el p (v3_1 + 1) < el p v3_1) →
 ((v3_1 < 0 →
 Q false p) ∧
 (¬ (v3_1 < 0) →
 (InI ((p.length : Int) - 1)) ∧
 ∃ (H2 : Int → Prop) (m2 : Int → Nat),
 H2 ((p.length : Int) - 1) ∧
 ∀ (v4_2 : Int), H2 v4_2 →
 ( (0 ≤ v4_2 ∧ v4_2 < (p.length : Int)) ∧
 (0 ≤ v3_1 ∧ v3_1 < (p.length : Int)) ∧
 ((el p v4_2 < el p v3_1 →
 (InI (v4_2 - 1)) ∧
 (H2 (v4_2 - 1) ∧ m2 (v4_2 - 1) < m2 v4_2)) ∧
 (¬ (el p v4_2 < el p v3_1) →
 (0 ≤ v4_2 ∧ v4_2 < (p.length : Int)) ∧
 (0 ≤ v3_1 ∧ v3_1 < (p.length : Int)) ∧
 (0 ≤ v3_1 ∧ v3_1 < (p.length : Int)) ∧
 (0 ≤ v4_2 ∧ v4_2 < ((se p v3_1 (el p v4_2)).length : Int)) ∧
 (InI (v3_1 + 1)) ∧
 (0 ≤ v3_1 + 1 ∧ v3_1 + 1 ≤ ((se (se p v3_1 (el p v4_2)) v4_2 (el p v3_1)).length : Int)) ∧
 (small (se (se p v3_1 (el p v4_2)) v4_2 (el p v3_1))) ∧
 Q true ((se (se p v3_1 (el p v4_2)) v4_2 (el p v3_1)).take (v3_1 + 1).toNat ++ List.reverse ((se (se p v3_1 (el p v4_2)) v4_2 (el p v3_1)).drop (v3_1 + 1).toNat)))))))))) ∧
 (¬ (0 ≤ v3_1) →
 ((v3_1 < 0 →
 Q false p) ∧
 (¬ (v3_1 < 0) →
 (InI ((p.length : Int) - 1)) ∧
 ∃ (H3 : Int → Prop) (m3 : Int → Nat),
 H3 ((p.length : Int) - 1) ∧
 ∀ (v4_2 : Int), H3 v4_2 →
 ( (0 ≤ v4_2 ∧ v4_2 < (p.length : Int)) ∧
 (0 ≤ v3_1 ∧ v3_1 < (p.length : Int)) ∧
 ((el p v4_2 < el p v3_1 →
 (InI (v4_2 - 1)) ∧
 (H3 (v4_2 - 1) ∧ m3 (v4_2 - 1) < m3 v4_2)) ∧
 (¬ (el p v4_2 < el p v3_1) →
 (0 ≤ v4_2 ∧ v4_2 < (p.length : Int)) ∧
 (0 ≤ v3_1 ∧ v3_1 < (p.length : Int)) ∧
 (0 ≤ v3_1 ∧ v3_1 < (p.length : Int)) ∧
 (0 ≤ v4_2 ∧ v4_2 < ((se p v3_1 (el p v4_2)).length : Int)) ∧
 (InI (v3_1 + 1)) ∧
 (0 ≤ v3_1 + 1 ∧ v3_1 + 1 ≤ ((se (se p v3_1 (el p v4_2)) v4_2 (el p v3_1)).length : Int)) ∧
 (small (se (se p v3_1 (el p v4_2)) v4_2 (el p v3_1))) ∧
 Q true ((se (se p v3_1 (el p v4_2)) v4_2 (el p v3_1)).take (v3_1 + 1).toNat ++ List.reverse ((se (se p v3_1 (el p v4_2)) v4_2 (el p v3_1)).drop (v3_1 + 1).toNat))))))))))

theorem p_cmp_isNaN_int64_ (x : Int) : wp_cmp_isNaN_int64_ x (fun y0 => y0 = false) := by unfold wp_cmp_isNaN_int64_; simp
theorem p_cmp_Compare_int64_ (x y : Int) : wp_cmp_Compare_int64_ x y (fun y0 => y0 = cmp1 x y) := by
  unfold wp_cmp_Compare_int64_ cmp1
  exact ⟨fun h => by rw [if_pos h], fun h => ⟨fun g => by rw [if_neg h, if_pos g], fun g => by rw [if_neg h, if_neg g]⟩⟩
theorem p_slices_Compare___int64_int64_ (s1 s2 : List Int) (hp : small s1 ∧ small s2) : wp_slices_Compare___int64_int64_ s1 s2 (fun y0 => y0 = cmpG cmp1 s1 s2) := by
  have h1 : (s1.length : Int) ≤ 1000000000 := hp.1
  refine ⟨fun i => (0 ≤ i ∧ i ≤ (s1.length : Int) ∧ i ≤ (s2.length : Int)) ∧ Upto i fun j => cmp1 (el s1 j) (el s2 j) = 0, fun i => ((s1.length : Int) - i).toNat, ⟨⟨by omega, by omega, by omega⟩, upto0⟩, ?_⟩
  rintro i ⟨⟨i0, i1, i2⟩, hu⟩
  dsimp only
  refine ⟨fun hlt => ⟨⟨i0, hlt⟩, fun g => (cmpG_long hu ⟨i0, hlt⟩ (by omega)).symm, fun g => ⟨⟨i0, by omega⟩, fun h => (cmpG_ne hu ⟨i0, hlt⟩ (by omega) h).symm, fun h => ⟨⟨by omega, by omega⟩, ⟨⟨by omega, by omega, by omega⟩, upto1 hu h⟩, by omega⟩⟩⟩, fun hge => ⟨fun g => (cmpG_short hu ⟨i0, by omega⟩ (by omega)).symm, fun g => (cmpG_same hu ⟨i0, by omega⟩ (by omega)).symm⟩⟩
theorem p_spec_l01Less (a b : List Int) (hp : small a ∧ small b) : wp_spec_l01Less a b (fun y0 => y0 = decide (cmpG cmp1 a b < 0)) := by
  have h1 : (a.length : Int) ≤ 1000000000 := hp.1
  refine ⟨fun i => (0 ≤ i ∧ i ≤ (a.length : Int) ∧ i ≤ (b.length : Int)) ∧ Upto i fun j => cmp1 (el a j) (el b j) = 0, fun i => ((a.length : Int) - i).toNat, ⟨⟨by omega, by omega, by omega⟩, upto0⟩, ?_⟩
  rintro i ⟨⟨i0, i1, i2⟩, hu⟩
  have fin : ¬ (i < (a.length : Int) ∧ i < (b.length : Int)) → decide ((a.length : Int) < (b.length : Int)) = decide (cmpG cmp1 a b < 0) := fun g => by
    by_cases ha : i < (a.length : Int)
    · rw [cmpG_long hu ⟨i0, ha⟩ (by omega)]; simp; omega
    · by_cases hb : i < (b.length : Int)
      · rw [cmpG_short hu ⟨i0, by omega⟩ hb]; simp; omega
      · rw [cmpG_same hu ⟨i0, by omega⟩ (by omega)]; simp; omega
  dsimp only
  refine ⟨fun hlt => ⟨fun hb => ⟨⟨i0, hlt⟩, ⟨i0, hb⟩, fun h => ⟨⟨i0, hlt⟩, ⟨i0, hb⟩, ?_⟩, fun h => ⟨⟨by omega, by omega⟩, ⟨⟨by omega, by omega, by omega⟩, upto1 hu (cmp1_zero.2 h)⟩, by omega⟩⟩, fun hb => fin fun g => hb g.2⟩, fun hge => fin fun g => hge g.1⟩
  rw [cmpG_ne hu ⟨i0, hlt⟩ hb fun g => h (cmp1_zero.1 g)]
  unfold cmp1
  split
  · simp [*]
  · split <;> simp [*]
theorem p_impl_nextPermutation (p : List Int) (hp : isPerm p = true ∧ (p.length : Int) ≤ 12) : wp_impl_nextPermutation p (fun y0 w0 => (y0 = true ∧ ∃ i_ k_, NxI p i_ k_ ∧ w0 = nxtL p i_ k_) ∨ (y0 = false ∧ w0 = p ∧ ∀ j_ : Int, -1 < j_ → j_ + 1 < (p.length : Int) → el p (j_ + 1) < el p j_)) := by
  obtain ⟨hP, hl⟩ := hp
  refine ⟨⟨by omega, by omega⟩, fun i => (-2 ≤ i ∧ i ≤ (p.length : Int) - 2) ∧ (i = -2 → (p.length : Int) = 0) ∧ ∀ j, i < j → 0 ≤ j → j + 1 < (p.length : Int) → el p (j + 1) < el p j, fun i => (i + 2).toNat, ⟨⟨by omega, by omega⟩, fun _ => by omega, fun j j0 _ j1 => by omega⟩, ?_⟩
  rintro i ⟨⟨i0, i1⟩, i2, dn⟩
  have last : ¬ (0 ≤ i) → (false = true ∧ ∃ i_ k_, NxI p i_ k_ ∧ p = nxtL p i_ k_) ∨ (false = false ∧ p = p ∧ ∀ j_ : Int, -1 < j_ → j_ + 1 < (p.length : Int) → el p (j_ + 1) < el p j_) := fun g => .inr ⟨rfl, rfl, fun j j0 j1 => dn j (by omega) (by omega) j1⟩
  dsimp only
  refine ⟨fun h0 => ⟨⟨h0, by omega⟩, ⟨by omega, by omega⟩, ⟨by omega, by omega⟩, fun hc => ⟨⟨by omega, by omega⟩, ⟨⟨by omega, by omega⟩, fun e => by omega, fun j j0 j1 j2 => ?_⟩, by omega⟩, fun hc => ⟨fun g => by omega, fun _ => ⟨⟨by omega, by omega⟩, ?_⟩⟩⟩, fun h0 => ⟨fun _ => last h0, fun g => by omega⟩⟩
  · by_cases e : j = i
    · subst e; exact hc
    · exact dn j (by omega) j1 j2
  · have hup : el p i < el p (i + 1) := by
      have : el p i ≠ el p (i + 1) := fun e => by have := isPerm_inj hP (i := i) (j := i + 1) ⟨h0, by omega⟩ ⟨by omega, by omega⟩ e; omega
      omega
    refine ⟨fun k => (i < k ∧ k < (p.length : Int)) ∧ ∀ j, k < j → j < (p.length : Int) → el p j < el p i, fun k => k.toNat, ⟨⟨by omega, by omega⟩, fun j j0 j1 => by omega⟩, ?_⟩
    rintro k ⟨⟨k0, k1⟩, kd⟩
    dsimp only
    refine ⟨⟨by omega, k1⟩, ⟨h0, by omega⟩, fun hk => ⟨⟨by omega, by omega⟩, ⟨⟨?_, by omega⟩, fun j j0 j1 => ?_⟩, by omega⟩, fun hk => ⟨⟨by omega, k1⟩, ⟨h0, by omega⟩, ⟨h0, by omega⟩, ⟨by omega, by simp; omega⟩, ⟨by omega, by omega⟩, ⟨by omega, by simp; omega⟩, by show (_ : Int) ≤ _; simp; omega, .inl ⟨rfl, i, k, ⟨⟨h0, by omega⟩, hup, fun j j0 j1 => dn j j0 (by omega) j1, ⟨k0, k1⟩, ?_, kd⟩, rfl⟩⟩⟩
    · rcases Int.lt_or_le i (k - 1) with g | g
      · exact g
      · rw [show k = i + 1 by omega] at hk; omega
    · by_cases e : j = k
      · subst e; exact hk
      · exact kd j (by omega) j1
    · have : el p k ≠ el p i := fun e => by have := isPerm_inj hP (i := k) (j := i) ⟨by omega, by omega⟩ ⟨h0, by omega⟩ e; omega
      omega

set_option maxRecDepth 100000 in
set_option maxHeartbeats 4000000 in
theorem w_cmp_isNaN_int64_ (x : Int) (Q : Bool → Prop) (h : wp_cmp_isNaN_int64_ x Q) : AF Try.prog 120 [ci x] (fun R_ => ∃ y0, Q y0 ∧ R_ = cb y0) := by
  refine AF.ofWQ (af_enter (n := 6) Try.func120 rfl (by rfl) rfl (Nat.le_of_ble_eq_true rfl) ?_)
  unfold wp_cmp_isNaN_int64_ at h
  refine aw_seq ?_
  refine aw_gh (gh_to (n := 6) (σ' := []) (env' := [(0, .c (ci x))]) rfl rfl ⟨rfl, trivial⟩) ?_
  refine aw_region ?_
  refine run_s (ss_assign rfl) rfl ?_
  refine run_nil ?_
  refine aw_seq ?_
  refine aw_region ?_
  refine run_s (ss_move rfl) rfl ?_
  refine run_s (ss_move rfl) rfl ?_
  refine run_s (ss_neq rfl rfl) rfl ?_
  refine run_s (ss_assign rfl) rfl ?_
  refine run_nil ?_
  refine aw_ret ?_
  exact retAF_mk (retv1 rfl (rv_tmp rfl)) rfl rfl ⟨_, (cle_refl _), _, h, rfl⟩

theorem c_cmp_isNaN_int64_ (x : Int)  : AF Try.prog 120 [ci x] (fun R_ => R_ = cb false) :=
  (w_cmp_isNaN_int64_ x (fun y0 => y0 = false) (p_cmp_isNaN_int64_ x)).mono (by rintro r ⟨_, rfl, rfl⟩; rfl)

set_option maxRecDepth 100000 in
set_option maxHeartbeats 4000000 in
theorem w_cmp_Compare_int64_ (x : Int) (y : Int) (Q : Int → Prop) (h : wp_cmp_Compare_int64_ x y Q) : AF Try.prog 95 [ci x, ci y] (fun R_ => ∃ y0, Q y0 ∧ R_ = ci y0) := by
  refine AF.ofWQ (af_enter (n := 20) Try.func95 rfl (by rfl) rfl (Nat.le_of_ble_eq_true rfl) ?_)
  unfold wp_cmp_Compare_int64_ at h
  refine aw_seq ?_
  refine aw_gh (gh_to (n := 20) (σ' := []) (env' := [(0, .c (ci x)), (1, .c (ci y))]) rfl rfl ⟨rfl, rfl, trivial⟩) ?_
  refine aw_region ?_
  refine run_s (ss_assign rfl) rfl ?_
  refine run_nil ?_
  refine aw_seq ?_
  refine aw_region ?_
  refine run_s (ss_move rfl) rfl ?_
  refine run_w (ws_call (xs := [.tmp 7]) (ids := []) rfl rfl rfl rfl (c_cmp_isNaN_int64_ x) rfl ?_ )
  rintro _ rfl
  refine ⟨rfl, ?_⟩
  refine run_s (ss_assign rfl) rfl ?_
  refine run_nil ?_
  refine aw_seq ?_
  refine aw_region ?_
  refine run_s (ss_move rfl) rfl ?_
  refine run_w (ws_call (xs := [.tmp 9]) (ids := []) rfl rfl rfl rfl (c_cmp_isNaN_int64_ y) rfl ?_ )
  rintro _ rfl
  refine ⟨rfl, ?_⟩
  refine run_s (ss_assign rfl) rfl ?_
  refine run_nil ?_
  refine aw_seq ?_
  refine aw_seq ?_
  refine aw_gh (gh_to (n := 20) (σ' := []) (env' := [(0, .c (ci x)), (1, .c (ci y)), (5, .c (cb false)), (6, .c (cb false))]) rfl rfl ⟨rfl, rfl, rfl, rfl, trivial⟩) ?_
  refine aw_region ?_
  refine run_s (ss_move rfl) rfl ?_
  refine run_nil ?_
  refine aw_cond rfl (fun q3 => ?_) (fun q3 => ?_)
  ·cases q3
  ·skip
   refine aw_skip ?_
   refine aw_seq ?_
   refine aw_seq ?_
   refine aw_region ?_
   refine run_s (ss_move rfl) rfl ?_
   refine run_nil ?_
   refine aw_cond rfl (fun q4 => ?_) (fun q4 => ?_)
   ·cases q4
   ·skip
    refine aw_skip ?_
    refine aw_seq ?_
    refine aw_seq ?_
    refine aw_region ?_
    refine run_s (ss_move rfl) rfl ?_
    refine run_s (ss_move rfl) rfl ?_
    refine run_s (ss_lss rfl rfl) rfl ?_
    refine run_nil ?_
    refine aw_cond rfl (fun q5 => ?_) (fun q5 => ?_)
    ·replace h := h.1 (of_decide_eq_true q5)
     refine aw_seq ?_
     refine aw_gh (gh_to (n := 20) (σ' := []) (env' := []) rfl rfl trivial) ?_
     refine aw_region ?_
     refine run_s (ss_assign rfl) rfl ?_
     refine run_nil ?_
     refine aw_ret ?_
     exact retAF_mk (retv1 rfl (rv_tmp rfl)) rfl rfl ⟨_, (cle_refl _), _, h, rfl⟩
    ·replace h := h.2 (of_decide_eq_false q5)
     refine aw_skip ?_
     refine aw_seq ?_
     refine aw_seq ?_
     refine aw_gh (gh_to (n := 20) (σ' := []) (env' := [(0, .c (ci x)), (1, .c (ci y))]) rfl rfl ⟨rfl, rfl, trivial⟩) ?_
     refine aw_region ?_
     refine run_s (ss_move rfl) rfl ?_
     refine run_s (ss_move rfl) rfl ?_
     refine run_s (ss_gtr rfl rfl) rfl ?_
     refine run_nil ?_
     refine aw_cond rfl (fun q6 => ?_) (fun q6 => ?_)
     ·replace h := h.1 (of_decide_eq_true q6)
      refine aw_seq ?_
      refine aw_gh (gh_to (n := 20) (σ' := []) (env' := []) rfl rfl trivial) ?_
      refine aw_region ?_
      refine run_s (ss_assign rfl) rfl ?_
      refine run_nil ?_
      refine aw_ret ?_
      exact retAF_mk (retv1 rfl (rv_tmp rfl)) rfl rfl ⟨_, (cle_refl _), _, h, rfl⟩
     ·replace h := h.2 (of_decide_eq_false q6)
      refine aw_skip ?_
      refine aw_seq ?_
      refine aw_gh (gh_to (n := 20) (σ' := []) (env' := []) rfl rfl trivial) ?_
      refine aw_region ?_
      refine run_s (ss_assign rfl) rfl ?_
      refine run_nil ?_
      refine aw_ret ?_
      exact retAF_mk (retv1 rfl (rv_tmp rfl)) rfl rfl ⟨_, (cle_refl _), _, h, rfl⟩

theorem c_cmp_Compare_int64_ (x : Int) (y : Int)  : AF Try.prog 95 [ci x, ci y] (fun R_ => R_ = ci (cmp1 x y)) :=
  (w_cmp_Compare_int64_ x y (fun y0 => y0 = cmp1 x y) (p_cmp_Compare_int64_ x y)).mono (by rintro r ⟨_, rfl, rfl⟩; rfl)

set_option maxRecDepth 100000 in
set_option maxHeartbeats 4000000 in
theorem w_slices_Compare___int64_int64_ (s1 : List Int) (s2 : List Int) (Q : Int → Prop) (h : wp_slices_Compare___int64_int64_ s1 s2 Q) : AF Try.prog 53 [.lst (ints s1), .lst (ints s2)] (fun R_ => ∃ y0, Q y0 ∧ R_ = ci y0) := by
  refine AF.ofWQ (af_enter (n := 36) Try.func53 rfl (by rfl) rfl (Nat.le_of_ble_eq_true rfl) ?_)
  unfold wp_slices_Compare___int64_int64_ at h
  refine aw_seq ?_
  refine aw_gh (gh_to (n := 36) (σ' := []) (env' := [(0, .c (.lst (ints s1))), (1, .c (.lst (ints s2)))]) rfl rfl ⟨rfl, rfl, trivial⟩) ?_
  refine aw_region ?_
  refine run_s (ss_assign rfl) rfl ?_
  refine run_nil ?_
  refine aw_seq ?_
  refine aw_seq ?_
  refine aw_region ?_
  refine run_s (ss_move rfl) rfl ?_
  refine run_s (ss_lenL (f := ci) rfl) rfl ?_
  refine run_s (ss_move rfl) rfl ?_
  refine run_nil ?_
  refine aw_block ?_
  obtain ⟨H1, m1, q1, h⟩ := h
  refine aw_loop1 (fun (v11_1 : Int) => ⟨[], [(0, .c (.lst (ints s1))), (1, .c (.lst (ints s2))), (9, .c (.lst (ints s1))), (10, .c (ci (s1.length : Int))), (11, .c (ci v11_1))], 36⟩) H1 m1 ⟨0, ghe_to (n := 36) rfl rfl ⟨rfl, rfl, rfl, rfl, rfl, trivial⟩, q1⟩ ?_
  rintro v11_1 q1
  replace h := h v11_1 q1
  refine aw_seq ?_
  refine aw_region ?_
  refine run_s (ss_lss rfl rfl) rfl ?_
  refine run_nil ?_
  refine aw_seq ?_
  refine aw_cond rfl (fun q2 => ?_) (fun q2 => ?_)
  ·replace h := h.1 (of_decide_eq_true q2)
   refine aw_skip ?_
   refine aw_seq ?_
   refine aw_block ?_
   refine aw_seq ?_
   refine aw_region ?_
   refine run_s (ss_move rfl) rfl ?_
   obtain ⟨q3, h⟩ := h
   refine run_s (ss_idxL rfl rfl q3) rfl ?_
   refine run_s (ss_loadL (f := ci) rfl q3) rfl ?_
   refine run_s (ss_assign rfl) rfl ?_
   refine run_s (ss_assign rfl) rfl ?_
   refine run_nil ?_
   refine aw_seq ?_
   refine aw_seq ?_
   refine aw_region ?_
   refine run_s (ss_move rfl) rfl ?_
   refine run_s (ss_move rfl) rfl ?_
   refine run_s (ss_lenL (f := ci) rfl) rfl ?_
   refine run_s (ss_geq rfl rfl) rfl ?_
   refine run_nil ?_
   refine aw_cond rfl (fun q4 => ?_) (fun q4 => ?_)
   ·replace h := h.1 (of_decide_eq_true q4)
    refine aw_seq ?_
    refine aw_gh (gh_to (n := 36) (σ' := []) (env' := []) rfl rfl trivial) ?_
    refine aw_region ?_
    refine run_s (ss_assign rfl) rfl ?_
    refine run_nil ?_
    refine aw_ret ?_
    exact retAF_mk (retv1 rfl (rv_tmp rfl)) rfl rfl ⟨_, (cle_refl _), _, h, rfl⟩
   ·replace h := h.2 (of_decide_eq_false q4)
    refine aw_skip ?_
    refine aw_seq ?_
    refine aw_gh (gh_to (n := 36) (σ' := []) (env' := [(0, .c (.lst (ints s1))), (1, .c (.lst (ints s2))), (5, .c (ci v11_1)), (6, .c (ci (el s1 v11_1))), (9, .c (.lst (ints s1))), (10, .c (ci (s1.length : Int))), (11, .c (ci v11_1))]) rfl rfl ⟨rfl, rfl, rfl, rfl, rfl, rfl, rfl, trivial⟩) ?_
    refine aw_region ?_
    refine run_s (ss_move rfl) rfl ?_
    refine run_s (ss_move rfl) rfl ?_
    obtain ⟨q5, h⟩ := h
    refine run_s (ss_idxL rfl rfl q5) rfl ?_
    refine run_s (ss_loadL (f := ci) rfl q5) rfl ?_
    refine run_s (ss_assign rfl) rfl ?_
    refine run_nil ?_
    refine aw_seq ?_
    refine aw_region ?_
    refine run_s (ss_move rfl) rfl ?_
    refine run_s (ss_move rfl) rfl ?_
    refine run_w (ws_call (xs := [.tmp 24, .tmp 25]) (ids := []) rfl rfl rfl rfl (c_cmp_Compare_int64_ (el s1 v11_1) (el s2 v11_1)) rfl ?_ )
    rintro _ rfl
    refine ⟨rfl, ?_⟩
    refine run_s (ss_assign rfl) rfl ?_
    refine run_nil ?_
    refine aw_seq ?_
    refine aw_gh (gh_to (n := 36) (σ' := []) (env' := [(0, .c (.lst (ints s1))), (1, .c (.lst (ints s2))), (8, .c (ci (cmp1 (el s1 v11_1) (el s2 v11_1)))), (9, .c (.lst (ints s1))), (10, .c (ci (s1.length : Int))), (11, .c (ci v11_1))]) rfl rfl ⟨rfl, rfl, rfl, rfl, rfl, rfl, trivial⟩) ?_
    refine aw_region ?_
    refine run_s (ss_move rfl) rfl ?_
    refine run_s (ss_neq rfl rfl) rfl ?_
    refine run_nil ?_
    refine aw_cond rfl (fun q7 => ?_) (fun q7 => ?_)
    ·replace h := h.1 (of_decide_eq_false (bnot_t q7))
     refine aw_seq ?_
     refine aw_gh (gh_to (n := 36) (σ' := []) (env' := [(8, .c (ci (cmp1 (el s1 v11_1) (el s2 v11_1))))]) rfl rfl ⟨rfl, trivial⟩) ?_
     refine aw_region ?_
     refine run_s (ss_move rfl) rfl ?_
     refine run_s (ss_assign rfl) rfl ?_
     refine run_nil ?_
     refine aw_ret ?_
     exact retAF_mk (retv1 rfl (rv_tmp rfl)) rfl rfl ⟨_, (cle_refl _), _, h, rfl⟩
    ·replace h := h.2 (of_decide_eq_true (bnot_f q7))
     refine aw_skip ?_
     refine aw_region ?_
     obtain ⟨q8, h⟩ := h
     refine run_s (ss_add rfl rfl q8) rfl ?_
     refine run_s (ss_move rfl) rfl ?_
     refine run_nil ?_
     exact ⟨v11_1 + 1, ghe_to (n := 36) rfl rfl ⟨rfl, rfl, rfl, rfl, rfl, trivial⟩, h.1, h.2⟩
  ·replace h := h.2 (of_decide_eq_false q2)
   refine aw_exit ?_
   refine aw_seq ?_
   refine aw_seq ?_
   refine aw_region ?_
   refine run_s (ss_move rfl) rfl ?_
   refine run_s (ss_lenL (f := ci) rfl) rfl ?_
   refine run_s (ss_move rfl) rfl ?_
   refine run_s (ss_lenL (f := ci) rfl) rfl ?_
   refine run_s (ss_lss rfl rfl) rfl ?_
   refine run_nil ?_
   refine aw_cond rfl (fun q9 => ?_) (fun q9 => ?_)
   ·replace h := h.1 (of_decide_eq_true q9)
    refine aw_seq ?_
    refine aw_gh (gh_to (n := 36) (σ' := []) (env' := []) rfl rfl trivial) ?_
    refine aw_region ?_
    refine run_s (ss_assign rfl) rfl ?_
    refine run_nil ?_
    refine aw_ret ?_
    exact retAF_mk (retv1 rfl (rv_tmp rfl)) rfl rfl ⟨_, (cle_refl _), _, h, rfl⟩
   ·replace h := h.2 (of_decide_eq_false q9)
    refine aw_skip ?_
    refine aw_seq ?_
    refine aw_gh (gh_to (n := 36) (σ' := []) (env' := []) rfl rfl trivial) ?_
    refine aw_region ?_
    refine run_s (ss_assign rfl) rfl ?_
    refine run_nil ?_
    refine aw_ret ?_
    exact retAF_mk (retv1 rfl (rv_tmp rfl)) rfl rfl ⟨_, (cle_refl _), _, h, rfl⟩

theorem c_slices_Compare___int64_int64_ (s1 : List Int) (s2 : List Int) (hp : small s1 ∧ small s2) : AF Try.prog 53 [.lst (ints s1), .lst (ints s2)] (fun R_ => R_ = ci (cmpG cmp1 s1 s2)) :=
  (w_slices_Compare___int64_int64_ s1 s2 (fun y0 => y0 = cmpG cmp1 s1 s2) (p_slices_Compare___int64_int64_ s1 s2 hp)).mono (by rintro r ⟨_, rfl, rfl⟩; rfl)

set_option maxRecDepth 100000 in
set_option maxHeartbeats 4000000 in
theorem w_spec_l01Less (a : List Int) (b : List Int) (Q : Bool → Prop) (h : wp_spec_l01Less a b Q) : AF Try.prog 98 [.lst (ints a), .lst (ints b)] (fun R_ => ∃ y0, Q y0 ∧ R_ = cb y0) := by
  refine AF.ofWQ (af_enter (n := 41) Try.func98 rfl (by rfl) rfl (Nat.le_of_ble_eq_true rfl) ?_)
  unfold wp_spec_l01Less at h
  refine aw_seq ?_
  refine aw_gh (gh_to (n := 41) (σ' := []) (env' := [(0, .c (.lst (ints a))), (1, .c (.lst (ints b)))]) rfl rfl ⟨rfl, rfl, trivial⟩) ?_
  refine aw_region ?_
  refine run_s (ss_assign rfl) rfl ?_
  refine run_nil ?_
  refine aw_seq ?_
  refine aw_seq ?_
  refine aw_region ?_
  refine run_s (ss_assign rfl) rfl ?_
  refine run_nil ?_
  refine aw_block ?_
  obtain ⟨H1, m1, q1, h⟩ := h
  refine aw_loop1 (fun (v5_1 : Int) => ⟨[], [(0, .c (.lst (ints a))), (1, .c (.lst (ints b))), (5, .c (ci v5_1))], 41⟩) H1 m1 ⟨0, ghe_to (n := 41) rfl rfl ⟨rfl, rfl, rfl, trivial⟩, q1⟩ ?_
  rintro v5_1 q1
  replace h := h v5_1 q1
  refine aw_seq ?_
  refine aw_seq ?_
  refine aw_region ?_
  refine run_s (ss_move rfl) rfl ?_
  refine run_s (ss_move rfl) rfl ?_
  refine run_s (ss_lenL (f := ci) rfl) rfl ?_
  refine run_s (ss_lss rfl rfl) rfl ?_
  refine run_s (ss_move rfl) rfl ?_
  refine run_split (s := 10) rfl (fun q2 => ?_) (fun q2 => ?_)
  ·replace h := h.1 (of_decide_eq_true q2)
   refine run_gt rfl rfl q2 ?_
   refine run_s (ss_move rfl) rfl ?_
   refine run_gt rfl rfl q2 ?_
   refine run_s (ss_move rfl) rfl ?_
   refine run_gt rfl rfl q2 ?_
   refine run_s (ss_lenL (f := ci) rfl) rfl ?_
   refine run_gt rfl rfl q2 ?_
   refine run_s (ss_lss rfl rfl) rfl ?_
   refine run_s (ss_pickT rfl q2 rfl) rfl ?_
   refine run_nil ?_
   refine aw_cond rfl (fun q3 => ?_) (fun q3 => ?_)
   ·replace h := h.1 (of_decide_eq_true q3)
    refine aw_skip ?_
    refine aw_seq ?_
    refine aw_block ?_
    refine aw_seq ?_
    refine aw_gh (gh_to (n := 41) (σ' := []) (env' := [(0, .c (.lst (ints a))), (1, .c (.lst (ints b))), (5, .c (ci v5_1)), (11, .c (ci v5_1)), (12, .c (.lst (ints b))), (13, .c (ci (b.length : Int))), (14, .c (cb (decide (v5_1 < (b.length : Int)))))]) rfl rfl ⟨rfl, rfl, rfl, rfl, rfl, rfl, rfl, trivial⟩) ?_
    refine aw_regionD (kd := kdl [0, 0, 0, 1, 0, 0, 0, 1, 0]) (ord := [0, 1, 2, 4, 5, 6, 3, 7, 8]) [] mixed (by kernel_rfl) ?_
    refine rd_s rfl rfl trivial (ss_move rfl) rfl ?_
    refine rd_s rfl rfl trivial (ss_move rfl) rfl ?_
    obtain ⟨q4, h⟩ := h
    refine rd_s rfl rfl trivial (ss_idxL rfl rfl q4) rfl ?_
    refine rd_s rfl rfl trivial (ss_move rfl) rfl ?_
    refine rd_s rfl rfl trivial (ss_move rfl) rfl ?_
    obtain ⟨q5, h⟩ := h
    refine rd_s rfl rfl trivial (ss_idxL rfl rfl q5) rfl ?_
    refine rd_l rfl rfl trivial (ss_loadL (f := ci) rfl q4) rfl ?_
    refine rd_l rfl rfl trivial (ss_loadL (f := ci) rfl q5) rfl ?_
    refine rd_s rfl rfl trivial (ss_neq rfl rfl) rfl ?_
    refine rd_nil ?_
    refine aw_cond rfl (fun q6 => ?_) (fun q6 => ?_)
    ·replace h := h.1 (of_decide_eq_false (bnot_t q6))
     refine aw_seq ?_
     refine aw_gh (gh_to (n := 41) (σ' := []) (env' := [(0, .c (.lst (ints a))), (1, .c (.lst (ints b))), (5, .c (ci v5_1))]) rfl rfl ⟨rfl, rfl, rfl, trivial⟩) ?_
     refine aw_regionD (kd := kdl [0, 0, 0, 1, 0, 0, 0, 1, 0, 0]) (ord := [0, 1, 2, 4, 5, 6, 3, 7, 8, 9]) [] mixed (by kernel_rfl) ?_
     refine rd_s rfl rfl trivial (ss_move rfl) rfl ?_
     refine rd_s rfl rfl trivial (ss_move rfl) rfl ?_
     obtain ⟨q7, h⟩ := h
     refine rd_s rfl rfl trivial (ss_idxL rfl rfl q7) rfl ?_
     refine rd_s rfl rfl trivial (ss_move rfl) rfl ?_
     refine rd_s rfl rfl trivial (ss_move rfl) rfl ?_
     obtain ⟨q8, h⟩ := h
     refine rd_s rfl rfl trivial (ss_idxL rfl rfl q8) rfl ?_
     refine rd_l rfl rfl trivial (ss_loadL (f := ci) rfl q7) rfl ?_
     refine rd_l rfl rfl trivial (ss_loadL (f := ci) rfl q8) rfl ?_
     refine rd_s rfl rfl trivial (ss_lss rfl rfl) rfl ?_
     refine rd_s rfl rfl trivial (ss_assign rfl) rfl ?_
     refine rd_nil ?_
     refine aw_ret ?_
     exact retAF_mk (retv1 rfl (rv_tmp rfl)) rfl rfl ⟨_, (cle_refl _), _, h, rfl⟩
    ·replace h := h.2 (of_decide_eq_true (bnot_f q6))
     refine aw_skip ?_
     refine aw_gh (gh_to (n := 41) (σ' := []) (env' := [(0, .c (.lst (ints a))), (1, .c (.lst (ints b))), (5, .c (ci v5_1)), (11, .c (ci v5_1)), (12, .c (.lst (ints b))), (13, .c (ci (b.length : Int))), (14, .c (cb (decide (v5_1 < (b.length : Int)))))]) rfl rfl ⟨rfl, rfl, rfl, rfl, rfl, rfl, rfl, trivial⟩) ?_
     refine aw_region ?_
     refine run_s (ss_move rfl) rfl ?_
     obtain ⟨q9, h⟩ := h
     refine run_s (ss_add rfl rfl q9) rfl ?_
     refine run_s (ss_assign rfl) rfl ?_
     refine run_nil ?_
     exact ⟨v5_1 + 1, ghe_to (n := 41) rfl rfl ⟨rfl, rfl, rfl, trivial⟩, h.1, h.2⟩
   ·replace h := h.2 (of_decide_eq_false q3)
    refine aw_exit ?_
    refine aw_seq ?_
    refine aw_gh (gh_to (n := 41) (σ' := []) (env' := [(0, .c (.lst (ints a))), (1, .c (.lst (ints b)))]) rfl rfl ⟨rfl, rfl, trivial⟩) ?_
    refine aw_region ?_
    refine run_s (ss_move rfl) rfl ?_
    refine run_s (ss_lenL (f := ci) rfl) rfl ?_
    refine run_s (ss_move rfl) rfl ?_
    refine run_s (ss_lenL (f := ci) rfl) rfl ?_
    refine run_s (ss_lss rfl rfl) rfl ?_
    refine run_s (ss_assign rfl) rfl ?_
    refine run_nil ?_
    refine aw_ret ?_
    exact retAF_mk (retv1 rfl (rv_tmp rfl)) rfl rfl ⟨_, (cle_refl _), _, h, rfl⟩
  ·replace h := h.2 (of_decide_eq_false q2)
   refine run_gf rfl rfl q2 rfl ?_
   refine run_gf rfl rfl q2 rfl ?_
   refine run_gf rfl rfl q2 rfl ?_
   refine run_gf rfl rfl q2 rfl ?_
   refine run_s (ss_pickF rfl q2 rfl) rfl ?_
   refine run_nil ?_
   refine aw_cond rfl (fun q10 => ?_) (fun q10 => ?_)
   ·cases q10
   ·skip
    refine aw_exit ?_
    refine aw_seq ?_
    refine aw_gh (gh_to (n := 41) (σ' := []) (env' := [(0, .c (.lst (ints a))), (1, .c (.lst (ints b)))]) rfl rfl ⟨rfl, rfl, trivial⟩) ?_
    refine aw_region ?_
    refine run_s (ss_move rfl) rfl ?_
    refine run_s (ss_lenL (f := ci) rfl) rfl ?_
    refine run_s (ss_move rfl) rfl ?_
    refine run_s (ss_lenL (f := ci) rfl) rfl ?_
    refine run_s (ss_lss rfl rfl) rfl ?_
    refine run_s (ss_assign rfl) rfl ?_
    refine run_nil ?_
    refine aw_ret ?_
    exact retAF_mk (retv1 rfl (rv_tmp rfl)) rfl rfl ⟨_, (cle_refl _), _, h, rfl⟩

theorem c_spec_l01Less (a : List Int) (b : List Int) (hp : small a ∧ small b) : AF Try.prog 98 [.lst (ints a), .lst (ints b)] (fun R_ => R_ = cb (decide (cmpG cmp1 a b < 0))) :=
  (w_spec_l01Less a b (fun y0 => y0 = decide (cmpG cmp1 a b < 0)) (p_spec_l01Less a b hp)).mono (by rintro r ⟨_, rfl, rfl⟩; rfl)

set_option maxRecDepth 100000 in
set_option maxHeartbeats 4000000 in
theorem w_impl_nextPermutation (p : List Int) (Q : Bool → List Int → Prop) (h : wp_impl_nextPermutation p Q) : AM Try.prog 92 [.own (ints p)] (fun R_ O_ => ∃ y0 w0, Q y0 w0 ∧ R_ = cb y0 ∧ O_ = [.own (ints w0)]) := by
  refine am_enter (n := 59) (m := 1) Try.func92 rfl (by rfl) rfl rfl (Nat.le_of_ble_eq_true rfl) [800] rfl ?_
  unfold wp_impl_nextPermutation at h
  refine aw_seq ?_
  refine aw_gh (gh_to (n := 59) (σ' := [(800, ⟨ints p, []⟩)]) (env' := [(0, .ref 800), (59, .ref 800)]) rfl rfl ⟨rfl, rfl, trivial⟩) ?_
  refine aw_region ?_
  refine run_s (ss_assign rfl) rfl ?_
  refine run_nil ?_
  refine aw_seq ?_
  refine aw_region ?_
  refine run_s (ss_move rfl) rfl ?_
  refine run_s (ss_lenR (f := ci) rfl rfl) rfl ?_
  obtain ⟨q1, h⟩ := h
  refine run_s (ss_sub rfl rfl q1) rfl ?_
  refine run_s (ss_assign rfl) rfl ?_
  refine run_nil ?_
  refine aw_seq ?_
  refine aw_block ?_
  obtain ⟨H1, m1, q2, h⟩ := h
  refine aw_loop1 (fun (v3_1 : Int) => ⟨[(800, ⟨ints p, []⟩)], [(0, .ref 800), (3, .c (ci v3_1)), (59, .ref 800)], 59⟩) H1 m1 ⟨(p.length : Int) - 2, ghe_to (n := 59) rfl rfl ⟨rfl, rfl, rfl, trivial⟩, q2⟩ ?_
  rintro v3_1 q2
  replace h := h v3_1 q2
  refine aw_seq ?_
  refine aw_seq ?_
  refine aw_gh (gh_to (n := 59) (σ' := [(800, ⟨ints p, []⟩)]) (env' := [(0, .ref 800), (3, .c (ci v3_1)), (59, .ref 800)]) rfl rfl ⟨rfl, rfl, rfl, trivial⟩) ?_
  refine aw_regionD (kd := kdl [0, 0, 0, 0, 0, 0, 1, 0, 0, 0, 0, 1, 0, 0]) (ord := [0, 1, 2, 3, 4, 5, 7, 8, 9, 10, 6, 11, 12, 13]) [] mixed (by kernel_rfl) ?_
  refine rd_s rfl rfl trivial (ss_move rfl) rfl ?_
  refine rd_s rfl rfl trivial (ss_geq rfl rfl) rfl ?_
  refine rd_s rfl rfl trivial (ss_move rfl) rfl ?_
  refine rd_split (s := 10) rfl (fun q3 => ?_) (fun q3 => ?_)
  ·replace h := h.1 (of_decide_eq_true q3)
   refine rd_s rfl rfl ⟨_, _, rfl, rfl, q3⟩ (ss_move rfl) rfl ?_
   refine rd_s rfl rfl ⟨_, _, rfl, rfl, q3⟩ (ss_move rfl) rfl ?_
   obtain ⟨q4, h⟩ := h
   refine rd_s rfl rfl ⟨_, _, rfl, rfl, q3⟩ (ss_idxR (f := ci) rfl rfl rfl q4) rfl ?_
   refine rd_s rfl rfl ⟨_, _, rfl, rfl, q3⟩ (ss_move rfl) rfl ?_
   refine rd_s rfl rfl ⟨_, _, rfl, rfl, q3⟩ (ss_move rfl) rfl ?_
   obtain ⟨q5, h⟩ := h
   refine rd_s rfl rfl ⟨_, _, rfl, rfl, q3⟩ (ss_add rfl rfl q5) rfl ?_
   obtain ⟨q6, h⟩ := h
   refine rd_s rfl rfl ⟨_, _, rfl, rfl, q3⟩ (ss_idxR (f := ci) rfl rfl rfl q6) rfl ?_
   refine rd_l rfl rfl ⟨_, _, rfl, rfl, q3⟩ (ss_loadR (f := ci) rfl rfl q4 rfl rfl) rfl ?_
   refine rd_l rfl rfl ⟨_, _, rfl, rfl, q3⟩ (ss_loadR (f := ci) rfl rfl q6 rfl rfl) rfl ?_
   refine rd_s rfl rfl ⟨_, _, rfl, rfl, q3⟩ (ss_gtr rfl rfl) rfl ?_
   refine rd_s rfl rfl trivial (ss_pickT rfl q3 rfl) rfl ?_
   refine rd_nil ?_
   refine aw_cond rfl (fun q7 => ?_) (fun q7 => ?_)
   ·replace h := h.1 (of_decide_eq_true q7)
    refine aw_skip ?_
    refine aw_block ?_
    refine aw_gh (gh_to (n := 59) (σ' := [(800, ⟨ints p, []⟩)]) (env' := [(0, .ref 800), (3, .c (ci v3_1)), (11, .ref 800), (12, .c (ci v3_1)), (13, .cell 800 v3_1.toNat), (14, .c (ci (el p v3_1))), (15, .ref 800), (16, .c (ci v3_1)), (17, .c (ci (v3_1 + 1))), (18, .cell 800 (v3_1 + 1).toNat), (19, .c (ci (el p (v3_1 + 1)))), (20, .c (cb (decide (el p (v3_1 + 1) < el p v3_1)))), (59, .ref 800)]) rfl rfl ⟨rfl, rfl, rfl, rfl, rfl, rfl, rfl, rfl, rfl, rfl, rfl, rfl, rfl, trivial⟩) ?_
    refine aw_region ?_
    refine run_s (ss_move rfl) rfl ?_
    obtain ⟨q8, h⟩ := h
    refine run_s (ss_sub rfl rfl q8) rfl ?_
    refine run_s (ss_assign rfl) rfl ?_
    refine run_nil ?_
    exact ⟨v3_1 - 1, ghe_to (n := 59) rfl rfl ⟨rfl, rfl, rfl, trivial⟩, h.1, h.2⟩
   ·replace h := h.2 (of_decide_eq_false q7)
    refine aw_exit ?_
    refine aw_seq ?_
    refine aw_seq ?_
    refine aw_gh (gh_to (n := 59) (σ' := [(800, ⟨ints p, []⟩)]) (env' := [(0, .ref 800), (3, .c (ci v3_1)), (59, .ref 800)]) rfl rfl ⟨rfl, rfl, rfl, trivial⟩) ?_
    refine aw_region ?_
    refine run_s (ss_move rfl) rfl ?_
    refine run_s (ss_lss rfl rfl) rfl ?_
    refine run_nil ?_
    refine aw_cond rfl (fun q9 => ?_) (fun q9 => ?_)
    ·replace h := h.1 (of_decide_eq_true q9)
     refine aw_seq ?_
     refine aw_gh (gh_to (n := 59) (σ' := [(800, ⟨ints p, []⟩)]) (env' := [(59, .ref 800)]) rfl rfl ⟨rfl, trivial⟩) ?_
     refine aw_region ?_
     refine run_s (ss_assign rfl) rfl ?_
     refine run_nil ?_
     refine aw_ret ?_
     exact retAM_mk (retv1 rfl (rv_tmp rfl)) rfl rfl rfl ⟨_, _, h, rfl, rfl⟩
    ·replace h := h.2 (of_decide_eq_false q9)
     refine aw_skip ?_
     refine aw_seq ?_
     refine aw_region ?_
     refine run_s (ss_move rfl) rfl ?_
     refine run_s (ss_lenR (f := ci) rfl rfl) rfl ?_
     obtain ⟨q10, h⟩ := h
     refine run_s (ss_sub rfl rfl q10) rfl ?_
     refine run_s (ss_assign rfl) rfl ?_
     refine run_nil ?_
     refine aw_seq ?_
     refine aw_block ?_
     obtain ⟨H2, m2, q11, h⟩ := h
     refine aw_loop1 (fun (v4_2 : Int) => ⟨[(800, ⟨ints p, []⟩)], [(0, .ref 800), (3, .c (ci v3_1)), (4, .c (ci v4_2)), (59, .ref 800)], 59⟩) H2 m2 ⟨(p.length : Int) - 1, ghe_to (n := 59) rfl rfl ⟨rfl, rfl, rfl, rfl, trivial⟩, q11⟩ ?_
     rintro v4_2 q11
     replace h := h v4_2 q11
     refine aw_seq ?_
     refine aw_seq ?_
     refine aw_gh (gh_to (n := 59) (σ' := [(800, ⟨ints p, []⟩)]) (env' := [(0, .ref 800), (3, .c (ci v3_1)), (4, .c (ci v4_2)), (59, .ref 800)]) rfl rfl ⟨rfl, rfl, rfl, rfl, trivial⟩) ?_
     refine aw_regionD (kd := kdl [0, 0, 0, 1, 0, 0, 0, 1, 0]) (ord := [0, 1, 2, 4, 5, 6, 3, 7, 8]) [] mixed (by kernel_rfl) ?_
     refine rd_s rfl rfl trivial (ss_move rfl) rfl ?_
     refine rd_s rfl rfl trivial (ss_move rfl) rfl ?_
     obtain ⟨q12, h⟩ := h
     refine rd_s rfl rfl trivial (ss_idxR (f := ci) rfl rfl rfl q12) rfl ?_
     refine rd_s rfl rfl trivial (ss_move rfl) rfl ?_
     refine rd_s rfl rfl trivial (ss_move rfl) rfl ?_
     obtain ⟨q13, h⟩ := h
     refine rd_s rfl rfl trivial (ss_idxR (f := ci) rfl rfl rfl q13) rfl ?_
     refine rd_l rfl rfl trivial (ss_loadR (f := ci) rfl rfl q12 rfl rfl) rfl ?_
     refine rd_l rfl rfl trivial (ss_loadR (f := ci) rfl rfl q13 rfl rfl) rfl ?_
     refine rd_s rfl rfl trivial (ss_lss rfl rfl) rfl ?_
     refine rd_nil ?_
     refine aw_cond rfl (fun q14 => ?_) (fun q14 => ?_)
     ·replace h := h.1 (of_decide_eq_true q14)
      refine aw_skip ?_
      refine aw_block ?_
      refine aw_gh (gh_to (n := 59) (σ' := [(800, ⟨ints p, []⟩)]) (env' := [(0, .ref 800), (3, .c (ci v3_1)), (4, .c (ci v4_2)), (59, .ref 800)]) rfl rfl ⟨rfl, rfl, rfl, rfl, trivial⟩) ?_
      refine aw_region ?_
      refine run_s (ss_move rfl) rfl ?_
      obtain ⟨q15, h⟩ := h
      refine run_s (ss_sub rfl rfl q15) rfl ?_
      refine run_s (ss_assign rfl) rfl ?_
      refine run_nil ?_
      exact ⟨v4_2 - 1, ghe_to (n := 59) rfl rfl ⟨rfl, rfl, rfl, rfl, trivial⟩, h.1, h.2⟩
     ·replace h := h.2 (of_decide_eq_false q14)
      refine aw_exit ?_
      refine aw_seq ?_
      refine aw_gh (gh_to (n := 59) (σ' := [(800, ⟨ints p, []⟩)]) (env' := [(0, .ref 800), (3, .c (ci v3_1)), (4, .c (ci v4_2)), (59, .ref 800)]) rfl rfl ⟨rfl, rfl, rfl, rfl, trivial⟩) ?_
      refine aw_regionD (kd := kdl [0, 0, 0, 0, 0, 0, 0, 1, 0, 0, 0, 1, 0, 3, 0, 3]) (ord := [0, 1, 2, 3, 4, 5, 6, 8, 9, 10, 7, 11, 12, 13, 14, 15]) [] mixed (by kernel_rfl) ?_
      refine rd_s rfl rfl trivial (ss_move rfl) rfl ?_
      refine rd_s rfl rfl trivial (ss_move rfl) rfl ?_
      refine rd_s rfl rfl trivial (ss_move rfl) rfl ?_
      refine rd_s rfl rfl trivial (ss_move rfl) rfl ?_
      refine rd_s rfl rfl trivial (ss_move rfl) rfl ?_
      refine rd_s rfl rfl trivial (ss_move rfl) rfl ?_
      obtain ⟨q16, h⟩ := h
      refine rd_s rfl rfl trivial (ss_idxR (f := ci) rfl rfl rfl q16) rfl ?_
      refine rd_s rfl rfl trivial (ss_move rfl) rfl ?_
      refine rd_s rfl rfl trivial (ss_move rfl) rfl ?_
      obtain ⟨q17, h⟩ := h
      refine rd_s rfl rfl trivial (ss_idxR (f := ci) rfl rfl rfl q17) rfl ?_
      refine rd_l rfl rfl trivial (ss_loadR (f := ci) rfl rfl q16 rfl rfl) rfl ?_
      refine rd_l rfl rfl trivial (ss_loadR (f := ci) rfl rfl q17 rfl rfl) rfl ?_
      obtain ⟨q18, h⟩ := h
      refine rd_s rfl rfl trivial (ss_idxR (f := ci) rfl rfl rfl q18) rfl ?_
      refine rd_f rfl rfl trivial (ws_storeE rfl rfl (map_lt q18) rfl rfl (map_se (f := ci)) rfl ⟨rfl, ?_⟩)
      obtain ⟨q19, h⟩ := h
      refine rd_s rfl rfl trivial (ss_idxR (f := ci) rfl rfl rfl q19) rfl ?_
      refine rd_f rfl rfl trivial (ws_storeE rfl rfl (map_lt q19) rfl rfl (map_se (f := ci)) rfl ⟨rfl, ?_⟩)
      refine rd_nil ?_
      refine aw_seq ?_
      refine aw_gh (gh_to (n := 59) (σ' := [(800, ⟨ints (se (se p v3_1 (el p v4_2)) v4_2 (el p v3_1)), []⟩)]) (env' := [(0, .ref 800), (3, .c (ci v3_1)), (59, .ref 800)]) rfl rfl ⟨rfl, rfl, rfl, trivial⟩) ?_
      refine aw_region ?_
      refine run_s (ss_move rfl) rfl ?_
      refine run_s (ss_move rfl) rfl ?_
      obtain ⟨q20, h⟩ := h
      refine run_s (ss_add rfl rfl q20) rfl ?_
      obtain ⟨q21, h⟩ := h
      obtain ⟨q22, h⟩ := h
      refine run_part (F := List.reverse) at_Reverse rfl rfl rfl q21 q22 rfl rfl rfl ?_
      refine run_nil ?_
      refine aw_seq ?_
      refine aw_gh (gh_to (n := 59) (σ' := [(800, ⟨ints ((se (se p v3_1 (el p v4_2)) v4_2 (el p v3_1)).take (v3_1 + 1).toNat ++ List.reverse ((se (se p v3_1 (el p v4_2)) v4_2 (el p v3_1)).drop (v3_1 + 1).toNat)), []⟩)]) (env' := [(59, .ref 800)]) rfl rfl ⟨rfl, trivial⟩) ?_
      refine aw_region ?_
      refine run_s (ss_assign rfl) rfl ?_
      refine run_nil ?_
      refine aw_ret ?_
      exact retAM_mk (retv1 rfl (rv_tmp rfl)) rfl rfl rfl ⟨_, _, h, rfl, rfl⟩
  ·replace h := h.2 (of_decide_eq_false q3)
   refine rd_no rfl rfl rfl q3 rfl ?_
   refine rd_no rfl rfl rfl q3 rfl ?_
   refine rd_no rfl rfl rfl q3 rfl ?_
   refine rd_no rfl rfl rfl q3 rfl ?_
   refine rd_no rfl rfl rfl q3 rfl ?_
   refine rd_no rfl rfl rfl q3 rfl ?_
   refine rd_no rfl rfl rfl q3 rfl ?_
   refine rd_no rfl rfl rfl q3 rfl ?_
   refine rd_no rfl rfl rfl q3 rfl ?_
   refine rd_no rfl rfl rfl q3 rfl ?_
   refine rd_s rfl rfl trivial (ss_pickF rfl q3 rfl) rfl ?_
   refine rd_nil ?_
   refine aw_cond rfl (fun q23 => ?_) (fun q23 => ?_)
   ·cases q23
   ·skip
    refine aw_exit ?_
    refine aw_seq ?_
    refine aw_seq ?_
    refine aw_gh (gh_to (n := 59) (σ' := [(800, ⟨ints p, []⟩)]) (env' := [(0, .ref 800), (3, .c (ci v3_1)), (59, .ref 800)]) rfl rfl ⟨rfl, rfl, rfl, trivial⟩) ?_
    refine aw_region ?_
    refine run_s (ss_move rfl) rfl ?_
    refine run_s (ss_lss rfl rfl) rfl ?_
    refine run_nil ?_
    refine aw_cond rfl (fun q24 => ?_) (fun q24 => ?_)
    ·replace h := h.1 (of_decide_eq_true q24)
     refine aw_seq ?_
     refine aw_gh (gh_to (n := 59) (σ' := [(800, ⟨ints p, []⟩)]) (env' := [(59, .ref 800)]) rfl rfl ⟨rfl, trivial⟩) ?_
     refine aw_region ?_
     refine run_s (ss_assign rfl) rfl ?_
     refine run_nil ?_
     refine aw_ret ?_
     exact retAM_mk (retv1 rfl (rv_tmp rfl)) rfl rfl rfl ⟨_, _, h, rfl, rfl⟩
    ·replace h := h.2 (of_decide_eq_false q24)
     refine aw_skip ?_
     refine aw_seq ?_
     refine aw_region ?_
     refine run_s (ss_move rfl) rfl ?_
     refine run_s (ss_lenR (f := ci) rfl rfl) rfl ?_
     obtain ⟨q25, h⟩ := h
     refine run_s (ss_sub rfl rfl q25) rfl ?_
     refine run_s (ss_assign rfl) rfl ?_
     refine run_nil ?_
     refine aw_seq ?_
     refine aw_block ?_
     obtain ⟨H3, m3, q26, h⟩ := h
     refine aw_loop1 (fun (v4_2 : Int) => ⟨[(800, ⟨ints p, []⟩)], [(0, .ref 800), (3, .c (ci v3_1)), (4, .c (ci v4_2)), (59, .ref 800)], 59⟩) H3 m3 ⟨(p.length : Int) - 1, ghe_to (n := 59) rfl rfl ⟨rfl, rfl, rfl, rfl, trivial⟩, q26⟩ ?_
     rintro v4_2 q26
     replace h := h v4_2 q26
     refine aw_seq ?_
     refine aw_seq ?_
     refine aw_gh (gh_to (n := 59) (σ' := [(800, ⟨ints p, []⟩)]) (env' := [(0, .ref 800), (3, .c (ci v3_1)), (4, .c (ci v4_2)), (59, .ref 800)]) rfl rfl ⟨rfl, rfl, rfl, rfl, trivial⟩) ?_
     refine aw_regionD (kd := kdl [0, 0, 0, 1, 0, 0, 0, 1, 0]) (ord := [0, 1, 2, 4, 5, 6, 3, 7, 8]) [] mixed (by kernel_rfl) ?_
     refine rd_s rfl rfl trivial (ss_move rfl) rfl ?_
     refine rd_s rfl rfl trivial (ss_move rfl) rfl ?_
     obtain ⟨q27, h⟩ := h
     refine rd_s rfl rfl trivial (ss_idxR (f := ci) rfl rfl rfl q27) rfl ?_
     refine rd_s rfl rfl trivial (ss_move rfl) rfl ?_
     refine rd_s rfl rfl trivial (ss_move rfl) rfl ?_
     obtain ⟨q28, h⟩ := h
     refine rd_s rfl rfl trivial (ss_idxR (f := ci) rfl rfl rfl q28) rfl ?_
     refine rd_l rfl rfl trivial (ss_loadR (f := ci) rfl rfl q27 rfl rfl) rfl ?_
     refine rd_l rfl rfl trivial (ss_loadR (f := ci) rfl rfl q28 rfl rfl) rfl ?_
     refine rd_s rfl rfl trivial (ss_lss rfl rfl) rfl ?_
     refine rd_nil ?_
     refine aw_cond rfl (fun q29 => ?_) (fun q29 => ?_)
     ·replace h := h.1 (of_decide_eq_true q29)
      refine aw_skip ?_
      refine aw_block ?_
      refine aw_gh (gh_to (n := 59) (σ' := [(800, ⟨ints p, []⟩)]) (env' := [(0, .ref 800), (3, .c (ci v3_1)), (4, .c (ci v4_2)), (59, .ref 800)]) rfl rfl ⟨rfl, rfl, rfl, rfl, trivial⟩) ?_
      refine aw_region ?_
      refine run_s (ss_move rfl) rfl ?_
      obtain ⟨q30, h⟩ := h
      refine run_s (ss_sub rfl rfl q30) rfl ?_
      refine run_s (ss_assign rfl) rfl ?_
      refine run_nil ?_
      exact ⟨v4_2 - 1, ghe_to (n := 59) rfl rfl ⟨rfl, rfl, rfl, rfl, trivial⟩, h.1, h.2⟩
     ·replace h := h.2 (of_decide_eq_false q29)
      refine aw_exit ?_
      refine aw_seq ?_
      refine aw_gh (gh_to (n := 59) (σ' := [(800, ⟨ints p, []⟩)]) (env' := [(0, .ref 800), (3, .c (ci v3_1)), (4, .c (ci v4_2)), (59, .ref 800)]) rfl rfl ⟨rfl, rfl, rfl, rfl, trivial⟩) ?_
      refine aw_regionD (kd := kdl [0, 0, 0, 0, 0, 0, 0, 1, 0, 0, 0, 1, 0, 3, 0, 3]) (ord := [0, 1, 2, 3, 4, 5, 6, 8, 9, 10, 7, 11, 12, 13, 14, 15]) [] mixed (by kernel_rfl) ?_
      refine rd_s rfl rfl trivial (ss_move rfl) rfl ?_
      refine rd_s rfl rfl trivial (ss_move rfl) rfl ?_
      refine rd_s rfl rfl trivial (ss_move rfl) rfl ?_
      refine rd_s rfl rfl trivial (ss_move rfl) rfl ?_
      refine rd_s rfl rfl trivial (ss_move rfl) rfl ?_
      refine rd_s rfl rfl trivial (ss_move rfl) rfl ?_
      obtain ⟨q31, h⟩ := h
      refine rd_s rfl rfl trivial (ss_idxR (f := ci) rfl rfl rfl q31) rfl ?_
      refine rd_s rfl rfl trivial (ss_move rfl) rfl ?_
      refine rd_s rfl rfl trivial (ss_move rfl) rfl ?_
      obtain ⟨q32, h⟩ := h
      refine rd_s rfl rfl trivial (ss_idxR (f := ci) rfl rfl rfl q32) rfl ?_
      refine rd_l rfl rfl trivial (ss_loadR (f := ci) rfl rfl q31 rfl rfl) rfl ?_
      refine rd_l rfl rfl trivial (ss_loadR (f := ci) rfl rfl q32 rfl rfl) rfl ?_
      obtain ⟨q33, h⟩ := h
      refine rd_s rfl rfl trivial (ss_idxR (f := ci) rfl rfl rfl q33) rfl ?_
      refine rd_f rfl rfl trivial (ws_storeE rfl rfl (map_lt q33) rfl rfl (map_se (f := ci)) rfl ⟨rfl, ?_⟩)
      obtain ⟨q34, h⟩ := h
      refine rd_s rfl rfl trivial (ss_idxR (f := ci) rfl rfl rfl q34) rfl ?_
      refine rd_f rfl rfl trivial (ws_storeE rfl rfl (map_lt q34) rfl rfl (map_se (f := ci)) rfl ⟨rfl, ?_⟩)
      refine rd_nil ?_
      refine aw_seq ?_
      refine aw_gh (gh_to (n := 59) (σ' := [(800, ⟨ints (se (se p v3_1 (el p v4_2)) v4_2 (el p v3_1)), []⟩)]) (env' := [(0, .ref 800), (3, .c (ci v3_1)), (59, .ref 800)]) rfl rfl ⟨rfl, rfl, rfl, trivial⟩) ?_
      refine aw_region ?_
      refine run_s (ss_move rfl) rfl ?_
      refine run_s (ss_move rfl) rfl ?_
      obtain ⟨q35, h⟩ := h
      refine run_s (ss_add rfl rfl q35) rfl ?_
      obtain ⟨q36, h⟩ := h
      obtain ⟨q37, h⟩ := h
      refine run_part (F := List.reverse) at_Reverse rfl rfl rfl q36 q37 rfl rfl rfl ?_
      refine run_nil ?_
      refine aw_seq ?_
      refine aw_gh (gh_to (n := 59) (σ' := [(800, ⟨ints ((se (se p v3_1 (el p v4_2)) v4_2 (el p v3_1)).take (v3_1 + 1).toNat ++ List.reverse ((se (se p v3_1 (el p v4_2)) v4_2 (el p v3_1)).drop (v3_1 + 1).toNat)), []⟩)]) (env' := [(59, .ref 800)]) rfl rfl ⟨rfl, trivial⟩) ?_
      refine aw_region ?_
      refine run_s (ss_assign rfl) rfl ?_
      refine run_nil ?_
      refine aw_ret ?_
      exact retAM_mk (retv1 rfl (rv_tmp rfl)) rfl rfl rfl ⟨_, _, h, rfl, rfl⟩

theorem c_impl_nextPermutation (p : List Int) (hp : isPerm p = true ∧ (p.length : Int) ≤ 12) : AM Try.prog 92 [.own (ints p)] (fun R_ O_ => ∃ y0 w0, ((y0 = true ∧ ∃ i_ k_, NxI p i_ k_ ∧ w0 = nxtL p i_ k_) ∨ (y0 = false ∧ w0 = p ∧ ∀ j_ : Int, -1 < j_ → j_ + 1 < (p.length : Int) → el p (j_ + 1) < el p j_)) ∧ R_ = cb y0 ∧ O_ = [.own (ints w0)]) :=
  w_impl_nextPermutation p (fun y0 w0 => (y0 = true ∧ ∃ i_ k_, NxI p i_ k_ ∧ w0 = nxtL p i_ k_) ∨ (y0 = false ∧ w0 = p ∧ ∀ j_ : Int, -1 < j_ → j_ + 1 < (p.length : Int) → el p (j_ + 1) < el p j_)) (p_impl_nextPermutation p hp)

/-- The iterator of impl.permutations yields the permutations in order. -/
theorem sq_permutations (n : Int) (hp : 0 ≤ n ∧ n ≤ 12) : SeqA Try.prog 90 [.ptr [ci n]] ((growL n []).map fun p_ => .lst (ints p_)) := by
  have hfirst := growL_first hp.1
  have hpos : 0 < (growL n []).length := (List.getElem?_eq_some_iff.1 hfirst).1
  have hat : ∀ k, k < (growL n []).length → (growL n [])[k]? = some ((growL n []).getD k []) := fun k hk => by
    rw [List.getD_eq_getElem?_getD, List.getElem?_eq_getElem hk]; rfl
  have hfz : ∀ l : List Int, frzL (ints l) = ints l := fun l => by
    induction l with
    | nil => rfl
    | cons x l ih => show frzL (ci x :: ints l) = _; simp only [frzL, ih]; rfl
  refine seq_loop (n := 12) (id := 5) (N := (growL n []).length)
    (fun l k => ⟨[(5, ⟨ints ((growL n []).getD k []), []⟩)], [(0, .c (.val (yv l))), (1, .c (.ptr [ci n])), (3, .ref 5)], 12⟩)
    (fun k => ints ((growL n []).getD k [])) Try.func90 rfl (by rfl) rfl (Nat.le_of_ble_eq_true rfl) rfl hpos (by simp) (fun _ _ => rfl) ⟨by decide, by decide, by decide⟩
    (fun _ _ => rfl) (fun _ _ => rfl) (fun _ _ => rfl) (fun _ _ => rfl) (fun _ _ _ => rfl) (fun k hk => ?_) (fun l => ?_) (fun l k hk => ?_) (fun l k hk => ?_)
  · rw [List.getElem?_map, hat k hk, hfz]; rfl
  · -- the first permutation
    refine aw_region ?_
    refine run_s (ss_load_ptr rfl rfl) rfl ?_
    refine run_w (ws_call (xs := [.tmp 4]) (ids := [5]) rfl rfl rfl rfl (c_impl_identity n ⟨hp.1, by omega⟩) rfl ?_)
    rintro _ rfl
    refine ⟨rfl, ?_⟩
    refine run_s (ss_assign rfl) rfl ?_
    refine run_nil ?_
    have e : (growL n []).getD 0 [] = unitI n := by rw [List.getD_eq_getElem?_getD, hfirst]; rfl
    refine ⟨[], ?_⟩
    rw [e]
    exact gh_to (n := 12) (σ' := [(5, ⟨ints (unitI n), []⟩)]) (env' := [(0, .c (.val (yv l))), (1, .c (.ptr [ci n])), (3, .ref 5)]) rfl rfl ⟨rfl, rfl, rfl, trivial⟩
  · obtain ⟨pl, pP⟩ := growL_perm hp.1 (List.mem_of_getElem? (hat k hk))
    have hk2 := hat k hk
    generalize hpe : (growL n []).getD k [] = p at *
    refine aw_cond rfl (fun _ => ?_) (fun q => by cases q)
    refine aw_skip ?_
    refine aw_block ?_
    refine aw_seq ?_
    refine aw_gh (gh_to (n := 12) (σ' := [(5, ⟨ints p, []⟩)]) (env' := [(0, .c (.val (yv l))), (1, .c (.ptr [ci n])), (3, .ref 5)]) rfl rfl ⟨rfl, rfl, rfl, trivial⟩) ?_
    refine aw_region ?_
    refine run_s (ss_move rfl) rfl ?_
    refine run_w (ws_callM (xs := [.tmp 9]) (cs := [.own (ints p)]) (ids := []) rfl (.inr ⟨rfl, rfl⟩) rfl rfl rfl (c_impl_nextPermutation p ⟨pP, by omega⟩) rfl rfl ?_ )
    rintro _ _ ⟨r0, o0, q, rfl, rfl⟩
    refine ⟨rfl, rfl, ?_⟩
    refine run_s (ss_not rfl) rfl ?_
    refine run_nil ?_
    rcases q with ⟨rfl, i, j, hx, rfl⟩ | ⟨rfl, rfl, hx⟩
    · refine aw_cond rfl (fun q => by cases q) (fun _ => ?_)
      refine aw_skip ?_
      have h1 := growL_next hp.1 hk2 hx
      refine ⟨(List.getElem?_eq_some_iff.1 h1).1, [], ?_⟩
      have e : (growL n []).getD (k + 1) [] = nxtL p i j := by rw [List.getD_eq_getElem?_getD, h1]; rfl
      show Gh [] _ ⟨[(5, ⟨ints ((growL n []).getD (k + 1) []), []⟩)], _, 12⟩
      rw [e]
      exact gh_to (n := 12) (σ' := [(5, ⟨ints (nxtL p i j), []⟩)]) (env' := [(0, .c (.val (yv l))), (1, .c (.ptr [ci n])), (3, .ref 5)]) rfl rfl ⟨rfl, rfl, rfl, trivial⟩
    · refine aw_cond rfl (fun _ => ?_) (fun q => by cases q)
      refine aw_ret ?_
      exact growL_last hp.1 hk2 hx
  · refine aw_cond rfl (fun q => by cases q) (fun _ => ?_)
    exact aw_exit rfl
theorem c_impl_permutations (n : Int) (_hp : 0 ≤ n ∧ n ≤ 12) : AF Try.prog 51 [ci n] (fun R_ => R_ = .clo 90 [.ptr [ci n]]) := by
  refine af_enter (n := 4) Try.func51 rfl (by rfl) rfl (Nat.le_of_ble_eq_true rfl) ?_
  refine aw_seq ?_
  refine aw_gh (gh_to (n := 4) (σ' := []) (env' := [(0, .c (ci n))]) rfl rfl ⟨rfl, trivial⟩) ?_
  refine aw_region ?_
  refine run_w (ws_boxR rfl (.inr rfl) rfl ⟨rfl, ?_⟩)
  refine run_s (ss_assign rfl) rfl ?_
  refine run_nil ?_
  refine aw_seq ?_
  refine aw_region ?_
  refine run_s (ss_makeFunc (os := [.tmp 1]) rfl) rfl ?_
  refine run_s (ss_assign rfl) rfl ?_
  refine run_nil ?_
  refine aw_ret ?_
  exact retAF_mk (retv1 rfl (rv_tmp rfl)) rfl rfl rfl



end Go.Proofs.Ytggeeemecgmhiaa
