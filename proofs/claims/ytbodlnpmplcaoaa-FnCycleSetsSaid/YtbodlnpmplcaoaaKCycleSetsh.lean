/- Contracts of functions that the law FnCycleSets reaches: conditions, plain proofs, walks; no condition. -/
import Derived.Test.YtbodlnpmplcaoaaKCycleSetsg
namespace Go.Proofs.Ytbodlnpmplcaoaa

def wp_laws_FnCycleSets (code : List Int) (Q : Bool → Prop) : Prop :=
 ((4096 < (code.length : Int) →
 Q true) ∧
 (¬ (4096 < (code.length : Int)) →
 (small code ∧ bytes code) ∧
 ∀ (r1_0 : List (List Int)), (szT r1_0) →
 (small2 r1_0) ∧
 (small2 r1_0) ∧
 ((¬ (cyE r1_0 = cyE r1_0) →
 Q false) ∧
 (cyE r1_0 = cyE r1_0 →
 ((small2 (SocA r1_0) ∧ small2 (SocA r1_0)) ∧ small2 (SocB r1_0) ∧ small2 (SocB r1_0)) ∧
 (((decide ((SocA r1_0) = (SocA r1_0)) && decide ((SocB r1_0) = (SocB r1_0))) = false →
 Q false) ∧
 ((decide ((SocA r1_0) = (SocA r1_0)) && decide ((SocB r1_0) = (SocB r1_0))) = true →
 (small2 r1_0) ∧
 (small2 r1_0) ∧
 ((((isCyc r1_0) == (isCyc r1_0)) = false →
 Q false) ∧
 (((isCyc r1_0) == (isCyc r1_0)) = true →
 ((cyE r1_0 = 0 →
 (small2 (SocA r1_0) ∧ small2 (SocB r1_0)) ∧
 (small2 (SocA r1_0) ∧ small2 (SocB r1_0)) ∧
 (small2 (SocA r1_0) ∧ small2 (SocB r1_0)) ∧
 (small2 (SocA r1_0) ∧ small2 (SocB r1_0)) ∧
 (small2 r1_0) ∧
 ((¬ (CsoE (SocA r1_0) (SocB r1_0) = 0) →
 Q false) ∧
 (CsoE (SocA r1_0) (SocB r1_0) = 0 →
 ((¬ ((if pmB (SocA r1_0) (SocB r1_0) then (0 : Int) else 1) = 0) →
 Q false) ∧
 ((if pmB (SocA r1_0) (SocB r1_0) then (0 : Int) else 1) = 0 →
 ((¬ ((if pmB (SocA r1_0) (SocB r1_0) then (0 : Int) else 1) = 0) →
 Q false) ∧
 ((if pmB (SocA r1_0) (SocB r1_0) then (0 : Int) else 1) = 0 →
 ((¬ ((if pmB (SocA r1_0) (SocB r1_0) then (0 : Int) else 1) = 0) →
 Q false) ∧
 ((if pmB (SocA r1_0) (SocB r1_0) then (0 : Int) else 1) = 0 →
 ((¬ (cyE r1_0 = 0) →
 Q false) ∧
 (cyE r1_0 = 0 →
 (small2 (SocA r1_0) ∧ small2 (SocB r1_0)) ∧
 (((solB (SocA r1_0) (SocB r1_0)) = false →
 Q false) ∧
 ((solB (SocA r1_0) (SocB r1_0)) = true →
 (((pmB (SocA r1_0) (SocB r1_0) && ndB (SocA r1_0) (SocB r1_0)) = false →
 Q false) ∧
 ((pmB (SocA r1_0) (SocB r1_0) && ndB (SocA r1_0) (SocB r1_0)) = true →
 (((pmB (SocA r1_0) (SocB r1_0) && ivB (SocA r1_0) (SocB r1_0)) = false →
 Q false) ∧
 ((pmB (SocA r1_0) (SocB r1_0) && ivB (SocA r1_0) (SocB r1_0)) = true →
 ((((pmB (SocA r1_0) (SocB r1_0) && sqB (SocA r1_0) (SocB r1_0)) == (isCyc r1_0 && decide (diag r1_0 = unitI (r1_0.length : Int)))) = false →
 Q false) ∧
 (((pmB (SocA r1_0) (SocB r1_0) && sqB (SocA r1_0) (SocB r1_0)) == (isCyc r1_0 && decide (diag r1_0 = unitI (r1_0.length : Int)))) = true →
 (small2 (CsoT (SocA r1_0) (SocB r1_0)) ∧ small2 r1_0) ∧
 ((¬ ((CsoT (SocA r1_0) (SocB r1_0)) = r1_0) →
 Q false) ∧
 ((CsoT (SocA r1_0) (SocB r1_0)) = r1_0 →
 (small code ∧ bytes code) ∧
 ∀ (r2_0 : List (List Int)) (r2_1 : List (List Int)), (szT r2_0 ∧ szT r2_1) →
 (small2 r2_0 ∧ small2 r2_1) ∧
 (small2 r2_0 ∧ small2 r2_1) ∧
 ((¬ (CsoE r2_0 r2_1 = CsoE r2_0 r2_1) →
 Q false) ∧
 (CsoE r2_0 r2_1 = CsoE r2_0 r2_1 →
 (small2 (CsoT r2_0 r2_1) ∧ small2 (CsoT r2_0 r2_1)) ∧
 ((¬ ((CsoT r2_0 r2_1) = (CsoT r2_0 r2_1)) →
 Q false) ∧
 ((CsoT r2_0 r2_1) = (CsoT r2_0 r2_1) →
 ((¬ (CsoE r2_0 r2_1 = 0) →
 Q true) ∧
 (CsoE r2_0 r2_1 = 0 →
 (small2 (CsoT r2_0 r2_1)) ∧
 ((cyE (CsoT r2_0 r2_1) = 0 →
 (small2 (CsoT r2_0 r2_1)) ∧
 (((isCyc (CsoT r2_0 r2_1)) = true →
 ((small2 (SocA (CsoT r2_0 r2_1)) ∧ small2 r2_0) ∧ small2 (SocB (CsoT r2_0 r2_1)) ∧ small2 r2_1) ∧
 Q (decide ((SocA (CsoT r2_0 r2_1)) = r2_0) && decide ((SocB (CsoT r2_0 r2_1)) = r2_1))) ∧
 ((isCyc (CsoT r2_0 r2_1)) = false →
 Q false))) ∧
 (¬ (cyE (CsoT r2_0 r2_1) = 0) →
 Q false))))))))))))))))))))))))))))) ∧
 (¬ (cyE r1_0 = 0) →
 (small code ∧ bytes code) ∧
 ∀ (r3_0 : List (List Int)) (r3_1 : List (List Int)), (szT r3_0 ∧ szT r3_1) →
 (small2 r3_0 ∧ small2 r3_1) ∧
 (small2 r3_0 ∧ small2 r3_1) ∧
 ((¬ (CsoE r3_0 r3_1 = CsoE r3_0 r3_1) →
 Q false) ∧
 (CsoE r3_0 r3_1 = CsoE r3_0 r3_1 →
 (small2 (CsoT r3_0 r3_1) ∧ small2 (CsoT r3_0 r3_1)) ∧
 ((¬ ((CsoT r3_0 r3_1) = (CsoT r3_0 r3_1)) →
 Q false) ∧
 ((CsoT r3_0 r3_1) = (CsoT r3_0 r3_1) →
 ((¬ (CsoE r3_0 r3_1 = 0) →
 Q true) ∧
 (CsoE r3_0 r3_1 = 0 →
 (small2 (CsoT r3_0 r3_1)) ∧
 ((cyE (CsoT r3_0 r3_1) = 0 →
 (small2 (CsoT r3_0 r3_1)) ∧
 (((isCyc (CsoT r3_0 r3_1)) = true →
 ((small2 (SocA (CsoT r3_0 r3_1)) ∧ small2 r3_0) ∧ small2 (SocB (CsoT r3_0 r3_1)) ∧ small2 r3_1) ∧
 Q (decide ((SocA (CsoT r3_0 r3_1)) = r3_0) && decide ((SocB (CsoT r3_0 r3_1)) = r3_1))) ∧
 ((isCyc (CsoT r3_0 r3_1)) = false →
 Q false))) ∧
 (¬ (cyE (CsoT r3_0 r3_1) = 0) →
 Q false))))))))))))))))))

@[reducible] def fine2 (t : List (List Int)) : Prop := small2 t ∧ tot t ≤ 1000000000
theorem fine2_nil : fine2 [] := ⟨⟨by simp, by simp⟩, by simp [tot]⟩
theorem mem_ranf {α : Type} {n : Int} {f : Int → α} {r : α} (h : r ∈ ran n f) : ∃ i, (0 ≤ i ∧ i < n) ∧ r = f i := by
  unfold ran at h
  obtain ⟨k, hk, rfl⟩ := List.mem_map.1 h
  have := List.mem_range.1 hk
  exact ⟨k, ⟨by omega, by omega⟩, rfl⟩
theorem fine2_tab {n : Int} {f : Int → Int → Int} (h : n ≤ 1000) : fine2 (tab n f) := by
  refine ⟨⟨by simp [tab]; omega, fun r hr => ?_⟩, ?_⟩
  · obtain ⟨i, _, rfl⟩ := mem_ranf hr
    simp; omega
  · rw [tot_tab]
    have : n.toNat ≤ 1000 := by omega
    have : n.toNat * n.toNat ≤ 1000 * 1000 := Nat.mul_le_mul this this
    omega
theorem fine2_ite {c : Prop} [Decidable c] {t : List (List Int)} (h : c → fine2 t) : fine2 (if c then t else []) := by
  split
  · exact h (by assumption)
  · exact fine2_nil
theorem tot_le_mul : ∀ (t : List (List Int)) (m : Int), 0 ≤ m → (∀ r ∈ t, (r.length : Int) ≤ m) → tot t ≤ (t.length : Int) * m
  | [], m, _, _ => by simp [tot]
  | r :: t, m, hm, h => by
    have h1 := h r List.mem_cons_self
    have h2 := tot_le_mul t m hm fun q hq => h q (List.mem_cons_of_mem _ hq)
    simp only [tot, List.length_cons, Int.natCast_add, Int.add_mul]
    omega
theorem fine2_of {t : List (List Int)} (h : (t.length : Int) ≤ 1000) (h2 : ∀ r ∈ t, (r.length : Int) ≤ 1000) : fine2 t := by
  refine ⟨⟨by show (t.length : Int) ≤ 1000000000; omega, fun r hr => by have := h2 r hr; show (r.length : Int) ≤ 1000000000; omega⟩, ?_⟩
  have a := tot_le_mul t 1000 (by omega) h2
  have b : (t.length : Int) * 1000 ≤ 1000 * 1000 := by omega
  omega
theorem fine_SocA (c : List (List Int)) : fine2 (SocA c) := fine2_ite fun h => fine2_tab (by have := isTab_len (isCyc_tab h); omega)
theorem fine_SocB (c : List (List Int)) : fine2 (SocB c) := fine2_ite fun h => fine2_tab (by have := isTab_len (isCyc_tab h); omega)
theorem fine_Cso (s t : List (List Int)) : fine2 (CsoT s t) := fine2_ite fun h => by
  have hb : pmB s t = true := by
    unfold CsoE at h
    split at h
    · rename_i h1; simp only [solB, Bool.and_eq_true] at h1; exact h1.1.1
    · cases h
  have hB := (pm_tab hb).1
  have hn := isTab_len hB
  refine fine2_of (by simp; omega) fun q hq => ?_
  obtain ⟨u, hu, rfl⟩ := List.mem_map.1 hq
  obtain ⟨i, hi, rfl⟩ := mem_el hu
  have := rk_len hB hi
  simp; omega
theorem bytes_of {code : List Int} (hp : code.length ≤ 9223372036854775807 ∧ ∀ z_ ∈ code, 0 ≤ z_ ∧ z_ ≤ 255) (h : ¬ (4096 < (code.length : Int))) : small code ∧ bytes code :=
  ⟨by show (_ : Int) ≤ _; omega, fun i i0 i1 => hp.2 _ (el_mem ⟨i0, i1⟩)⟩
def csT (code : List Int) (Q : Bool → Prop) : Prop :=
  (small code ∧ bytes code) ∧
  ∀ (r3_0 : List (List Int)) (r3_1 : List (List Int)), (szT r3_0 ∧ szT r3_1) →
  (small2 r3_0 ∧ small2 r3_1) ∧
  (small2 r3_0 ∧ small2 r3_1) ∧
  ((¬ (CsoE r3_0 r3_1 = CsoE r3_0 r3_1) →
  Q false) ∧
  (CsoE r3_0 r3_1 = CsoE r3_0 r3_1 →
  (small2 (CsoT r3_0 r3_1) ∧ small2 (CsoT r3_0 r3_1)) ∧
  ((¬ ((CsoT r3_0 r3_1) = (CsoT r3_0 r3_1)) →
  Q false) ∧
  ((CsoT r3_0 r3_1) = (CsoT r3_0 r3_1) →
  ((¬ (CsoE r3_0 r3_1 = 0) →
  Q true) ∧
  (CsoE r3_0 r3_1 = 0 →
  (small2 (CsoT r3_0 r3_1)) ∧
  ((cyE (CsoT r3_0 r3_1) = 0 →
  (small2 (CsoT r3_0 r3_1)) ∧
  (((isCyc (CsoT r3_0 r3_1)) = true →
  ((small2 (SocA (CsoT r3_0 r3_1)) ∧ small2 r3_0) ∧ small2 (SocB (CsoT r3_0 r3_1)) ∧ small2 r3_1) ∧
  Q (decide ((SocA (CsoT r3_0 r3_1)) = r3_0) && decide ((SocB (CsoT r3_0 r3_1)) = r3_1))) ∧
  ((isCyc (CsoT r3_0 r3_1)) = false →
  Q false))) ∧
  (¬ (cyE (CsoT r3_0 r3_1) = 0) →
  Q false))))))))
theorem csT_ok {code : List Int} (hs : small code ∧ bytes code) : csT code (fun y0 => y0 = true) := by
  refine ⟨hs, ?_⟩
  rintro a b ⟨ha, hb⟩
  have sa := szT_small ha
  have sb := szT_small hb
  have sT := (fine_Cso a b).1
  refine ⟨⟨sa, sb⟩, ⟨sa, sb⟩, fun g => absurd rfl g, fun _ => ⟨⟨sT, sT⟩, fun g => absurd rfl g, fun _ => ⟨fun _ => rfl, fun e => ?_⟩⟩⟩
  have hT : CsoT a b = a.map backI := by unfold CsoT; rw [if_pos e]
  have hq : solB a b = true ∧ ndB a b = true ∧ ivB a b = true := by
    unfold CsoE at e
    split at e
    · rename_i h1
      split at e
      · rename_i h2
        simp only [Bool.and_eq_true] at h2
        exact ⟨h1, h2.1, h2.2⟩
      · cases e
    · cases e
  obtain ⟨h, eA, eB⟩ := so_cy hq.1 hq.2.1 hq.2.2
  rw [hT] at sT ⊢
  have hA : SocA (a.map backI) = a := by unfold SocA; rw [if_pos h, eA]
  have hB : SocB (a.map backI) = b := by unfold SocB; rw [if_pos h, eB]
  refine ⟨sT, fun _ => ⟨sT, fun _ => ⟨⟨⟨by rw [hA]; exact sa, sa⟩, by rw [hB]; exact sb, sb⟩, ?_⟩, fun g => ?_⟩, fun g => absurd (by unfold cyE; rw [if_pos h]) g⟩
  · rw [hA, hB]; simp
  · rw [h] at g; cases g
theorem p_laws_FnCycleSets (code : List Int) (hp : code.length ≤ 9223372036854775807 ∧ ∀ z_ ∈ code, 0 ≤ z_ ∧ z_ ≤ 255) : wp_laws_FnCycleSets code (fun y0 => y0 = true) := by
  unfold wp_laws_FnCycleSets
  refine ⟨fun _ => rfl, fun hb => ⟨bytes_of hp hb, ?_⟩⟩
  have hsb := bytes_of hp hb
  rintro r ht
  have sm := szT_small ht
  have sA := (fine_SocA r).1
  have sB := (fine_SocB r).1
  refine ⟨sm, sm, fun g => absurd rfl g, fun _ => ⟨⟨⟨sA, sA⟩, sB, sB⟩, fun g => ?_, fun _ => ⟨sm, sm, fun g => ?_, fun _ => ⟨fun e => ?_, fun _ => csT_ok hsb⟩⟩⟩⟩
  · simp at g
  · simp at g
  have h : isCyc r = true := by
    unfold cyE at e; split at e
    · assumption
    · cases e
  have hA : SocA r = cyAT r := by unfold SocA; rw [if_pos h]
  have hB : SocB r = cyBT r := by unfold SocB; rw [if_pos h]
  obtain ⟨q1, q2, q3⟩ := cy_sol h
  have pm := pairN_pm (cy_pair h)
  have eC : CsoE (cyAT r) (cyBT r) = 0 := by unfold CsoE; rw [if_pos q1, q2, q3]; rfl
  have eT : CsoT (cyAT r) (cyBT r) = r := by unfold CsoT; rw [if_pos eC]; exact cy_back h
  rw [hA] at sA
  rw [hB] at sB
  rw [hA, hB, eC, eT, pm, q1, q2, q3, cy_sq h, h]
  have s2 : small2 (cyAT r) ∧ small2 (cyBT r) := ⟨sA, sB⟩
  have i0 : (if true = true then (0 : Int) else 1) = 0 := rfl
  refine ⟨s2, s2, s2, s2, sm, fun g => absurd rfl g, fun _ => ⟨fun g => absurd i0 g, fun _ => ⟨fun g => absurd i0 g, fun _ => ⟨fun g => absurd i0 g, fun _ => ⟨fun g => absurd e g, fun _ => ⟨s2, fun g => ?_, fun _ => ⟨fun g => ?_, fun _ => ⟨fun g => ?_, fun _ => ⟨fun g => ?_, fun _ => ⟨⟨sm, sm⟩, fun g => absurd rfl g, fun _ => csT_ok hsb⟩⟩⟩⟩⟩⟩⟩⟩⟩⟩
  · cases g
  · cases g
  · cases g
  · simp at g

set_option maxRecDepth 100000 in
set_option maxHeartbeats 4000000 in
theorem w_laws_FnCycleSets (code : List Int) (Q : Bool → Prop) (h : wp_laws_FnCycleSets code Q) : AF Try.prog 8 [.lst (bys code)] (fun R_ => ∃ y0, Q y0 ∧ R_ = cb y0) := by
  refine AF.ofWQ (af_enter (n := 167) Try.func8 rfl (by rfl) rfl (Nat.le_of_ble_eq_true rfl) ?_)
  unfold wp_laws_FnCycleSets at h
  refine aw_seq ?_
  refine aw_gh (gh_to (n := 167) (σ' := []) (env' := [(0, .c (.lst (bys code)))]) rfl rfl ⟨rfl, trivial⟩) ?_
  refine aw_region ?_
  refine run_s (ss_assign rfl) rfl ?_
  refine run_nil ?_
  refine aw_seq ?_
  refine aw_seq ?_
  refine aw_region ?_
  refine run_s (ss_move rfl) rfl ?_
  refine run_w (ws_call (xs := [.tmp 25]) (ids := []) rfl rfl rfl rfl (c_laws_big code) rfl ?_ )
  rintro _ rfl
  refine ⟨rfl, ?_⟩
  refine run_nil ?_
  refine aw_cond rfl (fun q2 => ?_) (fun q2 => ?_)
  ·replace h := h.1 (of_decide_eq_true q2)
   refine aw_seq ?_
   refine aw_gh (gh_to (n := 167) (σ' := []) (env' := [(2, .c (cb false))]) rfl rfl ⟨rfl, trivial⟩) ?_
   refine aw_region ?_
   refine run_s (ss_assign rfl) rfl ?_
   refine run_nil ?_
   refine aw_ret ?_
   exact retAF_mk (retv1 rfl (rv_tmp rfl)) rfl rfl ⟨_, (cle_refl _), _, h, rfl⟩
  ·replace h := h.2 (of_decide_eq_false q2)
   refine aw_skip ?_
   refine aw_seq ?_
   refine aw_region ?_
   refine run_s (ss_move rfl) rfl ?_
   obtain ⟨q3, h⟩ := h
   refine run_w (ws_call (xs := [.tmp 27]) (ids := [28]) rfl rfl rfl rfl (c_spec_DrawSolutionOfCycleSet code q3) rfl ?_ )
   rintro _ ⟨r1_0, q4, rfl⟩
   replace h := h r1_0 q4
   refine ⟨rfl, ?_⟩
   refine run_w (ws_alloc (id := 3) rfl (Nat.le_of_ble_eq_true rfl) ⟨rfl, ?_⟩)
   refine run_w (ws_storeS rfl rfl (Nat.le_of_ble_eq_true rfl) rfl rfl rfl ⟨rfl, ?_⟩)
   refine run_nil ?_
   refine aw_gh (gh_to (n := 167) (σ' := [(3, ⟨[.hole], [(0, .ref 28)]⟩), (28, ⟨orows r1_0, []⟩)]) (env' := [(0, .c (.lst (bys code))), (3, .cell 3 0)]) rfl rfl ⟨rfl, rfl, trivial⟩) ?_
   refine aw_gh (gh_frzE (id := 28) (fun r => C.lst (ints r)) rfl (fun _ => (fz_own (fz_map (fun _ => rfl) _)))) ?_
   refine aw_gh (gh_fillc (id := 3) (j := 0) rfl rfl (Nat.le_of_ble_eq_true rfl)) ?_
   refine aw_gh (gh_to (n := 167) (σ' := [(3, ⟨[.lst (rows r1_0)], []⟩)]) (env' := [(0, .c (.lst (bys code))), (3, .cell 3 0)]) rfl rfl ⟨rfl, rfl, trivial⟩) ?_
   refine aw_seq ?_
   refine aw_region ?_
   refine run_s (ss_loadS rfl rfl rfl rfl) rfl ?_
   obtain ⟨q5, h⟩ := h
   refine run_w (ws_call (xs := [.tmp 30]) (ids := [31, 1001]) rfl rfl rfl rfl (c_impl_SolutionOfCycleSet r1_0 q5) rfl ?_ )
   rintro _ rfl
   refine ⟨rfl, ?_⟩
   refine run_s (ss_move rfl) rfl ?_
   refine run_s (ss_extract rfl rfl) rfl ?_
   refine run_s (ss_extract rfl rfl) rfl ?_
   refine run_w (ws_alloc (id := 4) rfl (Nat.le_of_ble_eq_true rfl) ⟨rfl, ?_⟩)
   refine run_w (ws_storeN rfl rfl (Nat.le_of_ble_eq_true rfl) rfl rfl rfl rfl ⟨rfl, ?_⟩)
   refine run_s (ss_assign rfl) rfl ?_
   refine run_nil ?_
   refine aw_gh (gh_to (n := 167) (σ' := [(4, ⟨[.hole, .hole], [(1, .ref 1001), (0, .ref 31)]⟩), (31, ⟨orows (SocA r1_0), []⟩), (1001, ⟨orows (SocB r1_0), []⟩), (3, ⟨[.lst (rows r1_0)], []⟩)]) (env' := [(0, .c (.lst (bys code))), (3, .cell 3 0), (4, .cell 4 0), (5, .c (ci (cyE r1_0)))]) rfl rfl ⟨rfl, rfl, rfl, rfl, trivial⟩) ?_
   refine aw_gh (gh_frzE (id := 31) (fun r => C.lst (ints r)) rfl (fun _ => (fz_own (fz_map (fun _ => rfl) _)))) ?_
   refine aw_gh (gh_fillc (id := 4) (j := 0) rfl rfl (Nat.le_of_ble_eq_true rfl)) ?_
   refine aw_gh (gh_to (n := 167) (σ' := [(4, ⟨[.lst (rows (SocA r1_0)), .hole], [(1, .ref 1001)]⟩), (1001, ⟨orows (SocB r1_0), []⟩), (3, ⟨[.lst (rows r1_0)], []⟩)]) (env' := [(0, .c (.lst (bys code))), (3, .cell 3 0), (4, .cell 4 0), (5, .c (ci (cyE r1_0)))]) rfl rfl ⟨rfl, rfl, rfl, rfl, trivial⟩) ?_
   refine aw_gh (gh_frzE (id := 1001) (fun r => C.lst (ints r)) rfl (fun _ => (fz_own (fz_map (fun _ => rfl) _)))) ?_
   refine aw_gh (gh_fillc (id := 4) (j := 1) rfl rfl (Nat.le_of_ble_eq_true rfl)) ?_
   refine aw_gh (gh_to (n := 167) (σ' := [(4, ⟨[.lst (rows (SocA r1_0)), .lst (rows (SocB r1_0))], []⟩), (3, ⟨[.lst (rows r1_0)], []⟩)]) (env' := [(0, .c (.lst (bys code))), (3, .cell 3 0), (4, .cell 4 0), (5, .c (ci (cyE r1_0)))]) rfl rfl ⟨rfl, rfl, rfl, rfl, trivial⟩) ?_
   refine aw_seq ?_
   refine aw_region ?_
   refine run_s (ss_loadS rfl rfl rfl rfl) rfl ?_
   obtain ⟨q7, h⟩ := h
   refine run_w (ws_call (xs := [.tmp 35]) (ids := [36, 1002]) rfl rfl rfl rfl (c_spec_SolutionOfCycleSet r1_0 q7) rfl ?_ )
   rintro _ rfl
   refine ⟨rfl, ?_⟩
   refine run_s (ss_move rfl) rfl ?_
   refine run_s (ss_extract rfl rfl) rfl ?_
   refine run_s (ss_extract rfl rfl) rfl ?_
   refine run_w (ws_alloc (id := 6) rfl (Nat.le_of_ble_eq_true rfl) ⟨rfl, ?_⟩)
   refine run_w (ws_storeN rfl rfl (Nat.le_of_ble_eq_true rfl) rfl rfl rfl rfl ⟨rfl, ?_⟩)
   refine run_s (ss_assign rfl) rfl ?_
   refine run_nil ?_
   refine aw_gh (gh_to (n := 167) (σ' := [(6, ⟨[.hole, .hole], [(1, .ref 1002), (0, .ref 36)]⟩), (36, ⟨orows (SocA r1_0), []⟩), (1002, ⟨orows (SocB r1_0), []⟩), (4, ⟨[.lst (rows (SocA r1_0)), .lst (rows (SocB r1_0))], []⟩), (3, ⟨[.lst (rows r1_0)], []⟩)]) (env' := [(0, .c (.lst (bys code))), (3, .cell 3 0), (4, .cell 4 0), (5, .c (ci (cyE r1_0))), (6, .cell 6 0), (7, .c (ci (cyE r1_0)))]) rfl rfl ⟨rfl, rfl, rfl, rfl, rfl, rfl, trivial⟩) ?_
   refine aw_gh (gh_frzE (id := 36) (fun r => C.lst (ints r)) rfl (fun _ => (fz_own (fz_map (fun _ => rfl) _)))) ?_
   refine aw_gh (gh_fillc (id := 6) (j := 0) rfl rfl (Nat.le_of_ble_eq_true rfl)) ?_
   refine aw_gh (gh_to (n := 167) (σ' := [(6, ⟨[.lst (rows (SocA r1_0)), .hole], [(1, .ref 1002)]⟩), (1002, ⟨orows (SocB r1_0), []⟩), (4, ⟨[.lst (rows (SocA r1_0)), .lst (rows (SocB r1_0))], []⟩), (3, ⟨[.lst (rows r1_0)], []⟩)]) (env' := [(0, .c (.lst (bys code))), (3, .cell 3 0), (4, .cell 4 0), (5, .c (ci (cyE r1_0))), (6, .cell 6 0), (7, .c (ci (cyE r1_0)))]) rfl rfl ⟨rfl, rfl, rfl, rfl, rfl, rfl, trivial⟩) ?_
   refine aw_gh (gh_frzE (id := 1002) (fun r => C.lst (ints r)) rfl (fun _ => (fz_own (fz_map (fun _ => rfl) _)))) ?_
   refine aw_gh (gh_fillc (id := 6) (j := 1) rfl rfl (Nat.le_of_ble_eq_true rfl)) ?_
   refine aw_gh (gh_to (n := 167) (σ' := [(6, ⟨[.lst (rows (SocA r1_0)), .lst (rows (SocB r1_0))], []⟩), (4, ⟨[.lst (rows (SocA r1_0)), .lst (rows (SocB r1_0))], []⟩), (3, ⟨[.lst (rows r1_0)], []⟩)]) (env' := [(0, .c (.lst (bys code))), (3, .cell 3 0), (4, .cell 4 0), (5, .c (ci (cyE r1_0))), (6, .cell 6 0), (7, .c (ci (cyE r1_0)))]) rfl rfl ⟨rfl, rfl, rfl, rfl, rfl, rfl, trivial⟩) ?_
   refine aw_seq ?_
   refine aw_seq ?_
   refine aw_gh (gh_to (n := 167) (σ' := [(6, ⟨[.lst (rows (SocA r1_0)), .lst (rows (SocB r1_0))], []⟩), (4, ⟨[.lst (rows (SocA r1_0)), .lst (rows (SocB r1_0))], []⟩), (3, ⟨[.lst (rows r1_0)], []⟩)]) (env' := [(0, .c (.lst (bys code))), (3, .cell 3 0), (4, .cell 4 0), (5, .c (ci (cyE r1_0))), (6, .cell 6 0), (7, .c (ci (cyE r1_0)))]) rfl rfl ⟨rfl, rfl, rfl, rfl, rfl, rfl, trivial⟩) ?_
   refine aw_regionD (kd := kdl [0, 0, 0, 0, 1, 1, 2, 0, 0, 0, 1, 2, 1, 2, 0, 0]) (ord := [0, 1, 2, 3, 4, 5, 6, 7, 8, 9, 10, 12, 11, 13, 14, 15]) [] mixed (by kernel_rfl) ?_
   refine rd_s rfl rfl trivial (ss_move rfl) rfl ?_
   refine rd_s rfl rfl trivial (ss_move rfl) rfl ?_
   refine rd_s rfl rfl trivial (ss_neq rfl rfl) rfl ?_
   refine rd_s rfl rfl trivial (ss_move rfl) rfl ?_
   refine rd_split (s := 42) rfl (fun q9 => ?_) (fun q9 => ?_)
   ·replace h := h.1 (of_decide_eq_false (bnot_t q9))
    refine rd_no rfl rfl rfl q9 rfl ?_
    refine rd_no rfl rfl rfl q9 rfl ?_
    refine rd_no rfl rfl rfl q9 rfl ?_
    refine rd_no rfl rfl rfl q9 rfl ?_
    refine rd_s rfl rfl trivial (ss_pickT rfl q9 rfl) rfl ?_
    refine rd_s rfl rfl trivial (ss_move rfl) rfl ?_
    refine rd_split (s := 48) rfl (fun q10 => ?_) (fun q10 => ?_)
    ·skip
     refine rd_no rfl rfl rfl q10 rfl ?_
     refine rd_no rfl rfl rfl q10 rfl ?_
     refine rd_no rfl rfl rfl q10 rfl ?_
     refine rd_no rfl rfl rfl q10 rfl ?_
     refine rd_no rfl rfl rfl q10 rfl ?_
     refine rd_s rfl rfl trivial (ss_pickT rfl q10 rfl) rfl ?_
     refine rd_nil ?_
     refine aw_cond rfl (fun q11 => ?_) (fun q11 => ?_)
     ·skip
      refine aw_seq ?_
      refine aw_gh (gh_to (n := 167) (σ' := [(6, ⟨[.lst (rows (SocA r1_0)), .lst (rows (SocB r1_0))], []⟩), (4, ⟨[.lst (rows (SocA r1_0)), .lst (rows (SocB r1_0))], []⟩), (3, ⟨[.lst (rows r1_0)], []⟩)]) (env' := []) rfl rfl trivial) ?_
      refine aw_region ?_
      refine run_s (ss_assign rfl) rfl ?_
      refine run_nil ?_
      refine aw_ret ?_
      exact retAF_mk (retv1 rfl (rv_tmp rfl)) rfl rfl ⟨_, (cle_refl _), _, h, rfl⟩
     ·cases q11
    ·cases q10
   ·replace h := h.2 (of_decide_eq_true (bnot_f q9))
    refine rd_l rfl rfl ⟨_, _, rfl, rfl, q9⟩ (ss_loadS rfl rfl rfl rfl) rfl ?_
    refine rd_l rfl rfl ⟨_, _, rfl, rfl, q9⟩ (ss_loadS rfl rfl rfl rfl) rfl ?_
    obtain ⟨q12, h⟩ := h
    refine rd_w rfl rfl ⟨_, _, rfl, rfl, q9⟩ rfl rfl (ws_call (xs := [.tmp 43, .tmp 44]) (ids := []) rfl rfl rfl rfl (c_laws_likeSolution5 (SocA r1_0) (SocB r1_0) (SocA r1_0) (SocB r1_0) q12) rfl ?_ )
    rintro _ rfl
    refine ⟨rfl, ?_⟩
    refine rd_s rfl rfl ⟨_, _, rfl, rfl, q9⟩ (ss_not rfl) rfl ?_
    refine rd_s rfl rfl trivial (ss_pickF rfl q9 rfl) rfl ?_
    refine rd_s rfl rfl trivial (ss_move rfl) rfl ?_
    refine rd_split (s := 48) rfl (fun q14 => ?_) (fun q14 => ?_)
    ·replace h := h.1 ((bnot_t q14))
     refine rd_no rfl rfl rfl q14 rfl ?_
     refine rd_no rfl rfl rfl q14 rfl ?_
     refine rd_no rfl rfl rfl q14 rfl ?_
     refine rd_no rfl rfl rfl q14 rfl ?_
     refine rd_no rfl rfl rfl q14 rfl ?_
     refine rd_s rfl rfl trivial (ss_pickT rfl q14 rfl) rfl ?_
     refine rd_nil ?_
     refine aw_cond rfl (fun q15 => ?_) (fun q15 => ?_)
     ·skip
      refine aw_seq ?_
      refine aw_gh (gh_to (n := 167) (σ' := [(6, ⟨[.lst (rows (SocA r1_0)), .lst (rows (SocB r1_0))], []⟩), (4, ⟨[.lst (rows (SocA r1_0)), .lst (rows (SocB r1_0))], []⟩), (3, ⟨[.lst (rows r1_0)], []⟩)]) (env' := []) rfl rfl trivial) ?_
      refine aw_region ?_
      refine run_s (ss_assign rfl) rfl ?_
      refine run_nil ?_
      refine aw_ret ?_
      exact retAF_mk (retv1 rfl (rv_tmp rfl)) rfl rfl ⟨_, (cle_refl _), _, h, rfl⟩
     ·cases q15
    ·replace h := h.2 ((bnot_f q14))
     refine rd_l rfl rfl ⟨_, _, rfl, rfl, q14⟩ (ss_loadS rfl rfl rfl rfl) rfl ?_
     refine rd_l rfl rfl ⟨_, _, rfl, rfl, q14⟩ (ss_loadS rfl rfl rfl rfl) rfl ?_
     obtain ⟨q16, h⟩ := h
     refine rd_w rfl rfl ⟨_, _, rfl, rfl, q14⟩ rfl rfl (ws_call (xs := [.tmp 49]) (ids := []) rfl rfl rfl rfl (c_impl_IsCycleSet r1_0 q16) rfl ?_ )
     rintro _ rfl
     refine ⟨rfl, ?_⟩
     obtain ⟨q18, h⟩ := h
     refine rd_w rfl rfl ⟨_, _, rfl, rfl, q14⟩ rfl rfl (ws_call (xs := [.tmp 51]) (ids := []) rfl rfl rfl rfl (c_spec_IsCycleSet r1_0 q18) rfl ?_ )
     rintro _ rfl
     refine ⟨rfl, ?_⟩
     refine rd_s rfl rfl ⟨_, _, rfl, rfl, q14⟩ (ss_neqB rfl rfl) rfl ?_
     refine rd_s rfl rfl trivial (ss_pickF rfl q14 rfl) rfl ?_
     refine rd_nil ?_
     refine aw_cond rfl (fun q20 => ?_) (fun q20 => ?_)
     ·replace h := h.1 ((bnot_t q20))
      refine aw_seq ?_
      refine aw_gh (gh_to (n := 167) (σ' := [(6, ⟨[.lst (rows (SocA r1_0)), .lst (rows (SocB r1_0))], []⟩), (4, ⟨[.lst (rows (SocA r1_0)), .lst (rows (SocB r1_0))], []⟩), (3, ⟨[.lst (rows r1_0)], []⟩)]) (env' := []) rfl rfl trivial) ?_
      refine aw_region ?_
      refine run_s (ss_assign rfl) rfl ?_
      refine run_nil ?_
      refine aw_ret ?_
      exact retAF_mk (retv1 rfl (rv_tmp rfl)) rfl rfl ⟨_, (cle_refl _), _, h, rfl⟩
     ·replace h := h.2 ((bnot_f q20))
      refine aw_skip ?_
      refine aw_seq ?_
      refine aw_seq ?_
      refine aw_region ?_
      refine run_s (ss_move rfl) rfl ?_
      refine run_s (ss_eql rfl rfl) rfl ?_
      refine run_nil ?_
      refine aw_cond rfl (fun q21 => ?_) (fun q21 => ?_)
      ·replace h := h.1 (of_decide_eq_true q21)
       refine aw_seq ?_
       refine aw_region ?_
       refine run_s (ss_loadS rfl rfl rfl rfl) rfl ?_
       obtain ⟨q22, h⟩ := h
       refine run_w (ws_call (xs := [.tmp 58]) (ids := [59]) rfl rfl rfl rfl (c_impl_CycleSetOfSolution (SocA r1_0) (SocB r1_0) q22) rfl ?_ )
       rintro _ rfl
       refine ⟨rfl, ?_⟩
       refine run_s (ss_move rfl) rfl ?_
       refine run_s (ss_extract rfl rfl) rfl ?_
       refine run_s (ss_extract rfl rfl) rfl ?_
       refine run_w (ws_alloc (id := 8) rfl (Nat.le_of_ble_eq_true rfl) ⟨rfl, ?_⟩)
       refine run_w (ws_storeS rfl rfl (Nat.le_of_ble_eq_true rfl) rfl rfl rfl ⟨rfl, ?_⟩)
       refine run_s (ss_assign rfl) rfl ?_
       refine run_nil ?_
       refine aw_gh (gh_to (n := 167) (σ' := [(8, ⟨[.hole], [(0, .ref 59)]⟩), (59, ⟨orows (CsoT (SocA r1_0) (SocB r1_0)), []⟩), (6, ⟨[.lst (rows (SocA r1_0)), .lst (rows (SocB r1_0))], []⟩), (4, ⟨[.lst (rows (SocA r1_0)), .lst (rows (SocB r1_0))], []⟩), (3, ⟨[.lst (rows r1_0)], []⟩)]) (env' := [(0, .c (.lst (bys code))), (3, .cell 3 0), (4, .cell 4 0), (8, .cell 8 0), (9, .c (ci (CsoE (SocA r1_0) (SocB r1_0))))]) rfl rfl ⟨rfl, rfl, rfl, rfl, rfl, trivial⟩) ?_
       refine aw_gh (gh_frzE (id := 59) (fun r => C.lst (ints r)) rfl (fun _ => (fz_own (fz_map (fun _ => rfl) _)))) ?_
       refine aw_gh (gh_fillc (id := 8) (j := 0) rfl rfl (Nat.le_of_ble_eq_true rfl)) ?_
       refine aw_gh (gh_to (n := 167) (σ' := [(8, ⟨[.lst (rows (CsoT (SocA r1_0) (SocB r1_0)))], []⟩), (6, ⟨[.lst (rows (SocA r1_0)), .lst (rows (SocB r1_0))], []⟩), (4, ⟨[.lst (rows (SocA r1_0)), .lst (rows (SocB r1_0))], []⟩), (3, ⟨[.lst (rows r1_0)], []⟩)]) (env' := [(0, .c (.lst (bys code))), (3, .cell 3 0), (4, .cell 4 0), (8, .cell 8 0), (9, .c (ci (CsoE (SocA r1_0) (SocB r1_0))))]) rfl rfl ⟨rfl, rfl, rfl, rfl, rfl, trivial⟩) ?_
       refine aw_seq ?_
       refine aw_region ?_
       refine run_s (ss_loadS rfl rfl rfl rfl) rfl ?_
       obtain ⟨q24, h⟩ := h
       refine run_w (ws_call (xs := [.tmp 63]) (ids := []) rfl rfl rfl rfl (c_impl_IsNondegenerate (SocA r1_0) (SocB r1_0) q24) rfl ?_ )
       rintro _ rfl
       refine ⟨rfl, ?_⟩
       refine run_s (ss_move rfl) rfl ?_
       refine run_s (ss_extract rfl rfl) rfl ?_
       refine run_s (ss_extract rfl rfl) rfl ?_
       refine run_s (ss_assign rfl) rfl ?_
       refine run_s (ss_assign rfl) rfl ?_
       refine run_nil ?_
       refine aw_seq ?_
       refine aw_region ?_
       refine run_s (ss_loadS rfl rfl rfl rfl) rfl ?_
       obtain ⟨q26, h⟩ := h
       refine run_w (ws_call (xs := [.tmp 68]) (ids := []) rfl rfl rfl rfl (c_impl_IsInvolutive (SocA r1_0) (SocB r1_0) q26) rfl ?_ )
       rintro _ rfl
       refine ⟨rfl, ?_⟩
       refine run_s (ss_move rfl) rfl ?_
       refine run_s (ss_extract rfl rfl) rfl ?_
       refine run_s (ss_extract rfl rfl) rfl ?_
       refine run_s (ss_assign rfl) rfl ?_
       refine run_s (ss_assign rfl) rfl ?_
       refine run_nil ?_
       refine aw_seq ?_
       refine aw_region ?_
       refine run_s (ss_loadS rfl rfl rfl rfl) rfl ?_
       obtain ⟨q28, h⟩ := h
       refine run_w (ws_call (xs := [.tmp 73]) (ids := []) rfl rfl rfl rfl (c_impl_IsSquareFree (SocA r1_0) (SocB r1_0) q28) rfl ?_ )
       rintro _ rfl
       refine ⟨rfl, ?_⟩
       refine run_s (ss_move rfl) rfl ?_
       refine run_s (ss_extract rfl rfl) rfl ?_
       refine run_s (ss_extract rfl rfl) rfl ?_
       refine run_s (ss_assign rfl) rfl ?_
       refine run_s (ss_assign rfl) rfl ?_
       refine run_nil ?_
       refine aw_seq ?_
       refine aw_region ?_
       refine run_s (ss_loadS rfl rfl rfl rfl) rfl ?_
       obtain ⟨q30, h⟩ := h
       refine run_w (ws_call (xs := [.tmp 78]) (ids := []) rfl rfl rfl rfl (c_impl_IsSquareFreeCycleSet r1_0 q30) rfl ?_ )
       rintro _ rfl
       refine ⟨rfl, ?_⟩
       refine run_s (ss_move rfl) rfl ?_
       refine run_s (ss_extract rfl rfl) rfl ?_
       refine run_s (ss_extract rfl rfl) rfl ?_
       refine run_s (ss_assign rfl) rfl ?_
       refine run_s (ss_assign rfl) rfl ?_
       refine run_nil ?_
       refine aw_seq ?_
       refine aw_region ?_
       refine run_s (ss_move rfl) rfl ?_
       refine run_s (ss_neq rfl rfl) rfl ?_
       refine run_s (ss_move rfl) rfl ?_
       refine run_split (s := 84) rfl (fun q32 => ?_) (fun q32 => ?_)
       ·replace h := h.1 (of_decide_eq_false (bnot_t q32))
        refine run_gf rfl rfl q32 rfl ?_
        refine run_gf rfl rfl q32 rfl ?_
        refine run_s (ss_pickT rfl q32 rfl) rfl ?_
        refine run_s (ss_move rfl) rfl ?_
        refine run_split (s := 88) rfl (fun q33 => ?_) (fun q33 => ?_)
        ·skip
         refine run_gf rfl rfl q33 rfl ?_
         refine run_gf rfl rfl q33 rfl ?_
         refine run_s (ss_pickT rfl q33 rfl) rfl ?_
         refine run_s (ss_move rfl) rfl ?_
         refine run_split (s := 92) rfl (fun q34 => ?_) (fun q34 => ?_)
         ·skip
          refine run_gf rfl rfl q34 rfl ?_
          refine run_gf rfl rfl q34 rfl ?_
          refine run_s (ss_pickT rfl q34 rfl) rfl ?_
          refine run_s (ss_move rfl) rfl ?_
          refine run_split (s := 96) rfl (fun q35 => ?_) (fun q35 => ?_)
          ·skip
           refine run_gf rfl rfl q35 rfl ?_
           refine run_gf rfl rfl q35 rfl ?_
           refine run_s (ss_pickT rfl q35 rfl) rfl ?_
           refine run_s (ss_move rfl) rfl ?_
           refine run_split (s := 100) rfl (fun q36 => ?_) (fun q36 => ?_)
           ·skip
            refine run_gf rfl rfl q36 rfl ?_
            refine run_gf rfl rfl q36 rfl ?_
            refine run_gf rfl rfl q36 rfl ?_
            refine run_s (ss_pickT rfl q36 rfl) rfl ?_
            refine run_s (ss_move rfl) rfl ?_
            refine run_split (s := 105) rfl (fun q37 => ?_) (fun q37 => ?_)
            ·skip
             refine run_gf rfl rfl q37 rfl ?_
             refine run_gf rfl rfl q37 rfl ?_
             refine run_s (ss_pickT rfl q37 rfl) rfl ?_
             refine run_s (ss_move rfl) rfl ?_
             refine run_split (s := 109) rfl (fun q38 => ?_) (fun q38 => ?_)
             ·skip
              refine run_gf rfl rfl q38 rfl ?_
              refine run_gf rfl rfl q38 rfl ?_
              refine run_s (ss_pickT rfl q38 rfl) rfl ?_
              refine run_s (ss_move rfl) rfl ?_
              refine run_split (s := 113) rfl (fun q39 => ?_) (fun q39 => ?_)
              ·skip
               refine run_gf rfl rfl q39 rfl ?_
               refine run_gf rfl rfl q39 rfl ?_
               refine run_gf rfl rfl q39 rfl ?_
               refine run_s (ss_pickT rfl q39 rfl) rfl ?_
               refine run_s (ss_move rfl) rfl ?_
               refine run_split (s := 118) rfl (fun q40 => ?_) (fun q40 => ?_)
               ·skip
                refine run_gf rfl rfl q40 rfl ?_
                refine run_gf rfl rfl q40 rfl ?_
                refine run_gf rfl rfl q40 rfl ?_
                refine run_gf rfl rfl q40 rfl ?_
                refine run_gf rfl rfl q40 rfl ?_
                refine run_gf rfl rfl q40 rfl ?_
                refine run_s (ss_pickT rfl q40 rfl) rfl ?_
                refine run_nil ?_
                refine aw_cond rfl (fun q41 => ?_) (fun q41 => ?_)
                ·skip
                 refine aw_seq ?_
                 refine aw_gh (gh_to (n := 167) (σ' := [(8, ⟨[.lst (rows (CsoT (SocA r1_0) (SocB r1_0)))], []⟩), (6, ⟨[.lst (rows (SocA r1_0)), .lst (rows (SocB r1_0))], []⟩), (4, ⟨[.lst (rows (SocA r1_0)), .lst (rows (SocB r1_0))], []⟩), (3, ⟨[.lst (rows r1_0)], []⟩)]) (env' := []) rfl rfl trivial) ?_
                 refine aw_region ?_
                 refine run_s (ss_assign rfl) rfl ?_
                 refine run_nil ?_
                 refine aw_ret ?_
                 exact retAF_mk (retv1 rfl (rv_tmp rfl)) rfl rfl ⟨_, (cle_refl _), _, h, rfl⟩
                ·cases q41
               ·cases q40
              ·cases q39
             ·cases q38
            ·cases q37
           ·cases q36
          ·cases q35
         ·cases q34
        ·cases q33
       ·replace h := h.2 (of_decide_eq_true (bnot_f q32))
        refine run_gt rfl rfl q32 ?_
        refine run_s (ss_move rfl) rfl ?_
        refine run_gt rfl rfl q32 ?_
        refine run_s (ss_neq rfl rfl) rfl ?_
        refine run_s (ss_pickF rfl q32 rfl) rfl ?_
        refine run_s (ss_move rfl) rfl ?_
        refine run_split (s := 88) rfl (fun q42 => ?_) (fun q42 => ?_)
        ·replace h := h.1 (of_decide_eq_false (bnot_t q42))
         refine run_gf rfl rfl q42 rfl ?_
         refine run_gf rfl rfl q42 rfl ?_
         refine run_s (ss_pickT rfl q42 rfl) rfl ?_
         refine run_s (ss_move rfl) rfl ?_
         refine run_split (s := 92) rfl (fun q43 => ?_) (fun q43 => ?_)
         ·skip
          refine run_gf rfl rfl q43 rfl ?_
          refine run_gf rfl rfl q43 rfl ?_
          refine run_s (ss_pickT rfl q43 rfl) rfl ?_
          refine run_s (ss_move rfl) rfl ?_
          refine run_split (s := 96) rfl (fun q44 => ?_) (fun q44 => ?_)
          ·skip
           refine run_gf rfl rfl q44 rfl ?_
           refine run_gf rfl rfl q44 rfl ?_
           refine run_s (ss_pickT rfl q44 rfl) rfl ?_
           refine run_s (ss_move rfl) rfl ?_
           refine run_split (s := 100) rfl (fun q45 => ?_) (fun q45 => ?_)
           ·skip
            refine run_gf rfl rfl q45 rfl ?_
            refine run_gf rfl rfl q45 rfl ?_
            refine run_gf rfl rfl q45 rfl ?_
            refine run_s (ss_pickT rfl q45 rfl) rfl ?_
            refine run_s (ss_move rfl) rfl ?_
            refine run_split (s := 105) rfl (fun q46 => ?_) (fun q46 => ?_)
            ·skip
             refine run_gf rfl rfl q46 rfl ?_
             refine run_gf rfl rfl q46 rfl ?_
             refine run_s (ss_pickT rfl q46 rfl) rfl ?_
             refine run_s (ss_move rfl) rfl ?_
             refine run_split (s := 109) rfl (fun q47 => ?_) (fun q47 => ?_)
             ·skip
              refine run_gf rfl rfl q47 rfl ?_
              refine run_gf rfl rfl q47 rfl ?_
              refine run_s (ss_pickT rfl q47 rfl) rfl ?_
              refine run_s (ss_move rfl) rfl ?_
              refine run_split (s := 113) rfl (fun q48 => ?_) (fun q48 => ?_)
              ·skip
               refine run_gf rfl rfl q48 rfl ?_
               refine run_gf rfl rfl q48 rfl ?_
               refine run_gf rfl rfl q48 rfl ?_
               refine run_s (ss_pickT rfl q48 rfl) rfl ?_
               refine run_s (ss_move rfl) rfl ?_
               refine run_split (s := 118) rfl (fun q49 => ?_) (fun q49 => ?_)
               ·skip
                refine run_gf rfl rfl q49 rfl ?_
                refine run_gf rfl rfl q49 rfl ?_
                refine run_gf rfl rfl q49 rfl ?_
                refine run_gf rfl rfl q49 rfl ?_
                refine run_gf rfl rfl q49 rfl ?_
                refine run_gf rfl rfl q49 rfl ?_
                refine run_s (ss_pickT rfl q49 rfl) rfl ?_
                refine run_nil ?_
                refine aw_cond rfl (fun q50 => ?_) (fun q50 => ?_)
                ·skip
                 refine aw_seq ?_
                 refine aw_gh (gh_to (n := 167) (σ' := [(8, ⟨[.lst (rows (CsoT (SocA r1_0) (SocB r1_0)))], []⟩), (6, ⟨[.lst (rows (SocA r1_0)), .lst (rows (SocB r1_0))], []⟩), (4, ⟨[.lst (rows (SocA r1_0)), .lst (rows (SocB r1_0))], []⟩), (3, ⟨[.lst (rows r1_0)], []⟩)]) (env' := []) rfl rfl trivial) ?_
                 refine aw_region ?_
                 refine run_s (ss_assign rfl) rfl ?_
                 refine run_nil ?_
                 refine aw_ret ?_
                 exact retAF_mk (retv1 rfl (rv_tmp rfl)) rfl rfl ⟨_, (cle_refl _), _, h, rfl⟩
                ·cases q50
               ·cases q49
              ·cases q48
             ·cases q47
            ·cases q46
           ·cases q45
          ·cases q44
         ·cases q43
        ·replace h := h.2 (of_decide_eq_true (bnot_f q42))
         refine run_gt rfl rfl q42 ?_
         refine run_s (ss_move rfl) rfl ?_
         refine run_gt rfl rfl q42 ?_
         refine run_s (ss_neq rfl rfl) rfl ?_
         refine run_s (ss_pickF rfl q42 rfl) rfl ?_
         refine run_s (ss_move rfl) rfl ?_
         refine run_split (s := 92) rfl (fun q51 => ?_) (fun q51 => ?_)
         ·replace h := h.1 (of_decide_eq_false (bnot_t q51))
          refine run_gf rfl rfl q51 rfl ?_
          refine run_gf rfl rfl q51 rfl ?_
          refine run_s (ss_pickT rfl q51 rfl) rfl ?_
          refine run_s (ss_move rfl) rfl ?_
          refine run_split (s := 96) rfl (fun q52 => ?_) (fun q52 => ?_)
          ·skip
           refine run_gf rfl rfl q52 rfl ?_
           refine run_gf rfl rfl q52 rfl ?_
           refine run_s (ss_pickT rfl q52 rfl) rfl ?_
           refine run_s (ss_move rfl) rfl ?_
           refine run_split (s := 100) rfl (fun q53 => ?_) (fun q53 => ?_)
           ·skip
            refine run_gf rfl rfl q53 rfl ?_
            refine run_gf rfl rfl q53 rfl ?_
            refine run_gf rfl rfl q53 rfl ?_
            refine run_s (ss_pickT rfl q53 rfl) rfl ?_
            refine run_s (ss_move rfl) rfl ?_
            refine run_split (s := 105) rfl (fun q54 => ?_) (fun q54 => ?_)
            ·skip
             refine run_gf rfl rfl q54 rfl ?_
             refine run_gf rfl rfl q54 rfl ?_
             refine run_s (ss_pickT rfl q54 rfl) rfl ?_
             refine run_s (ss_move rfl) rfl ?_
             refine run_split (s := 109) rfl (fun q55 => ?_) (fun q55 => ?_)
             ·skip
              refine run_gf rfl rfl q55 rfl ?_
              refine run_gf rfl rfl q55 rfl ?_
              refine run_s (ss_pickT rfl q55 rfl) rfl ?_
              refine run_s (ss_move rfl) rfl ?_
              refine run_split (s := 113) rfl (fun q56 => ?_) (fun q56 => ?_)
              ·skip
               refine run_gf rfl rfl q56 rfl ?_
               refine run_gf rfl rfl q56 rfl ?_
               refine run_gf rfl rfl q56 rfl ?_
               refine run_s (ss_pickT rfl q56 rfl) rfl ?_
               refine run_s (ss_move rfl) rfl ?_
               refine run_split (s := 118) rfl (fun q57 => ?_) (fun q57 => ?_)
               ·skip
                refine run_gf rfl rfl q57 rfl ?_
                refine run_gf rfl rfl q57 rfl ?_
                refine run_gf rfl rfl q57 rfl ?_
                refine run_gf rfl rfl q57 rfl ?_
                refine run_gf rfl rfl q57 rfl ?_
                refine run_gf rfl rfl q57 rfl ?_
                refine run_s (ss_pickT rfl q57 rfl) rfl ?_
                refine run_nil ?_
                refine aw_cond rfl (fun q58 => ?_) (fun q58 => ?_)
                ·skip
                 refine aw_seq ?_
                 refine aw_gh (gh_to (n := 167) (σ' := [(8, ⟨[.lst (rows (CsoT (SocA r1_0) (SocB r1_0)))], []⟩), (6, ⟨[.lst (rows (SocA r1_0)), .lst (rows (SocB r1_0))], []⟩), (4, ⟨[.lst (rows (SocA r1_0)), .lst (rows (SocB r1_0))], []⟩), (3, ⟨[.lst (rows r1_0)], []⟩)]) (env' := []) rfl rfl trivial) ?_
                 refine aw_region ?_
                 refine run_s (ss_assign rfl) rfl ?_
                 refine run_nil ?_
                 refine aw_ret ?_
                 exact retAF_mk (retv1 rfl (rv_tmp rfl)) rfl rfl ⟨_, (cle_refl _), _, h, rfl⟩
                ·cases q58
               ·cases q57
              ·cases q56
             ·cases q55
            ·cases q54
           ·cases q53
          ·cases q52
         ·replace h := h.2 (of_decide_eq_true (bnot_f q51))
          refine run_gt rfl rfl q51 ?_
          refine run_s (ss_move rfl) rfl ?_
          refine run_gt rfl rfl q51 ?_
          refine run_s (ss_neq rfl rfl) rfl ?_
          refine run_s (ss_pickF rfl q51 rfl) rfl ?_
          refine run_s (ss_move rfl) rfl ?_
          refine run_split (s := 96) rfl (fun q59 => ?_) (fun q59 => ?_)
          ·replace h := h.1 (of_decide_eq_false (bnot_t q59))
           refine run_gf rfl rfl q59 rfl ?_
           refine run_gf rfl rfl q59 rfl ?_
           refine run_s (ss_pickT rfl q59 rfl) rfl ?_
           refine run_s (ss_move rfl) rfl ?_
           refine run_split (s := 100) rfl (fun q60 => ?_) (fun q60 => ?_)
           ·skip
            refine run_gf rfl rfl q60 rfl ?_
            refine run_gf rfl rfl q60 rfl ?_
            refine run_gf rfl rfl q60 rfl ?_
            refine run_s (ss_pickT rfl q60 rfl) rfl ?_
            refine run_s (ss_move rfl) rfl ?_
            refine run_split (s := 105) rfl (fun q61 => ?_) (fun q61 => ?_)
            ·skip
             refine run_gf rfl rfl q61 rfl ?_
             refine run_gf rfl rfl q61 rfl ?_
             refine run_s (ss_pickT rfl q61 rfl) rfl ?_
             refine run_s (ss_move rfl) rfl ?_
             refine run_split (s := 109) rfl (fun q62 => ?_) (fun q62 => ?_)
             ·skip
              refine run_gf rfl rfl q62 rfl ?_
              refine run_gf rfl rfl q62 rfl ?_
              refine run_s (ss_pickT rfl q62 rfl) rfl ?_
              refine run_s (ss_move rfl) rfl ?_
              refine run_split (s := 113) rfl (fun q63 => ?_) (fun q63 => ?_)
              ·skip
               refine run_gf rfl rfl q63 rfl ?_
               refine run_gf rfl rfl q63 rfl ?_
               refine run_gf rfl rfl q63 rfl ?_
               refine run_s (ss_pickT rfl q63 rfl) rfl ?_
               refine run_s (ss_move rfl) rfl ?_
               refine run_split (s := 118) rfl (fun q64 => ?_) (fun q64 => ?_)
               ·skip
                refine run_gf rfl rfl q64 rfl ?_
                refine run_gf rfl rfl q64 rfl ?_
                refine run_gf rfl rfl q64 rfl ?_
                refine run_gf rfl rfl q64 rfl ?_
                refine run_gf rfl rfl q64 rfl ?_
                refine run_gf rfl rfl q64 rfl ?_
                refine run_s (ss_pickT rfl q64 rfl) rfl ?_
                refine run_nil ?_
                refine aw_cond rfl (fun q65 => ?_) (fun q65 => ?_)
                ·skip
                 refine aw_seq ?_
                 refine aw_gh (gh_to (n := 167) (σ' := [(8, ⟨[.lst (rows (CsoT (SocA r1_0) (SocB r1_0)))], []⟩), (6, ⟨[.lst (rows (SocA r1_0)), .lst (rows (SocB r1_0))], []⟩), (4, ⟨[.lst (rows (SocA r1_0)), .lst (rows (SocB r1_0))], []⟩), (3, ⟨[.lst (rows r1_0)], []⟩)]) (env' := []) rfl rfl trivial) ?_
                 refine aw_region ?_
                 refine run_s (ss_assign rfl) rfl ?_
                 refine run_nil ?_
                 refine aw_ret ?_
                 exact retAF_mk (retv1 rfl (rv_tmp rfl)) rfl rfl ⟨_, (cle_refl _), _, h, rfl⟩
                ·cases q65
               ·cases q64
              ·cases q63
             ·cases q62
            ·cases q61
           ·cases q60
          ·replace h := h.2 (of_decide_eq_true (bnot_f q59))
           refine run_gt rfl rfl q59 ?_
           refine run_s (ss_move rfl) rfl ?_
           refine run_gt rfl rfl q59 ?_
           refine run_s (ss_neq rfl rfl) rfl ?_
           refine run_s (ss_pickF rfl q59 rfl) rfl ?_
           refine run_s (ss_move rfl) rfl ?_
           refine run_split (s := 100) rfl (fun q66 => ?_) (fun q66 => ?_)
           ·replace h := h.1 (of_decide_eq_false (bnot_t q66))
            refine run_gf rfl rfl q66 rfl ?_
            refine run_gf rfl rfl q66 rfl ?_
            refine run_gf rfl rfl q66 rfl ?_
            refine run_s (ss_pickT rfl q66 rfl) rfl ?_
            refine run_s (ss_move rfl) rfl ?_
            refine run_split (s := 105) rfl (fun q67 => ?_) (fun q67 => ?_)
            ·skip
             refine run_gf rfl rfl q67 rfl ?_
             refine run_gf rfl rfl q67 rfl ?_
             refine run_s (ss_pickT rfl q67 rfl) rfl ?_
             refine run_s (ss_move rfl) rfl ?_
             refine run_split (s := 109) rfl (fun q68 => ?_) (fun q68 => ?_)
             ·skip
              refine run_gf rfl rfl q68 rfl ?_
              refine run_gf rfl rfl q68 rfl ?_
              refine run_s (ss_pickT rfl q68 rfl) rfl ?_
              refine run_s (ss_move rfl) rfl ?_
              refine run_split (s := 113) rfl (fun q69 => ?_) (fun q69 => ?_)
              ·skip
               refine run_gf rfl rfl q69 rfl ?_
               refine run_gf rfl rfl q69 rfl ?_
               refine run_gf rfl rfl q69 rfl ?_
               refine run_s (ss_pickT rfl q69 rfl) rfl ?_
               refine run_s (ss_move rfl) rfl ?_
               refine run_split (s := 118) rfl (fun q70 => ?_) (fun q70 => ?_)
               ·skip
                refine run_gf rfl rfl q70 rfl ?_
                refine run_gf rfl rfl q70 rfl ?_
                refine run_gf rfl rfl q70 rfl ?_
                refine run_gf rfl rfl q70 rfl ?_
                refine run_gf rfl rfl q70 rfl ?_
                refine run_gf rfl rfl q70 rfl ?_
                refine run_s (ss_pickT rfl q70 rfl) rfl ?_
                refine run_nil ?_
                refine aw_cond rfl (fun q71 => ?_) (fun q71 => ?_)
                ·skip
                 refine aw_seq ?_
                 refine aw_gh (gh_to (n := 167) (σ' := [(8, ⟨[.lst (rows (CsoT (SocA r1_0) (SocB r1_0)))], []⟩), (6, ⟨[.lst (rows (SocA r1_0)), .lst (rows (SocB r1_0))], []⟩), (4, ⟨[.lst (rows (SocA r1_0)), .lst (rows (SocB r1_0))], []⟩), (3, ⟨[.lst (rows r1_0)], []⟩)]) (env' := []) rfl rfl trivial) ?_
                 refine aw_region ?_
                 refine run_s (ss_assign rfl) rfl ?_
                 refine run_nil ?_
                 refine aw_ret ?_
                 exact retAF_mk (retv1 rfl (rv_tmp rfl)) rfl rfl ⟨_, (cle_refl _), _, h, rfl⟩
                ·cases q71
               ·cases q70
              ·cases q69
             ·cases q68
            ·cases q67
           ·replace h := h.2 (of_decide_eq_true (bnot_f q66))
            refine run_gt rfl rfl q66 ?_
            refine run_s (ss_loadS rfl rfl rfl rfl) rfl ?_
            refine run_gt rfl rfl q66 ?_
            obtain ⟨q72, h⟩ := h
            refine run_w (ws_call (xs := [.tmp 101]) (ids := []) rfl rfl rfl rfl (c_impl_IsSolution (SocA r1_0) (SocB r1_0) q72) rfl ?_ )
            rintro _ rfl
            refine ⟨rfl, ?_⟩
            refine run_gt rfl rfl q66 ?_
            refine run_s (ss_not rfl) rfl ?_
            refine run_s (ss_pickF rfl q66 rfl) rfl ?_
            refine run_s (ss_move rfl) rfl ?_
            refine run_split (s := 105) rfl (fun q74 => ?_) (fun q74 => ?_)
            ·replace h := h.1 ((bnot_t q74))
             refine run_gf rfl rfl q74 rfl ?_
             refine run_gf rfl rfl q74 rfl ?_
             refine run_s (ss_pickT rfl q74 rfl) rfl ?_
             refine run_s (ss_move rfl) rfl ?_
             refine run_split (s := 109) rfl (fun q75 => ?_) (fun q75 => ?_)
             ·skip
              refine run_gf rfl rfl q75 rfl ?_
              refine run_gf rfl rfl q75 rfl ?_
              refine run_s (ss_pickT rfl q75 rfl) rfl ?_
              refine run_s (ss_move rfl) rfl ?_
              refine run_split (s := 113) rfl (fun q76 => ?_) (fun q76 => ?_)
              ·skip
               refine run_gf rfl rfl q76 rfl ?_
               refine run_gf rfl rfl q76 rfl ?_
               refine run_gf rfl rfl q76 rfl ?_
               refine run_s (ss_pickT rfl q76 rfl) rfl ?_
               refine run_s (ss_move rfl) rfl ?_
               refine run_split (s := 118) rfl (fun q77 => ?_) (fun q77 => ?_)
               ·skip
                refine run_gf rfl rfl q77 rfl ?_
                refine run_gf rfl rfl q77 rfl ?_
                refine run_gf rfl rfl q77 rfl ?_
                refine run_gf rfl rfl q77 rfl ?_
                refine run_gf rfl rfl q77 rfl ?_
                refine run_gf rfl rfl q77 rfl ?_
                refine run_s (ss_pickT rfl q77 rfl) rfl ?_
                refine run_nil ?_
                refine aw_cond rfl (fun q78 => ?_) (fun q78 => ?_)
                ·skip
                 refine aw_seq ?_
                 refine aw_gh (gh_to (n := 167) (σ' := [(8, ⟨[.lst (rows (CsoT (SocA r1_0) (SocB r1_0)))], []⟩), (6, ⟨[.lst (rows (SocA r1_0)), .lst (rows (SocB r1_0))], []⟩), (4, ⟨[.lst (rows (SocA r1_0)), .lst (rows (SocB r1_0))], []⟩), (3, ⟨[.lst (rows r1_0)], []⟩)]) (env' := []) rfl rfl trivial) ?_
                 refine aw_region ?_
                 refine run_s (ss_assign rfl) rfl ?_
                 refine run_nil ?_
                 refine aw_ret ?_
                 exact retAF_mk (retv1 rfl (rv_tmp rfl)) rfl rfl ⟨_, (cle_refl _), _, h, rfl⟩
                ·cases q78
               ·cases q77
              ·cases q76
             ·cases q75
            ·replace h := h.2 ((bnot_f q74))
             refine run_gt rfl rfl q74 ?_
             refine run_s (ss_move rfl) rfl ?_
             refine run_gt rfl rfl q74 ?_
             refine run_s (ss_not rfl) rfl ?_
             refine run_s (ss_pickF rfl q74 rfl) rfl ?_
             refine run_s (ss_move rfl) rfl ?_
             refine run_split (s := 109) rfl (fun q79 => ?_) (fun q79 => ?_)
             ·replace h := h.1 ((bnot_t q79))
              refine run_gf rfl rfl q79 rfl ?_
              refine run_gf rfl rfl q79 rfl ?_
              refine run_s (ss_pickT rfl q79 rfl) rfl ?_
              refine run_s (ss_move rfl) rfl ?_
              refine run_split (s := 113) rfl (fun q80 => ?_) (fun q80 => ?_)
              ·skip
               refine run_gf rfl rfl q80 rfl ?_
               refine run_gf rfl rfl q80 rfl ?_
               refine run_gf rfl rfl q80 rfl ?_
               refine run_s (ss_pickT rfl q80 rfl) rfl ?_
               refine run_s (ss_move rfl) rfl ?_
               refine run_split (s := 118) rfl (fun q81 => ?_) (fun q81 => ?_)
               ·skip
                refine run_gf rfl rfl q81 rfl ?_
                refine run_gf rfl rfl q81 rfl ?_
                refine run_gf rfl rfl q81 rfl ?_
                refine run_gf rfl rfl q81 rfl ?_
                refine run_gf rfl rfl q81 rfl ?_
                refine run_gf rfl rfl q81 rfl ?_
                refine run_s (ss_pickT rfl q81 rfl) rfl ?_
                refine run_nil ?_
                refine aw_cond rfl (fun q82 => ?_) (fun q82 => ?_)
                ·skip
                 refine aw_seq ?_
                 refine aw_gh (gh_to (n := 167) (σ' := [(8, ⟨[.lst (rows (CsoT (SocA r1_0) (SocB r1_0)))], []⟩), (6, ⟨[.lst (rows (SocA r1_0)), .lst (rows (SocB r1_0))], []⟩), (4, ⟨[.lst (rows (SocA r1_0)), .lst (rows (SocB r1_0))], []⟩), (3, ⟨[.lst (rows r1_0)], []⟩)]) (env' := []) rfl rfl trivial) ?_
                 refine aw_region ?_
                 refine run_s (ss_assign rfl) rfl ?_
                 refine run_nil ?_
                 refine aw_ret ?_
                 exact retAF_mk (retv1 rfl (rv_tmp rfl)) rfl rfl ⟨_, (cle_refl _), _, h, rfl⟩
                ·cases q82
               ·cases q81
              ·cases q80
             ·replace h := h.2 ((bnot_f q79))
              refine run_gt rfl rfl q79 ?_
              refine run_s (ss_move rfl) rfl ?_
              refine run_gt rfl rfl q79 ?_
              refine run_s (ss_not rfl) rfl ?_
              refine run_s (ss_pickF rfl q79 rfl) rfl ?_
              refine run_s (ss_move rfl) rfl ?_
              refine run_split (s := 113) rfl (fun q83 => ?_) (fun q83 => ?_)
              ·replace h := h.1 ((bnot_t q83))
               refine run_gf rfl rfl q83 rfl ?_
               refine run_gf rfl rfl q83 rfl ?_
               refine run_gf rfl rfl q83 rfl ?_
               refine run_s (ss_pickT rfl q83 rfl) rfl ?_
               refine run_s (ss_move rfl) rfl ?_
               refine run_split (s := 118) rfl (fun q84 => ?_) (fun q84 => ?_)
               ·skip
                refine run_gf rfl rfl q84 rfl ?_
                refine run_gf rfl rfl q84 rfl ?_
                refine run_gf rfl rfl q84 rfl ?_
                refine run_gf rfl rfl q84 rfl ?_
                refine run_gf rfl rfl q84 rfl ?_
                refine run_gf rfl rfl q84 rfl ?_
                refine run_s (ss_pickT rfl q84 rfl) rfl ?_
                refine run_nil ?_
                refine aw_cond rfl (fun q85 => ?_) (fun q85 => ?_)
                ·skip
                 refine aw_seq ?_
                 refine aw_gh (gh_to (n := 167) (σ' := [(8, ⟨[.lst (rows (CsoT (SocA r1_0) (SocB r1_0)))], []⟩), (6, ⟨[.lst (rows (SocA r1_0)), .lst (rows (SocB r1_0))], []⟩), (4, ⟨[.lst (rows (SocA r1_0)), .lst (rows (SocB r1_0))], []⟩), (3, ⟨[.lst (rows r1_0)], []⟩)]) (env' := []) rfl rfl trivial) ?_
                 refine aw_region ?_
                 refine run_s (ss_assign rfl) rfl ?_
                 refine run_nil ?_
                 refine aw_ret ?_
                 exact retAF_mk (retv1 rfl (rv_tmp rfl)) rfl rfl ⟨_, (cle_refl _), _, h, rfl⟩
                ·cases q85
               ·cases q84
              ·replace h := h.2 ((bnot_f q83))
               refine run_gt rfl rfl q83 ?_
               refine run_s (ss_move rfl) rfl ?_
               refine run_gt rfl rfl q83 ?_
               refine run_s (ss_move rfl) rfl ?_
               refine run_gt rfl rfl q83 ?_
               refine run_s (ss_neqB rfl rfl) rfl ?_
               refine run_s (ss_pickF rfl q83 rfl) rfl ?_
               refine run_s (ss_move rfl) rfl ?_
               refine run_split (s := 118) rfl (fun q86 => ?_) (fun q86 => ?_)
               ·replace h := h.1 ((bnot_t q86))
                refine run_gf rfl rfl q86 rfl ?_
                refine run_gf rfl rfl q86 rfl ?_
                refine run_gf rfl rfl q86 rfl ?_
                refine run_gf rfl rfl q86 rfl ?_
                refine run_gf rfl rfl q86 rfl ?_
                refine run_gf rfl rfl q86 rfl ?_
                refine run_s (ss_pickT rfl q86 rfl) rfl ?_
                refine run_nil ?_
                refine aw_cond rfl (fun q87 => ?_) (fun q87 => ?_)
                ·skip
                 refine aw_seq ?_
                 refine aw_gh (gh_to (n := 167) (σ' := [(8, ⟨[.lst (rows (CsoT (SocA r1_0) (SocB r1_0)))], []⟩), (6, ⟨[.lst (rows (SocA r1_0)), .lst (rows (SocB r1_0))], []⟩), (4, ⟨[.lst (rows (SocA r1_0)), .lst (rows (SocB r1_0))], []⟩), (3, ⟨[.lst (rows r1_0)], []⟩)]) (env' := []) rfl rfl trivial) ?_
                 refine aw_region ?_
                 refine run_s (ss_assign rfl) rfl ?_
                 refine run_nil ?_
                 refine aw_ret ?_
                 exact retAF_mk (retv1 rfl (rv_tmp rfl)) rfl rfl ⟨_, (cle_refl _), _, h, rfl⟩
                ·cases q87
               ·replace h := h.2 ((bnot_f q86))
                refine run_gt rfl rfl q86 ?_
                refine run_s (ss_field_cell rfl) rfl ?_
                refine run_gt rfl rfl q86 ?_
                refine run_s (ss_loadC rfl rfl rfl rfl rfl) rfl ?_
                refine run_gt rfl rfl q86 ?_
                refine run_s (ss_field_cell rfl) rfl ?_
                refine run_gt rfl rfl q86 ?_
                refine run_s (ss_loadC rfl rfl rfl rfl rfl) rfl ?_
                refine run_gt rfl rfl q86 ?_
                obtain ⟨q88, h⟩ := h
                refine run_w (ws_call (xs := [.tmp 120, .tmp 122]) (ids := []) rfl rfl rfl rfl (c_laws_likeRows5 (CsoT (SocA r1_0) (SocB r1_0)) r1_0 q88) rfl ?_ )
                rintro _ rfl
                refine ⟨rfl, ?_⟩
                refine run_gt rfl rfl q86 ?_
                refine run_s (ss_not rfl) rfl ?_
                refine run_s (ss_pickF rfl q86 rfl) rfl ?_
                refine run_nil ?_
                refine aw_cond rfl (fun q90 => ?_) (fun q90 => ?_)
                ·replace h := h.1 (of_decide_eq_false (bnot_t q90))
                 refine aw_seq ?_
                 refine aw_gh (gh_to (n := 167) (σ' := [(8, ⟨[.lst (rows (CsoT (SocA r1_0) (SocB r1_0)))], []⟩), (6, ⟨[.lst (rows (SocA r1_0)), .lst (rows (SocB r1_0))], []⟩), (4, ⟨[.lst (rows (SocA r1_0)), .lst (rows (SocB r1_0))], []⟩), (3, ⟨[.lst (rows r1_0)], []⟩)]) (env' := []) rfl rfl trivial) ?_
                 refine aw_region ?_
                 refine run_s (ss_assign rfl) rfl ?_
                 refine run_nil ?_
                 refine aw_ret ?_
                 exact retAF_mk (retv1 rfl (rv_tmp rfl)) rfl rfl ⟨_, (cle_refl _), _, h, rfl⟩
                ·replace h := h.2 (of_decide_eq_true (bnot_f q90))
                 refine aw_skip ?_
                 refine aw_seq ?_
                 refine aw_gh (gh_to (n := 167) (σ' := [(8, ⟨[.lst (rows (CsoT (SocA r1_0) (SocB r1_0)))], []⟩), (6, ⟨[.lst (rows (SocA r1_0)), .lst (rows (SocB r1_0))], []⟩), (4, ⟨[.lst (rows (SocA r1_0)), .lst (rows (SocB r1_0))], []⟩), (3, ⟨[.lst (rows r1_0)], []⟩)]) (env' := [(0, .c (.lst (bys code)))]) rfl rfl ⟨rfl, trivial⟩) ?_
                 refine aw_region ?_
                 refine run_s (ss_move rfl) rfl ?_
                 obtain ⟨q91, h⟩ := h
                 refine run_w (ws_call (xs := [.tmp 126]) (ids := [127, 1003]) rfl rfl rfl rfl (c_spec_DrawCycleSetOfSolution code q91) rfl ?_ )
                 rintro _ ⟨r2_0, r2_1, q92, rfl⟩
                 replace h := h r2_0 r2_1 q92
                 refine ⟨rfl, ?_⟩
                 refine run_w (ws_alloc (id := 18) rfl (Nat.le_of_ble_eq_true rfl) ⟨rfl, ?_⟩)
                 refine run_w (ws_storeN rfl rfl (Nat.le_of_ble_eq_true rfl) rfl rfl rfl rfl ⟨rfl, ?_⟩)
                 refine run_nil ?_
                 refine aw_gh (gh_to (n := 167) (σ' := [(18, ⟨[.hole, .hole], [(1, .ref 1003), (0, .ref 127)]⟩), (127, ⟨orows r2_0, []⟩), (1003, ⟨orows r2_1, []⟩), (8, ⟨[.lst (rows (CsoT (SocA r1_0) (SocB r1_0)))], []⟩), (6, ⟨[.lst (rows (SocA r1_0)), .lst (rows (SocB r1_0))], []⟩), (4, ⟨[.lst (rows (SocA r1_0)), .lst (rows (SocB r1_0))], []⟩), (3, ⟨[.lst (rows r1_0)], []⟩)]) (env' := [(18, .cell 18 0)]) rfl rfl ⟨rfl, trivial⟩) ?_
                 refine aw_gh (gh_frzE (id := 127) (fun r => C.lst (ints r)) rfl (fun _ => (fz_own (fz_map (fun _ => rfl) _)))) ?_
                 refine aw_gh (gh_fillc (id := 18) (j := 0) rfl rfl (Nat.le_of_ble_eq_true rfl)) ?_
                 refine aw_gh (gh_to (n := 167) (σ' := [(18, ⟨[.lst (rows r2_0), .hole], [(1, .ref 1003)]⟩), (1003, ⟨orows r2_1, []⟩), (8, ⟨[.lst (rows (CsoT (SocA r1_0) (SocB r1_0)))], []⟩), (6, ⟨[.lst (rows (SocA r1_0)), .lst (rows (SocB r1_0))], []⟩), (4, ⟨[.lst (rows (SocA r1_0)), .lst (rows (SocB r1_0))], []⟩), (3, ⟨[.lst (rows r1_0)], []⟩)]) (env' := [(18, .cell 18 0)]) rfl rfl ⟨rfl, trivial⟩) ?_
                 refine aw_gh (gh_frzE (id := 1003) (fun r => C.lst (ints r)) rfl (fun _ => (fz_own (fz_map (fun _ => rfl) _)))) ?_
                 refine aw_gh (gh_fillc (id := 18) (j := 1) rfl rfl (Nat.le_of_ble_eq_true rfl)) ?_
                 refine aw_gh (gh_to (n := 167) (σ' := [(18, ⟨[.lst (rows r2_0), .lst (rows r2_1)], []⟩), (8, ⟨[.lst (rows (CsoT (SocA r1_0) (SocB r1_0)))], []⟩), (6, ⟨[.lst (rows (SocA r1_0)), .lst (rows (SocB r1_0))], []⟩), (4, ⟨[.lst (rows (SocA r1_0)), .lst (rows (SocB r1_0))], []⟩), (3, ⟨[.lst (rows r1_0)], []⟩)]) (env' := [(18, .cell 18 0)]) rfl rfl ⟨rfl, trivial⟩) ?_
                 refine aw_seq ?_
                 refine aw_region ?_
                 refine run_s (ss_loadS rfl rfl rfl rfl) rfl ?_
                 obtain ⟨q93, h⟩ := h
                 refine run_w (ws_call (xs := [.tmp 129]) (ids := [130]) rfl rfl rfl rfl (c_impl_CycleSetOfSolution r2_0 r2_1 q93) rfl ?_ )
                 rintro _ rfl
                 refine ⟨rfl, ?_⟩
                 refine run_s (ss_move rfl) rfl ?_
                 refine run_s (ss_extract rfl rfl) rfl ?_
                 refine run_s (ss_extract rfl rfl) rfl ?_
                 refine run_w (ws_alloc (id := 19) rfl (Nat.le_of_ble_eq_true rfl) ⟨rfl, ?_⟩)
                 refine run_w (ws_storeS rfl rfl (Nat.le_of_ble_eq_true rfl) rfl rfl rfl ⟨rfl, ?_⟩)
                 refine run_s (ss_assign rfl) rfl ?_
                 refine run_nil ?_
                 refine aw_gh (gh_to (n := 167) (σ' := [(19, ⟨[.hole], [(0, .ref 130)]⟩), (130, ⟨orows (CsoT r2_0 r2_1), []⟩), (18, ⟨[.lst (rows r2_0), .lst (rows r2_1)], []⟩), (8, ⟨[.lst (rows (CsoT (SocA r1_0) (SocB r1_0)))], []⟩), (6, ⟨[.lst (rows (SocA r1_0)), .lst (rows (SocB r1_0))], []⟩), (4, ⟨[.lst (rows (SocA r1_0)), .lst (rows (SocB r1_0))], []⟩), (3, ⟨[.lst (rows r1_0)], []⟩)]) (env' := [(18, .cell 18 0), (19, .cell 19 0), (20, .c (ci (CsoE r2_0 r2_1)))]) rfl rfl ⟨rfl, rfl, rfl, trivial⟩) ?_
                 refine aw_gh (gh_frzE (id := 130) (fun r => C.lst (ints r)) rfl (fun _ => (fz_own (fz_map (fun _ => rfl) _)))) ?_
                 refine aw_gh (gh_fillc (id := 19) (j := 0) rfl rfl (Nat.le_of_ble_eq_true rfl)) ?_
                 refine aw_gh (gh_to (n := 167) (σ' := [(19, ⟨[.lst (rows (CsoT r2_0 r2_1))], []⟩), (18, ⟨[.lst (rows r2_0), .lst (rows r2_1)], []⟩), (8, ⟨[.lst (rows (CsoT (SocA r1_0) (SocB r1_0)))], []⟩), (6, ⟨[.lst (rows (SocA r1_0)), .lst (rows (SocB r1_0))], []⟩), (4, ⟨[.lst (rows (SocA r1_0)), .lst (rows (SocB r1_0))], []⟩), (3, ⟨[.lst (rows r1_0)], []⟩)]) (env' := [(18, .cell 18 0), (19, .cell 19 0), (20, .c (ci (CsoE r2_0 r2_1)))]) rfl rfl ⟨rfl, rfl, rfl, trivial⟩) ?_
                 refine aw_seq ?_
                 refine aw_region ?_
                 refine run_s (ss_loadS rfl rfl rfl rfl) rfl ?_
                 obtain ⟨q95, h⟩ := h
                 refine run_w (ws_call (xs := [.tmp 134]) (ids := [135]) rfl rfl rfl rfl (c_spec_CycleSetOfSolution r2_0 r2_1 q95) rfl ?_ )
                 rintro _ rfl
                 refine ⟨rfl, ?_⟩
                 refine run_s (ss_move rfl) rfl ?_
                 refine run_s (ss_extract rfl rfl) rfl ?_
                 refine run_s (ss_extract rfl rfl) rfl ?_
                 refine run_w (ws_alloc (id := 21) rfl (Nat.le_of_ble_eq_true rfl) ⟨rfl, ?_⟩)
                 refine run_w (ws_storeS rfl rfl (Nat.le_of_ble_eq_true rfl) rfl rfl rfl ⟨rfl, ?_⟩)
                 refine run_s (ss_assign rfl) rfl ?_
                 refine run_nil ?_
                 refine aw_gh (gh_to (n := 167) (σ' := [(21, ⟨[.hole], [(0, .ref 135)]⟩), (135, ⟨orows (CsoT r2_0 r2_1), []⟩), (19, ⟨[.lst (rows (CsoT r2_0 r2_1))], []⟩), (18, ⟨[.lst (rows r2_0), .lst (rows r2_1)], []⟩), (8, ⟨[.lst (rows (CsoT (SocA r1_0) (SocB r1_0)))], []⟩), (6, ⟨[.lst (rows (SocA r1_0)), .lst (rows (SocB r1_0))], []⟩), (4, ⟨[.lst (rows (SocA r1_0)), .lst (rows (SocB r1_0))], []⟩), (3, ⟨[.lst (rows r1_0)], []⟩)]) (env' := [(18, .cell 18 0), (19, .cell 19 0), (20, .c (ci (CsoE r2_0 r2_1))), (21, .cell 21 0), (22, .c (ci (CsoE r2_0 r2_1)))]) rfl rfl ⟨rfl, rfl, rfl, rfl, rfl, trivial⟩) ?_
                 refine aw_gh (gh_frzE (id := 135) (fun r => C.lst (ints r)) rfl (fun _ => (fz_own (fz_map (fun _ => rfl) _)))) ?_
                 refine aw_gh (gh_fillc (id := 21) (j := 0) rfl rfl (Nat.le_of_ble_eq_true rfl)) ?_
                 refine aw_gh (gh_to (n := 167) (σ' := [(21, ⟨[.lst (rows (CsoT r2_0 r2_1))], []⟩), (19, ⟨[.lst (rows (CsoT r2_0 r2_1))], []⟩), (18, ⟨[.lst (rows r2_0), .lst (rows r2_1)], []⟩), (8, ⟨[.lst (rows (CsoT (SocA r1_0) (SocB r1_0)))], []⟩), (6, ⟨[.lst (rows (SocA r1_0)), .lst (rows (SocB r1_0))], []⟩), (4, ⟨[.lst (rows (SocA r1_0)), .lst (rows (SocB r1_0))], []⟩), (3, ⟨[.lst (rows r1_0)], []⟩)]) (env' := [(18, .cell 18 0), (19, .cell 19 0), (20, .c (ci (CsoE r2_0 r2_1))), (21, .cell 21 0), (22, .c (ci (CsoE r2_0 r2_1)))]) rfl rfl ⟨rfl, rfl, rfl, rfl, rfl, trivial⟩) ?_
                 refine aw_seq ?_
                 refine aw_seq ?_
                 refine aw_region ?_
                 refine run_s (ss_move rfl) rfl ?_
                 refine run_s (ss_move rfl) rfl ?_
                 refine run_s (ss_neq rfl rfl) rfl ?_
                 refine run_s (ss_move rfl) rfl ?_
                 refine run_split (s := 141) rfl (fun q97 => ?_) (fun q97 => ?_)
                 ·replace h := h.1 (of_decide_eq_false (bnot_t q97))
                  refine run_gf rfl rfl q97 rfl ?_
                  refine run_gf rfl rfl q97 rfl ?_
                  refine run_gf rfl rfl q97 rfl ?_
                  refine run_gf rfl rfl q97 rfl ?_
                  refine run_gf rfl rfl q97 rfl ?_
                  refine run_gf rfl rfl q97 rfl ?_
                  refine run_s (ss_pickT rfl q97 rfl) rfl ?_
                  refine run_nil ?_
                  refine aw_cond rfl (fun q98 => ?_) (fun q98 => ?_)
                  ·skip
                   refine aw_seq ?_
                   refine aw_gh (gh_to (n := 167) (σ' := [(21, ⟨[.lst (rows (CsoT r2_0 r2_1))], []⟩), (19, ⟨[.lst (rows (CsoT r2_0 r2_1))], []⟩), (18, ⟨[.lst (rows r2_0), .lst (rows r2_1)], []⟩), (8, ⟨[.lst (rows (CsoT (SocA r1_0) (SocB r1_0)))], []⟩), (6, ⟨[.lst (rows (SocA r1_0)), .lst (rows (SocB r1_0))], []⟩), (4, ⟨[.lst (rows (SocA r1_0)), .lst (rows (SocB r1_0))], []⟩), (3, ⟨[.lst (rows r1_0)], []⟩)]) (env' := []) rfl rfl trivial) ?_
                   refine aw_region ?_
                   refine run_s (ss_assign rfl) rfl ?_
                   refine run_nil ?_
                   refine aw_ret ?_
                   exact retAF_mk (retv1 rfl (rv_tmp rfl)) rfl rfl ⟨_, (cle_refl _), _, h, rfl⟩
                  ·cases q98
                 ·replace h := h.2 (of_decide_eq_true (bnot_f q97))
                  refine run_gt rfl rfl q97 ?_
                  refine run_s (ss_field_cell rfl) rfl ?_
                  refine run_gt rfl rfl q97 ?_
                  refine run_s (ss_loadC rfl rfl rfl rfl rfl) rfl ?_
                  refine run_gt rfl rfl q97 ?_
                  refine run_s (ss_field_cell rfl) rfl ?_
                  refine run_gt rfl rfl q97 ?_
                  refine run_s (ss_loadC rfl rfl rfl rfl rfl) rfl ?_
                  refine run_gt rfl rfl q97 ?_
                  obtain ⟨q99, h⟩ := h
                  refine run_w (ws_call (xs := [.tmp 143, .tmp 145]) (ids := []) rfl rfl rfl rfl (c_laws_likeRows5 (CsoT r2_0 r2_1) (CsoT r2_0 r2_1) q99) rfl ?_ )
                  rintro _ rfl
                  refine ⟨rfl, ?_⟩
                  refine run_gt rfl rfl q97 ?_
                  refine run_s (ss_not rfl) rfl ?_
                  refine run_s (ss_pickF rfl q97 rfl) rfl ?_
                  refine run_nil ?_
                  refine aw_cond rfl (fun q101 => ?_) (fun q101 => ?_)
                  ·replace h := h.1 (of_decide_eq_false (bnot_t q101))
                   refine aw_seq ?_
                   refine aw_gh (gh_to (n := 167) (σ' := [(21, ⟨[.lst (rows (CsoT r2_0 r2_1))], []⟩), (19, ⟨[.lst (rows (CsoT r2_0 r2_1))], []⟩), (18, ⟨[.lst (rows r2_0), .lst (rows r2_1)], []⟩), (8, ⟨[.lst (rows (CsoT (SocA r1_0) (SocB r1_0)))], []⟩), (6, ⟨[.lst (rows (SocA r1_0)), .lst (rows (SocB r1_0))], []⟩), (4, ⟨[.lst (rows (SocA r1_0)), .lst (rows (SocB r1_0))], []⟩), (3, ⟨[.lst (rows r1_0)], []⟩)]) (env' := []) rfl rfl trivial) ?_
                   refine aw_region ?_
                   refine run_s (ss_assign rfl) rfl ?_
                   refine run_nil ?_
                   refine aw_ret ?_
                   exact retAF_mk (retv1 rfl (rv_tmp rfl)) rfl rfl ⟨_, (cle_refl _), _, h, rfl⟩
                  ·replace h := h.2 (of_decide_eq_true (bnot_f q101))
                   refine aw_skip ?_
                   refine aw_seq ?_
                   refine aw_seq ?_
                   refine aw_gh (gh_to (n := 167) (σ' := [(21, ⟨[.lst (rows (CsoT r2_0 r2_1))], []⟩), (19, ⟨[.lst (rows (CsoT r2_0 r2_1))], []⟩), (18, ⟨[.lst (rows r2_0), .lst (rows r2_1)], []⟩), (8, ⟨[.lst (rows (CsoT (SocA r1_0) (SocB r1_0)))], []⟩), (6, ⟨[.lst (rows (SocA r1_0)), .lst (rows (SocB r1_0))], []⟩), (4, ⟨[.lst (rows (SocA r1_0)), .lst (rows (SocB r1_0))], []⟩), (3, ⟨[.lst (rows r1_0)], []⟩)]) (env' := [(18, .cell 18 0), (19, .cell 19 0), (20, .c (ci (CsoE r2_0 r2_1)))]) rfl rfl ⟨rfl, rfl, rfl, trivial⟩) ?_
                   refine aw_region ?_
                   refine run_s (ss_move rfl) rfl ?_
                   refine run_s (ss_neq rfl rfl) rfl ?_
                   refine run_nil ?_
                   refine aw_cond rfl (fun q102 => ?_) (fun q102 => ?_)
                   ·replace h := h.1 (of_decide_eq_false (bnot_t q102))
                    refine aw_seq ?_
                    refine aw_gh (gh_to (n := 167) (σ' := [(21, ⟨[.lst (rows (CsoT r2_0 r2_1))], []⟩), (19, ⟨[.lst (rows (CsoT r2_0 r2_1))], []⟩), (18, ⟨[.lst (rows r2_0), .lst (rows r2_1)], []⟩), (8, ⟨[.lst (rows (CsoT (SocA r1_0) (SocB r1_0)))], []⟩), (6, ⟨[.lst (rows (SocA r1_0)), .lst (rows (SocB r1_0))], []⟩), (4, ⟨[.lst (rows (SocA r1_0)), .lst (rows (SocB r1_0))], []⟩), (3, ⟨[.lst (rows r1_0)], []⟩)]) (env' := []) rfl rfl trivial) ?_
                    refine aw_region ?_
                    refine run_s (ss_assign rfl) rfl ?_
                    refine run_nil ?_
                    refine aw_ret ?_
                    exact retAF_mk (retv1 rfl (rv_tmp rfl)) rfl rfl ⟨_, (cle_refl _), _, h, rfl⟩
                   ·replace h := h.2 (of_decide_eq_true (bnot_f q102))
                    refine aw_skip ?_
                    refine aw_seq ?_
                    refine aw_region ?_
                    refine run_s (ss_loadS rfl rfl rfl rfl) rfl ?_
                    obtain ⟨q103, h⟩ := h
                    refine run_w (ws_call (xs := [.tmp 152]) (ids := [153, 1004]) rfl rfl rfl rfl (c_impl_SolutionOfCycleSet (CsoT r2_0 r2_1) q103) rfl ?_ )
                    rintro _ rfl
                    refine ⟨rfl, ?_⟩
                    refine run_s (ss_move rfl) rfl ?_
                    refine run_s (ss_extract rfl rfl) rfl ?_
                    refine run_s (ss_extract rfl rfl) rfl ?_
                    refine run_w (ws_alloc (id := 23) rfl (Nat.le_of_ble_eq_true rfl) ⟨rfl, ?_⟩)
                    refine run_w (ws_storeN rfl rfl (Nat.le_of_ble_eq_true rfl) rfl rfl rfl rfl ⟨rfl, ?_⟩)
                    refine run_s (ss_assign rfl) rfl ?_
                    refine run_nil ?_
                    refine aw_gh (gh_to (n := 167) (σ' := [(23, ⟨[.hole, .hole], [(1, .ref 1004), (0, .ref 153)]⟩), (153, ⟨orows (SocA (CsoT r2_0 r2_1)), []⟩), (1004, ⟨orows (SocB (CsoT r2_0 r2_1)), []⟩), (21, ⟨[.lst (rows (CsoT r2_0 r2_1))], []⟩), (19, ⟨[.lst (rows (CsoT r2_0 r2_1))], []⟩), (18, ⟨[.lst (rows r2_0), .lst (rows r2_1)], []⟩), (8, ⟨[.lst (rows (CsoT (SocA r1_0) (SocB r1_0)))], []⟩), (6, ⟨[.lst (rows (SocA r1_0)), .lst (rows (SocB r1_0))], []⟩), (4, ⟨[.lst (rows (SocA r1_0)), .lst (rows (SocB r1_0))], []⟩), (3, ⟨[.lst (rows r1_0)], []⟩)]) (env' := [(18, .cell 18 0), (19, .cell 19 0), (23, .cell 23 0), (24, .c (ci (cyE (CsoT r2_0 r2_1))))]) rfl rfl ⟨rfl, rfl, rfl, rfl, trivial⟩) ?_
                    refine aw_gh (gh_frzE (id := 153) (fun r => C.lst (ints r)) rfl (fun _ => (fz_own (fz_map (fun _ => rfl) _)))) ?_
                    refine aw_gh (gh_fillc (id := 23) (j := 0) rfl rfl (Nat.le_of_ble_eq_true rfl)) ?_
                    refine aw_gh (gh_to (n := 167) (σ' := [(23, ⟨[.lst (rows (SocA (CsoT r2_0 r2_1))), .hole], [(1, .ref 1004)]⟩), (1004, ⟨orows (SocB (CsoT r2_0 r2_1)), []⟩), (21, ⟨[.lst (rows (CsoT r2_0 r2_1))], []⟩), (19, ⟨[.lst (rows (CsoT r2_0 r2_1))], []⟩), (18, ⟨[.lst (rows r2_0), .lst (rows r2_1)], []⟩), (8, ⟨[.lst (rows (CsoT (SocA r1_0) (SocB r1_0)))], []⟩), (6, ⟨[.lst (rows (SocA r1_0)), .lst (rows (SocB r1_0))], []⟩), (4, ⟨[.lst (rows (SocA r1_0)), .lst (rows (SocB r1_0))], []⟩), (3, ⟨[.lst (rows r1_0)], []⟩)]) (env' := [(18, .cell 18 0), (19, .cell 19 0), (23, .cell 23 0), (24, .c (ci (cyE (CsoT r2_0 r2_1))))]) rfl rfl ⟨rfl, rfl, rfl, rfl, trivial⟩) ?_
                    refine aw_gh (gh_frzE (id := 1004) (fun r => C.lst (ints r)) rfl (fun _ => (fz_own (fz_map (fun _ => rfl) _)))) ?_
                    refine aw_gh (gh_fillc (id := 23) (j := 1) rfl rfl (Nat.le_of_ble_eq_true rfl)) ?_
                    refine aw_gh (gh_to (n := 167) (σ' := [(23, ⟨[.lst (rows (SocA (CsoT r2_0 r2_1))), .lst (rows (SocB (CsoT r2_0 r2_1)))], []⟩), (21, ⟨[.lst (rows (CsoT r2_0 r2_1))], []⟩), (19, ⟨[.lst (rows (CsoT r2_0 r2_1))], []⟩), (18, ⟨[.lst (rows r2_0), .lst (rows r2_1)], []⟩), (8, ⟨[.lst (rows (CsoT (SocA r1_0) (SocB r1_0)))], []⟩), (6, ⟨[.lst (rows (SocA r1_0)), .lst (rows (SocB r1_0))], []⟩), (4, ⟨[.lst (rows (SocA r1_0)), .lst (rows (SocB r1_0))], []⟩), (3, ⟨[.lst (rows r1_0)], []⟩)]) (env' := [(18, .cell 18 0), (19, .cell 19 0), (23, .cell 23 0), (24, .c (ci (cyE (CsoT r2_0 r2_1))))]) rfl rfl ⟨rfl, rfl, rfl, rfl, trivial⟩) ?_
                    refine aw_seq ?_
                    refine aw_region ?_
                    refine run_s (ss_move rfl) rfl ?_
                    refine run_s (ss_eql rfl rfl) rfl ?_
                    refine run_s (ss_move rfl) rfl ?_
                    refine run_split (s := 158) rfl (fun q105 => ?_) (fun q105 => ?_)
                    ·replace h := h.1 (of_decide_eq_true q105)
                     refine run_gt rfl rfl q105 ?_
                     refine run_s (ss_loadS rfl rfl rfl rfl) rfl ?_
                     refine run_gt rfl rfl q105 ?_
                     obtain ⟨q106, h⟩ := h
                     refine run_w (ws_call (xs := [.tmp 159]) (ids := []) rfl rfl rfl rfl (c_impl_IsCycleSet (CsoT r2_0 r2_1) q106) rfl ?_ )
                     rintro _ rfl
                     refine ⟨rfl, ?_⟩
                     refine run_s (ss_pickT rfl q105 rfl) rfl ?_
                     refine run_s (ss_move rfl) rfl ?_
                     refine run_split (s := 162) rfl (fun q108 => ?_) (fun q108 => ?_)
                     ·replace h := h.1 (q108)
                      refine run_gt rfl rfl q108 ?_
                      refine run_s (ss_loadS rfl rfl rfl rfl) rfl ?_
                      refine run_gt rfl rfl q108 ?_
                      refine run_s (ss_loadS rfl rfl rfl rfl) rfl ?_
                      refine run_gt rfl rfl q108 ?_
                      obtain ⟨q109, h⟩ := h
                      refine run_w (ws_call (xs := [.tmp 163, .tmp 164]) (ids := []) rfl rfl rfl rfl (c_laws_likeSolution5 (SocA (CsoT r2_0 r2_1)) (SocB (CsoT r2_0 r2_1)) r2_0 r2_1 q109) rfl ?_ )
                      rintro _ rfl
                      refine ⟨rfl, ?_⟩
                      refine run_s (ss_pickT rfl q108 rfl) rfl ?_
                      refine run_s (ss_assign rfl) rfl ?_
                      refine run_nil ?_
                      refine aw_ret ?_
                      exact retAF_mk (retv1 rfl (rv_tmp rfl)) rfl rfl ⟨_, (cle_refl _), _, h, rfl⟩
                     ·replace h := h.2 (q108)
                      refine run_gf rfl rfl q108 rfl ?_
                      refine run_gf rfl rfl q108 rfl ?_
                      refine run_gf rfl rfl q108 rfl ?_
                      refine run_s (ss_pickF rfl q108 rfl) rfl ?_
                      refine run_s (ss_assign rfl) rfl ?_
                      refine run_nil ?_
                      refine aw_ret ?_
                      exact retAF_mk (retv1 rfl (rv_tmp rfl)) rfl rfl ⟨_, (cle_refl _), _, h, rfl⟩
                    ·replace h := h.2 (of_decide_eq_false q105)
                     refine run_gf rfl rfl q105 rfl ?_
                     refine run_gf rfl rfl q105 rfl ?_
                     refine run_s (ss_pickF rfl q105 rfl) rfl ?_
                     refine run_s (ss_move rfl) rfl ?_
                     refine run_split (s := 162) rfl (fun q111 => ?_) (fun q111 => ?_)
                     ·cases q111
                     ·skip
                      refine run_gf rfl rfl q111 rfl ?_
                      refine run_gf rfl rfl q111 rfl ?_
                      refine run_gf rfl rfl q111 rfl ?_
                      refine run_s (ss_pickF rfl q111 rfl) rfl ?_
                      refine run_s (ss_assign rfl) rfl ?_
                      refine run_nil ?_
                      refine aw_ret ?_
                      exact retAF_mk (retv1 rfl (rv_tmp rfl)) rfl rfl ⟨_, (cle_refl _), _, h, rfl⟩
      ·replace h := h.2 (of_decide_eq_false q21)
       refine aw_skip ?_
       refine aw_seq ?_
       refine aw_gh (gh_to (n := 167) (σ' := [(6, ⟨[.lst (rows (SocA r1_0)), .lst (rows (SocB r1_0))], []⟩), (4, ⟨[.lst (rows (SocA r1_0)), .lst (rows (SocB r1_0))], []⟩), (3, ⟨[.lst (rows r1_0)], []⟩)]) (env' := [(0, .c (.lst (bys code)))]) rfl rfl ⟨rfl, trivial⟩) ?_
       refine aw_region ?_
       refine run_s (ss_move rfl) rfl ?_
       obtain ⟨q112, h⟩ := h
       refine run_w (ws_call (xs := [.tmp 126]) (ids := [127, 1005]) rfl rfl rfl rfl (c_spec_DrawCycleSetOfSolution code q112) rfl ?_ )
       rintro _ ⟨r3_0, r3_1, q113, rfl⟩
       replace h := h r3_0 r3_1 q113
       refine ⟨rfl, ?_⟩
       refine run_w (ws_alloc (id := 18) rfl (Nat.le_of_ble_eq_true rfl) ⟨rfl, ?_⟩)
       refine run_w (ws_storeN rfl rfl (Nat.le_of_ble_eq_true rfl) rfl rfl rfl rfl ⟨rfl, ?_⟩)
       refine run_nil ?_
       refine aw_gh (gh_to (n := 167) (σ' := [(18, ⟨[.hole, .hole], [(1, .ref 1005), (0, .ref 127)]⟩), (127, ⟨orows r3_0, []⟩), (1005, ⟨orows r3_1, []⟩), (6, ⟨[.lst (rows (SocA r1_0)), .lst (rows (SocB r1_0))], []⟩), (4, ⟨[.lst (rows (SocA r1_0)), .lst (rows (SocB r1_0))], []⟩), (3, ⟨[.lst (rows r1_0)], []⟩)]) (env' := [(18, .cell 18 0)]) rfl rfl ⟨rfl, trivial⟩) ?_
       refine aw_gh (gh_frzE (id := 127) (fun r => C.lst (ints r)) rfl (fun _ => (fz_own (fz_map (fun _ => rfl) _)))) ?_
       refine aw_gh (gh_fillc (id := 18) (j := 0) rfl rfl (Nat.le_of_ble_eq_true rfl)) ?_
       refine aw_gh (gh_to (n := 167) (σ' := [(18, ⟨[.lst (rows r3_0), .hole], [(1, .ref 1005)]⟩), (1005, ⟨orows r3_1, []⟩), (6, ⟨[.lst (rows (SocA r1_0)), .lst (rows (SocB r1_0))], []⟩), (4, ⟨[.lst (rows (SocA r1_0)), .lst (rows (SocB r1_0))], []⟩), (3, ⟨[.lst (rows r1_0)], []⟩)]) (env' := [(18, .cell 18 0)]) rfl rfl ⟨rfl, trivial⟩) ?_
       refine aw_gh (gh_frzE (id := 1005) (fun r => C.lst (ints r)) rfl (fun _ => (fz_own (fz_map (fun _ => rfl) _)))) ?_
       refine aw_gh (gh_fillc (id := 18) (j := 1) rfl rfl (Nat.le_of_ble_eq_true rfl)) ?_
       refine aw_gh (gh_to (n := 167) (σ' := [(18, ⟨[.lst (rows r3_0), .lst (rows r3_1)], []⟩), (6, ⟨[.lst (rows (SocA r1_0)), .lst (rows (SocB r1_0))], []⟩), (4, ⟨[.lst (rows (SocA r1_0)), .lst (rows (SocB r1_0))], []⟩), (3, ⟨[.lst (rows r1_0)], []⟩)]) (env' := [(18, .cell 18 0)]) rfl rfl ⟨rfl, trivial⟩) ?_
       refine aw_seq ?_
       refine aw_region ?_
       refine run_s (ss_loadS rfl rfl rfl rfl) rfl ?_
       obtain ⟨q114, h⟩ := h
       refine run_w (ws_call (xs := [.tmp 129]) (ids := [130]) rfl rfl rfl rfl (c_impl_CycleSetOfSolution r3_0 r3_1 q114) rfl ?_ )
       rintro _ rfl
       refine ⟨rfl, ?_⟩
       refine run_s (ss_move rfl) rfl ?_
       refine run_s (ss_extract rfl rfl) rfl ?_
       refine run_s (ss_extract rfl rfl) rfl ?_
       refine run_w (ws_alloc (id := 19) rfl (Nat.le_of_ble_eq_true rfl) ⟨rfl, ?_⟩)
       refine run_w (ws_storeS rfl rfl (Nat.le_of_ble_eq_true rfl) rfl rfl rfl ⟨rfl, ?_⟩)
       refine run_s (ss_assign rfl) rfl ?_
       refine run_nil ?_
       refine aw_gh (gh_to (n := 167) (σ' := [(19, ⟨[.hole], [(0, .ref 130)]⟩), (130, ⟨orows (CsoT r3_0 r3_1), []⟩), (18, ⟨[.lst (rows r3_0), .lst (rows r3_1)], []⟩), (6, ⟨[.lst (rows (SocA r1_0)), .lst (rows (SocB r1_0))], []⟩), (4, ⟨[.lst (rows (SocA r1_0)), .lst (rows (SocB r1_0))], []⟩), (3, ⟨[.lst (rows r1_0)], []⟩)]) (env' := [(18, .cell 18 0), (19, .cell 19 0), (20, .c (ci (CsoE r3_0 r3_1)))]) rfl rfl ⟨rfl, rfl, rfl, trivial⟩) ?_
       refine aw_gh (gh_frzE (id := 130) (fun r => C.lst (ints r)) rfl (fun _ => (fz_own (fz_map (fun _ => rfl) _)))) ?_
       refine aw_gh (gh_fillc (id := 19) (j := 0) rfl rfl (Nat.le_of_ble_eq_true rfl)) ?_
       refine aw_gh (gh_to (n := 167) (σ' := [(19, ⟨[.lst (rows (CsoT r3_0 r3_1))], []⟩), (18, ⟨[.lst (rows r3_0), .lst (rows r3_1)], []⟩), (6, ⟨[.lst (rows (SocA r1_0)), .lst (rows (SocB r1_0))], []⟩), (4, ⟨[.lst (rows (SocA r1_0)), .lst (rows (SocB r1_0))], []⟩), (3, ⟨[.lst (rows r1_0)], []⟩)]) (env' := [(18, .cell 18 0), (19, .cell 19 0), (20, .c (ci (CsoE r3_0 r3_1)))]) rfl rfl ⟨rfl, rfl, rfl, trivial⟩) ?_
       refine aw_seq ?_
       refine aw_region ?_
       refine run_s (ss_loadS rfl rfl rfl rfl) rfl ?_
       obtain ⟨q116, h⟩ := h
       refine run_w (ws_call (xs := [.tmp 134]) (ids := [135]) rfl rfl rfl rfl (c_spec_CycleSetOfSolution r3_0 r3_1 q116) rfl ?_ )
       rintro _ rfl
       refine ⟨rfl, ?_⟩
       refine run_s (ss_move rfl) rfl ?_
       refine run_s (ss_extract rfl rfl) rfl ?_
       refine run_s (ss_extract rfl rfl) rfl ?_
       refine run_w (ws_alloc (id := 21) rfl (Nat.le_of_ble_eq_true rfl) ⟨rfl, ?_⟩)
       refine run_w (ws_storeS rfl rfl (Nat.le_of_ble_eq_true rfl) rfl rfl rfl ⟨rfl, ?_⟩)
       refine run_s (ss_assign rfl) rfl ?_
       refine run_nil ?_
       refine aw_gh (gh_to (n := 167) (σ' := [(21, ⟨[.hole], [(0, .ref 135)]⟩), (135, ⟨orows (CsoT r3_0 r3_1), []⟩), (19, ⟨[.lst (rows (CsoT r3_0 r3_1))], []⟩), (18, ⟨[.lst (rows r3_0), .lst (rows r3_1)], []⟩), (6, ⟨[.lst (rows (SocA r1_0)), .lst (rows (SocB r1_0))], []⟩), (4, ⟨[.lst (rows (SocA r1_0)), .lst (rows (SocB r1_0))], []⟩), (3, ⟨[.lst (rows r1_0)], []⟩)]) (env' := [(18, .cell 18 0), (19, .cell 19 0), (20, .c (ci (CsoE r3_0 r3_1))), (21, .cell 21 0), (22, .c (ci (CsoE r3_0 r3_1)))]) rfl rfl ⟨rfl, rfl, rfl, rfl, rfl, trivial⟩) ?_
       refine aw_gh (gh_frzE (id := 135) (fun r => C.lst (ints r)) rfl (fun _ => (fz_own (fz_map (fun _ => rfl) _)))) ?_
       refine aw_gh (gh_fillc (id := 21) (j := 0) rfl rfl (Nat.le_of_ble_eq_true rfl)) ?_
       refine aw_gh (gh_to (n := 167) (σ' := [(21, ⟨[.lst (rows (CsoT r3_0 r3_1))], []⟩), (19, ⟨[.lst (rows (CsoT r3_0 r3_1))], []⟩), (18, ⟨[.lst (rows r3_0), .lst (rows r3_1)], []⟩), (6, ⟨[.lst (rows (SocA r1_0)), .lst (rows (SocB r1_0))], []⟩), (4, ⟨[.lst (rows (SocA r1_0)), .lst (rows (SocB r1_0))], []⟩), (3, ⟨[.lst (rows r1_0)], []⟩)]) (env' := [(18, .cell 18 0), (19, .cell 19 0), (20, .c (ci (CsoE r3_0 r3_1))), (21, .cell 21 0), (22, .c (ci (CsoE r3_0 r3_1)))]) rfl rfl ⟨rfl, rfl, rfl, rfl, rfl, trivial⟩) ?_
       refine aw_seq ?_
       refine aw_seq ?_
       refine aw_region ?_
       refine run_s (ss_move rfl) rfl ?_
       refine run_s (ss_move rfl) rfl ?_
       refine run_s (ss_neq rfl rfl) rfl ?_
       refine run_s (ss_move rfl) rfl ?_
       refine run_split (s := 141) rfl (fun q118 => ?_) (fun q118 => ?_)
       ·replace h := h.1 (of_decide_eq_false (bnot_t q118))
        refine run_gf rfl rfl q118 rfl ?_
        refine run_gf rfl rfl q118 rfl ?_
        refine run_gf rfl rfl q118 rfl ?_
        refine run_gf rfl rfl q118 rfl ?_
        refine run_gf rfl rfl q118 rfl ?_
        refine run_gf rfl rfl q118 rfl ?_
        refine run_s (ss_pickT rfl q118 rfl) rfl ?_
        refine run_nil ?_
        refine aw_cond rfl (fun q119 => ?_) (fun q119 => ?_)
        ·skip
         refine aw_seq ?_
         refine aw_gh (gh_to (n := 167) (σ' := [(21, ⟨[.lst (rows (CsoT r3_0 r3_1))], []⟩), (19, ⟨[.lst (rows (CsoT r3_0 r3_1))], []⟩), (18, ⟨[.lst (rows r3_0), .lst (rows r3_1)], []⟩), (6, ⟨[.lst (rows (SocA r1_0)), .lst (rows (SocB r1_0))], []⟩), (4, ⟨[.lst (rows (SocA r1_0)), .lst (rows (SocB r1_0))], []⟩), (3, ⟨[.lst (rows r1_0)], []⟩)]) (env' := []) rfl rfl trivial) ?_
         refine aw_region ?_
         refine run_s (ss_assign rfl) rfl ?_
         refine run_nil ?_
         refine aw_ret ?_
         exact retAF_mk (retv1 rfl (rv_tmp rfl)) rfl rfl ⟨_, (cle_refl _), _, h, rfl⟩
        ·cases q119
       ·replace h := h.2 (of_decide_eq_true (bnot_f q118))
        refine run_gt rfl rfl q118 ?_
        refine run_s (ss_field_cell rfl) rfl ?_
        refine run_gt rfl rfl q118 ?_
        refine run_s (ss_loadC rfl rfl rfl rfl rfl) rfl ?_
        refine run_gt rfl rfl q118 ?_
        refine run_s (ss_field_cell rfl) rfl ?_
        refine run_gt rfl rfl q118 ?_
        refine run_s (ss_loadC rfl rfl rfl rfl rfl) rfl ?_
        refine run_gt rfl rfl q118 ?_
        obtain ⟨q120, h⟩ := h
        refine run_w (ws_call (xs := [.tmp 143, .tmp 145]) (ids := []) rfl rfl rfl rfl (c_laws_likeRows5 (CsoT r3_0 r3_1) (CsoT r3_0 r3_1) q120) rfl ?_ )
        rintro _ rfl
        refine ⟨rfl, ?_⟩
        refine run_gt rfl rfl q118 ?_
        refine run_s (ss_not rfl) rfl ?_
        refine run_s (ss_pickF rfl q118 rfl) rfl ?_
        refine run_nil ?_
        refine aw_cond rfl (fun q122 => ?_) (fun q122 => ?_)
        ·replace h := h.1 (of_decide_eq_false (bnot_t q122))
         refine aw_seq ?_
         refine aw_gh (gh_to (n := 167) (σ' := [(21, ⟨[.lst (rows (CsoT r3_0 r3_1))], []⟩), (19, ⟨[.lst (rows (CsoT r3_0 r3_1))], []⟩), (18, ⟨[.lst (rows r3_0), .lst (rows r3_1)], []⟩), (6, ⟨[.lst (rows (SocA r1_0)), .lst (rows (SocB r1_0))], []⟩), (4, ⟨[.lst (rows (SocA r1_0)), .lst (rows (SocB r1_0))], []⟩), (3, ⟨[.lst (rows r1_0)], []⟩)]) (env' := []) rfl rfl trivial) ?_
         refine aw_region ?_
         refine run_s (ss_assign rfl) rfl ?_
         refine run_nil ?_
         refine aw_ret ?_
         exact retAF_mk (retv1 rfl (rv_tmp rfl)) rfl rfl ⟨_, (cle_refl _), _, h, rfl⟩
        ·replace h := h.2 (of_decide_eq_true (bnot_f q122))
         refine aw_skip ?_
         refine aw_seq ?_
         refine aw_seq ?_
         refine aw_gh (gh_to (n := 167) (σ' := [(21, ⟨[.lst (rows (CsoT r3_0 r3_1))], []⟩), (19, ⟨[.lst (rows (CsoT r3_0 r3_1))], []⟩), (18, ⟨[.lst (rows r3_0), .lst (rows r3_1)], []⟩), (6, ⟨[.lst (rows (SocA r1_0)), .lst (rows (SocB r1_0))], []⟩), (4, ⟨[.lst (rows (SocA r1_0)), .lst (rows (SocB r1_0))], []⟩), (3, ⟨[.lst (rows r1_0)], []⟩)]) (env' := [(18, .cell 18 0), (19, .cell 19 0), (20, .c (ci (CsoE r3_0 r3_1)))]) rfl rfl ⟨rfl, rfl, rfl, trivial⟩) ?_
         refine aw_region ?_
         refine run_s (ss_move rfl) rfl ?_
         refine run_s (ss_neq rfl rfl) rfl ?_
         refine run_nil ?_
         refine aw_cond rfl (fun q123 => ?_) (fun q123 => ?_)
         ·replace h := h.1 (of_decide_eq_false (bnot_t q123))
          refine aw_seq ?_
          refine aw_gh (gh_to (n := 167) (σ' := [(21, ⟨[.lst (rows (CsoT r3_0 r3_1))], []⟩), (19, ⟨[.lst (rows (CsoT r3_0 r3_1))], []⟩), (18, ⟨[.lst (rows r3_0), .lst (rows r3_1)], []⟩), (6, ⟨[.lst (rows (SocA r1_0)), .lst (rows (SocB r1_0))], []⟩), (4, ⟨[.lst (rows (SocA r1_0)), .lst (rows (SocB r1_0))], []⟩), (3, ⟨[.lst (rows r1_0)], []⟩)]) (env' := []) rfl rfl trivial) ?_
          refine aw_region ?_
          refine run_s (ss_assign rfl) rfl ?_
          refine run_nil ?_
          refine aw_ret ?_
          exact retAF_mk (retv1 rfl (rv_tmp rfl)) rfl rfl ⟨_, (cle_refl _), _, h, rfl⟩
         ·replace h := h.2 (of_decide_eq_true (bnot_f q123))
          refine aw_skip ?_
          refine aw_seq ?_
          refine aw_region ?_
          refine run_s (ss_loadS rfl rfl rfl rfl) rfl ?_
          obtain ⟨q124, h⟩ := h
          refine run_w (ws_call (xs := [.tmp 152]) (ids := [153, 1006]) rfl rfl rfl rfl (c_impl_SolutionOfCycleSet (CsoT r3_0 r3_1) q124) rfl ?_ )
          rintro _ rfl
          refine ⟨rfl, ?_⟩
          refine run_s (ss_move rfl) rfl ?_
          refine run_s (ss_extract rfl rfl) rfl ?_
          refine run_s (ss_extract rfl rfl) rfl ?_
          refine run_w (ws_alloc (id := 23) rfl (Nat.le_of_ble_eq_true rfl) ⟨rfl, ?_⟩)
          refine run_w (ws_storeN rfl rfl (Nat.le_of_ble_eq_true rfl) rfl rfl rfl rfl ⟨rfl, ?_⟩)
          refine run_s (ss_assign rfl) rfl ?_
          refine run_nil ?_
          refine aw_gh (gh_to (n := 167) (σ' := [(23, ⟨[.hole, .hole], [(1, .ref 1006), (0, .ref 153)]⟩), (153, ⟨orows (SocA (CsoT r3_0 r3_1)), []⟩), (1006, ⟨orows (SocB (CsoT r3_0 r3_1)), []⟩), (21, ⟨[.lst (rows (CsoT r3_0 r3_1))], []⟩), (19, ⟨[.lst (rows (CsoT r3_0 r3_1))], []⟩), (18, ⟨[.lst (rows r3_0), .lst (rows r3_1)], []⟩), (6, ⟨[.lst (rows (SocA r1_0)), .lst (rows (SocB r1_0))], []⟩), (4, ⟨[.lst (rows (SocA r1_0)), .lst (rows (SocB r1_0))], []⟩), (3, ⟨[.lst (rows r1_0)], []⟩)]) (env' := [(18, .cell 18 0), (19, .cell 19 0), (23, .cell 23 0), (24, .c (ci (cyE (CsoT r3_0 r3_1))))]) rfl rfl ⟨rfl, rfl, rfl, rfl, trivial⟩) ?_
          refine aw_gh (gh_frzE (id := 153) (fun r => C.lst (ints r)) rfl (fun _ => (fz_own (fz_map (fun _ => rfl) _)))) ?_
          refine aw_gh (gh_fillc (id := 23) (j := 0) rfl rfl (Nat.le_of_ble_eq_true rfl)) ?_
          refine aw_gh (gh_to (n := 167) (σ' := [(23, ⟨[.lst (rows (SocA (CsoT r3_0 r3_1))), .hole], [(1, .ref 1006)]⟩), (1006, ⟨orows (SocB (CsoT r3_0 r3_1)), []⟩), (21, ⟨[.lst (rows (CsoT r3_0 r3_1))], []⟩), (19, ⟨[.lst (rows (CsoT r3_0 r3_1))], []⟩), (18, ⟨[.lst (rows r3_0), .lst (rows r3_1)], []⟩), (6, ⟨[.lst (rows (SocA r1_0)), .lst (rows (SocB r1_0))], []⟩), (4, ⟨[.lst (rows (SocA r1_0)), .lst (rows (SocB r1_0))], []⟩), (3, ⟨[.lst (rows r1_0)], []⟩)]) (env' := [(18, .cell 18 0), (19, .cell 19 0), (23, .cell 23 0), (24, .c (ci (cyE (CsoT r3_0 r3_1))))]) rfl rfl ⟨rfl, rfl, rfl, rfl, trivial⟩) ?_
          refine aw_gh (gh_frzE (id := 1006) (fun r => C.lst (ints r)) rfl (fun _ => (fz_own (fz_map (fun _ => rfl) _)))) ?_
          refine aw_gh (gh_fillc (id := 23) (j := 1) rfl rfl (Nat.le_of_ble_eq_true rfl)) ?_
          refine aw_gh (gh_to (n := 167) (σ' := [(23, ⟨[.lst (rows (SocA (CsoT r3_0 r3_1))), .lst (rows (SocB (CsoT r3_0 r3_1)))], []⟩), (21, ⟨[.lst (rows (CsoT r3_0 r3_1))], []⟩), (19, ⟨[.lst (rows (CsoT r3_0 r3_1))], []⟩), (18, ⟨[.lst (rows r3_0), .lst (rows r3_1)], []⟩), (6, ⟨[.lst (rows (SocA r1_0)), .lst (rows (SocB r1_0))], []⟩), (4, ⟨[.lst (rows (SocA r1_0)), .lst (rows (SocB r1_0))], []⟩), (3, ⟨[.lst (rows r1_0)], []⟩)]) (env' := [(18, .cell 18 0), (19, .cell 19 0), (23, .cell 23 0), (24, .c (ci (cyE (CsoT r3_0 r3_1))))]) rfl rfl ⟨rfl, rfl, rfl, rfl, trivial⟩) ?_
          refine aw_seq ?_
          refine aw_region ?_
          refine run_s (ss_move rfl) rfl ?_
          refine run_s (ss_eql rfl rfl) rfl ?_
          refine run_s (ss_move rfl) rfl ?_
          refine run_split (s := 158) rfl (fun q126 => ?_) (fun q126 => ?_)
          ·replace h := h.1 (of_decide_eq_true q126)
           refine run_gt rfl rfl q126 ?_
           refine run_s (ss_loadS rfl rfl rfl rfl) rfl ?_
           refine run_gt rfl rfl q126 ?_
           obtain ⟨q127, h⟩ := h
           refine run_w (ws_call (xs := [.tmp 159]) (ids := []) rfl rfl rfl rfl (c_impl_IsCycleSet (CsoT r3_0 r3_1) q127) rfl ?_ )
           rintro _ rfl
           refine ⟨rfl, ?_⟩
           refine run_s (ss_pickT rfl q126 rfl) rfl ?_
           refine run_s (ss_move rfl) rfl ?_
           refine run_split (s := 162) rfl (fun q129 => ?_) (fun q129 => ?_)
           ·replace h := h.1 (q129)
            refine run_gt rfl rfl q129 ?_
            refine run_s (ss_loadS rfl rfl rfl rfl) rfl ?_
            refine run_gt rfl rfl q129 ?_
            refine run_s (ss_loadS rfl rfl rfl rfl) rfl ?_
            refine run_gt rfl rfl q129 ?_
            obtain ⟨q130, h⟩ := h
            refine run_w (ws_call (xs := [.tmp 163, .tmp 164]) (ids := []) rfl rfl rfl rfl (c_laws_likeSolution5 (SocA (CsoT r3_0 r3_1)) (SocB (CsoT r3_0 r3_1)) r3_0 r3_1 q130) rfl ?_ )
            rintro _ rfl
            refine ⟨rfl, ?_⟩
            refine run_s (ss_pickT rfl q129 rfl) rfl ?_
            refine run_s (ss_assign rfl) rfl ?_
            refine run_nil ?_
            refine aw_ret ?_
            exact retAF_mk (retv1 rfl (rv_tmp rfl)) rfl rfl ⟨_, (cle_refl _), _, h, rfl⟩
           ·replace h := h.2 (q129)
            refine run_gf rfl rfl q129 rfl ?_
            refine run_gf rfl rfl q129 rfl ?_
            refine run_gf rfl rfl q129 rfl ?_
            refine run_s (ss_pickF rfl q129 rfl) rfl ?_
            refine run_s (ss_assign rfl) rfl ?_
            refine run_nil ?_
            refine aw_ret ?_
            exact retAF_mk (retv1 rfl (rv_tmp rfl)) rfl rfl ⟨_, (cle_refl _), _, h, rfl⟩
          ·replace h := h.2 (of_decide_eq_false q126)
           refine run_gf rfl rfl q126 rfl ?_
           refine run_gf rfl rfl q126 rfl ?_
           refine run_s (ss_pickF rfl q126 rfl) rfl ?_
           refine run_s (ss_move rfl) rfl ?_
           refine run_split (s := 162) rfl (fun q132 => ?_) (fun q132 => ?_)
           ·cases q132
           ·skip
            refine run_gf rfl rfl q132 rfl ?_
            refine run_gf rfl rfl q132 rfl ?_
            refine run_gf rfl rfl q132 rfl ?_
            refine run_s (ss_pickF rfl q132 rfl) rfl ?_
            refine run_s (ss_assign rfl) rfl ?_
            refine run_nil ?_
            refine aw_ret ?_
            exact retAF_mk (retv1 rfl (rv_tmp rfl)) rfl rfl ⟨_, (cle_refl _), _, h, rfl⟩

theorem c_laws_FnCycleSets (code : List Int) (hp : code.length ≤ 9223372036854775807 ∧ ∀ z_ ∈ code, 0 ≤ z_ ∧ z_ ≤ 255) : AF Try.prog 8 [.lst (bys code)] (fun R_ => R_ = cb true) :=
  (w_laws_FnCycleSets code (fun y0 => y0 = true) (p_laws_FnCycleSets code hp)).mono (by rintro r ⟨_, rfl, rfl⟩; rfl)

end Go.Proofs.Ytbodlnpmplcaoaa
