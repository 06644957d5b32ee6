/- Contracts of functions that the law FnConjugations reaches: conditions, plain proofs, walks; no condition. -/
import Derived.Test.YtggeeemecgmhiaaKConjugationse
namespace Go.Proofs.Ytggeeemecgmhiaa

def wp_laws_FnConjugations (code : List Int) (Q : Bool → Prop) : Prop :=
 ((4096 < (code.length : Int) →
 Q true) ∧
 (¬ (4096 < (code.length : Int)) →
 (small code ∧ bytes code) ∧
 ∀ (r1_0 : List (List Int)), ((r1_0.length : Int) ≤ 20 ∧ ∀ z_ ∈ r1_0, (z_.length : Int) ≤ 12) →
 (small2 r1_0) ∧
 (small2 r1_0) ∧
 ((¬ (CjqE r1_0 = CjqE r1_0) →
 Q false) ∧
 (CjqE r1_0 = CjqE r1_0 →
 (small2 (CjqT r1_0) ∧ small2 (CjqT r1_0)) ∧
 ((¬ ((CjqT r1_0) = (CjqT r1_0)) →
 Q false) ∧
 ((CjqT r1_0) = (CjqT r1_0) →
 ((CjqE r1_0 = 0 →
 (small2 (CjqT r1_0)) ∧
 ((¬ (rkE (CjqT r1_0) = 0) →
 Q false) ∧
 (rkE (CjqT r1_0) = 0 →
 (((isRk (CjqT r1_0) && decide (diag (CjqT r1_0) = unitI ((CjqT r1_0).length : Int))) = false →
 Q false) ∧
 ((isRk (CjqT r1_0) && decide (diag (CjqT r1_0) = unitI ((CjqT r1_0).length : Int))) = true →
 ((¬ (((CjqT r1_0).length : Int) = (r1_0.length : Int)) →
 Q false) ∧
 (((CjqT r1_0).length : Int) = (r1_0.length : Int) →
 (small code ∧ bytes code) ∧
 ∀ (r2_0 : List Int), ((r2_0.length : Int) ≤ 20 ∧ ∀ z_ ∈ r2_0, 0 ≤ z_ ∧ z_ ≤ 1000) →
 (small r2_0) ∧
 (small r2_0) ∧
 ((¬ (ClqE r2_0 = ClqE r2_0) →
 Q false) ∧
 (ClqE r2_0 = ClqE r2_0 →
 (small2 (ClqT r2_0) ∧ small2 (ClqT r2_0)) ∧
 ((¬ ((ClqT r2_0) = (ClqT r2_0)) →
 Q false) ∧
 ((ClqT r2_0) = (ClqT r2_0) →
 ((¬ (ClqE r2_0 = 0) →
 Q (decide (((ClqT r2_0).length : Int) = 0))) ∧
 (ClqE r2_0 = 0 →
 (small2 (ClqT r2_0)) ∧
 ((rkE (ClqT r2_0) = 0 →
 (((isRk (ClqT r2_0) && decide (diag (ClqT r2_0) = unitI ((ClqT r2_0).length : Int))) = true →
 (0 ≤ (r2_0.length : Int) ∧ (r2_0.length : Int) ≤ 12) ∧
 ((0 : Int) ≤ (facI (r2_0.length : Int)) ∧ (0 : Int) < ((ClqT r2_0).length : Int)) ∧
 Q (decide ((facI (r2_0.length : Int)) % ((ClqT r2_0).length : Int) = 0))) ∧
 ((isRk (ClqT r2_0) && decide (diag (ClqT r2_0) = unitI ((ClqT r2_0).length : Int))) = false →
 Q false))) ∧
 (¬ (rkE (ClqT r2_0) = 0) →
 Q false))))))))))))))) ∧
 (¬ (CjqE r1_0 = 0) →
 (small code ∧ bytes code) ∧
 ∀ (r3_0 : List Int), ((r3_0.length : Int) ≤ 20 ∧ ∀ z_ ∈ r3_0, 0 ≤ z_ ∧ z_ ≤ 1000) →
 (small r3_0) ∧
 (small r3_0) ∧
 ((¬ (ClqE r3_0 = ClqE r3_0) →
 Q false) ∧
 (ClqE r3_0 = ClqE r3_0 →
 (small2 (ClqT r3_0) ∧ small2 (ClqT r3_0)) ∧
 ((¬ ((ClqT r3_0) = (ClqT r3_0)) →
 Q false) ∧
 ((ClqT r3_0) = (ClqT r3_0) →
 ((¬ (ClqE r3_0 = 0) →
 Q (decide (((ClqT r3_0).length : Int) = 0))) ∧
 (ClqE r3_0 = 0 →
 (small2 (ClqT r3_0)) ∧
 ((rkE (ClqT r3_0) = 0 →
 (((isRk (ClqT r3_0) && decide (diag (ClqT r3_0) = unitI ((ClqT r3_0).length : Int))) = true →
 (0 ≤ (r3_0.length : Int) ∧ (r3_0.length : Int) ≤ 12) ∧
 ((0 : Int) ≤ (facI (r3_0.length : Int)) ∧ (0 : Int) < ((ClqT r3_0).length : Int)) ∧
 Q (decide ((facI (r3_0.length : Int)) % ((ClqT r3_0).length : Int) = 0))) ∧
 ((isRk (ClqT r3_0) && decide (diag (ClqT r3_0) = unitI ((ClqT r3_0).length : Int))) = false →
 Q false))) ∧
 (¬ (rkE (ClqT r3_0) = 0) →
 Q false))))))))))))))))

@[reducible] def fine2 (t : List (List Int)) : Prop := small2 t ∧ tot t ≤ 1000000000
theorem fine2_nil : fine2 [] := ⟨⟨by simp, by simp⟩, by simp [tot]⟩
theorem mem_ranf {α : Type} {n : Int} {f : Int → α} {r : α} (h : r ∈ ran n f) : ∃ i, (0 ≤ i ∧ i < n) ∧ r = f i := by
  unfold ran at h
  obtain ⟨k, hk, rfl⟩ := List.mem_map.1 h
  have := List.mem_range.1 hk
  exact ⟨k, ⟨by omega, by omega⟩, rfl⟩
theorem fine2_tab {n : Int} {f : Int → Int → Int} (h : n ≤ 1000) : fine2 (tab n f) := by
  refine ⟨⟨by simp [tab]; omega, fun r hr => ?_⟩, ?_⟩
  · obtain ⟨i, _, rfl⟩ := mem_ranf hr
    simp; omega
  · rw [tot_tab]
    have : n.toNat ≤ 1000 := by omega
    have : n.toNat * n.toNat ≤ 1000 * 1000 := Nat.mul_le_mul this this
    omega
theorem fine2_ite {c : Prop} [Decidable c] {t : List (List Int)} (h : c → fine2 t) : fine2 (if c then t else []) := by
  split
  · exact h (by assumption)
  · exact fine2_nil
theorem fine_Cjq (l : List (List Int)) : fine2 (CjqT l) := fine2_ite fun h => fine2_tab (by
  unfold CjqE at h
  split at h
  · split at h
    · cases h
    · omega
  · cases h)
theorem fine_Clq (p : List Int) : fine2 (ClqT p) := fine2_ite fun h => fine2_tab (by
  unfold ClqE at h
  split at h
  · split at h
    · cases h
    · split at h
      · cases h
      · omega
  · cases h)
theorem bytes_of {code : List Int} (hp : code.length ≤ 9223372036854775807 ∧ ∀ z_ ∈ code, 0 ≤ z_ ∧ z_ ≤ 255) (h : ¬ (4096 < (code.length : Int))) : small code ∧ bytes code :=
  ⟨by show (_ : Int) ≤ _; omega, fun i i0 i1 => hp.2 _ (el_mem ⟨i0, i1⟩)⟩
theorem rkE_t {t : List (List Int)} (h : isRk t = true) : rkE t = 0 := by unfold rkE; rw [h]; rfl
theorem cjq_small (l : List (List Int)) : small2 (CjqT l) := (fine_Cjq l).1
theorem clq_small (p : List Int) : small2 (ClqT p) := (fine_Clq p).1
theorem cjq_q {l : List (List Int)} (h : CjqE l = 0) : isRk (CjqT l) = true ∧ diag (CjqT l) = unitI ((CjqT l).length : Int) ∧ ((CjqT l).length : Int) = (l.length : Int) ∧ rkE (CjqT l) = 0 := by
  have hl : ((cjT l).length : Int) = (l.length : Int) := len_tab (by omega)
  obtain ⟨h1, h2⟩ := cjq_quandle h
  unfold CjqT
  rw [if_pos h]
  exact ⟨h1, by rw [hl]; exact h2, hl, rkE_t h1⟩
theorem clq_q {p : List Int} (h : ClqE p = 0) : isRk (ClqT p) = true ∧ diag (ClqT p) = unitI ((ClqT p).length : Int) ∧ (0 < ((ClqT p).length : Int) ∧ (p.length : Int) ≤ 12) ∧ rkE (ClqT p) = 0 ∧ facI (p.length : Int) % ((ClqT p).length : Int) = 0 := by
  obtain ⟨g1, g2, g3, g4, g5⟩ := clq_facts h
  have hl : ((cjT (clsL p)).length : Int) = ((clsL p).length : Int) := len_tab (by omega)
  obtain ⟨h1, h2⟩ := cjq_quandle g5
  have hone := cls_one g1
  obtain ⟨c, hc⟩ := cls_div g1
  rw [g4]
  refine ⟨h1, by rw [hl]; exact h2, ⟨by omega, by omega⟩, rkE_t h1, ?_⟩
  rw [hl]
  unfold facI
  rw [show (p.length : Int).toNat = p.length by omega, hc, Int.natCast_mul]
  exact Int.mul_emod_right _ _
theorem clq_no {p : List Int} (h : ¬ ClqE p = 0) : ClqT p = [] := by unfold ClqT; rw [if_neg h]
def cjgT (code : List Int) (Q : Bool → Prop) : Prop :=
     (small code ∧ bytes code) ∧
     ∀ (r3_0 : List Int), ((r3_0.length : Int) ≤ 20 ∧ ∀ z_ ∈ r3_0, 0 ≤ z_ ∧ z_ ≤ 1000) →
     (small r3_0) ∧
     (small r3_0) ∧
     ((¬ (ClqE r3_0 = ClqE r3_0) →
       Q false) ∧
     (ClqE r3_0 = ClqE r3_0 →
      (small2 (ClqT r3_0) ∧ small2 (ClqT r3_0)) ∧
      ((¬ ((ClqT r3_0) = (ClqT r3_0)) →
       Q false) ∧
      ((ClqT r3_0) = (ClqT r3_0) →
       ((¬ (ClqE r3_0 = 0) →
        Q (decide (((ClqT r3_0).length : Int) = 0))) ∧
       (ClqE r3_0 = 0 →
        (small2 (ClqT r3_0)) ∧
        ((rkE (ClqT r3_0) = 0 →
         (((isRk (ClqT r3_0) && decide (diag (ClqT r3_0) = unitI ((ClqT r3_0).length : Int))) = true →
          (0 ≤ (r3_0.length : Int) ∧ (r3_0.length : Int) ≤ 12) ∧
          ((0 : Int) ≤ (facI (r3_0.length : Int)) ∧ (0 : Int) < ((ClqT r3_0).length : Int)) ∧
          Q (decide ((facI (r3_0.length : Int)) % ((ClqT r3_0).length : Int) = 0))) ∧
         ((isRk (ClqT r3_0) && decide (diag (ClqT r3_0) = unitI ((ClqT r3_0).length : Int))) = false →
          Q false))) ∧
        (¬ (rkE (ClqT r3_0) = 0) →
         Q false))))))))
theorem cjg_ok {code : List Int} (hb : small code ∧ bytes code) : cjgT code (fun y0 => y0 = true) := by
  refine ⟨hb, fun p hp => ?_⟩
  have hs : small p := by show (_ : Int) ≤ 1000000000; omega
  refine ⟨hs, hs, fun h => absurd rfl h, fun _ => ⟨⟨clq_small p, clq_small p⟩, fun h => absurd rfl h, fun _ => ⟨fun h => ?_, fun h => ⟨clq_small p, ?_, ?_⟩⟩⟩⟩
  · rw [clq_no h]; rfl
  · intro _
    obtain ⟨h1, h2, h3, _, h5⟩ := clq_q h
    have e : (isRk (ClqT p) && decide (diag (ClqT p) = unitI ((ClqT p).length : Int))) = true := by rw [h1, decide_eq_true h2]; rfl
    refine ⟨fun _ => ⟨⟨by omega, by omega⟩, ⟨by unfold facI; omega, h3.1⟩, decide_eq_true h5⟩, fun k => absurd k (by rw [e]; simp)⟩
  · intro k
    exact absurd (clq_q h).2.2.2.1 k
theorem p_laws_FnConjugations (code : List Int) (hp : code.length ≤ 9223372036854775807 ∧ ∀ z_ ∈ code, 0 ≤ z_ ∧ z_ ≤ 255) : wp_laws_FnConjugations code (fun y0 => y0 = true) := by
  unfold wp_laws_FnConjugations
  refine ⟨fun _ => rfl, fun hc => ?_⟩
  have hb := bytes_of hp hc
  refine ⟨hb, fun l hl => ?_⟩
  have hs : small2 l := ⟨by show (_ : Int) ≤ 1000000000; omega, fun z hz => by show (_ : Int) ≤ 1000000000; have := hl.2 z hz; omega⟩
  refine ⟨hs, hs, fun h => absurd rfl h, fun _ => ⟨⟨cjq_small l, cjq_small l⟩, fun h => absurd rfl h, fun _ => ⟨fun h => ?_, fun _ => cjg_ok hb⟩⟩⟩
  obtain ⟨h1, h2, h3, h4⟩ := cjq_q h
  have e : (isRk (CjqT l) && decide (diag (CjqT l) = unitI ((CjqT l).length : Int))) = true := by rw [h1, decide_eq_true h2]; rfl
  exact ⟨cjq_small l, fun k => absurd h4 k, fun _ => ⟨fun k => absurd k (by rw [e]; simp), fun _ => ⟨fun k => absurd h3 k, fun _ => cjg_ok hb⟩⟩⟩

set_option maxRecDepth 100000 in
set_option maxHeartbeats 4000000 in
theorem w_laws_FnConjugations (code : List Int) (Q : Bool → Prop) (h : wp_laws_FnConjugations code Q) : AF Try.prog 3 [.lst (bys code)] (fun R_ => ∃ y0, Q y0 ∧ R_ = cb y0) := by
  refine AF.ofWQ (af_enter (n := 112) Try.func3 rfl (by rfl) rfl (Nat.le_of_ble_eq_true rfl) ?_)
  unfold wp_laws_FnConjugations at h
  refine aw_seq ?_
  refine aw_gh (gh_to (n := 112) (σ' := []) (env' := [(0, .c (.lst (bys code)))]) rfl rfl ⟨rfl, trivial⟩) ?_
  refine aw_region ?_
  refine run_s (ss_assign rfl) rfl ?_
  refine run_nil ?_
  refine aw_seq ?_
  refine aw_seq ?_
  refine aw_region ?_
  refine run_s (ss_move rfl) rfl ?_
  refine run_w (ws_call (xs := [.tmp 17]) (ids := []) rfl rfl rfl rfl (c_laws_big code) rfl ?_ )
  rintro _ rfl
  refine ⟨rfl, ?_⟩
  refine run_nil ?_
  refine aw_cond rfl (fun q2 => ?_) (fun q2 => ?_)
  ·replace h := h.1 (of_decide_eq_true q2)
   refine aw_seq ?_
   refine aw_gh (gh_to (n := 112) (σ' := []) (env' := [(2, .c (cb false))]) rfl rfl ⟨rfl, trivial⟩) ?_
   refine aw_region ?_
   refine run_s (ss_assign rfl) rfl ?_
   refine run_nil ?_
   refine aw_ret ?_
   exact retAF_mk (retv1 rfl (rv_tmp rfl)) rfl rfl ⟨_, (cle_refl _), _, h, rfl⟩
  ·replace h := h.2 (of_decide_eq_false q2)
   refine aw_skip ?_
   refine aw_seq ?_
   refine aw_region ?_
   refine run_s (ss_move rfl) rfl ?_
   obtain ⟨q3, h⟩ := h
   refine run_w (ws_call (xs := [.tmp 19]) (ids := [20]) rfl rfl rfl rfl (c_spec_DrawConjugationQuandle code q3) rfl ?_ )
   rintro _ ⟨r1_0, q4, rfl⟩
   replace h := h r1_0 q4
   refine ⟨rfl, ?_⟩
   refine run_s (ss_assign rfl) rfl ?_
   refine run_nil ?_
   refine aw_gh (gh_to (n := 112) (σ' := [(20, ⟨rows r1_0, []⟩)]) (env' := [(0, .c (.lst (bys code))), (3, .ref 20)]) rfl rfl ⟨rfl, rfl, trivial⟩) ?_
   refine aw_gh (gh_frzE (id := 20) (fun r => C.lst (ints r)) rfl (fun _ => rfl)) ?_
   refine aw_gh (gh_to (n := 112) (σ' := []) (env' := [(0, .c (.lst (bys code))), (3, .c (.lst (rows r1_0)))]) rfl rfl ⟨rfl, rfl, trivial⟩) ?_
   refine aw_seq ?_
   refine aw_region ?_
   refine run_s (ss_move rfl) rfl ?_
   obtain ⟨q5, h⟩ := h
   refine run_w (ws_call (xs := [.tmp 22]) (ids := [23]) rfl rfl rfl rfl (c_impl_ConjugationQuandle r1_0 q5) rfl ?_ )
   rintro _ rfl
   refine ⟨rfl, ?_⟩
   refine run_s (ss_move rfl) rfl ?_
   refine run_s (ss_extract rfl rfl) rfl ?_
   refine run_s (ss_extract rfl rfl) rfl ?_
   refine run_w (ws_alloc (id := 4) rfl (Nat.le_of_ble_eq_true rfl) ⟨rfl, ?_⟩)
   refine run_w (ws_storeS rfl rfl (Nat.le_of_ble_eq_true rfl) rfl rfl rfl ⟨rfl, ?_⟩)
   refine run_s (ss_assign rfl) rfl ?_
   refine run_nil ?_
   refine aw_gh (gh_to (n := 112) (σ' := [(4, ⟨[.hole], [(0, .ref 23)]⟩), (23, ⟨orows (CjqT r1_0), []⟩)]) (env' := [(0, .c (.lst (bys code))), (3, .c (.lst (rows r1_0))), (4, .cell 4 0), (5, .c (ci (CjqE r1_0)))]) rfl rfl ⟨rfl, rfl, rfl, rfl, trivial⟩) ?_
   refine aw_gh (gh_frzE (id := 23) (fun r => C.lst (ints r)) rfl (fun _ => (fz_own (fz_map (fun _ => rfl) _)))) ?_
   refine aw_gh (gh_fillc (id := 4) (j := 0) rfl rfl (Nat.le_of_ble_eq_true rfl)) ?_
   refine aw_gh (gh_to (n := 112) (σ' := [(4, ⟨[.lst (rows (CjqT r1_0))], []⟩)]) (env' := [(0, .c (.lst (bys code))), (3, .c (.lst (rows r1_0))), (4, .cell 4 0), (5, .c (ci (CjqE r1_0)))]) rfl rfl ⟨rfl, rfl, rfl, rfl, trivial⟩) ?_
   refine aw_seq ?_
   refine aw_seq ?_
   refine aw_region ?_
   refine run_s (ss_move rfl) rfl ?_
   obtain ⟨q7, h⟩ := h
   refine run_w (ws_call (xs := [.tmp 27]) (ids := [28]) rfl rfl rfl rfl (c_spec_ConjugationQuandle r1_0 q7) rfl ?_ )
   rintro _ rfl
   refine ⟨rfl, ?_⟩
   refine run_s (ss_move rfl) rfl ?_
   refine run_s (ss_extract rfl rfl) rfl ?_
   refine run_s (ss_extract rfl rfl) rfl ?_
   refine run_w (ws_alloc (id := 6) rfl (Nat.le_of_ble_eq_true rfl) ⟨rfl, ?_⟩)
   refine run_w (ws_storeS rfl rfl (Nat.le_of_ble_eq_true rfl) rfl rfl rfl ⟨rfl, ?_⟩)
   refine run_s (ss_assign rfl) rfl ?_
   refine run_nil ?_
   refine aw_gh (gh_to (n := 112) (σ' := [(6, ⟨[.hole], [(0, .ref 28)]⟩), (28, ⟨orows (CjqT r1_0), []⟩), (4, ⟨[.lst (rows (CjqT r1_0))], []⟩)]) (env' := [(0, .c (.lst (bys code))), (3, .c (.lst (rows r1_0))), (4, .cell 4 0), (5, .c (ci (CjqE r1_0))), (6, .cell 6 0), (7, .c (ci (CjqE r1_0)))]) rfl rfl ⟨rfl, rfl, rfl, rfl, rfl, rfl, trivial⟩) ?_
   refine aw_gh (gh_frzE (id := 28) (fun r => C.lst (ints r)) rfl (fun _ => (fz_own (fz_map (fun _ => rfl) _)))) ?_
   refine aw_gh (gh_fillc (id := 6) (j := 0) rfl rfl (Nat.le_of_ble_eq_true rfl)) ?_
   refine aw_gh (gh_to (n := 112) (σ' := [(6, ⟨[.lst (rows (CjqT r1_0))], []⟩), (4, ⟨[.lst (rows (CjqT r1_0))], []⟩)]) (env' := [(0, .c (.lst (bys code))), (3, .c (.lst (rows r1_0))), (4, .cell 4 0), (5, .c (ci (CjqE r1_0))), (6, .cell 6 0), (7, .c (ci (CjqE r1_0)))]) rfl rfl ⟨rfl, rfl, rfl, rfl, rfl, rfl, trivial⟩) ?_
   refine aw_seq ?_
   refine aw_region ?_
   refine run_s (ss_move rfl) rfl ?_
   refine run_s (ss_move rfl) rfl ?_
   refine run_s (ss_neq rfl rfl) rfl ?_
   refine run_s (ss_move rfl) rfl ?_
   refine run_split (s := 34) rfl (fun q9 => ?_) (fun q9 => ?_)
   ·replace h := h.1 (of_decide_eq_false (bnot_t q9))
    refine run_gf rfl rfl q9 rfl ?_
    refine run_gf rfl rfl q9 rfl ?_
    refine run_gf rfl rfl q9 rfl ?_
    refine run_gf rfl rfl q9 rfl ?_
    refine run_gf rfl rfl q9 rfl ?_
    refine run_gf rfl rfl q9 rfl ?_
    refine run_s (ss_pickT rfl q9 rfl) rfl ?_
    refine run_nil ?_
    refine aw_cond rfl (fun q10 => ?_) (fun q10 => ?_)
    ·skip
     refine aw_seq ?_
     refine aw_gh (gh_to (n := 112) (σ' := [(6, ⟨[.lst (rows (CjqT r1_0))], []⟩), (4, ⟨[.lst (rows (CjqT r1_0))], []⟩)]) (env' := []) rfl rfl trivial) ?_
     refine aw_region ?_
     refine run_s (ss_assign rfl) rfl ?_
     refine run_nil ?_
     refine aw_ret ?_
     exact retAF_mk (retv1 rfl (rv_tmp rfl)) rfl rfl ⟨_, (cle_refl _), _, h, rfl⟩
    ·cases q10
   ·replace h := h.2 (of_decide_eq_true (bnot_f q9))
    refine run_gt rfl rfl q9 ?_
    refine run_s (ss_field_cell rfl) rfl ?_
    refine run_gt rfl rfl q9 ?_
    refine run_s (ss_loadC rfl rfl rfl rfl rfl) rfl ?_
    refine run_gt rfl rfl q9 ?_
    refine run_s (ss_field_cell rfl) rfl ?_
    refine run_gt rfl rfl q9 ?_
    refine run_s (ss_loadC rfl rfl rfl rfl rfl) rfl ?_
    refine run_gt rfl rfl q9 ?_
    obtain ⟨q11, h⟩ := h
    refine run_w (ws_call (xs := [.tmp 36, .tmp 38]) (ids := []) rfl rfl rfl rfl (c_laws_same9 (CjqT r1_0) (CjqT r1_0) q11) rfl ?_ )
    rintro _ rfl
    refine ⟨rfl, ?_⟩
    refine run_gt rfl rfl q9 ?_
    refine run_s (ss_not rfl) rfl ?_
    refine run_s (ss_pickF rfl q9 rfl) rfl ?_
    refine run_nil ?_
    refine aw_cond rfl (fun q13 => ?_) (fun q13 => ?_)
    ·replace h := h.1 (of_decide_eq_false (bnot_t q13))
     refine aw_seq ?_
     refine aw_gh (gh_to (n := 112) (σ' := [(6, ⟨[.lst (rows (CjqT r1_0))], []⟩), (4, ⟨[.lst (rows (CjqT r1_0))], []⟩)]) (env' := []) rfl rfl trivial) ?_
     refine aw_region ?_
     refine run_s (ss_assign rfl) rfl ?_
     refine run_nil ?_
     refine aw_ret ?_
     exact retAF_mk (retv1 rfl (rv_tmp rfl)) rfl rfl ⟨_, (cle_refl _), _, h, rfl⟩
    ·replace h := h.2 (of_decide_eq_true (bnot_f q13))
     refine aw_skip ?_
     refine aw_seq ?_
     refine aw_seq ?_
     refine aw_region ?_
     refine run_s (ss_move rfl) rfl ?_
     refine run_s (ss_eql rfl rfl) rfl ?_
     refine run_nil ?_
     refine aw_cond rfl (fun q14 => ?_) (fun q14 => ?_)
     ·replace h := h.1 (of_decide_eq_true q14)
      refine aw_seq ?_
      refine aw_region ?_
      refine run_s (ss_loadS rfl rfl rfl rfl) rfl ?_
      obtain ⟨q15, h⟩ := h
      refine run_w (ws_call (xs := [.tmp 45]) (ids := []) rfl rfl rfl rfl (c_impl_IsQuandle (CjqT r1_0) q15) rfl ?_ )
      rintro _ rfl
      refine ⟨rfl, ?_⟩
      refine run_s (ss_move rfl) rfl ?_
      refine run_s (ss_extract rfl rfl) rfl ?_
      refine run_s (ss_extract rfl rfl) rfl ?_
      refine run_s (ss_assign rfl) rfl ?_
      refine run_s (ss_assign rfl) rfl ?_
      refine run_nil ?_
      refine aw_seq ?_
      refine aw_region ?_
      refine run_s (ss_move rfl) rfl ?_
      refine run_s (ss_neq rfl rfl) rfl ?_
      refine run_s (ss_move rfl) rfl ?_
      refine run_split (s := 51) rfl (fun q17 => ?_) (fun q17 => ?_)
      ·replace h := h.1 (of_decide_eq_false (bnot_t q17))
       refine run_gf rfl rfl q17 rfl ?_
       refine run_gf rfl rfl q17 rfl ?_
       refine run_s (ss_pickT rfl q17 rfl) rfl ?_
       refine run_s (ss_move rfl) rfl ?_
       refine run_split (s := 55) rfl (fun q18 => ?_) (fun q18 => ?_)
       ·skip
        refine run_gf rfl rfl q18 rfl ?_
        refine run_gf rfl rfl q18 rfl ?_
        refine run_gf rfl rfl q18 rfl ?_
        refine run_gf rfl rfl q18 rfl ?_
        refine run_gf rfl rfl q18 rfl ?_
        refine run_gf rfl rfl q18 rfl ?_
        refine run_s (ss_pickT rfl q18 rfl) rfl ?_
        refine run_nil ?_
        refine aw_cond rfl (fun q19 => ?_) (fun q19 => ?_)
        ·skip
         refine aw_seq ?_
         refine aw_gh (gh_to (n := 112) (σ' := [(6, ⟨[.lst (rows (CjqT r1_0))], []⟩), (4, ⟨[.lst (rows (CjqT r1_0))], []⟩)]) (env' := []) rfl rfl trivial) ?_
         refine aw_region ?_
         refine run_s (ss_assign rfl) rfl ?_
         refine run_nil ?_
         refine aw_ret ?_
         exact retAF_mk (retv1 rfl (rv_tmp rfl)) rfl rfl ⟨_, (cle_refl _), _, h, rfl⟩
        ·cases q19
       ·cases q18
      ·replace h := h.2 (of_decide_eq_true (bnot_f q17))
       refine run_gt rfl rfl q17 ?_
       refine run_s (ss_move rfl) rfl ?_
       refine run_gt rfl rfl q17 ?_
       refine run_s (ss_not rfl) rfl ?_
       refine run_s (ss_pickF rfl q17 rfl) rfl ?_
       refine run_s (ss_move rfl) rfl ?_
       refine run_split (s := 55) rfl (fun q20 => ?_) (fun q20 => ?_)
       ·replace h := h.1 ((bnot_t q20))
        refine run_gf rfl rfl q20 rfl ?_
        refine run_gf rfl rfl q20 rfl ?_
        refine run_gf rfl rfl q20 rfl ?_
        refine run_gf rfl rfl q20 rfl ?_
        refine run_gf rfl rfl q20 rfl ?_
        refine run_gf rfl rfl q20 rfl ?_
        refine run_s (ss_pickT rfl q20 rfl) rfl ?_
        refine run_nil ?_
        refine aw_cond rfl (fun q21 => ?_) (fun q21 => ?_)
        ·skip
         refine aw_seq ?_
         refine aw_gh (gh_to (n := 112) (σ' := [(6, ⟨[.lst (rows (CjqT r1_0))], []⟩), (4, ⟨[.lst (rows (CjqT r1_0))], []⟩)]) (env' := []) rfl rfl trivial) ?_
         refine aw_region ?_
         refine run_s (ss_assign rfl) rfl ?_
         refine run_nil ?_
         refine aw_ret ?_
         exact retAF_mk (retv1 rfl (rv_tmp rfl)) rfl rfl ⟨_, (cle_refl _), _, h, rfl⟩
        ·cases q21
       ·replace h := h.2 ((bnot_f q20))
        refine run_gt rfl rfl q20 ?_
        refine run_s (ss_field_cell rfl) rfl ?_
        refine run_gt rfl rfl q20 ?_
        refine run_s (ss_loadC rfl rfl rfl rfl rfl) rfl ?_
        refine run_gt rfl rfl q20 ?_
        refine run_s (ss_lenL (f := (fun r => C.lst (ints r))) rfl) rfl ?_
        refine run_gt rfl rfl q20 ?_
        refine run_s (ss_move rfl) rfl ?_
        refine run_gt rfl rfl q20 ?_
        refine run_s (ss_lenL (f := (fun r => C.lst (ints r))) rfl) rfl ?_
        refine run_gt rfl rfl q20 ?_
        refine run_s (ss_neq rfl rfl) rfl ?_
        refine run_s (ss_pickF rfl q20 rfl) rfl ?_
        refine run_nil ?_
        refine aw_cond rfl (fun q22 => ?_) (fun q22 => ?_)
        ·replace h := h.1 (of_decide_eq_false (bnot_t q22))
         refine aw_seq ?_
         refine aw_gh (gh_to (n := 112) (σ' := [(6, ⟨[.lst (rows (CjqT r1_0))], []⟩), (4, ⟨[.lst (rows (CjqT r1_0))], []⟩)]) (env' := []) rfl rfl trivial) ?_
         refine aw_region ?_
         refine run_s (ss_assign rfl) rfl ?_
         refine run_nil ?_
         refine aw_ret ?_
         exact retAF_mk (retv1 rfl (rv_tmp rfl)) rfl rfl ⟨_, (cle_refl _), _, h, rfl⟩
        ·replace h := h.2 (of_decide_eq_true (bnot_f q22))
         refine aw_skip ?_
         refine aw_seq ?_
         refine aw_gh (gh_to (n := 112) (σ' := [(6, ⟨[.lst (rows (CjqT r1_0))], []⟩), (4, ⟨[.lst (rows (CjqT r1_0))], []⟩)]) (env' := [(0, .c (.lst (bys code)))]) rfl rfl ⟨rfl, trivial⟩) ?_
         refine aw_region ?_
         refine run_s (ss_move rfl) rfl ?_
         obtain ⟨q23, h⟩ := h
         refine run_w (ws_call (xs := [.tmp 63]) (ids := [64]) rfl rfl rfl rfl (c_spec_DrawClassQuandle code q23) rfl ?_ )
         rintro _ ⟨r2_0, q24, rfl⟩
         replace h := h r2_0 q24
         refine ⟨rfl, ?_⟩
         refine run_s (ss_assign rfl) rfl ?_
         refine run_nil ?_
         refine aw_gh (gh_to (n := 112) (σ' := [(64, ⟨ints r2_0, []⟩), (6, ⟨[.lst (rows (CjqT r1_0))], []⟩), (4, ⟨[.lst (rows (CjqT r1_0))], []⟩)]) (env' := [(10, .ref 64)]) rfl rfl ⟨rfl, trivial⟩) ?_
         refine aw_gh (gh_frzE (id := 64) ci rfl (fun _ => rfl)) ?_
         refine aw_gh (gh_to (n := 112) (σ' := [(6, ⟨[.lst (rows (CjqT r1_0))], []⟩), (4, ⟨[.lst (rows (CjqT r1_0))], []⟩)]) (env' := [(10, .c (.lst (ints r2_0)))]) rfl rfl ⟨rfl, trivial⟩) ?_
         refine aw_seq ?_
         refine aw_region ?_
         refine run_s (ss_move rfl) rfl ?_
         obtain ⟨q25, h⟩ := h
         refine run_w (ws_call (xs := [.tmp 66]) (ids := [67]) rfl rfl rfl rfl (c_impl_ClassQuandle r2_0 q25) rfl ?_ )
         rintro _ rfl
         refine ⟨rfl, ?_⟩
         refine run_s (ss_move rfl) rfl ?_
         refine run_s (ss_extract rfl rfl) rfl ?_
         refine run_s (ss_extract rfl rfl) rfl ?_
         refine run_w (ws_alloc (id := 11) rfl (Nat.le_of_ble_eq_true rfl) ⟨rfl, ?_⟩)
         refine run_w (ws_storeS rfl rfl (Nat.le_of_ble_eq_true rfl) rfl rfl rfl ⟨rfl, ?_⟩)
         refine run_s (ss_assign rfl) rfl ?_
         refine run_nil ?_
         refine aw_gh (gh_to (n := 112) (σ' := [(11, ⟨[.hole], [(0, .ref 67)]⟩), (67, ⟨orows (ClqT r2_0), []⟩), (6, ⟨[.lst (rows (CjqT r1_0))], []⟩), (4, ⟨[.lst (rows (CjqT r1_0))], []⟩)]) (env' := [(10, .c (.lst (ints r2_0))), (11, .cell 11 0), (12, .c (ci (ClqE r2_0)))]) rfl rfl ⟨rfl, rfl, rfl, trivial⟩) ?_
         refine aw_gh (gh_frzE (id := 67) (fun r => C.lst (ints r)) rfl (fun _ => (fz_own (fz_map (fun _ => rfl) _)))) ?_
         refine aw_gh (gh_fillc (id := 11) (j := 0) rfl rfl (Nat.le_of_ble_eq_true rfl)) ?_
         refine aw_gh (gh_to (n := 112) (σ' := [(11, ⟨[.lst (rows (ClqT r2_0))], []⟩), (6, ⟨[.lst (rows (CjqT r1_0))], []⟩), (4, ⟨[.lst (rows (CjqT r1_0))], []⟩)]) (env' := [(10, .c (.lst (ints r2_0))), (11, .cell 11 0), (12, .c (ci (ClqE r2_0)))]) rfl rfl ⟨rfl, rfl, rfl, trivial⟩) ?_
         refine aw_seq ?_
         refine aw_seq ?_
         refine aw_region ?_
         refine run_s (ss_move rfl) rfl ?_
         obtain ⟨q27, h⟩ := h
         refine run_w (ws_call (xs := [.tmp 71]) (ids := [72]) rfl rfl rfl rfl (c_spec_ClassQuandle r2_0 q27) rfl ?_ )
         rintro _ rfl
         refine ⟨rfl, ?_⟩
         refine run_s (ss_move rfl) rfl ?_
         refine run_s (ss_extract rfl rfl) rfl ?_
         refine run_s (ss_extract rfl rfl) rfl ?_
         refine run_w (ws_alloc (id := 13) rfl (Nat.le_of_ble_eq_true rfl) ⟨rfl, ?_⟩)
         refine run_w (ws_storeS rfl rfl (Nat.le_of_ble_eq_true rfl) rfl rfl rfl ⟨rfl, ?_⟩)
         refine run_s (ss_assign rfl) rfl ?_
         refine run_nil ?_
         refine aw_gh (gh_to (n := 112) (σ' := [(13, ⟨[.hole], [(0, .ref 72)]⟩), (72, ⟨orows (ClqT r2_0), []⟩), (11, ⟨[.lst (rows (ClqT r2_0))], []⟩), (6, ⟨[.lst (rows (CjqT r1_0))], []⟩), (4, ⟨[.lst (rows (CjqT r1_0))], []⟩)]) (env' := [(10, .c (.lst (ints r2_0))), (11, .cell 11 0), (12, .c (ci (ClqE r2_0))), (13, .cell 13 0), (14, .c (ci (ClqE r2_0)))]) rfl rfl ⟨rfl, rfl, rfl, rfl, rfl, trivial⟩) ?_
         refine aw_gh (gh_frzE (id := 72) (fun r => C.lst (ints r)) rfl (fun _ => (fz_own (fz_map (fun _ => rfl) _)))) ?_
         refine aw_gh (gh_fillc (id := 13) (j := 0) rfl rfl (Nat.le_of_ble_eq_true rfl)) ?_
         refine aw_gh (gh_to (n := 112) (σ' := [(13, ⟨[.lst (rows (ClqT r2_0))], []⟩), (11, ⟨[.lst (rows (ClqT r2_0))], []⟩), (6, ⟨[.lst (rows (CjqT r1_0))], []⟩), (4, ⟨[.lst (rows (CjqT r1_0))], []⟩)]) (env' := [(10, .c (.lst (ints r2_0))), (11, .cell 11 0), (12, .c (ci (ClqE r2_0))), (13, .cell 13 0), (14, .c (ci (ClqE r2_0)))]) rfl rfl ⟨rfl, rfl, rfl, rfl, rfl, trivial⟩) ?_
         refine aw_seq ?_
         refine aw_region ?_
         refine run_s (ss_move rfl) rfl ?_
         refine run_s (ss_move rfl) rfl ?_
         refine run_s (ss_neq rfl rfl) rfl ?_
         refine run_s (ss_move rfl) rfl ?_
         refine run_split (s := 78) rfl (fun q29 => ?_) (fun q29 => ?_)
         ·replace h := h.1 (of_decide_eq_false (bnot_t q29))
          refine run_gf rfl rfl q29 rfl ?_
          refine run_gf rfl rfl q29 rfl ?_
          refine run_gf rfl rfl q29 rfl ?_
          refine run_gf rfl rfl q29 rfl ?_
          refine run_gf rfl rfl q29 rfl ?_
          refine run_gf rfl rfl q29 rfl ?_
          refine run_s (ss_pickT rfl q29 rfl) rfl ?_
          refine run_nil ?_
          refine aw_cond rfl (fun q30 => ?_) (fun q30 => ?_)
          ·skip
           refine aw_seq ?_
           refine aw_gh (gh_to (n := 112) (σ' := [(13, ⟨[.lst (rows (ClqT r2_0))], []⟩), (11, ⟨[.lst (rows (ClqT r2_0))], []⟩), (6, ⟨[.lst (rows (CjqT r1_0))], []⟩), (4, ⟨[.lst (rows (CjqT r1_0))], []⟩)]) (env' := []) rfl rfl trivial) ?_
           refine aw_region ?_
           refine run_s (ss_assign rfl) rfl ?_
           refine run_nil ?_
           refine aw_ret ?_
           exact retAF_mk (retv1 rfl (rv_tmp rfl)) rfl rfl ⟨_, (cle_refl _), _, h, rfl⟩
          ·cases q30
         ·replace h := h.2 (of_decide_eq_true (bnot_f q29))
          refine run_gt rfl rfl q29 ?_
          refine run_s (ss_field_cell rfl) rfl ?_
          refine run_gt rfl rfl q29 ?_
          refine run_s (ss_loadC rfl rfl rfl rfl rfl) rfl ?_
          refine run_gt rfl rfl q29 ?_
          refine run_s (ss_field_cell rfl) rfl ?_
          refine run_gt rfl rfl q29 ?_
          refine run_s (ss_loadC rfl rfl rfl rfl rfl) rfl ?_
          refine run_gt rfl rfl q29 ?_
          obtain ⟨q31, h⟩ := h
          refine run_w (ws_call (xs := [.tmp 80, .tmp 82]) (ids := []) rfl rfl rfl rfl (c_laws_same9 (ClqT r2_0) (ClqT r2_0) q31) rfl ?_ )
          rintro _ rfl
          refine ⟨rfl, ?_⟩
          refine run_gt rfl rfl q29 ?_
          refine run_s (ss_not rfl) rfl ?_
          refine run_s (ss_pickF rfl q29 rfl) rfl ?_
          refine run_nil ?_
          refine aw_cond rfl (fun q33 => ?_) (fun q33 => ?_)
          ·replace h := h.1 (of_decide_eq_false (bnot_t q33))
           refine aw_seq ?_
           refine aw_gh (gh_to (n := 112) (σ' := [(13, ⟨[.lst (rows (ClqT r2_0))], []⟩), (11, ⟨[.lst (rows (ClqT r2_0))], []⟩), (6, ⟨[.lst (rows (CjqT r1_0))], []⟩), (4, ⟨[.lst (rows (CjqT r1_0))], []⟩)]) (env' := []) rfl rfl trivial) ?_
           refine aw_region ?_
           refine run_s (ss_assign rfl) rfl ?_
           refine run_nil ?_
           refine aw_ret ?_
           exact retAF_mk (retv1 rfl (rv_tmp rfl)) rfl rfl ⟨_, (cle_refl _), _, h, rfl⟩
          ·replace h := h.2 (of_decide_eq_true (bnot_f q33))
           refine aw_skip ?_
           refine aw_seq ?_
           refine aw_seq ?_
           refine aw_region ?_
           refine run_s (ss_move rfl) rfl ?_
           refine run_s (ss_neq rfl rfl) rfl ?_
           refine run_nil ?_
           refine aw_cond rfl (fun q34 => ?_) (fun q34 => ?_)
           ·replace h := h.1 (of_decide_eq_false (bnot_t q34))
            refine aw_seq ?_
            refine aw_gh (gh_to (n := 112) (σ' := [(13, ⟨[.lst (rows (ClqT r2_0))], []⟩), (11, ⟨[.lst (rows (ClqT r2_0))], []⟩), (6, ⟨[.lst (rows (CjqT r1_0))], []⟩), (4, ⟨[.lst (rows (CjqT r1_0))], []⟩)]) (env' := [(11, .cell 11 0)]) rfl rfl ⟨rfl, trivial⟩) ?_
            refine aw_region ?_
            refine run_s (ss_field_cell rfl) rfl ?_
            refine run_s (ss_loadC rfl rfl rfl rfl rfl) rfl ?_
            refine run_s (ss_lenL (f := (fun r => C.lst (ints r))) rfl) rfl ?_
            refine run_s (ss_eql rfl rfl) rfl ?_
            refine run_s (ss_assign rfl) rfl ?_
            refine run_nil ?_
            refine aw_ret ?_
            exact retAF_mk (retv1 rfl (rv_tmp rfl)) rfl rfl ⟨_, (cle_refl _), _, h, rfl⟩
           ·replace h := h.2 (of_decide_eq_true (bnot_f q34))
            refine aw_skip ?_
            refine aw_seq ?_
            refine aw_region ?_
            refine run_s (ss_loadS rfl rfl rfl rfl) rfl ?_
            obtain ⟨q35, h⟩ := h
            refine run_w (ws_call (xs := [.tmp 93]) (ids := []) rfl rfl rfl rfl (c_impl_IsQuandle (ClqT r2_0) q35) rfl ?_ )
            rintro _ rfl
            refine ⟨rfl, ?_⟩
            refine run_s (ss_move rfl) rfl ?_
            refine run_s (ss_extract rfl rfl) rfl ?_
            refine run_s (ss_extract rfl rfl) rfl ?_
            refine run_s (ss_assign rfl) rfl ?_
            refine run_s (ss_assign rfl) rfl ?_
            refine run_nil ?_
            refine aw_seq ?_
            refine aw_gh (gh_to (n := 112) (σ' := [(13, ⟨[.lst (rows (ClqT r2_0))], []⟩), (11, ⟨[.lst (rows (ClqT r2_0))], []⟩), (6, ⟨[.lst (rows (CjqT r1_0))], []⟩), (4, ⟨[.lst (rows (CjqT r1_0))], []⟩)]) (env' := [(10, .c (.lst (ints r2_0))), (11, .cell 11 0), (15, .c (cb (isRk (ClqT r2_0) && decide (diag (ClqT r2_0) = unitI ((ClqT r2_0).length : Int))))), (16, .c (ci (rkE (ClqT r2_0))))]) rfl rfl ⟨rfl, rfl, rfl, rfl, trivial⟩) ?_
            refine aw_regionD (kd := kdl [0, 0, 0, 0, 0, 0, 0, 0, 2, 0, 1, 0, 0, 0, 0, 0]) (ord := [0, 1, 2, 3, 4, 5, 6, 7, 9, 10, 11, 8, 12, 13, 14, 15]) [] mixed (by kernel_rfl) ?_
            refine rd_s rfl rfl trivial (ss_move rfl) rfl ?_
            refine rd_s rfl rfl trivial (ss_eql rfl rfl) rfl ?_
            refine rd_s rfl rfl trivial (ss_move rfl) rfl ?_
            refine rd_split (s := 99) rfl (fun q37 => ?_) (fun q37 => ?_)
            ·replace h := h.1 (of_decide_eq_true q37)
             refine rd_s rfl rfl ⟨_, _, rfl, rfl, q37⟩ (ss_move rfl) rfl ?_
             refine rd_s rfl rfl trivial (ss_pickT rfl q37 rfl) rfl ?_
             refine rd_s rfl rfl trivial (ss_move rfl) rfl ?_
             refine rd_split (s := 102) rfl (fun q38 => ?_) (fun q38 => ?_)
             ·replace h := h.1 (q38)
              refine rd_s rfl rfl ⟨_, _, rfl, rfl, q38⟩ (ss_move rfl) rfl ?_
              refine rd_s rfl rfl ⟨_, _, rfl, rfl, q38⟩ (ss_lenL (f := ci) rfl) rfl ?_
              refine rd_s rfl rfl ⟨_, _, rfl, rfl, q38⟩ (ss_field_cell rfl) rfl ?_
              refine rd_l rfl rfl ⟨_, _, rfl, rfl, q38⟩ (ss_loadC rfl rfl rfl rfl rfl) rfl ?_
              refine rd_s rfl rfl ⟨_, _, rfl, rfl, q38⟩ (ss_lenL (f := (fun r => C.lst (ints r))) rfl) rfl ?_
              obtain ⟨q39, h⟩ := h
              refine rd_w rfl rfl ⟨_, _, rfl, rfl, q38⟩ rfl rfl (ws_call (xs := [.tmp 104]) (ids := []) rfl rfl rfl rfl (c_laws_fact9 (r2_0.length : Int) q39) rfl ?_ )
              rintro _ rfl
              refine ⟨rfl, ?_⟩
              obtain ⟨q41, h⟩ := h
              refine rd_s rfl rfl ⟨_, _, rfl, rfl, q38⟩ (ss_rem rfl rfl q41) rfl ?_
              refine rd_s rfl rfl ⟨_, _, rfl, rfl, q38⟩ (ss_eql rfl rfl) rfl ?_
              refine rd_s rfl rfl trivial (ss_pickT rfl q38 rfl) rfl ?_
              refine rd_s rfl rfl trivial (ss_assign rfl) rfl ?_
              refine rd_nil ?_
              refine aw_ret ?_
              exact retAF_mk (retv1 rfl (rv_tmp rfl)) rfl rfl ⟨_, (cle_refl _), _, h, rfl⟩
             ·replace h := h.2 (q38)
              refine rd_no rfl rfl rfl q38 rfl ?_
              refine rd_no rfl rfl rfl q38 rfl ?_
              refine rd_no rfl rfl rfl q38 rfl ?_
              refine rd_no rfl rfl rfl q38 rfl ?_
              refine rd_no rfl rfl rfl q38 rfl ?_
              refine rd_no rfl rfl rfl q38 rfl ?_
              refine rd_no rfl rfl rfl q38 rfl ?_
              refine rd_no rfl rfl rfl q38 rfl ?_
              refine rd_s rfl rfl trivial (ss_pickF rfl q38 rfl) rfl ?_
              refine rd_s rfl rfl trivial (ss_assign rfl) rfl ?_
              refine rd_nil ?_
              refine aw_ret ?_
              exact retAF_mk (retv1 rfl (rv_tmp rfl)) rfl rfl ⟨_, (cle_refl _), _, h, rfl⟩
            ·replace h := h.2 (of_decide_eq_false q37)
             refine rd_no rfl rfl rfl q37 rfl ?_
             refine rd_s rfl rfl trivial (ss_pickF rfl q37 rfl) rfl ?_
             refine rd_s rfl rfl trivial (ss_move rfl) rfl ?_
             refine rd_split (s := 102) rfl (fun q42 => ?_) (fun q42 => ?_)
             ·cases q42
             ·skip
              refine rd_no rfl rfl rfl q42 rfl ?_
              refine rd_no rfl rfl rfl q42 rfl ?_
              refine rd_no rfl rfl rfl q42 rfl ?_
              refine rd_no rfl rfl rfl q42 rfl ?_
              refine rd_no rfl rfl rfl q42 rfl ?_
              refine rd_no rfl rfl rfl q42 rfl ?_
              refine rd_no rfl rfl rfl q42 rfl ?_
              refine rd_no rfl rfl rfl q42 rfl ?_
              refine rd_s rfl rfl trivial (ss_pickF rfl q42 rfl) rfl ?_
              refine rd_s rfl rfl trivial (ss_assign rfl) rfl ?_
              refine rd_nil ?_
              refine aw_ret ?_
              exact retAF_mk (retv1 rfl (rv_tmp rfl)) rfl rfl ⟨_, (cle_refl _), _, h, rfl⟩
     ·replace h := h.2 (of_decide_eq_false q14)
      refine aw_skip ?_
      refine aw_seq ?_
      refine aw_region ?_
      refine run_s (ss_move rfl) rfl ?_
      obtain ⟨q43, h⟩ := h
      refine run_w (ws_call (xs := [.tmp 63]) (ids := [64]) rfl rfl rfl rfl (c_spec_DrawClassQuandle code q43) rfl ?_ )
      rintro _ ⟨r3_0, q44, rfl⟩
      replace h := h r3_0 q44
      refine ⟨rfl, ?_⟩
      refine run_s (ss_assign rfl) rfl ?_
      refine run_nil ?_
      refine aw_gh (gh_to (n := 112) (σ' := [(64, ⟨ints r3_0, []⟩), (6, ⟨[.lst (rows (CjqT r1_0))], []⟩), (4, ⟨[.lst (rows (CjqT r1_0))], []⟩)]) (env' := [(10, .ref 64)]) rfl rfl ⟨rfl, trivial⟩) ?_
      refine aw_gh (gh_frzE (id := 64) ci rfl (fun _ => rfl)) ?_
      refine aw_gh (gh_to (n := 112) (σ' := [(6, ⟨[.lst (rows (CjqT r1_0))], []⟩), (4, ⟨[.lst (rows (CjqT r1_0))], []⟩)]) (env' := [(10, .c (.lst (ints r3_0)))]) rfl rfl ⟨rfl, trivial⟩) ?_
      refine aw_seq ?_
      refine aw_region ?_
      refine run_s (ss_move rfl) rfl ?_
      obtain ⟨q45, h⟩ := h
      refine run_w (ws_call (xs := [.tmp 66]) (ids := [67]) rfl rfl rfl rfl (c_impl_ClassQuandle r3_0 q45) rfl ?_ )
      rintro _ rfl
      refine ⟨rfl, ?_⟩
      refine run_s (ss_move rfl) rfl ?_
      refine run_s (ss_extract rfl rfl) rfl ?_
      refine run_s (ss_extract rfl rfl) rfl ?_
      refine run_w (ws_alloc (id := 11) rfl (Nat.le_of_ble_eq_true rfl) ⟨rfl, ?_⟩)
      refine run_w (ws_storeS rfl rfl (Nat.le_of_ble_eq_true rfl) rfl rfl rfl ⟨rfl, ?_⟩)
      refine run_s (ss_assign rfl) rfl ?_
      refine run_nil ?_
      refine aw_gh (gh_to (n := 112) (σ' := [(11, ⟨[.hole], [(0, .ref 67)]⟩), (67, ⟨orows (ClqT r3_0), []⟩), (6, ⟨[.lst (rows (CjqT r1_0))], []⟩), (4, ⟨[.lst (rows (CjqT r1_0))], []⟩)]) (env' := [(10, .c (.lst (ints r3_0))), (11, .cell 11 0), (12, .c (ci (ClqE r3_0)))]) rfl rfl ⟨rfl, rfl, rfl, trivial⟩) ?_
      refine aw_gh (gh_frzE (id := 67) (fun r => C.lst (ints r)) rfl (fun _ => (fz_own (fz_map (fun _ => rfl) _)))) ?_
      refine aw_gh (gh_fillc (id := 11) (j := 0) rfl rfl (Nat.le_of_ble_eq_true rfl)) ?_
      refine aw_gh (gh_to (n := 112) (σ' := [(11, ⟨[.lst (rows (ClqT r3_0))], []⟩), (6, ⟨[.lst (rows (CjqT r1_0))], []⟩), (4, ⟨[.lst (rows (CjqT r1_0))], []⟩)]) (env' := [(10, .c (.lst (ints r3_0))), (11, .cell 11 0), (12, .c (ci (ClqE r3_0)))]) rfl rfl ⟨rfl, rfl, rfl, trivial⟩) ?_
      refine aw_seq ?_
      refine aw_seq ?_
      refine aw_region ?_
      refine run_s (ss_move rfl) rfl ?_
      obtain ⟨q47, h⟩ := h
      refine run_w (ws_call (xs := [.tmp 71]) (ids := [72]) rfl rfl rfl rfl (c_spec_ClassQuandle r3_0 q47) rfl ?_ )
      rintro _ rfl
      refine ⟨rfl, ?_⟩
      refine run_s (ss_move rfl) rfl ?_
      refine run_s (ss_extract rfl rfl) rfl ?_
      refine run_s (ss_extract rfl rfl) rfl ?_
      refine run_w (ws_alloc (id := 13) rfl (Nat.le_of_ble_eq_true rfl) ⟨rfl, ?_⟩)
      refine run_w (ws_storeS rfl rfl (Nat.le_of_ble_eq_true rfl) rfl rfl rfl ⟨rfl, ?_⟩)
      refine run_s (ss_assign rfl) rfl ?_
      refine run_nil ?_
      refine aw_gh (gh_to (n := 112) (σ' := [(13, ⟨[.hole], [(0, .ref 72)]⟩), (72, ⟨orows (ClqT r3_0), []⟩), (11, ⟨[.lst (rows (ClqT r3_0))], []⟩), (6, ⟨[.lst (rows (CjqT r1_0))], []⟩), (4, ⟨[.lst (rows (CjqT r1_0))], []⟩)]) (env' := [(10, .c (.lst (ints r3_0))), (11, .cell 11 0), (12, .c (ci (ClqE r3_0))), (13, .cell 13 0), (14, .c (ci (ClqE r3_0)))]) rfl rfl ⟨rfl, rfl, rfl, rfl, rfl, trivial⟩) ?_
      refine aw_gh (gh_frzE (id := 72) (fun r => C.lst (ints r)) rfl (fun _ => (fz_own (fz_map (fun _ => rfl) _)))) ?_
      refine aw_gh (gh_fillc (id := 13) (j := 0) rfl rfl (Nat.le_of_ble_eq_true rfl)) ?_
      refine aw_gh (gh_to (n := 112) (σ' := [(13, ⟨[.lst (rows (ClqT r3_0))], []⟩), (11, ⟨[.lst (rows (ClqT r3_0))], []⟩), (6, ⟨[.lst (rows (CjqT r1_0))], []⟩), (4, ⟨[.lst (rows (CjqT r1_0))], []⟩)]) (env' := [(10, .c (.lst (ints r3_0))), (11, .cell 11 0), (12, .c (ci (ClqE r3_0))), (13, .cell 13 0), (14, .c (ci (ClqE r3_0)))]) rfl rfl ⟨rfl, rfl, rfl, rfl, rfl, trivial⟩) ?_
      refine aw_seq ?_
      refine aw_region ?_
      refine run_s (ss_move rfl) rfl ?_
      refine run_s (ss_move rfl) rfl ?_
      refine run_s (ss_neq rfl rfl) rfl ?_
      refine run_s (ss_move rfl) rfl ?_
      refine run_split (s := 78) rfl (fun q49 => ?_) (fun q49 => ?_)
      ·replace h := h.1 (of_decide_eq_false (bnot_t q49))
       refine run_gf rfl rfl q49 rfl ?_
       refine run_gf rfl rfl q49 rfl ?_
       refine run_gf rfl rfl q49 rfl ?_
       refine run_gf rfl rfl q49 rfl ?_
       refine run_gf rfl rfl q49 rfl ?_
       refine run_gf rfl rfl q49 rfl ?_
       refine run_s (ss_pickT rfl q49 rfl) rfl ?_
       refine run_nil ?_
       refine aw_cond rfl (fun q50 => ?_) (fun q50 => ?_)
       ·skip
        refine aw_seq ?_
        refine aw_gh (gh_to (n := 112) (σ' := [(13, ⟨[.lst (rows (ClqT r3_0))], []⟩), (11, ⟨[.lst (rows (ClqT r3_0))], []⟩), (6, ⟨[.lst (rows (CjqT r1_0))], []⟩), (4, ⟨[.lst (rows (CjqT r1_0))], []⟩)]) (env' := []) rfl rfl trivial) ?_
        refine aw_region ?_
        refine run_s (ss_assign rfl) rfl ?_
        refine run_nil ?_
        refine aw_ret ?_
        exact retAF_mk (retv1 rfl (rv_tmp rfl)) rfl rfl ⟨_, (cle_refl _), _, h, rfl⟩
       ·cases q50
      ·replace h := h.2 (of_decide_eq_true (bnot_f q49))
       refine run_gt rfl rfl q49 ?_
       refine run_s (ss_field_cell rfl) rfl ?_
       refine run_gt rfl rfl q49 ?_
       refine run_s (ss_loadC rfl rfl rfl rfl rfl) rfl ?_
       refine run_gt rfl rfl q49 ?_
       refine run_s (ss_field_cell rfl) rfl ?_
       refine run_gt rfl rfl q49 ?_
       refine run_s (ss_loadC rfl rfl rfl rfl rfl) rfl ?_
       refine run_gt rfl rfl q49 ?_
       obtain ⟨q51, h⟩ := h
       refine run_w (ws_call (xs := [.tmp 80, .tmp 82]) (ids := []) rfl rfl rfl rfl (c_laws_same9 (ClqT r3_0) (ClqT r3_0) q51) rfl ?_ )
       rintro _ rfl
       refine ⟨rfl, ?_⟩
       refine run_gt rfl rfl q49 ?_
       refine run_s (ss_not rfl) rfl ?_
       refine run_s (ss_pickF rfl q49 rfl) rfl ?_
       refine run_nil ?_
       refine aw_cond rfl (fun q53 => ?_) (fun q53 => ?_)
       ·replace h := h.1 (of_decide_eq_false (bnot_t q53))
        refine aw_seq ?_
        refine aw_gh (gh_to (n := 112) (σ' := [(13, ⟨[.lst (rows (ClqT r3_0))], []⟩), (11, ⟨[.lst (rows (ClqT r3_0))], []⟩), (6, ⟨[.lst (rows (CjqT r1_0))], []⟩), (4, ⟨[.lst (rows (CjqT r1_0))], []⟩)]) (env' := []) rfl rfl trivial) ?_
        refine aw_region ?_
        refine run_s (ss_assign rfl) rfl ?_
        refine run_nil ?_
        refine aw_ret ?_
        exact retAF_mk (retv1 rfl (rv_tmp rfl)) rfl rfl ⟨_, (cle_refl _), _, h, rfl⟩
       ·replace h := h.2 (of_decide_eq_true (bnot_f q53))
        refine aw_skip ?_
        refine aw_seq ?_
        refine aw_seq ?_
        refine aw_region ?_
        refine run_s (ss_move rfl) rfl ?_
        refine run_s (ss_neq rfl rfl) rfl ?_
        refine run_nil ?_
        refine aw_cond rfl (fun q54 => ?_) (fun q54 => ?_)
        ·replace h := h.1 (of_decide_eq_false (bnot_t q54))
         refine aw_seq ?_
         refine aw_gh (gh_to (n := 112) (σ' := [(13, ⟨[.lst (rows (ClqT r3_0))], []⟩), (11, ⟨[.lst (rows (ClqT r3_0))], []⟩), (6, ⟨[.lst (rows (CjqT r1_0))], []⟩), (4, ⟨[.lst (rows (CjqT r1_0))], []⟩)]) (env' := [(11, .cell 11 0)]) rfl rfl ⟨rfl, trivial⟩) ?_
         refine aw_region ?_
         refine run_s (ss_field_cell rfl) rfl ?_
         refine run_s (ss_loadC rfl rfl rfl rfl rfl) rfl ?_
         refine run_s (ss_lenL (f := (fun r => C.lst (ints r))) rfl) rfl ?_
         refine run_s (ss_eql rfl rfl) rfl ?_
         refine run_s (ss_assign rfl) rfl ?_
         refine run_nil ?_
         refine aw_ret ?_
         exact retAF_mk (retv1 rfl (rv_tmp rfl)) rfl rfl ⟨_, (cle_refl _), _, h, rfl⟩
        ·replace h := h.2 (of_decide_eq_true (bnot_f q54))
         refine aw_skip ?_
         refine aw_seq ?_
         refine aw_region ?_
         refine run_s (ss_loadS rfl rfl rfl rfl) rfl ?_
         obtain ⟨q55, h⟩ := h
         refine run_w (ws_call (xs := [.tmp 93]) (ids := []) rfl rfl rfl rfl (c_impl_IsQuandle (ClqT r3_0) q55) rfl ?_ )
         rintro _ rfl
         refine ⟨rfl, ?_⟩
         refine run_s (ss_move rfl) rfl ?_
         refine run_s (ss_extract rfl rfl) rfl ?_
         refine run_s (ss_extract rfl rfl) rfl ?_
         refine run_s (ss_assign rfl) rfl ?_
         refine run_s (ss_assign rfl) rfl ?_
         refine run_nil ?_
         refine aw_seq ?_
         refine aw_gh (gh_to (n := 112) (σ' := [(13, ⟨[.lst (rows (ClqT r3_0))], []⟩), (11, ⟨[.lst (rows (ClqT r3_0))], []⟩), (6, ⟨[.lst (rows (CjqT r1_0))], []⟩), (4, ⟨[.lst (rows (CjqT r1_0))], []⟩)]) (env' := [(10, .c (.lst (ints r3_0))), (11, .cell 11 0), (15, .c (cb (isRk (ClqT r3_0) && decide (diag (ClqT r3_0) = unitI ((ClqT r3_0).length : Int))))), (16, .c (ci (rkE (ClqT r3_0))))]) rfl rfl ⟨rfl, rfl, rfl, rfl, trivial⟩) ?_
         refine aw_regionD (kd := kdl [0, 0, 0, 0, 0, 0, 0, 0, 2, 0, 1, 0, 0, 0, 0, 0]) (ord := [0, 1, 2, 3, 4, 5, 6, 7, 9, 10, 11, 8, 12, 13, 14, 15]) [] mixed (by kernel_rfl) ?_
         refine rd_s rfl rfl trivial (ss_move rfl) rfl ?_
         refine rd_s rfl rfl trivial (ss_eql rfl rfl) rfl ?_
         refine rd_s rfl rfl trivial (ss_move rfl) rfl ?_
         refine rd_split (s := 99) rfl (fun q57 => ?_) (fun q57 => ?_)
         ·replace h := h.1 (of_decide_eq_true q57)
          refine rd_s rfl rfl ⟨_, _, rfl, rfl, q57⟩ (ss_move rfl) rfl ?_
          refine rd_s rfl rfl trivial (ss_pickT rfl q57 rfl) rfl ?_
          refine rd_s rfl rfl trivial (ss_move rfl) rfl ?_
          refine rd_split (s := 102) rfl (fun q58 => ?_) (fun q58 => ?_)
          ·replace h := h.1 (q58)
           refine rd_s rfl rfl ⟨_, _, rfl, rfl, q58⟩ (ss_move rfl) rfl ?_
           refine rd_s rfl rfl ⟨_, _, rfl, rfl, q58⟩ (ss_lenL (f := ci) rfl) rfl ?_
           refine rd_s rfl rfl ⟨_, _, rfl, rfl, q58⟩ (ss_field_cell rfl) rfl ?_
           refine rd_l rfl rfl ⟨_, _, rfl, rfl, q58⟩ (ss_loadC rfl rfl rfl rfl rfl) rfl ?_
           refine rd_s rfl rfl ⟨_, _, rfl, rfl, q58⟩ (ss_lenL (f := (fun r => C.lst (ints r))) rfl) rfl ?_
           obtain ⟨q59, h⟩ := h
           refine rd_w rfl rfl ⟨_, _, rfl, rfl, q58⟩ rfl rfl (ws_call (xs := [.tmp 104]) (ids := []) rfl rfl rfl rfl (c_laws_fact9 (r3_0.length : Int) q59) rfl ?_ )
           rintro _ rfl
           refine ⟨rfl, ?_⟩
           obtain ⟨q61, h⟩ := h
           refine rd_s rfl rfl ⟨_, _, rfl, rfl, q58⟩ (ss_rem rfl rfl q61) rfl ?_
           refine rd_s rfl rfl ⟨_, _, rfl, rfl, q58⟩ (ss_eql rfl rfl) rfl ?_
           refine rd_s rfl rfl trivial (ss_pickT rfl q58 rfl) rfl ?_
           refine rd_s rfl rfl trivial (ss_assign rfl) rfl ?_
           refine rd_nil ?_
           refine aw_ret ?_
           exact retAF_mk (retv1 rfl (rv_tmp rfl)) rfl rfl ⟨_, (cle_refl _), _, h, rfl⟩
          ·replace h := h.2 (q58)
           refine rd_no rfl rfl rfl q58 rfl ?_
           refine rd_no rfl rfl rfl q58 rfl ?_
           refine rd_no rfl rfl rfl q58 rfl ?_
           refine rd_no rfl rfl rfl q58 rfl ?_
           refine rd_no rfl rfl rfl q58 rfl ?_
           refine rd_no rfl rfl rfl q58 rfl ?_
           refine rd_no rfl rfl rfl q58 rfl ?_
           refine rd_no rfl rfl rfl q58 rfl ?_
           refine rd_s rfl rfl trivial (ss_pickF rfl q58 rfl) rfl ?_
           refine rd_s rfl rfl trivial (ss_assign rfl) rfl ?_
           refine rd_nil ?_
           refine aw_ret ?_
           exact retAF_mk (retv1 rfl (rv_tmp rfl)) rfl rfl ⟨_, (cle_refl _), _, h, rfl⟩
         ·replace h := h.2 (of_decide_eq_false q57)
          refine rd_no rfl rfl rfl q57 rfl ?_
          refine rd_s rfl rfl trivial (ss_pickF rfl q57 rfl) rfl ?_
          refine rd_s rfl rfl trivial (ss_move rfl) rfl ?_
          refine rd_split (s := 102) rfl (fun q62 => ?_) (fun q62 => ?_)
          ·cases q62
          ·skip
           refine rd_no rfl rfl rfl q62 rfl ?_
           refine rd_no rfl rfl rfl q62 rfl ?_
           refine rd_no rfl rfl rfl q62 rfl ?_
           refine rd_no rfl rfl rfl q62 rfl ?_
           refine rd_no rfl rfl rfl q62 rfl ?_
           refine rd_no rfl rfl rfl q62 rfl ?_
           refine rd_no rfl rfl rfl q62 rfl ?_
           refine rd_no rfl rfl rfl q62 rfl ?_
           refine rd_s rfl rfl trivial (ss_pickF rfl q62 rfl) rfl ?_
           refine rd_s rfl rfl trivial (ss_assign rfl) rfl ?_
           refine rd_nil ?_
           refine aw_ret ?_
           exact retAF_mk (retv1 rfl (rv_tmp rfl)) rfl rfl ⟨_, (cle_refl _), _, h, rfl⟩

theorem c_laws_FnConjugations (code : List Int) (hp : code.length ≤ 9223372036854775807 ∧ ∀ z_ ∈ code, 0 ≤ z_ ∧ z_ ≤ 255) : AF Try.prog 3 [.lst (bys code)] (fun R_ => R_ = cb true) :=
  (w_laws_FnConjugations code (fun y0 => y0 = true) (p_laws_FnConjugations code hp)).mono (by rintro r ⟨_, rfl, rfl⟩; rfl)

end Go.Proofs.Ytggeeemecgmhiaa
