/- Contracts of functions that the law FnExactCycleSetText reaches: conditions, plain proofs, walks; no condition. -/
import Derived.Test.YtllimiejaijbkaaKECycleSetTexth
import Derived.Test.YtllimiejaijbkaaPi
namespace Go.Proofs.Ytllimiejaijbkaa

def wp_impl_digitsText (list : List Int) (Q : List UInt8 → Prop) : Prop :=
 (0 ≤ (list.length : Int) ∧ (list.length : Int) ≤ 1000000000) ∧
 ∃ (H1 : Int → List Int → Prop) (m1 : Int → List Int → Nat),
 H1 0 (List.replicate (list.length : Int).toNat (0 : Int)) ∧
 ∀ (v11_1 : Int) (o8_1 : List Int), H1 v11_1 o8_1 →
 ( ((v11_1 < (list.length : Int) →
   (0 ≤ v11_1 ∧ v11_1 < (list.length : Int)) ∧
   (0 ≤ el list v11_1 ∧ el list v11_1 < (([48, 49, 50, 51, 52, 53, 54, 55, 56, 57, 97, 98] : List UInt8).length : Int)) ∧
   (0 ≤ v11_1 ∧ v11_1 < (o8_1.length : Int)) ∧
   (InI (v11_1 + 1)) ∧
   (H1 (v11_1 + 1) (se o8_1 v11_1 (byt ([48, 49, 50, 51, 52, 53, 54, 55, 56, 57, 97, 98] : List UInt8) (el list v11_1))) ∧ m1 (v11_1 + 1) (se o8_1 v11_1 (byt ([48, 49, 50, 51, 52, 53, 54, 55, 56, 57, 97, 98] : List UInt8) (el list v11_1))) < m1 v11_1 o8_1)) ∧
  (¬ (v11_1 < (list.length : Int)) →
   Q (bs o8_1))))

def wp_impl_tableText (t : List (List Int)) (Q : List UInt8 → Prop) : Prop :=
 (0 ≤ (t.length : Int) ∧ (t.length : Int) ≤ 1000000000) ∧
 ∃ (H1 : Int → List (List UInt8) → Prop) (m1 : Int → List (List UInt8) → Nat),
 H1 0 (List.replicate (t.length : Int).toNat ([] : List UInt8)) ∧
 ∀ (v11_1 : Int) (o8_1 : List (List UInt8)), H1 v11_1 o8_1 →
 ( ((v11_1 < (t.length : Int) →
   (0 ≤ v11_1 ∧ v11_1 < (t.length : Int)) ∧
   (small (el t v11_1) ∧ digs (el t v11_1)) ∧
   (0 ≤ v11_1 ∧ v11_1 < (o8_1.length : Int)) ∧
   (InI (v11_1 + 1)) ∧
   (H1 (v11_1 + 1) (se o8_1 v11_1 (digI (el t v11_1))) ∧ m1 (v11_1 + 1) (se o8_1 v11_1 (digI (el t v11_1))) < m1 v11_1 o8_1)) ∧
  (¬ (v11_1 < (t.length : Int)) →
   (JoinPre o8_1 ([47] : List UInt8)) ∧
   Q (joinI o8_1 ([47] : List UInt8)))))

def wp_spec_l01Digit (x : Int) (Q : List UInt8 → Prop) : Prop :=
 ((x < 10 →
  (InI (48 + x)) ∧
  ((0 : Int) ≤ 48 + x ∧ 48 + x ≤ 255) ∧
  Q (bs ([48 + x]))) ∧
 (¬ (x < 10) →
  (InI (97 + x)) ∧
  (InI ((97 + x) - 10)) ∧
  ((0 : Int) ≤ (97 + x) - 10 ∧ (97 + x) - 10 ≤ 255) ∧
  Q (bs ([(97 + x) - 10]))))

def wp_spec_l01Line (list : List Int) (Q : List UInt8 → Prop) : Prop :=
 ∃ (H1 : List UInt8 → Int → Prop) (m1 : List UInt8 → Int → Nat),
 H1 ([] : List UInt8) 0 ∧
 ∀ (v3_1 : List UInt8) (v4_1 : Int), H1 v3_1 v4_1 →
 ( ((v4_1 < (list.length : Int) →
   (0 ≤ v4_1 ∧ v4_1 < (list.length : Int)) ∧
   (0 ≤ (el list v4_1) ∧ (el list v4_1) < 12) ∧
   ((v3_1.length : Int) + ((digI [(el list v4_1)]).length : Int) ≤ 9223372036854775807) ∧
   (InI (v4_1 + 1)) ∧
   (H1 (v3_1 ++ (digI [(el list v4_1)])) (v4_1 + 1) ∧ m1 (v3_1 ++ (digI [(el list v4_1)])) (v4_1 + 1) < m1 v3_1 v4_1)) ∧
  (¬ (v4_1 < (list.length : Int)) →
   Q v3_1)))

def wp_spec_l01Text (t : List (List Int)) (Q : List UInt8 → Prop) : Prop :=
 ∃ (H1 : List UInt8 → Int → Prop) (m1 : List UInt8 → Int → Nat),
 H1 ([] : List UInt8) 0 ∧
 ∀ (v3_1 : List UInt8) (v4_1 : Int), H1 v3_1 v4_1 →
 ( ((v4_1 < (t.length : Int) →
   ((0 < v4_1 →
    ((v3_1.length : Int) + (([47] : List UInt8).length : Int) ≤ 9223372036854775807) ∧
    (0 ≤ v4_1 ∧ v4_1 < (t.length : Int)) ∧
    (small (el t v4_1) ∧ digs (el t v4_1)) ∧
    (((v3_1 ++ ([47] : List UInt8)).length : Int) + ((digI (el t v4_1)).length : Int) ≤ 9223372036854775807) ∧
    (InI (v4_1 + 1)) ∧
    (H1 ((v3_1 ++ ([47] : List UInt8)) ++ (digI (el t v4_1))) (v4_1 + 1) ∧ m1 ((v3_1 ++ ([47] : List UInt8)) ++ (digI (el t v4_1))) (v4_1 + 1) < m1 v3_1 v4_1)) ∧
   (¬ (0 < v4_1) →
    (0 ≤ v4_1 ∧ v4_1 < (t.length : Int)) ∧
    (small (el t v4_1) ∧ digs (el t v4_1)) ∧
    ((v3_1.length : Int) + ((digI (el t v4_1)).length : Int) ≤ 9223372036854775807) ∧
    (InI (v4_1 + 1)) ∧
    (H1 (v3_1 ++ (digI (el t v4_1))) (v4_1 + 1) ∧ m1 (v3_1 ++ (digI (el t v4_1))) (v4_1 + 1) < m1 v3_1 v4_1)))) ∧
  (¬ (v4_1 < (t.length : Int)) →
   Q v3_1)))

def wp_spec_TableText (t : List (List Int)) (Q : List UInt8 → Int → Prop) : Prop :=
 (small2 t) ∧
 (((isTab t) = false →
  Q ([] : List UInt8) 1) ∧
 ((isTab t) = true →
  (isTab t = true) ∧
  Q (txtI t) 0))

def wp_spec_CycleSetText (c : List (List Int)) (Q : List UInt8 → Int → Prop) : Prop :=
 (small2 c) ∧
 Q (if isTab c then txtI c else []) (if isTab c then (0 : Int) else 1)

def wp_impl_TableText (t : List (List Int)) (Q : List UInt8 → Int → Prop) : Prop :=
 (small2 t) ∧
 (((isTab t) = false →
  Q ([] : List UInt8) 1) ∧
 ((isTab t) = true →
  (isTab t = true) ∧
  Q (txtI t) 0))

def wp_impl_CycleSetText (c : List (List Int)) (Q : List UInt8 → Int → Prop) : Prop :=
 (small2 c) ∧
 Q (if isTab c then txtI c else []) (if isTab c then (0 : Int) else 1)

theorem digs_tab : ∀ k : Nat, k < 12 → UInt8.ofNat (byt ([48, 49, 50, 51, 52, 53, 54, 55, 56, 57, 97, 98] : List UInt8) (k : Int)).toNat = dgt (k : Int) := by decide
theorem dig_at {x : Int} (h : 0 ≤ x ∧ x < 12) : UInt8.ofNat (byt ([48, 49, 50, 51, 52, 53, 54, 55, 56, 57, 97, 98] : List UInt8) x).toNat = dgt x := by
  have := digs_tab x.toNat (by omega)
  rwa [Int.toNat_of_nonneg h.1] at this
theorem p_impl_digitsText (list : List Int) (hp : small list ∧ digs list) : wp_impl_digitsText list (fun y0 => y0 = digI list) := by
  have hs : (list.length : Int) ≤ 1000000000 := hp.1
  refine ⟨⟨by omega, hs⟩, fun i o => 0 ≤ i ∧ i ≤ (list.length : Int) ∧ o.length = list.length ∧ Upto i fun j => el o j = byt ([48, 49, 50, 51, 52, 53, 54, 55, 56, 57, 97, 98] : List UInt8) (el list j), fun i _ => ((list.length : Int) - i).toNat, ⟨by omega, by omega, by simp, upto0⟩, ?_⟩
  rintro i o ⟨i0, i1, ol, oI⟩
  dsimp only
  refine ⟨fun ilt => ?_, fun ige => ?_⟩
  · exact ⟨⟨i0, ilt⟩, by simpa using hp.2 i i0 ilt, ⟨i0, by omega⟩, ⟨by omega, by omega⟩, ⟨by omega, by omega, by simpa using ol, fill1 (f := fun j => byt ([48, 49, 50, 51, 52, 53, 54, 55, 56, 57, 97, 98] : List UInt8) (el list j)) ⟨i0, by omega⟩ oI rfl⟩, by omega⟩
  · refine List.ext_getElem (by simp [bs, ol]) fun k h1 h2 => ?_
    have hk : k < list.length := by simpa [digI] using h2
    have hk2 : k < o.length := by omega
    have e1 : el o (k : Int) = o[k] := by simp [el, hk2]
    have e2 : el list (k : Int) = list[k] := by simp [el, hk]
    have e := oI (k : Int) (by omega) (by omega)
    have d := dig_at (hp.2 (k : Int) (by omega) (by omega))
    rw [← e, e1, e2] at d
    simpa [bs, digI] using d
theorem p_spec_l01Digit (x : Int) (hp : 0 ≤ x ∧ x < 12) : wp_spec_l01Digit x (fun y0 => y0 = digI [x]) :=
  ⟨fun h => ⟨⟨by omega, by omega⟩, ⟨by omega, by omega⟩, by simp [bs, digI, dgt, h]⟩, fun h => ⟨⟨by omega, by omega⟩, ⟨by omega, by omega⟩, ⟨by omega, by omega⟩, by simp [bs, digI, dgt, h]⟩⟩
theorem p_spec_l01Line (list : List Int) (hp : small list ∧ digs list) : wp_spec_l01Line list (fun y0 => y0 = digI list) := by
  have hs : (list.length : Int) ≤ 1000000000 := hp.1
  refine ⟨fun v i => 0 ≤ i ∧ i ≤ (list.length : Int) ∧ v = digI (list.take i.toNat), fun _ i => ((list.length : Int) - i).toNat, ⟨by omega, by omega, by simp [digI]⟩, ?_⟩
  rintro v i ⟨i0, i1, rfl⟩
  dsimp only
  refine ⟨fun ilt => ?_, fun ige => ?_⟩
  · exact ⟨⟨i0, ilt⟩, hp.2 i i0 ilt, by simp; omega, ⟨by omega, by omega⟩, ⟨by omega, by omega, (digI_snoc ⟨i0, ilt⟩).symm⟩, by omega⟩
  · rw [List.take_of_length_le (by omega)]
theorem p_spec_l01Text (t : List (List Int)) (ht : isTab t = true) : wp_spec_l01Text t (fun y0 => y0 = txtI t) := by
  have hn := isTab_len ht
  refine ⟨fun v i => 0 ≤ i ∧ i ≤ (t.length : Int) ∧ v = txtI (t.take i.toNat), fun _ i => ((t.length : Int) - i).toNat, ⟨by omega, by omega, by simp [txtI, joinI, Lib.join_nil]⟩, ?_⟩
  rintro v i ⟨i0, i1, rfl⟩
  dsimp only
  have hv : (txtI (t.take i.toNat)).length ≤ 13 * (t.take i.toNat).length := txt_len _ fun r hr => row_le ht r (List.mem_of_mem_take hr)
  rw [List.length_take] at hv
  refine ⟨fun ilt => ?_, fun ige => ?_⟩
  · have hl := rk_len ht (x := i) ⟨i0, ilt⟩
    refine ⟨fun h0 => ?_, fun h0 => ?_⟩
    · exact ⟨by simp; omega, ⟨i0, ilt⟩, digs_row ht ⟨i0, ilt⟩, by simp; omega, ⟨by omega, by omega⟩, ⟨by omega, by omega, (txtI_snoc ⟨h0, ilt⟩).symm⟩, by omega⟩
    · have : i = 0 := by omega
      subst this
      have hz : (txtI ([] : List (List Int))).length = 0 := by simp [txtI, joinI, Lib.join_nil]
      refine ⟨⟨i0, ilt⟩, digs_row ht ⟨i0, ilt⟩, by simp; omega, ⟨by omega, by omega⟩, ⟨by omega, by omega, ?_⟩, by omega⟩
      rw [txtI_one ilt]; simp [txtI, joinI, Lib.join_nil]
  · rw [List.take_of_length_le (by omega)]
theorem p_impl_tableText (t : List (List Int)) (ht : isTab t = true) : wp_impl_tableText t (fun y0 => y0 = txtI t) := by
  have hn := isTab_len ht
  refine ⟨⟨by omega, by omega⟩, fun i o => 0 ≤ i ∧ i ≤ (t.length : Int) ∧ o.length = t.length ∧ Upto i fun j => el o j = digI (el t j), fun i _ => ((t.length : Int) - i).toNat, ⟨by omega, by omega, by simp, upto0⟩, ?_⟩
  rintro i o ⟨i0, i1, ol, oI⟩
  dsimp only
  refine ⟨fun ilt => ?_, fun ige => ?_⟩
  · exact ⟨⟨i0, ilt⟩, digs_row ht ⟨i0, ilt⟩, ⟨i0, by omega⟩, ⟨by omega, by omega⟩, ⟨by omega, by omega, by simpa using ol, fill1 (f := fun j => digI (el t j)) ⟨i0, by omega⟩ oI rfl⟩, by omega⟩
  · have ho : o = t.map digI := List.ext_getElem (by simp [ol]) fun k h1 h2 => by
      have hk : k < t.length := by simpa using h2
      have e : el o (k : Int) = digI (el t (k : Int)) := oI (k : Int) (by omega) (by omega)
      have e1 : el o (k : Int) = o[k] := by simp [el, h1]
      have e2 : el t (k : Int) = t[k] := by simp [el, hk]
      rw [e1, e2] at e
      simpa using e
    subst ho
    have := txt_len t (row_le ht)
    exact ⟨⟨by unfold txtI at this; omega, by simp; omega⟩, rfl⟩
theorem p_spec_TableText (t : List (List Int)) (hp : small2 t) : wp_spec_TableText t (fun y0 y1 => y0 = (if isTab t then txtI t else []) ∧ y1 = (if isTab t then 0 else 1)) :=
  ⟨hp, fun h => by simp [h], fun h => ⟨h, by simp [h]⟩⟩
theorem p_impl_TableText (t : List (List Int)) (hp : small2 t) : wp_impl_TableText t (fun y0 y1 => y0 = (if isTab t then txtI t else []) ∧ y1 = (if isTab t then 0 else 1)) := p_spec_TableText t hp
theorem p_spec_CycleSetText (c : List (List Int)) (hp : small2 c) : wp_spec_CycleSetText c (fun y0 y1 => y0 = (if isTab c then txtI c else []) ∧ y1 = (if isTab c then 0 else 1)) := ⟨hp, rfl, rfl⟩
theorem p_impl_CycleSetText (c : List (List Int)) (hp : small2 c) : wp_impl_CycleSetText c (fun y0 y1 => y0 = (if isTab c then txtI c else []) ∧ y1 = (if isTab c then 0 else 1)) := ⟨hp, rfl, rfl⟩

set_option maxRecDepth 100000 in
set_option maxHeartbeats 1000000 in
theorem w_impl_digitsText (list : List Int) (Q : List UInt8 → Prop) (h : wp_impl_digitsText list Q) : AF Try.prog 133 [.lst (ints list)] (fun R_ => ∃ y0, Q y0 ∧ R_ = cs y0) := by
  refine AF.ofWQ (af_enter (n := 24) Try.func133 rfl (by rfl) rfl (Nat.le_of_ble_eq_true rfl) ?_)
  unfold wp_impl_digitsText at h
  refine aw_seq ?_
  refine aw_gh (gh_to (n := 24) (σ' := []) (env' := [(0, .c (.lst (ints list)))]) rfl rfl ⟨rfl, trivial⟩) ?_
  refine aw_region ?_
  refine run_s (ss_assign rfl) rfl ?_
  refine run_nil ?_
  refine aw_seq ?_
  refine aw_region ?_
  refine run_s (ss_move rfl) rfl ?_
  refine run_s (ss_lenL (f := ci) rfl) rfl ?_
  obtain ⟨q1, h⟩ := h
  refine run_w (ws_mk (id := 8) cy (0 : Int) rfl rfl rfl q1 (Nat.le_of_ble_eq_true rfl) rfl ⟨rfl, ?_⟩)
  refine run_s (ss_assign rfl) rfl ?_
  refine run_nil ?_
  refine aw_seq ?_
  refine aw_seq ?_
  refine aw_region ?_
  refine run_s (ss_move rfl) rfl ?_
  refine run_s (ss_lenL (f := ci) rfl) rfl ?_
  refine run_s (ss_move rfl) rfl ?_
  refine run_nil ?_
  refine aw_block ?_
  obtain ⟨H1, m1, q2, h⟩ := h
  refine aw_loop2 (fun (v11_1 : Int) (o8_1 : List Int) => ⟨[(8, ⟨bys o8_1, []⟩)], [(3, .ref 8), (9, .c (.lst (ints list))), (10, .c (ci (list.length : Int))), (11, .c (ci v11_1))], 24⟩) H1 m1 ⟨0, List.replicate (list.length : Int).toNat (0 : Int), ghe_to (n := 24) rfl rfl ⟨rfl, rfl, rfl, rfl, trivial⟩, q2⟩ ?_
  rintro v11_1 o8_1 q2
  replace h := h v11_1 o8_1 q2
  refine aw_seq ?_
  refine aw_region ?_
  refine run_s (ss_lss rfl rfl) rfl ?_
  refine run_nil ?_
  refine aw_seq ?_
  refine aw_cond rfl (fun q3 => ?_) (fun q3 => ?_)
  · replace h := h.1 (of_decide_eq_true q3)
    refine aw_skip ?_
    refine aw_seq ?_
    refine aw_block ?_
    refine aw_seq ?_
    refine aw_region ?_
    refine run_s (ss_move rfl) rfl ?_
    obtain ⟨q4, h⟩ := h
    refine run_s (ss_idxL rfl rfl q4) rfl ?_
    refine run_s (ss_loadL (f := ci) rfl q4) rfl ?_
    refine run_s (ss_assign rfl) rfl ?_
    refine run_s (ss_assign rfl) rfl ?_
    refine run_nil ?_
    refine aw_region ?_
    refine run_s (ss_move rfl) rfl ?_
    refine run_s (ss_move rfl) rfl ?_
    refine run_s (ss_move rfl) rfl ?_
    obtain ⟨q5, h⟩ := h
    refine run_s (ss_indexS (s := ([48, 49, 50, 51, 52, 53, 54, 55, 56, 57, 97, 98] : List UInt8)) rfl rfl q5) rfl ?_
    obtain ⟨q6, h⟩ := h
    refine run_s (ss_idxR (f := cy) rfl rfl rfl q6) rfl ?_
    refine run_w (ws_storeE rfl rfl (map_lt q6) rfl rfl (map_se (f := cy)) rfl ⟨rfl, ?_⟩)
    refine run_nil ?_
    refine aw_gh (gh_to (n := 24) (σ' := [(8, ⟨bys (se o8_1 v11_1 (byt ([48, 49, 50, 51, 52, 53, 54, 55, 56, 57, 97, 98] : List UInt8) (el list v11_1))), []⟩)]) (env' := [(3, .ref 8), (9, .c (.lst (ints list))), (10, .c (ci (list.length : Int))), (11, .c (ci v11_1))]) rfl rfl ⟨rfl, rfl, rfl, rfl, trivial⟩) ?_
    refine aw_region ?_
    obtain ⟨q7, h⟩ := h
    refine run_s (ss_add rfl rfl q7) rfl ?_
    refine run_s (ss_move rfl) rfl ?_
    refine run_nil ?_
    exact ⟨v11_1 + 1, se o8_1 v11_1 (byt ([48, 49, 50, 51, 52, 53, 54, 55, 56, 57, 97, 98] : List UInt8) (el list v11_1)), ghe_to (n := 24) rfl rfl ⟨rfl, rfl, rfl, rfl, trivial⟩, h.1, h.2⟩
  · replace h := h.2 (of_decide_eq_false q3)
    refine aw_exit ?_
    refine aw_seq ?_
    refine aw_region ?_
    refine run_s (ss_move rfl) rfl ?_
    refine run_s (ss_bytesR (l := o8_1) rfl rfl rfl) rfl ?_
    refine run_s (ss_assign rfl) rfl ?_
    refine run_nil ?_
    refine aw_ret ?_
    exact retAF_mk (retv1 rfl (rv_tmp rfl)) rfl rfl ⟨_, (cle_refl _), _, h, rfl⟩

theorem c_impl_digitsText (list : List Int) (hp : small list ∧ digs list) : AF Try.prog 133 [.lst (ints list)] (fun R_ => R_ = cs (digI list)) :=
  (w_impl_digitsText list (fun y0 => y0 = digI list) (p_impl_digitsText list hp)).mono (by rintro r ⟨_, rfl, rfl⟩; rfl)

set_option maxRecDepth 100000 in
set_option maxHeartbeats 1000000 in
theorem w_impl_tableText (t : List (List Int)) (Q : List UInt8 → Prop) (h : wp_impl_tableText t Q) : AF Try.prog 78 [.lst (rows t)] (fun R_ => ∃ y0, Q y0 ∧ R_ = cs y0) := by
  refine AF.ofWQ (af_enter (n := 24) Try.func78 rfl (by rfl) rfl (Nat.le_of_ble_eq_true rfl) ?_)
  unfold wp_impl_tableText at h
  refine aw_seq ?_
  refine aw_gh (gh_to (n := 24) (σ' := []) (env' := [(0, .c (.lst (rows t)))]) rfl rfl ⟨rfl, trivial⟩) ?_
  refine aw_region ?_
  refine run_s (ss_assign rfl) rfl ?_
  refine run_nil ?_
  refine aw_seq ?_
  refine aw_region ?_
  refine run_s (ss_move rfl) rfl ?_
  refine run_s (ss_lenL (f := (fun r => C.lst (ints r))) rfl) rfl ?_
  obtain ⟨q1, h⟩ := h
  refine run_w (ws_mk (id := 8) cs ([] : List UInt8) rfl rfl rfl q1 (Nat.le_of_ble_eq_true rfl) rfl ⟨rfl, ?_⟩)
  refine run_s (ss_assign rfl) rfl ?_
  refine run_nil ?_
  refine aw_seq ?_
  refine aw_seq ?_
  refine aw_region ?_
  refine run_s (ss_move rfl) rfl ?_
  refine run_s (ss_lenL (f := (fun r => C.lst (ints r))) rfl) rfl ?_
  refine run_s (ss_move rfl) rfl ?_
  refine run_nil ?_
  refine aw_block ?_
  obtain ⟨H1, m1, q2, h⟩ := h
  refine aw_loop2 (fun (v11_1 : Int) (o8_1 : List (List UInt8)) => ⟨[(8, ⟨strs o8_1, []⟩)], [(3, .ref 8), (9, .c (.lst (rows t))), (10, .c (ci (t.length : Int))), (11, .c (ci v11_1))], 24⟩) H1 m1 ⟨0, List.replicate (t.length : Int).toNat ([] : List UInt8), ghe_to (n := 24) rfl rfl ⟨rfl, rfl, rfl, rfl, trivial⟩, q2⟩ ?_
  rintro v11_1 o8_1 q2
  replace h := h v11_1 o8_1 q2
  refine aw_seq ?_
  refine aw_region ?_
  refine run_s (ss_lss rfl rfl) rfl ?_
  refine run_nil ?_
  refine aw_seq ?_
  refine aw_cond rfl (fun q3 => ?_) (fun q3 => ?_)
  · replace h := h.1 (of_decide_eq_true q3)
    refine aw_skip ?_
    refine aw_seq ?_
    refine aw_block ?_
    refine aw_seq ?_
    refine aw_region ?_
    refine run_s (ss_move rfl) rfl ?_
    obtain ⟨q4, h⟩ := h
    refine run_s (ss_idxL rfl rfl q4) rfl ?_
    refine run_s (ss_loadL (f := (fun r => C.lst (ints r))) rfl q4) rfl ?_
    refine run_s (ss_assign rfl) rfl ?_
    refine run_s (ss_assign rfl) rfl ?_
    refine run_nil ?_
    refine aw_region ?_
    refine run_s (ss_move rfl) rfl ?_
    refine run_s (ss_move rfl) rfl ?_
    refine run_s (ss_move rfl) rfl ?_
    obtain ⟨q5, h⟩ := h
    refine run_w (ws_call (xs := [.tmp 18]) (ids := []) rfl rfl rfl rfl (c_impl_digitsText (el t v11_1) q5) rfl ?_ )
    rintro _ rfl
    refine ⟨rfl, ?_⟩
    obtain ⟨q7, h⟩ := h
    refine run_s (ss_idxR (f := cs) rfl rfl rfl q7) rfl ?_
    refine run_w (ws_storeE rfl rfl (map_lt q7) rfl rfl (map_se (f := cs)) rfl ⟨rfl, ?_⟩)
    refine run_nil ?_
    refine aw_gh (gh_to (n := 24) (σ' := [(8, ⟨strs (se o8_1 v11_1 (digI (el t v11_1))), []⟩)]) (env' := [(3, .ref 8), (9, .c (.lst (rows t))), (10, .c (ci (t.length : Int))), (11, .c (ci v11_1))]) rfl rfl ⟨rfl, rfl, rfl, rfl, trivial⟩) ?_
    refine aw_region ?_
    obtain ⟨q8, h⟩ := h
    refine run_s (ss_add rfl rfl q8) rfl ?_
    refine run_s (ss_move rfl) rfl ?_
    refine run_nil ?_
    exact ⟨v11_1 + 1, se o8_1 v11_1 (digI (el t v11_1)), ghe_to (n := 24) rfl rfl ⟨rfl, rfl, rfl, rfl, trivial⟩, h.1, h.2⟩
  · replace h := h.2 (of_decide_eq_false q3)
    refine aw_exit ?_
    refine aw_seq ?_
    refine aw_region ?_
    refine run_s (ss_move rfl) rfl ?_
    obtain ⟨q9, h⟩ := h
    refine run_w (ws_callR (xs := [.tmp 22, .const (.string ⟨#[47]⟩)]) (cs := [.own (strs o8_1), cs ([47] : List UInt8)]) (ids := []) rfl (.inr ⟨rfl, rfl⟩) rfl rfl (fz_cons (fz_own (fz_map (fun _ => rfl) _)) (fz_cons rfl fz_nil)) (c_strings_Join o8_1 ([47] : List UInt8) q9) rfl ?_ )
    rintro _ rfl
    refine ⟨rfl, rfl, ?_⟩
    refine run_s (ss_assign rfl) rfl ?_
    refine run_nil ?_
    refine aw_ret ?_
    exact retAF_mk (retv1 rfl (rv_tmp rfl)) rfl rfl ⟨_, (cle_refl _), _, h, rfl⟩

theorem c_impl_tableText (t : List (List Int)) (hp : isTab t = true) : AF Try.prog 78 [.lst (rows t)] (fun R_ => R_ = cs (txtI t)) :=
  (w_impl_tableText t (fun y0 => y0 = txtI t) (p_impl_tableText t hp)).mono (by rintro r ⟨_, rfl, rfl⟩; rfl)

set_option maxRecDepth 100000 in
set_option maxHeartbeats 1000000 in
theorem w_spec_l01Digit (x : Int) (Q : List UInt8 → Prop) (h : wp_spec_l01Digit x Q) : AF Try.prog 162 [ci x] (fun R_ => ∃ y0, Q y0 ∧ R_ = cs y0) := by
  refine AF.ofWQ (af_enter (n := 16) Try.func162 rfl (by rfl) rfl (Nat.le_of_ble_eq_true rfl) ?_)
  unfold wp_spec_l01Digit at h
  refine aw_seq ?_
  refine aw_gh (gh_to (n := 16) (σ' := []) (env' := [(0, .c (ci x))]) rfl rfl ⟨rfl, trivial⟩) ?_
  refine aw_region ?_
  refine run_s (ss_assign rfl) rfl ?_
  refine run_nil ?_
  refine aw_seq ?_
  refine aw_seq ?_
  refine aw_region ?_
  refine run_s (ss_move rfl) rfl ?_
  refine run_s (ss_lss rfl rfl) rfl ?_
  refine run_nil ?_
  refine aw_cond rfl (fun q1 => ?_) (fun q1 => ?_)
  · replace h := h.1 (of_decide_eq_true q1)
    refine aw_seq ?_
    refine aw_region ?_
    refine run_s (ss_move rfl) rfl ?_
    obtain ⟨q2, h⟩ := h
    refine run_s (ss_add rfl rfl q2) rfl ?_
    obtain ⟨q3, h⟩ := h
    refine run_s (ss_convert rfl (u8_in q3)) rfl ?_
    refine run_w (ws_buildSlice (id := 8) (ps := [(0, .tmp 7)]) rfl rfl (Nat.le_of_ble_eq_true rfl) rfl ⟨rfl, ?_⟩)
    refine run_s (ss_bytesR (l := [48 + x]) rfl rfl rfl) rfl ?_
    refine run_s (ss_assign rfl) rfl ?_
    refine run_nil ?_
    refine aw_ret ?_
    exact retAF_mk (retv1 rfl (rv_tmp rfl)) rfl rfl ⟨_, (cle_refl _), _, h, rfl⟩
  · replace h := h.2 (of_decide_eq_false q1)
    refine aw_skip ?_
    refine aw_seq ?_
    refine aw_region ?_
    refine run_s (ss_move rfl) rfl ?_
    obtain ⟨q4, h⟩ := h
    refine run_s (ss_add rfl rfl q4) rfl ?_
    obtain ⟨q5, h⟩ := h
    refine run_s (ss_sub rfl rfl q5) rfl ?_
    obtain ⟨q6, h⟩ := h
    refine run_s (ss_convert rfl (u8_in q6)) rfl ?_
    refine run_w (ws_buildSlice (id := 14) (ps := [(0, .tmp 13)]) rfl rfl (Nat.le_of_ble_eq_true rfl) rfl ⟨rfl, ?_⟩)
    refine run_s (ss_bytesR (l := [(97 + x) - 10]) rfl rfl rfl) rfl ?_
    refine run_s (ss_assign rfl) rfl ?_
    refine run_nil ?_
    refine aw_ret ?_
    exact retAF_mk (retv1 rfl (rv_tmp rfl)) rfl rfl ⟨_, (cle_refl _), _, h, rfl⟩

theorem c_spec_l01Digit (x : Int) (hp : 0 ≤ x ∧ x < 12) : AF Try.prog 162 [ci x] (fun R_ => R_ = cs (digI [x])) :=
  (w_spec_l01Digit x (fun y0 => y0 = digI [x]) (p_spec_l01Digit x hp)).mono (by rintro r ⟨_, rfl, rfl⟩; rfl)

set_option maxRecDepth 100000 in
set_option maxHeartbeats 1000000 in
theorem w_spec_l01Line (list : List Int) (Q : List UInt8 → Prop) (h : wp_spec_l01Line list Q) : AF Try.prog 135 [.lst (ints list)] (fun R_ => ∃ y0, Q y0 ∧ R_ = cs y0) := by
  refine AF.ofWQ (af_enter (n := 19) Try.func135 rfl (by rfl) rfl (Nat.le_of_ble_eq_true rfl) ?_)
  unfold wp_spec_l01Line at h
  refine aw_seq ?_
  refine aw_gh (gh_to (n := 19) (σ' := []) (env' := [(0, .c (.lst (ints list)))]) rfl rfl ⟨rfl, trivial⟩) ?_
  refine aw_region ?_
  refine run_s (ss_assign rfl) rfl ?_
  refine run_nil ?_
  refine aw_seq ?_
  refine aw_region ?_
  refine run_s (ss_assign rfl) rfl ?_
  refine run_nil ?_
  refine aw_seq ?_
  refine aw_seq ?_
  refine aw_region ?_
  refine run_s (ss_assign rfl) rfl ?_
  refine run_nil ?_
  refine aw_block ?_
  obtain ⟨H1, m1, q1, h⟩ := h
  refine aw_loop2 (fun (v3_1 : List UInt8) (v4_1 : Int) => ⟨[], [(0, .c (.lst (ints list))), (3, .c (cs v3_1)), (4, .c (ci v4_1))], 19⟩) H1 m1 ⟨([] : List UInt8), 0, ghe_to (n := 19) rfl rfl ⟨rfl, rfl, rfl, trivial⟩, q1⟩ ?_
  rintro v3_1 v4_1 q1
  replace h := h v3_1 v4_1 q1
  refine aw_seq ?_
  refine aw_seq ?_
  refine aw_region ?_
  refine run_s (ss_move rfl) rfl ?_
  refine run_s (ss_move rfl) rfl ?_
  refine run_s (ss_lenL (f := ci) rfl) rfl ?_
  refine run_s (ss_lss rfl rfl) rfl ?_
  refine run_nil ?_
  refine aw_cond rfl (fun q2 => ?_) (fun q2 => ?_)
  · replace h := h.1 (of_decide_eq_true q2)
    refine aw_skip ?_
    refine aw_seq ?_
    refine aw_block ?_
    refine aw_region ?_
    refine run_s (ss_move rfl) rfl ?_
    refine run_s (ss_move rfl) rfl ?_
    refine run_s (ss_move rfl) rfl ?_
    obtain ⟨q3, h⟩ := h
    refine run_s (ss_idxL rfl rfl q3) rfl ?_
    refine run_s (ss_loadL (f := ci) rfl q3) rfl ?_
    obtain ⟨q4, h⟩ := h
    refine run_w (ws_call (xs := [.tmp 15]) (ids := []) rfl rfl rfl rfl (c_spec_l01Digit (el list v4_1) q4) rfl ?_ )
    rintro _ rfl
    refine ⟨rfl, ?_⟩
    obtain ⟨q6, h⟩ := h
    refine run_s (ss_cat rfl rfl q6) rfl ?_
    refine run_s (ss_assign rfl) rfl ?_
    refine run_nil ?_
    refine aw_gh (gh_to (n := 19) (σ' := []) (env' := [(0, .c (.lst (ints list))), (3, .c (cs (v3_1 ++ (digI [(el list v4_1)])))), (4, .c (ci v4_1))]) rfl rfl ⟨rfl, rfl, rfl, trivial⟩) ?_
    refine aw_region ?_
    refine run_s (ss_move rfl) rfl ?_
    obtain ⟨q7, h⟩ := h
    refine run_s (ss_add rfl rfl q7) rfl ?_
    refine run_s (ss_assign rfl) rfl ?_
    refine run_nil ?_
    exact ⟨v3_1 ++ (digI [(el list v4_1)]), v4_1 + 1, ghe_to (n := 19) rfl rfl ⟨rfl, rfl, rfl, trivial⟩, h.1, h.2⟩
  · replace h := h.2 (of_decide_eq_false q2)
    refine aw_exit ?_
    refine aw_seq ?_
    refine aw_gh (gh_to (n := 19) (σ' := []) (env' := [(3, .c (cs v3_1))]) rfl rfl ⟨rfl, trivial⟩) ?_
    refine aw_region ?_
    refine run_s (ss_move rfl) rfl ?_
    refine run_s (ss_assign rfl) rfl ?_
    refine run_nil ?_
    refine aw_ret ?_
    exact retAF_mk (retv1 rfl (rv_tmp rfl)) rfl rfl ⟨_, (cle_refl _), _, h, rfl⟩

theorem c_spec_l01Line (list : List Int) (hp : small list ∧ digs list) : AF Try.prog 135 [.lst (ints list)] (fun R_ => R_ = cs (digI list)) :=
  (w_spec_l01Line list (fun y0 => y0 = digI list) (p_spec_l01Line list hp)).mono (by rintro r ⟨_, rfl, rfl⟩; rfl)

set_option maxRecDepth 100000 in
set_option maxHeartbeats 1000000 in
theorem w_spec_l01Text (t : List (List Int)) (Q : List UInt8 → Prop) (h : wp_spec_l01Text t Q) : AF Try.prog 77 [.lst (rows t)] (fun R_ => ∃ y0, Q y0 ∧ R_ = cs y0) := by
  refine AF.ofWQ (af_enter (n := 23) Try.func77 rfl (by rfl) rfl (Nat.le_of_ble_eq_true rfl) ?_)
  unfold wp_spec_l01Text at h
  refine aw_seq ?_
  refine aw_gh (gh_to (n := 23) (σ' := []) (env' := [(0, .c (.lst (rows t)))]) rfl rfl ⟨rfl, trivial⟩) ?_
  refine aw_region ?_
  refine run_s (ss_assign rfl) rfl ?_
  refine run_nil ?_
  refine aw_seq ?_
  refine aw_region ?_
  refine run_s (ss_assign rfl) rfl ?_
  refine run_nil ?_
  refine aw_seq ?_
  refine aw_seq ?_
  refine aw_region ?_
  refine run_s (ss_assign rfl) rfl ?_
  refine run_nil ?_
  refine aw_block ?_
  obtain ⟨H1, m1, q1, h⟩ := h
  refine aw_loop2 (fun (v3_1 : List UInt8) (v4_1 : Int) => ⟨[], [(0, .c (.lst (rows t))), (3, .c (cs v3_1)), (4, .c (ci v4_1))], 23⟩) H1 m1 ⟨([] : List UInt8), 0, ghe_to (n := 23) rfl rfl ⟨rfl, rfl, rfl, trivial⟩, q1⟩ ?_
  rintro v3_1 v4_1 q1
  replace h := h v3_1 v4_1 q1
  refine aw_seq ?_
  refine aw_seq ?_
  refine aw_region ?_
  refine run_s (ss_move rfl) rfl ?_
  refine run_s (ss_move rfl) rfl ?_
  refine run_s (ss_lenL (f := (fun r => C.lst (ints r))) rfl) rfl ?_
  refine run_s (ss_lss rfl rfl) rfl ?_
  refine run_nil ?_
  refine aw_cond rfl (fun q2 => ?_) (fun q2 => ?_)
  · replace h := h.1 (of_decide_eq_true q2)
    refine aw_skip ?_
    refine aw_seq ?_
    refine aw_block ?_
    refine aw_seq ?_
    refine aw_seq ?_
    refine aw_region ?_
    refine run_s (ss_move rfl) rfl ?_
    refine run_s (ss_gtr rfl rfl) rfl ?_
    refine run_nil ?_
    refine aw_cond rfl (fun q3 => ?_) (fun q3 => ?_)
    · replace h := h.1 (of_decide_eq_true q3)
      refine aw_gh (gh_to (n := 23) (σ' := []) (env' := [(0, .c (.lst (rows t))), (3, .c (cs v3_1)), (4, .c (ci v4_1))]) rfl rfl ⟨rfl, rfl, rfl, trivial⟩) ?_
      refine aw_region ?_
      refine run_s (ss_move rfl) rfl ?_
      obtain ⟨q4, h⟩ := h
      refine run_s (ss_cat rfl rfl q4) rfl ?_
      refine run_s (ss_assign rfl) rfl ?_
      refine run_nil ?_
      refine aw_region ?_
      refine run_s (ss_move rfl) rfl ?_
      refine run_s (ss_move rfl) rfl ?_
      refine run_s (ss_move rfl) rfl ?_
      obtain ⟨q5, h⟩ := h
      refine run_s (ss_idxL rfl rfl q5) rfl ?_
      refine run_s (ss_loadL (f := (fun r => C.lst (ints r))) rfl q5) rfl ?_
      obtain ⟨q6, h⟩ := h
      refine run_w (ws_call (xs := [.tmp 19]) (ids := []) rfl rfl rfl rfl (c_spec_l01Line (el t v4_1) q6) rfl ?_ )
      rintro _ rfl
      refine ⟨rfl, ?_⟩
      obtain ⟨q8, h⟩ := h
      refine run_s (ss_cat rfl rfl q8) rfl ?_
      refine run_s (ss_assign rfl) rfl ?_
      refine run_nil ?_
      refine aw_gh (gh_to (n := 23) (σ' := []) (env' := [(0, .c (.lst (rows t))), (3, .c (cs ((v3_1 ++ ([47] : List UInt8)) ++ (digI (el t v4_1))))), (4, .c (ci v4_1))]) rfl rfl ⟨rfl, rfl, rfl, trivial⟩) ?_
      refine aw_region ?_
      refine run_s (ss_move rfl) rfl ?_
      obtain ⟨q9, h⟩ := h
      refine run_s (ss_add rfl rfl q9) rfl ?_
      refine run_s (ss_assign rfl) rfl ?_
      refine run_nil ?_
      exact ⟨(v3_1 ++ ([47] : List UInt8)) ++ (digI (el t v4_1)), v4_1 + 1, ghe_to (n := 23) rfl rfl ⟨rfl, rfl, rfl, trivial⟩, h.1, h.2⟩
    · replace h := h.2 (of_decide_eq_false q3)
      refine aw_skip ?_
      refine aw_region ?_
      refine run_s (ss_move rfl) rfl ?_
      refine run_s (ss_move rfl) rfl ?_
      refine run_s (ss_move rfl) rfl ?_
      obtain ⟨q10, h⟩ := h
      refine run_s (ss_idxL rfl rfl q10) rfl ?_
      refine run_s (ss_loadL (f := (fun r => C.lst (ints r))) rfl q10) rfl ?_
      obtain ⟨q11, h⟩ := h
      refine run_w (ws_call (xs := [.tmp 19]) (ids := []) rfl rfl rfl rfl (c_spec_l01Line (el t v4_1) q11) rfl ?_ )
      rintro _ rfl
      refine ⟨rfl, ?_⟩
      obtain ⟨q13, h⟩ := h
      refine run_s (ss_cat rfl rfl q13) rfl ?_
      refine run_s (ss_assign rfl) rfl ?_
      refine run_nil ?_
      refine aw_gh (gh_to (n := 23) (σ' := []) (env' := [(0, .c (.lst (rows t))), (3, .c (cs (v3_1 ++ (digI (el t v4_1))))), (4, .c (ci v4_1))]) rfl rfl ⟨rfl, rfl, rfl, trivial⟩) ?_
      refine aw_region ?_
      refine run_s (ss_move rfl) rfl ?_
      obtain ⟨q14, h⟩ := h
      refine run_s (ss_add rfl rfl q14) rfl ?_
      refine run_s (ss_assign rfl) rfl ?_
      refine run_nil ?_
      exact ⟨v3_1 ++ (digI (el t v4_1)), v4_1 + 1, ghe_to (n := 23) rfl rfl ⟨rfl, rfl, rfl, trivial⟩, h.1, h.2⟩
  · replace h := h.2 (of_decide_eq_false q2)
    refine aw_exit ?_
    refine aw_seq ?_
    refine aw_gh (gh_to (n := 23) (σ' := []) (env' := [(3, .c (cs v3_1))]) rfl rfl ⟨rfl, trivial⟩) ?_
    refine aw_region ?_
    refine run_s (ss_move rfl) rfl ?_
    refine run_s (ss_assign rfl) rfl ?_
    refine run_nil ?_
    refine aw_ret ?_
    exact retAF_mk (retv1 rfl (rv_tmp rfl)) rfl rfl ⟨_, (cle_refl _), _, h, rfl⟩

theorem c_spec_l01Text (t : List (List Int)) (hp : isTab t = true) : AF Try.prog 77 [.lst (rows t)] (fun R_ => R_ = cs (txtI t)) :=
  (w_spec_l01Text t (fun y0 => y0 = txtI t) (p_spec_l01Text t hp)).mono (by rintro r ⟨_, rfl, rfl⟩; rfl)

set_option maxRecDepth 100000 in
set_option maxHeartbeats 1000000 in
theorem w_spec_TableText (t : List (List Int)) (Q : List UInt8 → Int → Prop) (h : wp_spec_TableText t Q) : AF Try.prog 79 [.lst (rows t)] (fun R_ => ∃ y0 y1, Q y0 y1 ∧ R_ = .tup [cs y0, ci y1]) := by
  refine AF.ofWQ (af_enter (n := 9) Try.func79 rfl (by rfl) rfl (Nat.le_of_ble_eq_true rfl) ?_)
  unfold wp_spec_TableText at h
  refine aw_seq ?_
  refine aw_gh (gh_to (n := 9) (σ' := []) (env' := [(0, .c (.lst (rows t)))]) rfl rfl ⟨rfl, trivial⟩) ?_
  refine aw_region ?_
  refine run_s (ss_assign rfl) rfl ?_
  refine run_s (ss_assign rfl) rfl ?_
  refine run_nil ?_
  refine aw_seq ?_
  refine aw_seq ?_
  refine aw_region ?_
  refine run_s (ss_move rfl) rfl ?_
  obtain ⟨q1, h⟩ := h
  refine run_w (ws_call (xs := [.tmp 4]) (ids := []) rfl rfl rfl rfl (c_spec_l01Table t q1) rfl ?_ )
  rintro _ rfl
  refine ⟨rfl, ?_⟩
  refine run_s (ss_not rfl) rfl ?_
  refine run_nil ?_
  refine aw_cond rfl (fun q3 => ?_) (fun q3 => ?_)
  · replace h := h.1 ((bnot_t q3))
    refine aw_seq ?_
    refine aw_gh (gh_to (n := 9) (σ' := []) (env' := [(2, .c (cs ([] : List UInt8))), (3, .c (ci 0))]) rfl rfl ⟨rfl, rfl, trivial⟩) ?_
    refine aw_region ?_
    refine run_s (ss_assign rfl) rfl ?_
    refine run_s (ss_assign rfl) rfl ?_
    refine run_nil ?_
    refine aw_ret ?_
    exact retAF_mk (retv2 rfl (rv_tmp rfl) (rv_tmp rfl)) rfl rfl ⟨_, (cle_refl _), _, _, h, rfl⟩
  · replace h := h.2 ((bnot_f q3))
    refine aw_skip ?_
    refine aw_seq ?_
    refine aw_region ?_
    refine run_s (ss_move rfl) rfl ?_
    obtain ⟨q4, h⟩ := h
    refine run_w (ws_call (xs := [.tmp 7]) (ids := []) rfl rfl rfl rfl (c_spec_l01Text t q4) rfl ?_ )
    rintro _ rfl
    refine ⟨rfl, ?_⟩
    refine run_s (ss_assign rfl) rfl ?_
    refine run_s (ss_assign rfl) rfl ?_
    refine run_nil ?_
    refine aw_ret ?_
    exact retAF_mk (retv2 rfl (rv_tmp rfl) (rv_tmp rfl)) rfl rfl ⟨_, (cle_refl _), _, _, h, rfl⟩

theorem c_spec_TableText (t : List (List Int)) (hp : small2 t) : AF Try.prog 79 [.lst (rows t)] (fun R_ => R_ = .tup [cs (if isTab t then txtI t else []), ci (if isTab t then (0 : Int) else 1)]) :=
  (w_spec_TableText t (fun y0 y1 => y0 = (if isTab t then txtI t else []) ∧ y1 = (if isTab t then (0 : Int) else 1)) (p_spec_TableText t hp)).mono (by rintro r ⟨_, _, ⟨rfl, rfl⟩, rfl⟩; rfl)

set_option maxRecDepth 100000 in
set_option maxHeartbeats 1000000 in
theorem w_spec_CycleSetText (c : List (List Int)) (Q : List UInt8 → Int → Prop) (h : wp_spec_CycleSetText c Q) : AF Try.prog 36 [.agg [.lst (rows c)]] (fun R_ => ∃ y0 y1, Q y0 y1 ∧ R_ = .tup [cs y0, ci y1]) := by
  refine AF.ofWQ (af_enter (n := 14) Try.func36 rfl (by rfl) rfl (Nat.le_of_ble_eq_true rfl) ?_)
  unfold wp_spec_CycleSetText at h
  refine aw_seq ?_
  refine aw_gh (gh_to (n := 14) (σ' := []) (env' := [(0, .c (.agg [.lst (rows c)]))]) rfl rfl ⟨rfl, trivial⟩) ?_
  refine aw_region ?_
  refine run_w (ws_boxR rfl (.inl rfl) rfl ⟨rfl, ?_⟩)
  refine run_s (ss_assign rfl) rfl ?_
  refine run_s (ss_assign rfl) rfl ?_
  refine run_nil ?_
  refine aw_seq ?_
  refine aw_region ?_
  refine run_s (ss_field_ptr rfl) rfl ?_
  refine run_s (ss_load_ptr rfl rfl) rfl ?_
  obtain ⟨q1, h⟩ := h
  refine run_w (ws_call (xs := [.tmp 8]) (ids := []) rfl rfl rfl rfl (c_spec_TableText c q1) rfl ?_ )
  rintro _ rfl
  refine ⟨rfl, ?_⟩
  refine run_s (ss_move rfl) rfl ?_
  refine run_s (ss_extract rfl rfl) rfl ?_
  refine run_s (ss_extract rfl rfl) rfl ?_
  refine run_s (ss_assign rfl) rfl ?_
  refine run_s (ss_assign rfl) rfl ?_
  refine run_nil ?_
  refine aw_seq ?_
  refine aw_gh (gh_to (n := 14) (σ' := []) (env' := [(2, .c (cs ([] : List UInt8))), (3, .c (ci 0)), (4, .c (cs (if isTab c then txtI c else []))), (5, .c (ci (if isTab c then (0 : Int) else 1)))]) rfl rfl ⟨rfl, rfl, rfl, rfl, trivial⟩) ?_
  refine aw_region ?_
  refine run_s (ss_move rfl) rfl ?_
  refine run_s (ss_move rfl) rfl ?_
  refine run_s (ss_assign rfl) rfl ?_
  refine run_s (ss_assign rfl) rfl ?_
  refine run_nil ?_
  refine aw_ret ?_
  exact retAF_mk (retv2 rfl (rv_tmp rfl) (rv_tmp rfl)) rfl rfl ⟨_, (cle_refl _), _, _, h, rfl⟩

theorem c_spec_CycleSetText (c : List (List Int)) (hp : small2 c) : AF Try.prog 36 [.agg [.lst (rows c)]] (fun R_ => R_ = .tup [cs (if isTab c then txtI c else []), ci (if isTab c then (0 : Int) else 1)]) :=
  (w_spec_CycleSetText c (fun y0 y1 => y0 = (if isTab c then txtI c else []) ∧ y1 = (if isTab c then (0 : Int) else 1)) (p_spec_CycleSetText c hp)).mono (by rintro r ⟨_, _, ⟨rfl, rfl⟩, rfl⟩; rfl)

set_option maxRecDepth 100000 in
set_option maxHeartbeats 1000000 in
theorem w_impl_TableText (t : List (List Int)) (Q : List UInt8 → Int → Prop) (h : wp_impl_TableText t Q) : AF Try.prog 80 [.lst (rows t)] (fun R_ => ∃ y0 y1, Q y0 y1 ∧ R_ = .tup [cs y0, ci y1]) := by
  refine AF.ofWQ (af_enter (n := 9) Try.func80 rfl (by rfl) rfl (Nat.le_of_ble_eq_true rfl) ?_)
  unfold wp_impl_TableText at h
  refine aw_seq ?_
  refine aw_gh (gh_to (n := 9) (σ' := []) (env' := [(0, .c (.lst (rows t)))]) rfl rfl ⟨rfl, trivial⟩) ?_
  refine aw_region ?_
  refine run_s (ss_assign rfl) rfl ?_
  refine run_s (ss_assign rfl) rfl ?_
  refine run_nil ?_
  refine aw_seq ?_
  refine aw_seq ?_
  refine aw_region ?_
  refine run_s (ss_move rfl) rfl ?_
  obtain ⟨q1, h⟩ := h
  refine run_w (ws_call (xs := [.tmp 4]) (ids := []) rfl rfl rfl rfl (c_impl_IsTable t q1) rfl ?_ )
  rintro _ rfl
  refine ⟨rfl, ?_⟩
  refine run_s (ss_not rfl) rfl ?_
  refine run_nil ?_
  refine aw_cond rfl (fun q3 => ?_) (fun q3 => ?_)
  · replace h := h.1 ((bnot_t q3))
    refine aw_seq ?_
    refine aw_gh (gh_to (n := 9) (σ' := []) (env' := [(2, .c (cs ([] : List UInt8))), (3, .c (ci 0))]) rfl rfl ⟨rfl, rfl, trivial⟩) ?_
    refine aw_region ?_
    refine run_s (ss_assign rfl) rfl ?_
    refine run_s (ss_assign rfl) rfl ?_
    refine run_nil ?_
    refine aw_ret ?_
    exact retAF_mk (retv2 rfl (rv_tmp rfl) (rv_tmp rfl)) rfl rfl ⟨_, (cle_refl _), _, _, h, rfl⟩
  · replace h := h.2 ((bnot_f q3))
    refine aw_skip ?_
    refine aw_seq ?_
    refine aw_region ?_
    refine run_s (ss_move rfl) rfl ?_
    obtain ⟨q4, h⟩ := h
    refine run_w (ws_call (xs := [.tmp 7]) (ids := []) rfl rfl rfl rfl (c_impl_tableText t q4) rfl ?_ )
    rintro _ rfl
    refine ⟨rfl, ?_⟩
    refine run_s (ss_assign rfl) rfl ?_
    refine run_s (ss_assign rfl) rfl ?_
    refine run_nil ?_
    refine aw_ret ?_
    exact retAF_mk (retv2 rfl (rv_tmp rfl) (rv_tmp rfl)) rfl rfl ⟨_, (cle_refl _), _, _, h, rfl⟩

theorem c_impl_TableText (t : List (List Int)) (hp : small2 t) : AF Try.prog 80 [.lst (rows t)] (fun R_ => R_ = .tup [cs (if isTab t then txtI t else []), ci (if isTab t then (0 : Int) else 1)]) :=
  (w_impl_TableText t (fun y0 y1 => y0 = (if isTab t then txtI t else []) ∧ y1 = (if isTab t then (0 : Int) else 1)) (p_impl_TableText t hp)).mono (by rintro r ⟨_, _, ⟨rfl, rfl⟩, rfl⟩; rfl)

set_option maxRecDepth 100000 in
set_option maxHeartbeats 1000000 in
theorem w_impl_CycleSetText (c : List (List Int)) (Q : List UInt8 → Int → Prop) (h : wp_impl_CycleSetText c Q) : AF Try.prog 38 [.agg [.lst (rows c)]] (fun R_ => ∃ y0 y1, Q y0 y1 ∧ R_ = .tup [cs y0, ci y1]) := by
  refine AF.ofWQ (af_enter (n := 9) Try.func38 rfl (by rfl) rfl (Nat.le_of_ble_eq_true rfl) ?_)
  unfold wp_impl_CycleSetText at h
  refine aw_seq ?_
  refine aw_gh (gh_to (n := 9) (σ' := []) (env' := [(0, .c (.agg [.lst (rows c)]))]) rfl rfl ⟨rfl, trivial⟩) ?_
  refine aw_region ?_
  refine run_w (ws_boxR rfl (.inl rfl) rfl ⟨rfl, ?_⟩)
  refine run_s (ss_assign rfl) rfl ?_
  refine run_s (ss_assign rfl) rfl ?_
  refine run_nil ?_
  refine aw_seq ?_
  refine aw_region ?_
  refine run_s (ss_field_ptr rfl) rfl ?_
  refine run_s (ss_load_ptr rfl rfl) rfl ?_
  obtain ⟨q1, h⟩ := h
  refine run_w (ws_call (xs := [.tmp 5]) (ids := []) rfl rfl rfl rfl (c_impl_TableText c q1) rfl ?_ )
  rintro _ rfl
  refine ⟨rfl, ?_⟩
  refine run_s (ss_extract rfl rfl) rfl ?_
  refine run_s (ss_extract rfl rfl) rfl ?_
  refine run_s (ss_assign rfl) rfl ?_
  refine run_s (ss_assign rfl) rfl ?_
  refine run_nil ?_
  refine aw_ret ?_
  exact retAF_mk (retv2 rfl (rv_tmp rfl) (rv_tmp rfl)) rfl rfl ⟨_, (cle_refl _), _, _, h, rfl⟩

theorem c_impl_CycleSetText (c : List (List Int)) (hp : small2 c) : AF Try.prog 38 [.agg [.lst (rows c)]] (fun R_ => R_ = .tup [cs (if isTab c then txtI c else []), ci (if isTab c then (0 : Int) else 1)]) :=
  (w_impl_CycleSetText c (fun y0 y1 => y0 = (if isTab c then txtI c else []) ∧ y1 = (if isTab c then (0 : Int) else 1)) (p_impl_CycleSetText c hp)).mono (by rintro r ⟨_, _, ⟨rfl, rfl⟩, rfl⟩; rfl)

end Go.Proofs.Ytllimiejaijbkaa
