/- Contracts of functions that the law FnRackQuotients reaches: conditions, plain proofs, walks; no condition. -/
import Derived.Test.YtbodlnpmplcaoaaKRackQuotientsb
import Derived.Test.YtbodlnpmplcaoaaPg
namespace Go.Proofs.Ytbodlnpmplcaoaa

def wp_spec_l01Own2 (lists : List (List Int)) (Q : List (List Int) → Prop) : Prop :=
 ∃ (H1 : Int → List (List Int) → Prop) (m1 : Int → List (List Int) → Nat),
 H1 0 ([] : List (List Int)) ∧
 ∀ (v4_1 : Int) (o5_1 : List (List Int)), H1 v4_1 o5_1 →
 ( ((v4_1 < (lists.length : Int) →
 (0 ≤ v4_1 ∧ v4_1 < (lists.length : Int)) ∧
 (small (el lists v4_1)) ∧
 ((o5_1.length : Int) + (([(el lists v4_1)]).length : Int) ≤ 1000000000) ∧
 (InI (v4_1 + 1)) ∧
 (H1 (v4_1 + 1) (o5_1 ++ ([(el lists v4_1)])) ∧ m1 (v4_1 + 1) (o5_1 ++ ([(el lists v4_1)])) < m1 v4_1 o5_1)) ∧
 (¬ (v4_1 < (lists.length : Int)) →
 Q o5_1)))

def wp_impl_QuotientRack_1 (x : Int) (y : Int) (classes : List Int) (r : List (List Int)) (first : List Int) (Q : Int → Prop) : Prop :=
 (0 ≤ x ∧ x < (first.length : Int)) ∧
 (0 ≤ el first x ∧ el first x < (r.length : Int)) ∧
 (0 ≤ y ∧ y < (first.length : Int)) ∧
 (0 ≤ el first y ∧ el first y < ((el r (el first x)).length : Int)) ∧
 (0 ≤ el (el r (el first x)) (el first y) ∧ el (el r (el first x)) (el first y) < (classes.length : Int)) ∧
 Q (el classes (el (el r (el first x)) (el first y)))

def wp_spec_l04Quotient (t : List (List Int)) (classes : List Int) (Q : List (List Int) → Prop) : Prop :=
 ∃ (H1 : Int → List (List Int) → Prop) (m1 : Int → List (List Int) → Nat),
 H1 0 ([] : List (List Int)) ∧
 ∀ (v6_1 : Int) (o9_1 : List (List Int)), H1 v6_1 o9_1 →
 ( ((v6_1 < (t.length : Int) →
 (0 ≤ v6_1 ∧ v6_1 < (classes.length : Int)) ∧
 ((el classes v6_1 < (o9_1.length : Int) →
 (InI (v6_1 + 1)) ∧
 (H1 (v6_1 + 1) o9_1 ∧ m1 (v6_1 + 1) o9_1 < m1 v6_1 o9_1)) ∧
 (¬ (el classes v6_1 < (o9_1.length : Int)) →
 ∃ (H2 : Int → List Int → Prop) (m2 : Int → List Int → Nat),
 H2 0 ([] : List Int) ∧
 ∀ (v8_2 : Int) (o23_2 : List Int), H2 v8_2 o23_2 →
 ( ((v8_2 < (t.length : Int) →
 (0 ≤ v8_2 ∧ v8_2 < (classes.length : Int)) ∧
 ((el classes v8_2 = (o23_2.length : Int) →
 (0 ≤ v6_1 ∧ v6_1 < (t.length : Int)) ∧
 (0 ≤ v8_2 ∧ v8_2 < ((el t v6_1).length : Int)) ∧
 (0 ≤ el (el t v6_1) v8_2 ∧ el (el t v6_1) v8_2 < (classes.length : Int)) ∧
 ((o23_2.length : Int) + (([el classes (el (el t v6_1) v8_2)]).length : Int) ≤ 1000000000) ∧
 (InI (v8_2 + 1)) ∧
 (H2 (v8_2 + 1) (o23_2 ++ ([el classes (el (el t v6_1) v8_2)])) ∧ m2 (v8_2 + 1) (o23_2 ++ ([el classes (el (el t v6_1) v8_2)])) < m2 v8_2 o23_2)) ∧
 (¬ (el classes v8_2 = (o23_2.length : Int)) →
 (InI (v8_2 + 1)) ∧
 (H2 (v8_2 + 1) o23_2 ∧ m2 (v8_2 + 1) o23_2 < m2 v8_2 o23_2)))) ∧
 (¬ (v8_2 < (t.length : Int)) →
 ((o9_1.length : Int) + (([o23_2]).length : Int) ≤ 1000000000) ∧
 (InI (v6_1 + 1)) ∧
 (H1 (v6_1 + 1) (o9_1 ++ ([o23_2])) ∧ m1 (v6_1 + 1) (o9_1 ++ ([o23_2])) < m1 v6_1 o9_1))))))) ∧
 (¬ (v6_1 < (t.length : Int)) →
 Q o9_1)))

def wp_spec_QuotientRack (r : List (List Int)) (classes : List Int) (Q : List (List Int) → Int → Prop) : Prop :=
 (small2 r ∧ small classes) ∧
 ((¬ (IcoE r classes = 0) →
 Q ([]) (IcoE r classes)) ∧
 (IcoE r classes = 0 →
 (isTab r = true ∧ (classes.length : Int) = (r.length : Int)) ∧
 (((dec (CongP r classes)) = false →
 Q ([]) 5) ∧
 ((dec (CongP r classes)) = true →
 (isTab r = true ∧ partB (r.length : Int) classes = true ∧ CongP r classes) ∧
 Q (quoT r classes) 0))))

def wp_impl_QuotientRack (r : List (List Int)) (classes : List Int) (Q : List (List Int) → Int → Prop) : Prop :=
 (small2 r) ∧
 (((isRk r) = false →
 Q ([]) 1) ∧
 ((isRk r) = true →
 (small classes ∧ InI (r.length : Int)) ∧
 (((partB (r.length : Int) classes) = false →
 Q ([]) 1) ∧
 ((partB (r.length : Int) classes) = true →
 (isTab r = true ∧ partB (r.length : Int) classes = true) ∧
 (((dec (CongP r classes)) = false →
 Q ([]) 5) ∧
 ((dec (CongP r classes)) = true →
 (small classes ∧ canB 0 classes = true) ∧
 (0 ≤ ((firI classes).length : Int) ∧ ((firI classes).length : Int) ≤ 1000000 ∧ ∀ x_ y_, 0 ≤ x_ → x_ < ((firI classes).length : Int) → 0 ≤ y_ → y_ < ((firI classes).length : Int) → (fun z0 z1 => isTab r = true ∧ partB (r.length : Int) classes = true ∧ (firI classes) = firI classes ∧ 0 ≤ z0 ∧ z0 < canN 0 classes ∧ 0 ≤ z1 ∧ z1 < canN 0 classes) x_ y_ ∧ InI ((fun z0 z1 => quoV r classes z0 z1) x_ y_)) ∧
 Q (tab ((firI classes).length : Int) (fun z0 z1 => quoV r classes z0 z1)) 0))))))

theorem p_spec_l01Own2 (lists : List (List Int)) (hp : small2 lists) : wp_spec_l01Own2 lists (fun y0 => y0 = lists) := by
  unfold wp_spec_l01Own2
  have h1 := hp.1
  refine ⟨fun i o => 0 ≤ i ∧ i ≤ (lists.length : Int) ∧ o.length = i.toNat ∧ Upto i fun x => el o x = el lists x, fun i _ => ((lists.length : Int) - i).toNat, ⟨by omega, by omega, by simp, upto0⟩, ?_⟩
  rintro i o ⟨i0, i1, il, iI⟩
  dsimp only
  exact ⟨fun ilt => ⟨⟨i0, ilt⟩, hp.2 _ (el_mem ⟨i0, ilt⟩), by simp; omega, ⟨by omega, by omega⟩, ⟨by omega, by omega, by simp; omega, app1 (f := fun x => el lists x) (by omega) iI rfl⟩, by omega⟩, fun ige => ext_el (by omega) fun j a b => iI j a (by omega)⟩
theorem p_impl_QuotientRack_1 (x y : Int) (classes : List Int) (r : List (List Int)) (first : List Int) (hp : isTab r = true ∧ partB (r.length : Int) classes = true ∧ first = firI classes ∧ 0 ≤ x ∧ x < canN 0 classes ∧ 0 ≤ y ∧ y < canN 0 classes) : wp_impl_QuotientRack_1 x y classes r first (fun y0 => y0 = quoV r classes x y) := by
  obtain ⟨h1, h2, rfl, x0, x1, y0, y1⟩ := hp
  have hc := partB_can h2
  have hl := partB_len h2
  have hfl := length_firI hc
  have fx := fir_el hc ⟨x0, x1⟩
  have fy := fir_el hc ⟨y0, y1⟩
  have fx' : 0 ≤ el (firI classes) x ∧ el (firI classes) x < (r.length : Int) := ⟨fx.1.1, by omega⟩
  have fy' : 0 ≤ el (firI classes) y ∧ el (firI classes) y < (r.length : Int) := ⟨fy.1.1, by omega⟩
  have l := rk_len h1 fx'
  have e := rk_el h1 fx' fy'
  exact ⟨⟨x0, by omega⟩, fx', ⟨y0, by omega⟩, ⟨fy'.1, by omega⟩, ⟨e.1, by omega⟩, rfl⟩
theorem p_spec_l04Quotient (t : List (List Int)) (classes : List Int) (hp : isTab t = true ∧ partB (t.length : Int) classes = true ∧ CongP t classes) : wp_spec_l04Quotient t classes (fun y0 => y0 = quoT t classes) := by
  unfold wp_spec_l04Quotient
  obtain ⟨ht, hpa, hC⟩ := hp
  have hc := partB_can hpa
  have hl := partB_len hpa
  have hn := isTab_len ht
  have hN := canN_le hc
  refine ⟨fun x o => 0 ≤ x ∧ x ≤ (t.length : Int) ∧ canB (o.length : Int) (dr classes x) = true ∧ canN (o.length : Int) (dr classes x) = canN 0 classes ∧ (o.length : Int) ≤ x ∧ Upto (o.length : Int) fun q => el o q = ran (canN 0 classes) (quoV t classes q), fun x _ => ((t.length : Int) - x).toNat,
    ⟨by omega, by omega, by rw [dr0]; exact hc, by rw [dr0]; rfl, by simp, fun j a b => by simp at b; omega⟩, ?_⟩
  rintro x o ⟨x0, x1, hB, hM, ol, hI⟩
  dsimp only
  refine ⟨fun xlt => ?_, fun xge => ?_⟩
  · have hx : 0 ≤ x ∧ x < (t.length : Int) := ⟨x0, xlt⟩
    rw [dr_cons ⟨x0, by omega⟩] at hB hM
    simp only [canB, canN, Bool.and_eq_true, decide_eq_true_eq] at hB hM
    obtain ⟨⟨b1, b2⟩, b3⟩ := hB
    refine ⟨⟨x0, by omega⟩, fun h1 => ?_, fun h1 => ?_⟩
    · rw [if_neg (by omega)] at b3 hM
      exact ⟨⟨by omega, by omega⟩, ⟨by omega, by omega, b3, hM, by omega, hI⟩, by omega⟩
    · have hk : el classes x = (o.length : Int) := by omega
      rw [if_pos hk] at b3 hM
      have hkN : (o.length : Int) < canN 0 classes := by have := can_el hc (i := x) ⟨x0, by omega⟩; omega
      have fk := fir_el hc (k := (o.length : Int)) ⟨by omega, hkN⟩
      refine ⟨fun y w => 0 ≤ y ∧ y ≤ (t.length : Int) ∧ canB (w.length : Int) (dr classes y) = true ∧ canN (w.length : Int) (dr classes y) = canN 0 classes ∧ (w.length : Int) ≤ y ∧ Upto (w.length : Int) fun q => el w q = quoV t classes (o.length : Int) q, fun y _ => ((t.length : Int) - y).toNat,
        ⟨by omega, by omega, by rw [dr0]; exact hc, by rw [dr0]; rfl, by simp, fun j a b => by simp at b; omega⟩, ?_⟩
      rintro y w ⟨y0, y1, hB2, hM2, wl, wI⟩
      dsimp only
      refine ⟨fun ylt => ?_, fun yge => ?_⟩
      · have hy : 0 ≤ y ∧ y < (t.length : Int) := ⟨y0, ylt⟩
        rw [dr_cons ⟨y0, by omega⟩] at hB2 hM2
        simp only [canB, canN, Bool.and_eq_true, decide_eq_true_eq] at hB2 hM2
        obtain ⟨⟨c1, c2⟩, c3⟩ := hB2
        refine ⟨⟨y0, by omega⟩, fun h2 => ?_, fun h2 => ?_⟩
        · rw [if_pos h2] at c3 hM2
          have hmN : (w.length : Int) < canN 0 classes := by have := can_el hc (i := y) ⟨y0, by omega⟩; omega
          have fm := fir_el hc (k := (w.length : Int)) ⟨by omega, hmN⟩
          have rl := rk_len ht hx
          have re := rk_el ht hx hy
          refine ⟨hx, ⟨y0, by omega⟩, ⟨re.1, by omega⟩, by simp; omega, ⟨by omega, by omega⟩, ⟨by omega, by omega, by simpa using c3, by simpa using hM2, by simp; omega, ?_⟩, by omega⟩
          rw [show ((w ++ [el classes (el (el t x) y)]).length : Int) = (w.length : Int) + 1 by simp]
          refine app1 (f := quoV t classes (o.length : Int)) rfl wI ?_
          exact hC x y _ _ hx hy ⟨fk.1.1, by omega⟩ ⟨fm.1.1, by omega⟩ (by rw [hk, fk.2]) (by rw [h2, fm.2])
        · rw [if_neg h2] at c3 hM2
          exact ⟨⟨by omega, by omega⟩, ⟨by omega, by omega, c3, hM2, by omega, wI⟩, by omega⟩
      · rw [dr_nil (by omega)] at hM2
        simp only [canN] at hM2
        have hw : w = ran (canN 0 classes) (quoV t classes (o.length : Int)) := eq_ran (by omega) fun q a b => wI q a (by omega)
        refine ⟨by simp; omega, ⟨by omega, by omega⟩, ⟨by omega, by omega, by simpa using b3, by simpa using hM, by simp; omega, ?_⟩, by omega⟩
        rw [show ((o ++ [w]).length : Int) = (o.length : Int) + 1 by simp]
        exact app1 (f := fun q => ran (canN 0 classes) (quoV t classes q)) rfl hI hw
  · rw [dr_nil (by omega)] at hM
    simp only [canN] at hM
    exact eq_ran (by omega) fun q a b => hI q a (by omega)
theorem quo1 {r : List (List Int)} {c : List Int} (h : (isRk r && partB (r.length : Int) c) = false) : [] = QuoT r c ∧ 1 = QuoE r c := by
  have e : QuoE r c = 1 := by unfold QuoE; rw [h]; rfl
  exact ⟨by unfold QuoT; rw [e]; rfl, e.symm⟩
theorem quo5 {r : List (List Int)} {c : List Int} (h : (isRk r && partB (r.length : Int) c) = true) (h2 : dec (CongP r c) = false) : [] = QuoT r c ∧ 5 = QuoE r c := by
  have e : QuoE r c = 5 := by unfold QuoE; rw [h, h2]; rfl
  exact ⟨by unfold QuoT; rw [e]; rfl, e.symm⟩
theorem quo0 {r : List (List Int)} {c : List Int} (h : (isRk r && partB (r.length : Int) c) = true) (h2 : dec (CongP r c) = true) : quoT r c = QuoT r c ∧ 0 = QuoE r c := by
  have e : QuoE r c = 0 := by unfold QuoE; rw [h, h2]; rfl
  exact ⟨by unfold QuoT; rw [e]; rfl, e.symm⟩
theorem p_spec_QuotientRack (r : List (List Int)) (classes : List Int) (hp : small2 r ∧ small classes) : wp_spec_QuotientRack r classes (fun y0 y1 => y0 = QuoT r classes ∧ y1 = QuoE r classes) := by
  unfold wp_spec_QuotientRack
  cases hb : isRk r && partB (r.length : Int) classes with
  | false =>
    have e : IcoE r classes = 1 := by unfold IcoE; rw [hb]; rfl
    rw [e]
    exact ⟨hp, fun _ => quo1 hb, fun h => by cases h⟩
  | true =>
    have e : IcoE r classes = 0 := by unfold IcoE; rw [hb]; rfl
    rw [e]
    have hb' := hb
    simp only [Bool.and_eq_true] at hb'
    exact ⟨hp, fun h => absurd rfl h, fun _ => ⟨⟨isRk_tab hb'.1, partB_len hb'.2⟩, fun h2 => quo5 hb h2, fun h2 => ⟨⟨isRk_tab hb'.1, hb'.2, dec_iff.1 h2⟩, quo0 hb h2⟩⟩⟩
theorem p_impl_QuotientRack (r : List (List Int)) (classes : List Int) (hp : small2 r ∧ small classes) : wp_impl_QuotientRack r classes (fun y0 y1 => y0 = QuoT r classes ∧ y1 = QuoE r classes) := by
  unfold wp_impl_QuotientRack
  have hs := hp.1.1
  refine ⟨hp.1, fun h => quo1 (by rw [h]; rfl), fun h => ⟨⟨hp.2, by omega, by omega⟩, fun h2 => quo1 (by rw [h, h2]; rfl), fun h2 => ?_⟩⟩
  have hb : (isRk r && partB (r.length : Int) classes) = true := by rw [h, h2]; rfl
  have hr := isRk_tab h
  have hn := isTab_len hr
  have hc := partB_can h2
  have hl := partB_len h2
  have hN := canN_le hc
  have hfl := length_firI hc
  rw [hfl]
  refine ⟨⟨hr, h2⟩, fun h3 => quo5 hb h3, fun h3 => ⟨⟨hp.2, hc⟩, ⟨by omega, by omega, fun x y x0 x1 y0 y1 => ⟨⟨hr, h2, rfl, x0, x1, y0, y1⟩, ?_⟩⟩, quo0 hb h3⟩⟩
  have fx := fir_el hc ⟨x0, x1⟩
  have fy := fir_el hc ⟨y0, y1⟩
  have e := rk_el hr (x := el (firI classes) x) (y := el (firI classes) y) ⟨fx.1.1, by omega⟩ ⟨fy.1.1, by omega⟩
  have := can_el hc (i := el (el r (el (firI classes) x)) (el (firI classes) y)) ⟨e.1, by omega⟩
  constructor <;> (try dsimp only) <;> (unfold quoV; omega)
set_option maxRecDepth 100000 in
set_option maxHeartbeats 4000000 in
theorem w_spec_l01Own2 (lists : List (List Int)) (Q : List (List Int) → Prop) (h : wp_spec_l01Own2 lists Q) : AF Try.prog 208 [.lst (rows lists)] (fun R_ => ∃ y0, Q y0 ∧ R_ = .own (orows y0)) := by
  refine AF.ofWQ (af_enter (n := 21) Try.func208 rfl (by rfl) rfl (Nat.le_of_ble_eq_true rfl) ?_)
  unfold wp_spec_l01Own2 at h
  refine aw_seq ?_
  refine aw_gh (gh_to (n := 21) (σ' := []) (env' := [(0, .c (.lst (rows lists)))]) rfl rfl ⟨rfl, trivial⟩) ?_
  refine aw_region ?_
  refine run_s (ss_assign rfl) rfl ?_
  refine run_nil ?_
  refine aw_seq ?_
  refine aw_region ?_
  refine run_w (ws_buildSlice (id := 5) (ps := []) rfl rfl (Nat.le_of_ble_eq_true rfl) rfl ⟨rfl, ?_⟩)
  refine run_s (ss_assign rfl) rfl ?_
  refine run_nil ?_
  refine aw_seq ?_
  refine aw_seq ?_
  refine aw_region ?_
  refine run_s (ss_assign rfl) rfl ?_
  refine run_nil ?_
  refine aw_block ?_
  obtain ⟨H1, m1, q1, h⟩ := h
  refine aw_loop2 (fun (v4_1 : Int) (o5_1 : List (List Int)) => ⟨[(5, ⟨orows o5_1, []⟩)], [(0, .c (.lst (rows lists))), (3, .ref 5), (4, .c (ci v4_1))], 21⟩) H1 m1 ⟨0, ([] : List (List Int)), ghe_to (n := 21) rfl rfl ⟨rfl, rfl, rfl, trivial⟩, q1⟩ ?_
  rintro v4_1 o5_1 q1
  replace h := h v4_1 o5_1 q1
  refine aw_seq ?_
  refine aw_seq ?_
  refine aw_region ?_
  refine run_s (ss_move rfl) rfl ?_
  refine run_s (ss_move rfl) rfl ?_
  refine run_s (ss_lenL (f := (fun r => C.lst (ints r))) rfl) rfl ?_
  refine run_s (ss_lss rfl rfl) rfl ?_
  refine run_nil ?_
  refine aw_cond rfl (fun q2 => ?_) (fun q2 => ?_)
  · replace h := h.1 (of_decide_eq_true q2)
    refine aw_skip ?_
    refine aw_seq ?_
    refine aw_block ?_
    refine aw_region ?_
    refine run_s (ss_move rfl) rfl ?_
    refine run_s (ss_move rfl) rfl ?_
    refine run_s (ss_move rfl) rfl ?_
    obtain ⟨q3, h⟩ := h
    refine run_s (ss_idxL rfl rfl q3) rfl ?_
    refine run_s (ss_loadL (f := (fun r => C.lst (ints r))) rfl q3) rfl ?_
    obtain ⟨q4, h⟩ := h
    refine run_w (ws_call (xs := [.tmp 16]) (ids := [17]) rfl rfl rfl rfl (c_spec_l01Own (el lists v4_1) q4) rfl ?_ )
    rintro _ rfl
    refine ⟨rfl, ?_⟩
    refine run_w (ws_buildSlice (id := 18) (ps := [(0, .tmp 17)]) rfl rfl (Nat.le_of_ble_eq_true rfl) rfl ⟨rfl, ?_⟩)
    refine run_gh (gh_fill (id := 18) (id2 := 17) (j := 0) rfl rfl (Nat.le_of_ble_eq_true rfl) rfl rfl rfl) ?_
    obtain ⟨q6, h⟩ := h
    refine run_w (ws_app1 (fun r => C.own (ints r)) (l := o5_1) (m := [(el lists v4_1)]) rfl rfl rfl rfl rfl (Nat.le_of_ble_eq_true rfl) q6 ⟨rfl, ?_⟩)
    refine run_s (ss_assign rfl) rfl ?_
    refine run_nil ?_
    refine aw_gh (gh_to (n := 21) (σ' := [(5, ⟨orows (o5_1 ++ ([(el lists v4_1)])), []⟩)]) (env' := [(0, .c (.lst (rows lists))), (3, .ref 5), (4, .c (ci v4_1))]) rfl rfl ⟨rfl, rfl, rfl, trivial⟩) ?_
    refine aw_region ?_
    refine run_s (ss_move rfl) rfl ?_
    obtain ⟨q7, h⟩ := h
    refine run_s (ss_add rfl rfl q7) rfl ?_
    refine run_s (ss_assign rfl) rfl ?_
    refine run_nil ?_
    exact ⟨v4_1 + 1, o5_1 ++ ([(el lists v4_1)]), ghe_to (n := 21) rfl rfl ⟨rfl, rfl, rfl, trivial⟩, h.1, h.2⟩
  · replace h := h.2 (of_decide_eq_false q2)
    refine aw_exit ?_
    refine aw_seq ?_
    refine aw_gh (gh_to (n := 21) (σ' := [(5, ⟨orows o5_1, []⟩)]) (env' := [(3, .ref 5)]) rfl rfl ⟨rfl, trivial⟩) ?_
    refine aw_region ?_
    refine run_s (ss_move rfl) rfl ?_
    refine run_s (ss_assign rfl) rfl ?_
    refine run_nil ?_
    refine aw_ret ?_
    exact retAF_mk (retv1 rfl (rv_tmp rfl)) rfl rfl ⟨_, (cle_refl _), _, h, rfl⟩

theorem c_spec_l01Own2 (lists : List (List Int)) (hp : small2 lists) : AF Try.prog 208 [.lst (rows lists)] (fun R_ => R_ = .own (orows lists)) :=
  (w_spec_l01Own2 lists (fun y0 => y0 = lists) (p_spec_l01Own2 lists hp)).mono (by rintro r ⟨_, rfl, rfl⟩; rfl)

set_option maxRecDepth 100000 in
set_option maxHeartbeats 4000000 in
theorem w_impl_QuotientRack_1 (x : Int) (y : Int) (classes : List Int) (r : List (List Int)) (first : List Int) (Q : Int → Prop) (h : wp_impl_QuotientRack_1 x y classes r first Q) : AF Try.prog 126 [ci x, ci y, .ptr [.lst (ints classes)], .ptr [.lst (rows r)], .ptr [.lst (ints first)]] (fun R_ => ∃ y0, Q y0 ∧ R_ = ci y0) := by
  refine AF.ofWQ (af_enter (n := 25) Try.func126 rfl (by rfl) rfl (Nat.le_of_ble_eq_true rfl) ?_)
  unfold wp_impl_QuotientRack_1 at h
  refine aw_seq ?_
  refine aw_gh (gh_to (n := 25) (σ' := []) (env' := [(0, .c (ci x)), (1, .c (ci y)), (2, .c (.ptr [.lst (ints classes)])), (3, .c (.ptr [.lst (rows r)])), (4, .c (.ptr [.lst (ints first)]))]) rfl rfl ⟨rfl, rfl, rfl, rfl, rfl, trivial⟩) ?_
  refine aw_region ?_
  refine run_s (ss_assign rfl) rfl ?_
  refine run_nil ?_
  refine aw_seq ?_
  refine aw_gh (gh_to (n := 25) (σ' := []) (env' := [(0, .c (ci x)), (1, .c (ci y)), (2, .c (.ptr [.lst (ints classes)])), (3, .c (.ptr [.lst (rows r)])), (4, .c (.ptr [.lst (ints first)])), (7, .c (ci 0))]) rfl rfl ⟨rfl, rfl, rfl, rfl, rfl, rfl, trivial⟩) ?_
  refine aw_regionD (kd := kdl [1, 0, 1, 1, 0, 0, 1, 0, 1, 1, 0, 0, 1, 0, 1, 0, 1, 0]) (ord := [1, 4, 10, 0, 2, 3, 5, 6, 7, 8, 9, 11, 12, 13, 14, 15, 16, 17]) [] mixed (by kernel_rfl) ?_
  refine rd_s rfl rfl trivial (ss_field_ptr rfl) rfl ?_
  refine rd_s rfl rfl trivial (ss_move rfl) rfl ?_
  refine rd_s rfl rfl trivial (ss_move rfl) rfl ?_
  refine rd_l rfl rfl trivial (ss_load_ptr rfl rfl) rfl ?_
  refine rd_l rfl rfl trivial (ss_load_ptr rfl rfl) rfl ?_
  refine rd_l rfl rfl trivial (ss_load_ptr rfl rfl) rfl ?_
  obtain ⟨q1, h⟩ := h
  refine rd_s rfl rfl trivial (ss_idxL rfl rfl q1) rfl ?_
  refine rd_l rfl rfl trivial (ss_loadL (f := ci) rfl q1) rfl ?_
  obtain ⟨q2, h⟩ := h
  refine rd_s rfl rfl trivial (ss_idxL rfl rfl q2) rfl ?_
  refine rd_l rfl rfl trivial (ss_loadL (f := (fun r => C.lst (ints r))) rfl q2) rfl ?_
  refine rd_l rfl rfl trivial (ss_load_ptr rfl rfl) rfl ?_
  obtain ⟨q3, h⟩ := h
  refine rd_s rfl rfl trivial (ss_idxL rfl rfl q3) rfl ?_
  refine rd_l rfl rfl trivial (ss_loadL (f := ci) rfl q3) rfl ?_
  obtain ⟨q4, h⟩ := h
  refine rd_s rfl rfl trivial (ss_idxL rfl rfl q4) rfl ?_
  refine rd_l rfl rfl trivial (ss_loadL (f := ci) rfl q4) rfl ?_
  obtain ⟨q5, h⟩ := h
  refine rd_s rfl rfl trivial (ss_idxL rfl rfl q5) rfl ?_
  refine rd_l rfl rfl trivial (ss_loadL (f := ci) rfl q5) rfl ?_
  refine rd_s rfl rfl trivial (ss_assign rfl) rfl ?_
  refine rd_nil ?_
  refine aw_ret ?_
  exact retAF_mk (retv1 rfl (rv_tmp rfl)) rfl rfl ⟨_, (cle_refl _), _, h, rfl⟩

theorem c_impl_QuotientRack_1 (x : Int) (y : Int) (classes : List Int) (r : List (List Int)) (first : List Int) (hp : isTab r = true ∧ partB (r.length : Int) classes = true ∧ first = firI classes ∧ 0 ≤ x ∧ x < canN 0 classes ∧ 0 ≤ y ∧ y < canN 0 classes) : AF Try.prog 126 [ci x, ci y, .ptr [.lst (ints classes)], .ptr [.lst (rows r)], .ptr [.lst (ints first)]] (fun R_ => R_ = ci (quoV r classes x y)) :=
  (w_impl_QuotientRack_1 x y classes r first (fun y0 => y0 = quoV r classes x y) (p_impl_QuotientRack_1 x y classes r first hp)).mono (by rintro r ⟨_, rfl, rfl⟩; rfl)

set_option maxRecDepth 100000 in
set_option maxHeartbeats 4000000 in
theorem w_spec_l04Quotient (t : List (List Int)) (classes : List Int) (Q : List (List Int) → Prop) (h : wp_spec_l04Quotient t classes Q) : AF Try.prog 130 [.lst (rows t), .lst (ints classes)] (fun R_ => ∃ y0, Q y0 ∧ R_ = .own (orows y0)) := by
  refine AF.ofWQ (af_enter (n := 55) Try.func130 rfl (by rfl) rfl (Nat.le_of_ble_eq_true rfl) ?_)
  unfold wp_spec_l04Quotient at h
  refine aw_seq ?_
  refine aw_gh (gh_to (n := 55) (σ' := []) (env' := [(0, .c (.lst (rows t))), (1, .c (.lst (ints classes)))]) rfl rfl ⟨rfl, rfl, trivial⟩) ?_
  refine aw_region ?_
  refine run_s (ss_assign rfl) rfl ?_
  refine run_nil ?_
  refine aw_seq ?_
  refine aw_region ?_
  refine run_w (ws_buildSlice (id := 9) (ps := []) rfl rfl (Nat.le_of_ble_eq_true rfl) rfl ⟨rfl, ?_⟩)
  refine run_s (ss_assign rfl) rfl ?_
  refine run_nil ?_
  refine aw_seq ?_
  refine aw_seq ?_
  refine aw_region ?_
  refine run_s (ss_assign rfl) rfl ?_
  refine run_nil ?_
  refine aw_block ?_
  obtain ⟨H1, m1, q1, h⟩ := h
  refine aw_loop2 (fun (v6_1 : Int) (o9_1 : List (List Int)) => ⟨[(9, ⟨orows o9_1, []⟩)], [(0, .c (.lst (rows t))), (1, .c (.lst (ints classes))), (5, .ref 9), (6, .c (ci v6_1))], 55⟩) H1 m1 ⟨0, ([] : List (List Int)), ghe_to (n := 55) rfl rfl ⟨rfl, rfl, rfl, rfl, trivial⟩, q1⟩ ?_
  rintro v6_1 o9_1 q1
  replace h := h v6_1 o9_1 q1
  refine aw_seq ?_
  refine aw_seq ?_
  refine aw_region ?_
  refine run_s (ss_move rfl) rfl ?_
  refine run_s (ss_move rfl) rfl ?_
  refine run_s (ss_lenL (f := (fun r => C.lst (ints r))) rfl) rfl ?_
  refine run_s (ss_lss rfl rfl) rfl ?_
  refine run_nil ?_
  refine aw_cond rfl (fun q2 => ?_) (fun q2 => ?_)
  · replace h := h.1 (of_decide_eq_true q2)
    refine aw_skip ?_
    refine aw_seq ?_
    refine aw_block ?_
    refine aw_seq ?_
    refine aw_seq ?_
    refine aw_region ?_
    refine run_s (ss_move rfl) rfl ?_
    refine run_s (ss_move rfl) rfl ?_
    obtain ⟨q3, h⟩ := h
    refine run_s (ss_idxL rfl rfl q3) rfl ?_
    refine run_s (ss_loadL (f := ci) rfl q3) rfl ?_
    refine run_s (ss_move rfl) rfl ?_
    refine run_s (ss_lenR (f := (fun r => C.own (ints r))) rfl rfl) rfl ?_
    refine run_s (ss_lss rfl rfl) rfl ?_
    refine run_nil ?_
    refine aw_cond rfl (fun q4 => ?_) (fun q4 => ?_)
    · replace h := h.1 (of_decide_eq_true q4)
      refine aw_exit ?_
      refine aw_gh (gh_to (n := 55) (σ' := [(9, ⟨orows o9_1, []⟩)]) (env' := [(0, .c (.lst (rows t))), (1, .c (.lst (ints classes))), (5, .ref 9), (6, .c (ci v6_1))]) rfl rfl ⟨rfl, rfl, rfl, rfl, trivial⟩) ?_
      refine aw_region ?_
      refine run_s (ss_move rfl) rfl ?_
      obtain ⟨q5, h⟩ := h
      refine run_s (ss_add rfl rfl q5) rfl ?_
      refine run_s (ss_assign rfl) rfl ?_
      refine run_nil ?_
      exact ⟨v6_1 + 1, o9_1, ghe_to (n := 55) rfl rfl ⟨rfl, rfl, rfl, rfl, trivial⟩, h.1, h.2⟩
    · replace h := h.2 (of_decide_eq_false q4)
      refine aw_skip ?_
      refine aw_seq ?_
      refine aw_gh (gh_to (n := 55) (σ' := [(9, ⟨orows o9_1, []⟩)]) (env' := [(0, .c (.lst (rows t))), (1, .c (.lst (ints classes))), (5, .ref 9), (6, .c (ci v6_1))]) rfl rfl ⟨rfl, rfl, rfl, rfl, trivial⟩) ?_
      refine aw_region ?_
      refine run_w (ws_buildSlice (id := 23) (ps := []) rfl rfl (Nat.le_of_ble_eq_true rfl) rfl ⟨rfl, ?_⟩)
      refine run_s (ss_assign rfl) rfl ?_
      refine run_nil ?_
      refine aw_seq ?_
      refine aw_seq ?_
      refine aw_region ?_
      refine run_s (ss_assign rfl) rfl ?_
      refine run_nil ?_
      refine aw_block ?_
      obtain ⟨H2, m2, q6, h⟩ := h
      refine aw_loop2 (fun (v8_2 : Int) (o23_2 : List Int) => ⟨[(23, ⟨ints o23_2, []⟩), (9, ⟨orows o9_1, []⟩)], [(0, .c (.lst (rows t))), (1, .c (.lst (ints classes))), (5, .ref 9), (6, .c (ci v6_1)), (7, .ref 23), (8, .c (ci v8_2))], 55⟩) H2 m2 ⟨0, ([] : List Int), ghe_to (n := 55) rfl rfl ⟨rfl, rfl, rfl, rfl, rfl, rfl, trivial⟩, q6⟩ ?_
      rintro v8_2 o23_2 q6
      replace h := h v8_2 o23_2 q6
      refine aw_seq ?_
      refine aw_seq ?_
      refine aw_region ?_
      refine run_s (ss_move rfl) rfl ?_
      refine run_s (ss_move rfl) rfl ?_
      refine run_s (ss_lenL (f := (fun r => C.lst (ints r))) rfl) rfl ?_
      refine run_s (ss_lss rfl rfl) rfl ?_
      refine run_nil ?_
      refine aw_cond rfl (fun q7 => ?_) (fun q7 => ?_)
      · replace h := h.1 (of_decide_eq_true q7)
        refine aw_skip ?_
        refine aw_seq ?_
        refine aw_block ?_
        refine aw_seq ?_
        refine aw_region ?_
        refine run_s (ss_move rfl) rfl ?_
        refine run_s (ss_move rfl) rfl ?_
        obtain ⟨q8, h⟩ := h
        refine run_s (ss_idxL rfl rfl q8) rfl ?_
        refine run_s (ss_loadL (f := ci) rfl q8) rfl ?_
        refine run_s (ss_move rfl) rfl ?_
        refine run_s (ss_lenR (f := ci) rfl rfl) rfl ?_
        refine run_s (ss_eql rfl rfl) rfl ?_
        refine run_nil ?_
        refine aw_cond rfl (fun q9 => ?_) (fun q9 => ?_)
        · replace h := h.1 (of_decide_eq_true q9)
          refine aw_region ?_
          refine run_s (ss_move rfl) rfl ?_
          refine run_s (ss_move rfl) rfl ?_
          refine run_s (ss_move rfl) rfl ?_
          refine run_s (ss_move rfl) rfl ?_
          obtain ⟨q10, h⟩ := h
          refine run_s (ss_idxL rfl rfl q10) rfl ?_
          refine run_s (ss_loadL (f := (fun r => C.lst (ints r))) rfl q10) rfl ?_
          refine run_s (ss_move rfl) rfl ?_
          obtain ⟨q11, h⟩ := h
          refine run_s (ss_idxL rfl rfl q11) rfl ?_
          refine run_s (ss_loadL (f := ci) rfl q11) rfl ?_
          obtain ⟨q12, h⟩ := h
          refine run_s (ss_idxL rfl rfl q12) rfl ?_
          refine run_s (ss_loadL (f := ci) rfl q12) rfl ?_
          refine run_w (ws_buildSlice (id := 48) (ps := [(0, .tmp 47)]) rfl rfl (Nat.le_of_ble_eq_true rfl) rfl ⟨rfl, ?_⟩)
          obtain ⟨q13, h⟩ := h
          refine run_w (ws_app1 ci (l := o23_2) (m := [el classes (el (el t v6_1) v8_2)]) rfl rfl rfl rfl rfl (Nat.le_of_ble_eq_true rfl) q13 ⟨rfl, ?_⟩)
          refine run_s (ss_assign rfl) rfl ?_
          refine run_nil ?_
          refine aw_gh (gh_to (n := 55) (σ' := [(23, ⟨ints (o23_2 ++ ([el classes (el (el t v6_1) v8_2)])), []⟩), (9, ⟨orows o9_1, []⟩)]) (env' := [(0, .c (.lst (rows t))), (1, .c (.lst (ints classes))), (5, .ref 9), (6, .c (ci v6_1)), (7, .ref 23), (8, .c (ci v8_2))]) rfl rfl ⟨rfl, rfl, rfl, rfl, rfl, rfl, trivial⟩) ?_
          refine aw_region ?_
          refine run_s (ss_move rfl) rfl ?_
          obtain ⟨q14, h⟩ := h
          refine run_s (ss_add rfl rfl q14) rfl ?_
          refine run_s (ss_assign rfl) rfl ?_
          refine run_nil ?_
          exact ⟨v8_2 + 1, o23_2 ++ ([el classes (el (el t v6_1) v8_2)]), ghe_to (n := 55) rfl rfl ⟨rfl, rfl, rfl, rfl, rfl, rfl, trivial⟩, h.1, h.2⟩
        · replace h := h.2 (of_decide_eq_false q9)
          refine aw_skip ?_
          refine aw_gh (gh_to (n := 55) (σ' := [(23, ⟨ints o23_2, []⟩), (9, ⟨orows o9_1, []⟩)]) (env' := [(0, .c (.lst (rows t))), (1, .c (.lst (ints classes))), (5, .ref 9), (6, .c (ci v6_1)), (7, .ref 23), (8, .c (ci v8_2))]) rfl rfl ⟨rfl, rfl, rfl, rfl, rfl, rfl, trivial⟩) ?_
          refine aw_region ?_
          refine run_s (ss_move rfl) rfl ?_
          obtain ⟨q15, h⟩ := h
          refine run_s (ss_add rfl rfl q15) rfl ?_
          refine run_s (ss_assign rfl) rfl ?_
          refine run_nil ?_
          exact ⟨v8_2 + 1, o23_2, ghe_to (n := 55) rfl rfl ⟨rfl, rfl, rfl, rfl, rfl, rfl, trivial⟩, h.1, h.2⟩
      · replace h := h.2 (of_decide_eq_false q7)
        refine aw_exit ?_
        refine aw_region ?_
        refine run_s (ss_move rfl) rfl ?_
        refine run_s (ss_move rfl) rfl ?_
        refine run_w (ws_buildSlice (id := 52) (ps := [(0, .tmp 51)]) rfl rfl (Nat.le_of_ble_eq_true rfl) rfl ⟨rfl, ?_⟩)
        refine run_gh (gh_fill (id := 52) (id2 := 23) (j := 0) rfl rfl (Nat.le_of_ble_eq_true rfl) rfl rfl rfl) ?_
        obtain ⟨q16, h⟩ := h
        refine run_w (ws_app1 (fun r => C.own (ints r)) (l := o9_1) (m := [o23_2]) rfl rfl rfl rfl rfl (Nat.le_of_ble_eq_true rfl) q16 ⟨rfl, ?_⟩)
        refine run_s (ss_assign rfl) rfl ?_
        refine run_nil ?_
        refine aw_gh (gh_to (n := 55) (σ' := [(9, ⟨orows (o9_1 ++ ([o23_2])), []⟩)]) (env' := [(0, .c (.lst (rows t))), (1, .c (.lst (ints classes))), (5, .ref 9), (6, .c (ci v6_1))]) rfl rfl ⟨rfl, rfl, rfl, rfl, trivial⟩) ?_
        refine aw_region ?_
        refine run_s (ss_move rfl) rfl ?_
        obtain ⟨q17, h⟩ := h
        refine run_s (ss_add rfl rfl q17) rfl ?_
        refine run_s (ss_assign rfl) rfl ?_
        refine run_nil ?_
        exact ⟨v6_1 + 1, o9_1 ++ ([o23_2]), ghe_to (n := 55) rfl rfl ⟨rfl, rfl, rfl, rfl, trivial⟩, h.1, h.2⟩
  · replace h := h.2 (of_decide_eq_false q2)
    refine aw_exit ?_
    refine aw_seq ?_
    refine aw_gh (gh_to (n := 55) (σ' := [(9, ⟨orows o9_1, []⟩)]) (env' := [(5, .ref 9)]) rfl rfl ⟨rfl, trivial⟩) ?_
    refine aw_region ?_
    refine run_s (ss_move rfl) rfl ?_
    refine run_s (ss_assign rfl) rfl ?_
    refine run_nil ?_
    refine aw_ret ?_
    exact retAF_mk (retv1 rfl (rv_tmp rfl)) rfl rfl ⟨_, (cle_refl _), _, h, rfl⟩

theorem c_spec_l04Quotient (t : List (List Int)) (classes : List Int) (hp : isTab t = true ∧ partB (t.length : Int) classes = true ∧ CongP t classes) : AF Try.prog 130 [.lst (rows t), .lst (ints classes)] (fun R_ => R_ = .own (orows (quoT t classes))) :=
  (w_spec_l04Quotient t classes (fun y0 => y0 = quoT t classes) (p_spec_l04Quotient t classes hp)).mono (by rintro r ⟨_, rfl, rfl⟩; rfl)

set_option maxRecDepth 100000 in
set_option maxHeartbeats 4000000 in
theorem w_spec_QuotientRack (r : List (List Int)) (classes : List Int) (Q : List (List Int) → Int → Prop) (h : wp_spec_QuotientRack r classes Q) : AF Try.prog 59 [.agg [.lst (rows r)], .lst (ints classes)] (fun R_ => ∃ y0 y1, Q y0 y1 ∧ R_ = .tup [.agg [.own (orows y0)], ci y1]) := by
  refine AF.ofWQ (af_enter (n := 27) Try.func59 rfl (by rfl) rfl (Nat.le_of_ble_eq_true rfl) ?_)
  unfold wp_spec_QuotientRack at h
  refine aw_seq ?_
  refine aw_gh (gh_to (n := 27) (σ' := []) (env' := [(0, .c (.agg [.lst (rows r)])), (1, .c (.lst (ints classes)))]) rfl rfl ⟨rfl, rfl, trivial⟩) ?_
  refine aw_region ?_
  refine run_w (ws_boxR rfl (.inl rfl) rfl ⟨rfl, ?_⟩)
  refine run_w (ws_alloc (id := 4) rfl (Nat.le_of_ble_eq_true rfl) ⟨rfl, ?_⟩)
  refine run_s (ss_assign rfl) rfl ?_
  refine run_nil ?_
  refine aw_seq ?_
  refine aw_region ?_
  refine run_s (ss_load_struct rfl (Nat.le_of_ble_eq_true rfl)) rfl ?_
  refine run_s (ss_move rfl) rfl ?_
  obtain ⟨q1, h⟩ := h
  refine run_w (ws_call (xs := [.tmp 7, .tmp 8]) (ids := []) rfl rfl rfl rfl (c_spec_l04Code r classes q1) rfl ?_ )
  rintro _ rfl
  refine ⟨rfl, ?_⟩
  refine run_s (ss_assign rfl) rfl ?_
  refine run_nil ?_
  refine aw_seq ?_
  refine aw_block ?_
  refine aw_seq ?_
  refine aw_region ?_
  refine run_s (ss_move rfl) rfl ?_
  refine run_s (ss_neq rfl rfl) rfl ?_
  refine run_s (ss_assign rfl) rfl ?_
  refine run_nil ?_
  refine aw_cond rfl (fun q3 => ?_) (fun q3 => ?_)
  · replace h := h.1 (of_decide_eq_false (bnot_t q3))
    refine aw_seq ?_
    refine aw_gh (gh_to (n := 27) (σ' := [(4, ⟨[cnil], []⟩)]) (env' := [(4, .cell 4 0), (5, .c (ci 0)), (6, .c (ci (IcoE r classes)))]) rfl rfl ⟨rfl, rfl, rfl, trivial⟩) ?_
    refine aw_region ?_
    refine run_s (ss_build0) rfl ?_
    refine run_s (ss_move rfl) rfl ?_
    refine run_w (ws_storeS rfl rfl (Nat.le_of_ble_eq_true rfl) rfl rfl rfl ⟨rfl, ?_⟩)
    refine run_s (ss_assign rfl) rfl ?_
    refine run_nil ?_
    refine aw_ret ?_
    exact retAF_mk (retv2 rfl (rv_struct rfl rfl rfl) (rv_tmp rfl)) rfl rfl ⟨_, (cle_tup (cleL_cons (cle_agg (cleL_cons cle_nilO cleL_nil)) (cleL_cons (cle_refl _) cleL_nil))), _, _, h, rfl⟩
  · replace h := h.2 (of_decide_eq_true (bnot_f q3))
    refine aw_seq ?_
    refine aw_gh (gh_to (n := 27) (σ' := [(4, ⟨[cnil], []⟩)]) (env' := [(1, .c (.lst (ints classes))), (2, .c (.ptr [.lst (rows r)])), (4, .cell 4 0)]) rfl rfl ⟨rfl, rfl, rfl, trivial⟩) ?_
    refine aw_region ?_
    refine run_s (ss_field_ptr rfl) rfl ?_
    refine run_s (ss_load_ptr rfl rfl) rfl ?_
    refine run_s (ss_move rfl) rfl ?_
    obtain ⟨q4, h⟩ := h
    refine run_w (ws_call (xs := [.tmp 17, .tmp 18]) (ids := []) rfl rfl rfl rfl (c_spec_l04Congruence r classes q4) rfl ?_ )
    rintro _ rfl
    refine ⟨rfl, ?_⟩
    refine run_s (ss_not rfl) rfl ?_
    refine run_s (ss_assign rfl) rfl ?_
    refine run_nil ?_
    refine aw_cond rfl (fun q6 => ?_) (fun q6 => ?_)
    · replace h := h.1 ((bnot_t q6))
      refine aw_seq ?_
      refine aw_gh (gh_to (n := 27) (σ' := [(4, ⟨[cnil], []⟩)]) (env' := [(4, .cell 4 0)]) rfl rfl ⟨rfl, trivial⟩) ?_
      refine aw_region ?_
      refine run_s (ss_build0) rfl ?_
      refine run_w (ws_storeS rfl rfl (Nat.le_of_ble_eq_true rfl) rfl rfl rfl ⟨rfl, ?_⟩)
      refine run_s (ss_assign rfl) rfl ?_
      refine run_nil ?_
      refine aw_ret ?_
      exact retAF_mk (retv2 rfl (rv_struct rfl rfl rfl) (rv_tmp rfl)) rfl rfl ⟨_, (cle_tup (cleL_cons (cle_agg (cleL_cons cle_nilO cleL_nil)) (cleL_cons (cle_refl _) cleL_nil))), _, _, h, rfl⟩
    · replace h := h.2 ((bnot_f q6))
      refine aw_skip ?_
      refine aw_seq ?_
      refine aw_region ?_
      refine run_s (ss_field_ptr rfl) rfl ?_
      refine run_s (ss_load_ptr rfl rfl) rfl ?_
      refine run_s (ss_move rfl) rfl ?_
      obtain ⟨q7, h⟩ := h
      refine run_w (ws_call (xs := [.tmp 23, .tmp 24]) (ids := [25]) rfl rfl rfl rfl (c_spec_l04Quotient r classes q7) rfl ?_ )
      rintro _ rfl
      refine ⟨rfl, ?_⟩
      refine run_s (ss_build (ps := [(0, .tmp 25)]) rfl rfl) rfl ?_
      refine run_w (ws_storeS rfl rfl (Nat.le_of_ble_eq_true rfl) rfl rfl rfl ⟨rfl, ?_⟩)
      refine run_s (ss_assign rfl) rfl ?_
      refine run_nil ?_
      refine aw_ret ?_
      exact retAF_mk (retv2 rfl (rv_struct rfl rfl rfl) (rv_tmp rfl)) rfl rfl ⟨_, (cle_refl _), _, _, h, rfl⟩

theorem c_spec_QuotientRack (r : List (List Int)) (classes : List Int) (hp : small2 r ∧ small classes) : AF Try.prog 59 [.agg [.lst (rows r)], .lst (ints classes)] (fun R_ => R_ = .tup [.agg [.own (orows (QuoT r classes))], ci (QuoE r classes)]) :=
  (w_spec_QuotientRack r classes (fun y0 y1 => y0 = QuoT r classes ∧ y1 = QuoE r classes) (p_spec_QuotientRack r classes hp)).mono (by rintro r ⟨_, _, ⟨rfl, rfl⟩, rfl⟩; rfl)

set_option maxRecDepth 100000 in
set_option maxHeartbeats 4000000 in
theorem w_impl_QuotientRack (r : List (List Int)) (classes : List Int) (Q : List (List Int) → Int → Prop) (h : wp_impl_QuotientRack r classes Q) : AF Try.prog 57 [.agg [.lst (rows r)], .lst (ints classes)] (fun R_ => ∃ y0 y1, Q y0 y1 ∧ R_ = .tup [.agg [.own (orows y0)], ci y1]) := by
  refine AF.ofWQ (af_enter (n := 31) Try.func57 rfl (by rfl) rfl (Nat.le_of_ble_eq_true rfl) ?_)
  unfold wp_impl_QuotientRack at h
  refine aw_seq ?_
  refine aw_gh (gh_to (n := 31) (σ' := []) (env' := [(0, .c (.agg [.lst (rows r)])), (1, .c (.lst (ints classes)))]) rfl rfl ⟨rfl, rfl, trivial⟩) ?_
  refine aw_region ?_
  refine run_w (ws_boxR rfl (.inl rfl) rfl ⟨rfl, ?_⟩)
  refine run_w (ws_boxR rfl (.inr rfl) rfl ⟨rfl, ?_⟩)
  refine run_w (ws_alloc (id := 4) rfl (Nat.le_of_ble_eq_true rfl) ⟨rfl, ?_⟩)
  refine run_s (ss_assign rfl) rfl ?_
  refine run_nil ?_
  refine aw_seq ?_
  refine aw_seq ?_
  refine aw_region ?_
  refine run_s (ss_load_struct rfl (Nat.le_of_ble_eq_true rfl)) rfl ?_
  obtain ⟨q1, h⟩ := h
  refine run_w (ws_call (xs := [.tmp 7]) (ids := []) rfl rfl rfl rfl (c_impl_IsRack r q1) rfl ?_ )
  rintro _ rfl
  refine ⟨rfl, ?_⟩
  refine run_s (ss_not rfl) rfl ?_
  refine run_s (ss_move rfl) rfl ?_
  refine run_split (s := 10) rfl (fun q3 => ?_) (fun q3 => ?_)
  · replace h := h.1 ((bnot_t q3))
    refine run_gf rfl rfl q3 rfl ?_
    refine run_gf rfl rfl q3 rfl ?_
    refine run_gf rfl rfl q3 rfl ?_
    refine run_gf rfl rfl q3 rfl ?_
    refine run_gf rfl rfl q3 rfl ?_
    refine run_gf rfl rfl q3 rfl ?_
    refine run_s (ss_pickT rfl q3 rfl) rfl ?_
    refine run_nil ?_
    refine aw_cond rfl (fun q4 => ?_) (fun q4 => ?_)
    · skip
      refine aw_seq ?_
      refine aw_gh (gh_to (n := 31) (σ' := [(4, ⟨[cnil], []⟩)]) (env' := [(4, .cell 4 0), (5, .c (ci 0))]) rfl rfl ⟨rfl, rfl, trivial⟩) ?_
      refine aw_region ?_
      refine run_s (ss_build0) rfl ?_
      refine run_w (ws_storeS rfl rfl (Nat.le_of_ble_eq_true rfl) rfl rfl rfl ⟨rfl, ?_⟩)
      refine run_s (ss_assign rfl) rfl ?_
      refine run_nil ?_
      refine aw_ret ?_
      exact retAF_mk (retv2 rfl (rv_struct rfl rfl rfl) (rv_tmp rfl)) rfl rfl ⟨_, (cle_tup (cleL_cons (cle_agg (cleL_cons cle_nilO cleL_nil)) (cleL_cons (cle_refl _) cleL_nil))), _, _, h, rfl⟩
    · cases q4
  · replace h := h.2 ((bnot_f q3))
    refine run_gt rfl rfl q3 ?_
    refine run_s (ss_field_ptr rfl) rfl ?_
    refine run_gt rfl rfl q3 ?_
    refine run_s (ss_load_ptr rfl rfl) rfl ?_
    refine run_gt rfl rfl q3 ?_
    refine run_s (ss_lenL (f := (fun r => C.lst (ints r))) rfl) rfl ?_
    refine run_gt rfl rfl q3 ?_
    refine run_s (ss_load_ptr rfl rfl) rfl ?_
    refine run_gt rfl rfl q3 ?_
    obtain ⟨q5, h⟩ := h
    refine run_w (ws_call (xs := [.tmp 13, .tmp 14]) (ids := []) rfl rfl rfl rfl (c_impl_isPartition (r.length : Int) classes q5) rfl ?_ )
    rintro _ rfl
    refine ⟨rfl, ?_⟩
    refine run_gt rfl rfl q3 ?_
    refine run_s (ss_not rfl) rfl ?_
    refine run_s (ss_pickF rfl q3 rfl) rfl ?_
    refine run_nil ?_
    refine aw_cond rfl (fun q7 => ?_) (fun q7 => ?_)
    · replace h := h.1 ((bnot_t q7))
      refine aw_seq ?_
      refine aw_gh (gh_to (n := 31) (σ' := [(4, ⟨[cnil], []⟩)]) (env' := [(4, .cell 4 0), (5, .c (ci 0))]) rfl rfl ⟨rfl, rfl, trivial⟩) ?_
      refine aw_region ?_
      refine run_s (ss_build0) rfl ?_
      refine run_w (ws_storeS rfl rfl (Nat.le_of_ble_eq_true rfl) rfl rfl rfl ⟨rfl, ?_⟩)
      refine run_s (ss_assign rfl) rfl ?_
      refine run_nil ?_
      refine aw_ret ?_
      exact retAF_mk (retv2 rfl (rv_struct rfl rfl rfl) (rv_tmp rfl)) rfl rfl ⟨_, (cle_tup (cleL_cons (cle_agg (cleL_cons cle_nilO cleL_nil)) (cleL_cons (cle_refl _) cleL_nil))), _, _, h, rfl⟩
    · replace h := h.2 ((bnot_f q7))
      refine aw_skip ?_
      refine aw_seq ?_
      refine aw_seq ?_
      refine aw_gh (gh_to (n := 31) (σ' := [(4, ⟨[cnil], []⟩)]) (env' := [(2, .c (.ptr [.lst (rows r)])), (3, .c (.ptr [.lst (ints classes)])), (4, .cell 4 0)]) rfl rfl ⟨rfl, rfl, rfl, trivial⟩) ?_
      refine aw_region ?_
      refine run_s (ss_field_ptr rfl) rfl ?_
      refine run_s (ss_load_ptr rfl rfl) rfl ?_
      refine run_s (ss_load_ptr rfl rfl) rfl ?_
      obtain ⟨q8, h⟩ := h
      refine run_w (ws_call (xs := [.tmp 20, .tmp 21]) (ids := []) rfl rfl rfl rfl (c_impl_isCongruence r classes q8) rfl ?_ )
      rintro _ rfl
      refine ⟨rfl, ?_⟩
      refine run_s (ss_not rfl) rfl ?_
      refine run_nil ?_
      refine aw_cond rfl (fun q10 => ?_) (fun q10 => ?_)
      · replace h := h.1 ((bnot_t q10))
        refine aw_seq ?_
        refine aw_gh (gh_to (n := 31) (σ' := [(4, ⟨[cnil], []⟩)]) (env' := [(4, .cell 4 0)]) rfl rfl ⟨rfl, trivial⟩) ?_
        refine aw_region ?_
        refine run_s (ss_build0) rfl ?_
        refine run_w (ws_storeS rfl rfl (Nat.le_of_ble_eq_true rfl) rfl rfl rfl ⟨rfl, ?_⟩)
        refine run_s (ss_assign rfl) rfl ?_
        refine run_nil ?_
        refine aw_ret ?_
        exact retAF_mk (retv2 rfl (rv_struct rfl rfl rfl) (rv_tmp rfl)) rfl rfl ⟨_, (cle_tup (cleL_cons (cle_agg (cleL_cons cle_nilO cleL_nil)) (cleL_cons (cle_refl _) cleL_nil))), _, _, h, rfl⟩
      · replace h := h.2 ((bnot_f q10))
        refine aw_skip ?_
        refine aw_seq ?_
        refine aw_region ?_
        refine run_s (ss_load_ptr rfl rfl) rfl ?_
        obtain ⟨q11, h⟩ := h
        refine run_w (ws_call (xs := [.tmp 25]) (ids := [26]) rfl rfl rfl rfl (c_impl_firstOf classes q11) rfl ?_ )
        rintro _ rfl
        refine ⟨rfl, ?_⟩
        refine run_w (ws_alloc (id := 6) rfl (Nat.le_of_ble_eq_true rfl) ⟨rfl, ?_⟩)
        refine run_w (ws_store rfl rfl (Nat.le_of_ble_eq_true rfl) rfl rfl ⟨rfl, ?_⟩)
        refine run_nil ?_
        refine aw_seq ?_
        refine aw_region ?_
        refine run_s (ss_loadH rfl rfl rfl rfl) rfl ?_
        refine run_s (ss_lenR (f := ci) rfl rfl) rfl ?_
        refine run_gh (gh_frzE (id := 26) ci rfl (fun _ => rfl)) ?_
        refine run_gh (gh_fillc (id := 6) (j := 0) rfl rfl (Nat.le_of_ble_eq_true rfl)) ?_
        refine run_gh (gh_freeze (id := 6) rfl rfl) ?_
        refine run_gh (gh_to (n := 31) (σ' := [(4, ⟨[cnil], []⟩)]) (env' := [(2, .c (.ptr [.lst (rows r)])), (3, .c (.ptr [.lst (ints classes)])), (4, .cell 4 0), (6, .c (.ptr [.lst (ints (firI classes))])), (19, .c (.ptr [.lst (rows r)])), (20, .c (.lst (rows r))), (21, .c (.lst (ints classes))), (22, .c (cb (dec (CongP r classes)))), (23, .c (cb (!((dec (CongP r classes)))))), (25, .c (.lst (ints classes))), (26, .c (.lst (ints (firI classes)))), (27, .c (.lst (ints (firI classes)))), (28, .c (ci ((firI classes).length : Int)))]) rfl rfl ⟨rfl, rfl, rfl, rfl, rfl, rfl, rfl, rfl, rfl, rfl, rfl, rfl, rfl, trivial⟩) ?_
        refine run_s (ss_makeFunc (os := [.tmp 3, .tmp 2, .tmp 6]) rfl) rfl ?_
        obtain ⟨q13, h⟩ := h
        refine run_w (ws_call (xs := [.tmp 28, .tmp 29]) (ids := [30]) rfl rfl rfl rfl (c_impl_rackBy ((firI classes).length : Int) 126 [.ptr [.lst (ints classes)], .ptr [.lst (rows r)], .ptr [.lst (ints (firI classes))]] (fun z0 z1 => quoV r classes z0 z1) (fun z0 z1 => isTab r = true ∧ partB (r.length : Int) classes = true ∧ (firI classes) = firI classes ∧ 0 ≤ z0 ∧ z0 < canN 0 classes ∧ 0 ≤ z1 ∧ z1 < canN 0 classes) (fun z0 z1 hD => c_impl_QuotientRack_1 z0 z1 classes r (firI classes) hD) q13) rfl ?_ )
        rintro _ rfl
        refine ⟨rfl, ?_⟩
        refine run_w (ws_storeS rfl rfl (Nat.le_of_ble_eq_true rfl) rfl rfl rfl ⟨rfl, ?_⟩)
        refine run_s (ss_assign rfl) rfl ?_
        refine run_nil ?_
        refine aw_ret ?_
        exact retAF_mk (retv2 rfl (rv_struct rfl rfl rfl) (rv_tmp rfl)) rfl rfl ⟨_, (cle_refl _), _, _, h, rfl⟩

theorem c_impl_QuotientRack (r : List (List Int)) (classes : List Int) (hp : small2 r ∧ small classes) : AF Try.prog 57 [.agg [.lst (rows r)], .lst (ints classes)] (fun R_ => R_ = .tup [.agg [.own (orows (QuoT r classes))], ci (QuoE r classes)]) :=
  (w_impl_QuotientRack r classes (fun y0 y1 => y0 = QuoT r classes ∧ y1 = QuoE r classes) (p_impl_QuotientRack r classes hp)).mono (by rintro r ⟨_, _, ⟨rfl, rfl⟩, rfl⟩; rfl)

end Go.Proofs.Ytbodlnpmplcaoaa
