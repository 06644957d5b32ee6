/- Contracts of functions that the law FnAffineCycles reaches: conditions, plain proofs, walks; no condition. -/
import Derived.Test.YtjolbldlhjfciaaDoorKAffineCyclesb
import Derived.Test.YtjolbldlhjfciaaDoorPP
namespace Go.Proofs.YtjolbldlhjfciaaDoor

def wp_strings_IndexByte (s : List UInt8) (c : Int) (Q : Int → Prop) : Prop :=
 (0 ≤ c ∧ c ≤ 255) ∧
 Q (idxF s (fun b_ => decide ((b_.toNat : Int) = c)))

def wp_strings_genSplit (s : List UInt8) (sep : List UInt8) (save : Int) (n : Int) (Q : List (List UInt8) → Prop) : Prop :=
 ((n = 0 →
 False) ∧
 (¬ (n = 0) →
 (((sep == ([] : List UInt8)) = true →
 False) ∧
 ((sep == ([] : List UInt8)) = false →
 ((n < 0 →
 (sep.length = 1) ∧
 (InI (((s.filter (fun b_ => decide ((b_.toNat : Int) = byt sep 0))).length : Int) + 1)) ∧
 (InI ((s.length : Int) + 1)) ∧
 (0 ≤ (if (s.length : Int) + 1 < ((s.filter (fun b_ => decide ((b_.toNat : Int) = byt sep 0))).length : Int) + 1 then (s.length : Int) + 1 else ((s.filter (fun b_ => decide ((b_.toNat : Int) = byt sep 0))).length : Int) + 1) ∧ (if (s.length : Int) + 1 < ((s.filter (fun b_ => decide ((b_.toNat : Int) = byt sep 0))).length : Int) + 1 then (s.length : Int) + 1 else ((s.filter (fun b_ => decide ((b_.toNat : Int) = byt sep 0))).length : Int) + 1) ≤ 1000000000) ∧
 (InI ((if (s.length : Int) + 1 < ((s.filter (fun b_ => decide ((b_.toNat : Int) = byt sep 0))).length : Int) + 1 then (s.length : Int) + 1 else ((s.filter (fun b_ => decide ((b_.toNat : Int) = byt sep 0))).length : Int) + 1) - 1)) ∧
 ∃ (H1 : List UInt8 → Int → List (List UInt8) → Prop) (m1 : List UInt8 → Int → List (List UInt8) → Nat),
 H1 s 0 (List.replicate (if (s.length : Int) + 1 < ((s.filter (fun b_ => decide ((b_.toNat : Int) = byt sep 0))).length : Int) + 1 then (s.length : Int) + 1 else ((s.filter (fun b_ => decide ((b_.toNat : Int) = byt sep 0))).length : Int) + 1).toNat ([] : List UInt8)) ∧
 ∀ (v0_1 : List UInt8) (v10_1 : Int) (o31_1 : List (List UInt8)), H1 v0_1 v10_1 o31_1 →
 ( ((v10_1 < (if (s.length : Int) + 1 < ((s.filter (fun b_ => decide ((b_.toNat : Int) = byt sep 0))).length : Int) + 1 then (s.length : Int) + 1 else ((s.filter (fun b_ => decide ((b_.toNat : Int) = byt sep 0))).length : Int) + 1) - 1 →
 (sep.length = 1) ∧
 ((idxF v0_1 (fun b_ => decide ((b_.toNat : Int) = byt sep 0)) < 0 →
 (0 ≤ v10_1 ∧ v10_1 < (o31_1.length : Int)) ∧
 (InI (v10_1 + 1)) ∧
 ((0 : Int) ≤ 0 ∧ 0 ≤ v10_1 + 1 ∧ v10_1 + 1 ≤ ((se o31_1 v10_1 v0_1).length : Int)) ∧
 Q (sl (se o31_1 v10_1 v0_1) 0 (v10_1 + 1))) ∧
 (¬ (idxF v0_1 (fun b_ => decide ((b_.toNat : Int) = byt sep 0)) < 0) →
 (InI ((idxF v0_1 (fun b_ => decide ((b_.toNat : Int) = byt sep 0))) + save)) ∧
 ((0 : Int) ≤ 0 ∧ 0 ≤ (idxF v0_1 (fun b_ => decide ((b_.toNat : Int) = byt sep 0))) + save ∧ (idxF v0_1 (fun b_ => decide ((b_.toNat : Int) = byt sep 0))) + save ≤ (v0_1.length : Int)) ∧
 (0 ≤ v10_1 ∧ v10_1 < (o31_1.length : Int)) ∧
 (InI ((idxF v0_1 (fun b_ => decide ((b_.toNat : Int) = byt sep 0))) + (sep.length : Int))) ∧
 (0 ≤ (idxF v0_1 (fun b_ => decide ((b_.toNat : Int) = byt sep 0))) + (sep.length : Int) ∧ (idxF v0_1 (fun b_ => decide ((b_.toNat : Int) = byt sep 0))) + (sep.length : Int) ≤ (v0_1.length : Int) ∧ (v0_1.length : Int) ≤ (v0_1.length : Int)) ∧
 (InI (v10_1 + 1)) ∧
 (H1 (sl v0_1 ((idxF v0_1 (fun b_ => decide ((b_.toNat : Int) = byt sep 0))) + (sep.length : Int)) (v0_1.length : Int)) (v10_1 + 1) (se o31_1 v10_1 (sl v0_1 0 ((idxF v0_1 (fun b_ => decide ((b_.toNat : Int) = byt sep 0))) + save))) ∧ m1 (sl v0_1 ((idxF v0_1 (fun b_ => decide ((b_.toNat : Int) = byt sep 0))) + (sep.length : Int)) (v0_1.length : Int)) (v10_1 + 1) (se o31_1 v10_1 (sl v0_1 0 ((idxF v0_1 (fun b_ => decide ((b_.toNat : Int) = byt sep 0))) + save))) < m1 v0_1 v10_1 o31_1)))) ∧
 (¬ (v10_1 < (if (s.length : Int) + 1 < ((s.filter (fun b_ => decide ((b_.toNat : Int) = byt sep 0))).length : Int) + 1 then (s.length : Int) + 1 else ((s.filter (fun b_ => decide ((b_.toNat : Int) = byt sep 0))).length : Int) + 1) - 1) →
 (0 ≤ v10_1 ∧ v10_1 < (o31_1.length : Int)) ∧
 (InI (v10_1 + 1)) ∧
 ((0 : Int) ≤ 0 ∧ 0 ≤ v10_1 + 1 ∧ v10_1 + 1 ≤ ((se o31_1 v10_1 v0_1).length : Int)) ∧
 Q (sl (se o31_1 v10_1 v0_1) 0 (v10_1 + 1)))))) ∧
 (¬ (n < 0) →
 False))))))

def wp_strings_Split (s : List UInt8) (sep : List UInt8) (Q : List (List UInt8) → Prop) : Prop :=
 (sep.length = 1 ∧ (0 : Int) = 0 ∧ (-1 : Int) = -1 ∧ (s.length : Int) ≤ 1000000) ∧
 Q (splS s (byt sep 0))

def wp_impl_readDigits (text : List UInt8) (Q : List Int → Bool → Prop) : Prop :=
 (0 ≤ (text.length : Int) ∧ (text.length : Int) ≤ 1000000000) ∧
 ∃ (H1 : Int → List Int → Prop) (m1 : Int → List Int → Nat),
 H1 0 (List.replicate (text.length : Int).toNat (0 : Int)) ∧
 ∀ (v12_1 : Int) (o9_1 : List Int), H1 v12_1 o9_1 →
 ( ((v12_1 < ((List.replicate (text.length : Int).toNat (0 : Int)).length : Int) →
 (0 ≤ v12_1 ∧ v12_1 < (text.length : Int)) ∧
 (0 ≤ (byt text v12_1) ∧ (byt text v12_1) ≤ 255) ∧
 ((idxF ([48, 49, 50, 51, 52, 53, 54, 55, 56, 57, 97, 98] : List UInt8) (fun b_ => decide ((b_.toNat : Int) = (byt text v12_1))) < 0 →
 Q ([]) false) ∧
 (¬ (idxF ([48, 49, 50, 51, 52, 53, 54, 55, 56, 57, 97, 98] : List UInt8) (fun b_ => decide ((b_.toNat : Int) = (byt text v12_1))) < 0) →
 (0 ≤ v12_1 ∧ v12_1 < (o9_1.length : Int)) ∧
 (InI (v12_1 + 1)) ∧
 (H1 (v12_1 + 1) (se o9_1 v12_1 (idxF ([48, 49, 50, 51, 52, 53, 54, 55, 56, 57, 97, 98] : List UInt8) (fun b_ => decide ((b_.toNat : Int) = (byt text v12_1))))) ∧ m1 (v12_1 + 1) (se o9_1 v12_1 (idxF ([48, 49, 50, 51, 52, 53, 54, 55, 56, 57, 97, 98] : List UInt8) (fun b_ => decide ((b_.toNat : Int) = (byt text v12_1))))) < m1 v12_1 o9_1)))) ∧
 (¬ (v12_1 < ((List.replicate (text.length : Int).toNat (0 : Int)).length : Int)) →
 Q o9_1 true)))

def wp_impl_readTable (text : List UInt8) (Q : List (List Int) → Bool → Prop) : Prop :=
 ((156 < (text.length : Int) →
 Q ([]) false) ∧
 (¬ (156 < (text.length : Int)) →
 (([47] : List UInt8).length = 1 ∧ (text.length : Int) ≤ 1000000) ∧
 ∃ (H1 : Int → List (List Int) → Prop) (m1 : Int → List (List Int) → Nat),
 H1 0 ([] : List (List Int)) ∧
 ∀ (v15_1 : Int) (o100004_1 : List (List Int)), H1 v15_1 o100004_1 →
 ( ((v15_1 < ((splS text (byt ([47] : List UInt8) 0)).length : Int) →
 (0 ≤ v15_1 ∧ v15_1 < ((splS text (byt ([47] : List UInt8) 0)).length : Int)) ∧
 (small (el (splS text (byt ([47] : List UInt8) 0)) v15_1)) ∧
 (((rdgB (el (splS text (byt ([47] : List UInt8) 0)) v15_1)) = false →
 Q ([]) false) ∧
 ((rdgB (el (splS text (byt ([47] : List UInt8) 0)) v15_1)) = true →
 ((o100004_1.length : Int) + (([rdgT (el (splS text (byt ([47] : List UInt8) 0)) v15_1)]).length : Int) ≤ 1000000000) ∧
 (InI (v15_1 + 1)) ∧
 (H1 (v15_1 + 1) (o100004_1 ++ ([rdgT (el (splS text (byt ([47] : List UInt8) 0)) v15_1)])) ∧ m1 (v15_1 + 1) (o100004_1 ++ ([rdgT (el (splS text (byt ([47] : List UInt8) 0)) v15_1)])) < m1 v15_1 o100004_1)))) ∧
 (¬ (v15_1 < ((splS text (byt ([47] : List UInt8) 0)).length : Int)) →
 (small2 o100004_1) ∧
 Q o100004_1 (isTab o100004_1))))))

def wp_impl_ParseCycleSet (text : List UInt8) (Q : List (List Int) → Int → Prop) : Prop :=
 (small text) ∧
 (((rtbB text) = false →
 Q ([]) 6) ∧
 ((rtbB text) = true →
 (small2 (rdiT text)) ∧
 (((isCyc (rdiT text)) = false →
 Q ([]) 6) ∧
 ((isCyc (rdiT text)) = true →
 Q (rdiT text) 0))))

theorem p_strings_IndexByte (s : List UInt8) (c : Int) (hp : 0 ≤ c ∧ c ≤ 255) : wp_strings_IndexByte s c (fun y0 => y0 = idxF s (fun b_ => decide ((b_.toNat : Int) = c))) := ⟨hp, rfl⟩
theorem p_strings_genSplit (s sep : List UInt8) (save n : Int) (hp : sep.length = 1 ∧ save = 0 ∧ n = -1 ∧ (s.length : Int) ≤ 1000000) : wp_strings_genSplit s sep save n (fun y0 => y0 = splS s (byt sep 0)) := by
  obtain ⟨h1, rfl, rfl, hs⟩ := hp
  have hsep : (sep == ([] : List UInt8)) = false := by
    cases sep with
    | nil => simp at h1
    | cons a r => rfl
  unfold wp_strings_genSplit
  generalize byt sep 0 = c
  have hl := splS_len (c := c) s
  have hle := splS_le s c
  rw [if_neg (by omega : ¬ ((s.length : Int) + 1 < ((s.filter (fun b_ => decide ((b_.toNat : Int) = c))).length : Int) + 1))]
  have hN : ((s.filter (fun b_ => decide ((b_.toNat : Int) = c))).length : Int) + 1 = ((splS s c).length : Int) := by omega
  rw [hN]
  have hsl : (sep.length : Int) = 1 := by omega
  rw [hsl]
  refine ⟨fun h => absurd h (by decide), fun _ => ⟨fun h => (by rw [hsep] at h; cases h), fun _ => ⟨fun _ => ⟨h1, ⟨by omega, by omega⟩, ⟨by omega, by omega⟩, ⟨by omega, by omega⟩, ⟨by omega, by omega⟩, ?_⟩, fun h => absurd (by decide) h⟩⟩⟩
  refine ⟨fun v i o => (0 ≤ i ∧ i < ((splS s c).length : Int)) ∧ o.length = (splS s c).length ∧ splS s c = o.take i.toNat ++ splS v c ∧ v.length ≤ s.length, fun v _ _ => v.length, ⟨⟨by omega, by omega⟩, by simp, by simp, Nat.le_refl _⟩, ?_⟩
  rintro v i o ⟨⟨i0, i1⟩, ol, oe, vl⟩
  dsimp only
  have hlen : (splS s c).length = i.toNat + (splS v c).length := by
    have e := congrArg List.length oe
    rw [List.length_append, List.length_take] at e; omega
  have take1 : ∀ x : List UInt8, (se o i x).take (i.toNat + 1) = o.take i.toNat ++ [x] := fun x => by
    have := take_el (l := se o i x) (i := i) ⟨i0, by simp; omega⟩
    rw [show (i + 1).toNat = i.toNat + 1 by omega, el_se_same ⟨i0, by omega⟩] at this
    rw [this]
    unfold se
    rw [List.take_set, List.set_eq_of_length_le (by rw [List.length_take]; omega)]
  refine ⟨fun hi => ⟨h1, fun hneg => ?_, fun hpos => ?_⟩, fun hi => ?_⟩
  · exfalso
    have hno := idx_no hneg
    have := splS_none (c := c) (s := v) fun b hb => of_decide_eq_false (hno b hb)
    rw [this] at hlen; simp at hlen; omega
  · obtain ⟨p, b, r, rfl, hp1, hb, he⟩ := idx_cut hpos
    rw [he]
    have hb := of_decide_eq_true hb
    have hp1 : ∀ x ∈ p, ¬ (x.toNat : Int) = c := fun x hx => of_decide_eq_false (hp1 x hx)
    have hcut := splS_cut (r := r) hp1 hb
    have e1 : sl (p ++ b :: r) ((p.length : Int) + 1) ((p ++ b :: r).length : Int) = r := by
      unfold sl
      rw [show ((p ++ b :: r).length : Int).toNat = (p ++ b :: r).length by omega, List.take_length, show ((p.length : Int) + 1).toNat = p.length + 1 by omega]
      simp
    have e2 : sl (p ++ b :: r) 0 ((p.length : Int) + 0) = p := by
      unfold sl
      rw [show ((p.length : Int) + 0).toNat = p.length by omega]
      simp
    rw [e1, e2]
    simp only [List.length_append, List.length_cons] at vl hlen ⊢
    refine ⟨⟨by omega, by omega⟩, ⟨by omega, by omega, by omega⟩, ⟨i0, by omega⟩, ⟨by omega, by omega⟩, ⟨by omega, by omega, by omega⟩, ⟨by omega, by omega⟩, ⟨⟨by omega, by omega⟩, by simpa using ol, ?_, by omega⟩, by omega⟩
    rw [show (i + 1).toNat = i.toNat + 1 by omega, take1, oe, hcut]; simp
  · have hv1 : (splS v c).length = 1 := by omega
    have hv : splS v c = [v] := by
      refine splS_none fun b hb => ?_
      have := splS_len (c := c) v
      have hz : (v.filter fun b => decide ((b.toNat : Int) = c)) = [] := List.eq_nil_of_length_eq_zero (by omega)
      exact of_decide_eq_false (by
        have := List.filter_eq_nil_iff.1 hz b hb
        simpa using this)
    refine ⟨⟨i0, by omega⟩, ⟨by omega, by omega⟩, ⟨by omega, by omega, by simp; omega⟩, ?_⟩
    unfold sl
    rw [show (i + 1).toNat = i.toNat + 1 by omega, take1, oe, hv]; rfl
theorem p_strings_Split (s sep : List UInt8) (hp : sep.length = 1 ∧ (s.length : Int) ≤ 1000000) : wp_strings_Split s sep (fun y0 => y0 = splS s (byt sep 0)) := ⟨⟨hp.1, rfl, rfl, hp.2⟩, rfl⟩
theorem p_impl_readDigits (text : List UInt8) (hp : small text) : wp_impl_readDigits text (fun y0 y1 => y0 = rdgT text ∧ y1 = rdgB text) := by
  have hs : (text.length : Int) ≤ 1000000000 := hp
  unfold wp_impl_readDigits
  simp only [List.length_replicate]
  refine ⟨⟨by omega, hs⟩, fun i o => (0 ≤ i ∧ i ≤ (text.length : Int)) ∧ o.length = text.length ∧ (Upto i fun j => el o j = digV (byt text j)) ∧ (Upto i fun j => 0 ≤ digV (byt text j)), fun i _ => ((text.length : Int) - i).toNat, ⟨⟨by omega, by omega⟩, by simp, upto0, upto0⟩, ?_⟩
  rintro i o ⟨⟨i0, i1⟩, ol, oI, oJ⟩
  dsimp only
  have e := idx_dig (byt_in text i)
  refine ⟨fun hi => ⟨⟨i0, by omega⟩, byt_in _ _, fun hneg => ?_, fun hpos => ?_⟩, fun hi => ?_⟩
  · rw [e] at hneg
    have := rdgB_no (s := text) (j := i) ⟨i0, by omega⟩ (by omega)
    exact ⟨by unfold rdgT; rw [this]; rfl, this.symm⟩
  · rw [e] at hpos ⊢
    exact ⟨⟨i0, by omega⟩, ⟨by omega, by omega⟩, ⟨⟨by omega, by omega⟩, by simpa using ol, fill1 (f := fun j => digV (byt text j)) ⟨i0, by omega⟩ oI rfl, upto1 oJ (by omega)⟩, by omega⟩
  · have hb : rdgB text = true := rdgB_iff.2 fun j j0 j1 => oJ j j0 (by omega)
    refine ⟨?_, hb.symm⟩
    unfold rdgT
    rw [if_pos hb]
    exact ext_el (by simp [ol]) fun j j0 j1 => by rw [rdgV_el ⟨j0, by omega⟩]; exact oI j j0 (by omega)
theorem rd_snoc {P : List (List UInt8)} {i : Int} (h : 0 ≤ i ∧ i < (P.length : Int)) : (P.take (i + 1).toNat).map rdgV = (P.take i.toNat).map rdgV ++ [rdgV (el P i)] := by rw [take_el h]; simp
theorem rd_all {P : List (List UInt8)} {i : Int} (h : 0 ≤ i ∧ i < (P.length : Int)) : (P.take (i + 1).toNat).all rdgB = ((P.take i.toNat).all rdgB && rdgB (el P i)) := by rw [take_el h]; simp
theorem rdr_no {P : List (List UInt8)} {i : Int} (h : 0 ≤ i ∧ i < (P.length : Int)) (hb : rdgB (el P i) = false) : P.all rdgB = false := by
  cases ha : P.all rdgB with
  | false => rfl
  | true => rw [List.all_eq_true.1 ha _ (el_mem h)] at hb; cases hb
theorem rd_small {text : List UInt8} (hs : (text.length : Int) ≤ 2000000) : small2 (rtbV text) := by
  have := splS_le text 47
  refine ⟨by show ((rtbV text).length : Int) ≤ 1000000000; unfold rtbV; rw [List.length_map]; omega, fun r hr => ?_⟩
  unfold rtbV at hr
  obtain ⟨x, hx, rfl⟩ := List.mem_map.1 hr
  have := splS_part x hx
  show ((rdgV x).length : Int) ≤ 1000000000
  rw [rdgV_len]; omega
theorem p_impl_readTable (text : List UInt8) (hp : small text) : wp_impl_readTable text (fun y0 y1 => y0 = rdiT text ∧ y1 = rtbB text) := by
  unfold wp_impl_readTable
  rw [show byt ([47] : List UInt8) 0 = 47 from rfl]
  refine ⟨fun h => ?_, fun h => ⟨⟨rfl, by omega⟩, ?_⟩⟩
  · refine ⟨by unfold rdiT; rw [if_neg (by omega)], ?_⟩
    cases hb : rtbB text with
    | false => rfl
    | true => have := rtb_short hb; omega
  have hle := splS_le text 47
  have hpart : ∀ z, 0 ≤ z → z < ((splS text 47).length : Int) → small (el (splS text 47) z) := fun z z0 z1 => by
    have := splS_part _ (el_mem (l := splS text 47) ⟨z0, z1⟩)
    show ((el (splS text 47) z).length : Int) ≤ 1000000000
    omega
  refine ⟨fun i o => (0 ≤ i ∧ i ≤ ((splS text 47).length : Int)) ∧ o = ((splS text 47).take i.toNat).map rdgV ∧ ((splS text 47).take i.toNat).all rdgB = true, fun i _ => (((splS text 47).length : Int) - i).toNat, ⟨⟨by omega, by omega⟩, by simp, by simp⟩, ?_⟩
  rintro i o ⟨⟨i0, i1⟩, rfl, oI⟩
  dsimp only
  refine ⟨fun hi => ⟨⟨i0, hi⟩, hpart i i0 hi, fun hb => ?_, fun hb => ?_⟩, fun hi => ?_⟩
  · have hn := rdr_no ⟨i0, hi⟩ hb
    exact ⟨by unfold rdiT; rw [hn, if_neg (by simp)], by unfold rtbB; rw [hn, Bool.false_and]⟩
  · have hr : rdgT (el (splS text 47) i) = rdgV (el (splS text 47) i) := by unfold rdgT; rw [if_pos hb]
    rw [hr]
    refine ⟨by simp; omega, ⟨by omega, by omega⟩, ⟨⟨by omega, by omega⟩, (rd_snoc ⟨i0, hi⟩).symm, by rw [rd_all ⟨i0, hi⟩, oI, hb]; rfl⟩, by omega⟩
  · have e : (splS text 47).take i.toNat = splS text 47 := List.take_of_length_le (by omega)
    rw [e] at oI ⊢
    refine ⟨rd_small (text := text) (by omega), ?_, ?_⟩
    · unfold rdiT; rw [if_pos ⟨by omega, oI⟩]; rfl
    · unfold rtbB; rw [oI, Bool.true_and]; rfl
theorem rdi_eq {s : List UInt8} (h : rtbB s = true) : rdiT s = rtbV s ∧ rtbT s = rtbV s := by
  have h' := h
  unfold rtbB at h'
  rw [Bool.and_eq_true] at h'
  exact ⟨by unfold rdiT; rw [if_pos ⟨rtb_short h, h'.1⟩], by unfold rtbT; rw [if_pos h]⟩
theorem short_small {s : List UInt8} (h : shortS s) : small s := by
  have : (s.length : Int) ≤ 2000000 := h
  show (s.length : Int) ≤ 1000000000
  omega
theorem p_impl_ParseCycleSet (text : List UInt8) (hp : shortS text) : wp_impl_ParseCycleSet text (fun y0 y1 => y0 = pcyT text ∧ y1 = pcyE text) := by
  refine ⟨short_small hp, fun h => ?_, fun h => ?_⟩
  · have e : pcyE text = 6 := by unfold pcyE; rw [h]; simp
    exact ⟨by unfold pcyT; rw [e]; rfl, e.symm⟩
  · rw [(rdi_eq h).1]
    refine ⟨rd_small hp, fun g => ?_, fun g => ?_⟩
    · have e : pcyE text = 6 := by unfold pcyE; rw [g]; simp
      exact ⟨by unfold pcyT; rw [e]; rfl, e.symm⟩
    · have e : pcyE text = 0 := by unfold pcyE; rw [if_pos ⟨h, g⟩]
      exact ⟨by unfold pcyT; rw [if_pos e], e.symm⟩

set_option maxRecDepth 100000 in
set_option maxHeartbeats 4000000 in
theorem w_strings_IndexByte (s : List UInt8) (c : Int) (Q : Int → Prop) (h : wp_strings_IndexByte s c Q) : AF Tryd.prog 45 [cs s, cy c] (fun R_ => ∃ y0, Q y0 ∧ R_ = ci y0) := by
  refine AF.ofWQ (af_enter (n := 8) Tryd.func45 rfl (by rfl) rfl (Nat.le_of_ble_eq_true rfl) ?_)
  unfold wp_strings_IndexByte at h
  refine aw_seq ?_
  refine aw_gh (gh_to (n := 8) (σ' := []) (env' := [(0, .c (cs s)), (1, .c (cy c))]) rfl rfl ⟨rfl, rfl, trivial⟩) ?_
  refine aw_region ?_
  refine run_s (ss_assign rfl) rfl ?_
  refine run_nil ?_
  refine aw_seq ?_
  refine aw_region ?_
  refine run_s (ss_move rfl) rfl ?_
  refine run_s (ss_move rfl) rfl ?_
  obtain ⟨q1, h⟩ := h
  refine run_w (ws_call (xs := [.tmp 5, .tmp 6]) (ids := []) rfl rfl rfl rfl (c_internal_stringslite_IndexByte s c q1) rfl ?_ )
  rintro _ rfl
  refine ⟨rfl, ?_⟩
  refine run_s (ss_assign rfl) rfl ?_
  refine run_nil ?_
  refine aw_ret ?_
  exact retAF_mk (retv1 rfl (rv_tmp rfl)) rfl rfl ⟨_, (cle_refl _), _, h, rfl⟩

theorem c_strings_IndexByte (s : List UInt8) (c : Int) (hp : 0 ≤ c ∧ c ≤ 255) : AF Tryd.prog 45 [cs s, cy c] (fun R_ => R_ = ci (idxF s (fun b_ => decide ((b_.toNat : Int) = c)))) :=
  (w_strings_IndexByte s c (fun y0 => y0 = idxF s (fun b_ => decide ((b_.toNat : Int) = c))) (p_strings_IndexByte s c hp)).mono (by rintro r ⟨_, rfl, rfl⟩; rfl)

set_option maxRecDepth 100000 in
set_option maxHeartbeats 4000000 in
theorem w_strings_genSplit (s : List UInt8) (sep : List UInt8) (save : Int) (n : Int) (Q : List (List UInt8) → Prop) (h : wp_strings_genSplit s sep save n Q) : AF Tryd.prog 44 [cs s, cs sep, ci save, ci n] (fun R_ => ∃ y0, Q y0 ∧ R_ = .lst (strs y0)) := by
  refine AF.ofWQ (af_enter (n := 66) Tryd.func44 rfl (by rfl) rfl (Nat.le_of_ble_eq_true rfl) ?_)
  unfold wp_strings_genSplit at h
  refine aw_seq ?_
  refine aw_gh (gh_to (n := 66) (σ' := []) (env' := [(0, .c (cs s)), (1, .c (cs sep)), (2, .c (ci save)), (3, .c (ci n))]) rfl rfl ⟨rfl, rfl, rfl, rfl, trivial⟩) ?_
  refine aw_region ?_
  refine run_s (ss_assign rfl) rfl ?_
  refine run_nil ?_
  refine aw_seq ?_
  refine aw_seq ?_
  refine aw_region ?_
  refine run_s (ss_move rfl) rfl ?_
  refine run_s (ss_eql rfl rfl) rfl ?_
  refine run_nil ?_
  refine aw_cond rfl (fun q1 => ?_) (fun q1 => ?_)
  ·replace h := h.1 (of_decide_eq_true q1)
   exact h.elim
  ·replace h := h.2 (of_decide_eq_false q1)
   refine aw_skip ?_
   refine aw_seq ?_
   refine aw_seq ?_
   refine aw_region ?_
   refine run_s (ss_move rfl) rfl ?_
   refine run_s (ss_eqlS rfl rfl) rfl ?_
   refine run_nil ?_
   refine aw_cond rfl (fun q2 => ?_) (fun q2 => ?_)
   ·replace h := h.1 (q2)
    exact h.elim
   ·replace h := h.2 (q2)
    refine aw_skip ?_
    refine aw_seq ?_
    refine aw_seq ?_
    refine aw_gh (gh_to (n := 66) (σ' := []) (env' := [(0, .c (cs s)), (1, .c (cs sep)), (2, .c (ci save)), (3, .c (ci n))]) rfl rfl ⟨rfl, rfl, rfl, rfl, trivial⟩) ?_
    refine aw_region ?_
    refine run_s (ss_move rfl) rfl ?_
    refine run_s (ss_lss rfl rfl) rfl ?_
    refine run_nil ?_
    refine aw_cond rfl (fun q3 => ?_) (fun q3 => ?_)
    ·replace h := h.1 (of_decide_eq_true q3)
     refine aw_region ?_
     refine run_s (ss_move rfl) rfl ?_
     refine run_s (ss_move rfl) rfl ?_
     obtain ⟨q4, h⟩ := h
     refine run_w (ws_call (xs := [.tmp 21, .tmp 22]) (ids := []) rfl rfl rfl rfl (c_strings_Count s sep q4) rfl ?_ )
     rintro _ rfl
     refine ⟨rfl, ?_⟩
     obtain ⟨q6, h⟩ := h
     refine run_s (ss_add rfl rfl q6) rfl ?_
     refine run_s (ss_assign rfl) rfl ?_
     refine run_nil ?_
     refine aw_seq ?_
     refine aw_region ?_
     refine run_s (ss_move rfl) rfl ?_
     refine run_s (ss_move rfl) rfl ?_
     refine run_s (ss_lenS rfl) rfl ?_
     obtain ⟨q7, h⟩ := h
     refine run_s (ss_add rfl rfl q7) rfl ?_
     refine run_s (ss_min rfl rfl) rfl ?_
     refine run_s (ss_assign rfl) rfl ?_
     refine run_nil ?_
     refine aw_seq ?_
     refine aw_gh (gh_to (n := 66) (σ' := []) (env' := [(0, .c (cs s)), (1, .c (cs sep)), (2, .c (ci save)), (3, .c (ci (if (s.length : Int) + 1 < ((s.filter (fun b_ => decide ((b_.toNat : Int) = byt sep 0))).length : Int) + 1 then (s.length : Int) + 1 else ((s.filter (fun b_ => decide ((b_.toNat : Int) = byt sep 0))).length : Int) + 1)))]) rfl rfl ⟨rfl, rfl, rfl, rfl, trivial⟩) ?_
     refine aw_region ?_
     refine run_s (ss_move rfl) rfl ?_
     obtain ⟨q8, h⟩ := h
     refine run_w (ws_mk (id := 31) cs ([] : List UInt8) rfl rfl rfl q8 (Nat.le_of_ble_eq_true rfl) rfl ⟨rfl, ?_⟩)
     refine run_s (ss_assign rfl) rfl ?_
     refine run_nil ?_
     refine aw_seq ?_
     refine aw_region ?_
     refine run_s (ss_move rfl) rfl ?_
     obtain ⟨q9, h⟩ := h
     refine run_s (ss_sub rfl rfl q9) rfl ?_
     refine run_s (ss_assign rfl) rfl ?_
     refine run_nil ?_
     refine aw_seq ?_
     refine aw_gh (gh_to (n := 66) (σ' := [(31, ⟨strs (List.replicate (if (s.length : Int) + 1 < ((s.filter (fun b_ => decide ((b_.toNat : Int) = byt sep 0))).length : Int) + 1 then (s.length : Int) + 1 else ((s.filter (fun b_ => decide ((b_.toNat : Int) = byt sep 0))).length : Int) + 1).toNat ([] : List UInt8)), []⟩)]) (env' := [(0, .c (cs s)), (1, .c (cs sep)), (2, .c (ci save)), (3, .c (ci ((if (s.length : Int) + 1 < ((s.filter (fun b_ => decide ((b_.toNat : Int) = byt sep 0))).length : Int) + 1 then (s.length : Int) + 1 else ((s.filter (fun b_ => decide ((b_.toNat : Int) = byt sep 0))).length : Int) + 1) - 1))), (9, .ref 31)]) rfl rfl ⟨rfl, rfl, rfl, rfl, rfl, trivial⟩) ?_
     refine aw_region ?_
     refine run_s (ss_assign rfl) rfl ?_
     refine run_nil ?_
     refine aw_seq ?_
     refine aw_block ?_
     obtain ⟨H1, m1, q10, h⟩ := h
     refine aw_loop3 (fun (v0_1 : List UInt8) (v10_1 : Int) (o31_1 : List (List UInt8)) => ⟨[(31, ⟨strs o31_1, []⟩)], [(0, .c (cs v0_1)), (1, .c (cs sep)), (2, .c (ci save)), (3, .c (ci ((if (s.length : Int) + 1 < ((s.filter (fun b_ => decide ((b_.toNat : Int) = byt sep 0))).length : Int) + 1 then (s.length : Int) + 1 else ((s.filter (fun b_ => decide ((b_.toNat : Int) = byt sep 0))).length : Int) + 1) - 1))), (9, .ref 31), (10, .c (ci v10_1))], 66⟩) H1 m1 ⟨s, 0, List.replicate (if (s.length : Int) + 1 < ((s.filter (fun b_ => decide ((b_.toNat : Int) = byt sep 0))).length : Int) + 1 then (s.length : Int) + 1 else ((s.filter (fun b_ => decide ((b_.toNat : Int) = byt sep 0))).length : Int) + 1).toNat ([] : List UInt8), ghe_to (n := 66) rfl rfl ⟨rfl, rfl, rfl, rfl, rfl, rfl, trivial⟩, q10⟩ ?_
     rintro v0_1 v10_1 o31_1 q10
     replace h := h v0_1 v10_1 o31_1 q10
     refine aw_seq ?_
     refine aw_seq ?_
     refine aw_region ?_
     refine run_s (ss_move rfl) rfl ?_
     refine run_s (ss_move rfl) rfl ?_
     refine run_s (ss_lss rfl rfl) rfl ?_
     refine run_nil ?_
     refine aw_cond rfl (fun q11 => ?_) (fun q11 => ?_)
     ·replace h := h.1 (of_decide_eq_true q11)
      refine aw_skip ?_
      refine aw_block ?_
      refine aw_seq ?_
      refine aw_region ?_
      refine run_s (ss_move rfl) rfl ?_
      refine run_s (ss_move rfl) rfl ?_
      obtain ⟨q12, h⟩ := h
      refine run_w (ws_call (xs := [.tmp 37, .tmp 38]) (ids := []) rfl rfl rfl rfl (c_strings_Index v0_1 sep q12) rfl ?_ )
      rintro _ rfl
      refine ⟨rfl, ?_⟩
      refine run_s (ss_assign rfl) rfl ?_
      refine run_nil ?_
      refine aw_seq ?_
      refine aw_seq ?_
      refine aw_gh (gh_to (n := 66) (σ' := [(31, ⟨strs o31_1, []⟩)]) (env' := [(0, .c (cs v0_1)), (1, .c (cs sep)), (2, .c (ci save)), (3, .c (ci ((if (s.length : Int) + 1 < ((s.filter (fun b_ => decide ((b_.toNat : Int) = byt sep 0))).length : Int) + 1 then (s.length : Int) + 1 else ((s.filter (fun b_ => decide ((b_.toNat : Int) = byt sep 0))).length : Int) + 1) - 1))), (9, .ref 31), (10, .c (ci v10_1)), (11, .c (ci (idxF v0_1 (fun b_ => decide ((b_.toNat : Int) = byt sep 0)))))]) rfl rfl ⟨rfl, rfl, rfl, rfl, rfl, rfl, rfl, trivial⟩) ?_
      refine aw_region ?_
      refine run_s (ss_move rfl) rfl ?_
      refine run_s (ss_lss rfl rfl) rfl ?_
      refine run_nil ?_
      refine aw_cond rfl (fun q14 => ?_) (fun q14 => ?_)
      ·replace h := h.1 (of_decide_eq_true q14)
       refine aw_exit ?_
       refine aw_seq ?_
       refine aw_region ?_
       refine run_s (ss_move rfl) rfl ?_
       refine run_s (ss_move rfl) rfl ?_
       refine run_s (ss_move rfl) rfl ?_
       obtain ⟨q15, h⟩ := h
       refine run_s (ss_idxR (f := cs) rfl rfl rfl q15) rfl ?_
       refine run_w (ws_storeE rfl rfl (map_lt q15) rfl rfl (map_se (f := cs)) rfl ⟨rfl, ?_⟩)
       refine run_nil ?_
       refine aw_seq ?_
       refine aw_gh (gh_to (n := 66) (σ' := [(31, ⟨strs (se o31_1 v10_1 v0_1), []⟩)]) (env' := [(9, .ref 31), (10, .c (ci v10_1))]) rfl rfl ⟨rfl, rfl, trivial⟩) ?_
       refine aw_region ?_
       refine run_s (ss_move rfl) rfl ?_
       refine run_s (ss_move rfl) rfl ?_
       obtain ⟨q16, h⟩ := h
       refine run_s (ss_add rfl rfl q16) rfl ?_
       refine run_gh (gh_frzE (id := 31) cs rfl (fun _ => rfl)) ?_
       obtain ⟨q17, h⟩ := h
       refine run_s (ss_slL (f := cs) rfl rfl ⟨_, rfl⟩ q17) rfl ?_
       refine run_s (ss_assign rfl) rfl ?_
       refine run_nil ?_
       refine aw_ret ?_
       exact retAF_mk (retv1 rfl (rv_tmp rfl)) rfl rfl ⟨_, (cle_refl _), _, h, rfl⟩
      ·replace h := h.2 (of_decide_eq_false q14)
       refine aw_skip ?_
       refine aw_seq ?_
       refine aw_region ?_
       refine run_s (ss_move rfl) rfl ?_
       refine run_s (ss_move rfl) rfl ?_
       refine run_s (ss_move rfl) rfl ?_
       refine run_s (ss_move rfl) rfl ?_
       refine run_s (ss_move rfl) rfl ?_
       obtain ⟨q18, h⟩ := h
       refine run_s (ss_add rfl rfl q18) rfl ?_
       obtain ⟨q19, h⟩ := h
       refine run_s (ss_slS rfl bnd_none (bnd_some rfl) q19) rfl ?_
       obtain ⟨q20, h⟩ := h
       refine run_s (ss_idxR (f := cs) rfl rfl rfl q20) rfl ?_
       refine run_w (ws_storeE rfl rfl (map_lt q20) rfl rfl (map_se (f := cs)) rfl ⟨rfl, ?_⟩)
       refine run_nil ?_
       refine aw_seq ?_
       refine aw_gh (gh_to (n := 66) (σ' := [(31, ⟨strs (se o31_1 v10_1 (sl v0_1 0 ((idxF v0_1 (fun b_ => decide ((b_.toNat : Int) = byt sep 0))) + save))), []⟩)]) (env' := [(0, .c (cs v0_1)), (1, .c (cs sep)), (2, .c (ci save)), (3, .c (ci ((if (s.length : Int) + 1 < ((s.filter (fun b_ => decide ((b_.toNat : Int) = byt sep 0))).length : Int) + 1 then (s.length : Int) + 1 else ((s.filter (fun b_ => decide ((b_.toNat : Int) = byt sep 0))).length : Int) + 1) - 1))), (9, .ref 31), (10, .c (ci v10_1)), (11, .c (ci (idxF v0_1 (fun b_ => decide ((b_.toNat : Int) = byt sep 0)))))]) rfl rfl ⟨rfl, rfl, rfl, rfl, rfl, rfl, rfl, trivial⟩) ?_
       refine aw_region ?_
       refine run_s (ss_move rfl) rfl ?_
       refine run_s (ss_move rfl) rfl ?_
       refine run_s (ss_move rfl) rfl ?_
       refine run_s (ss_lenS rfl) rfl ?_
       obtain ⟨q21, h⟩ := h
       refine run_s (ss_add rfl rfl q21) rfl ?_
       obtain ⟨q22, h⟩ := h
       refine run_s (ss_slS rfl (bnd_some rfl) bnd_none q22) rfl ?_
       refine run_s (ss_assign rfl) rfl ?_
       refine run_nil ?_
       refine aw_gh (gh_to (n := 66) (σ' := [(31, ⟨strs (se o31_1 v10_1 (sl v0_1 0 ((idxF v0_1 (fun b_ => decide ((b_.toNat : Int) = byt sep 0))) + save))), []⟩)]) (env' := [(0, .c (cs (sl v0_1 ((idxF v0_1 (fun b_ => decide ((b_.toNat : Int) = byt sep 0))) + (sep.length : Int)) (v0_1.length : Int)))), (1, .c (cs sep)), (2, .c (ci save)), (3, .c (ci ((if (s.length : Int) + 1 < ((s.filter (fun b_ => decide ((b_.toNat : Int) = byt sep 0))).length : Int) + 1 then (s.length : Int) + 1 else ((s.filter (fun b_ => decide ((b_.toNat : Int) = byt sep 0))).length : Int) + 1) - 1))), (9, .ref 31), (10, .c (ci v10_1))]) rfl rfl ⟨rfl, rfl, rfl, rfl, rfl, rfl, trivial⟩) ?_
       refine aw_region ?_
       refine run_s (ss_move rfl) rfl ?_
       obtain ⟨q23, h⟩ := h
       refine run_s (ss_add rfl rfl q23) rfl ?_
       refine run_s (ss_assign rfl) rfl ?_
       refine run_nil ?_
       exact ⟨sl v0_1 ((idxF v0_1 (fun b_ => decide ((b_.toNat : Int) = byt sep 0))) + (sep.length : Int)) (v0_1.length : Int), v10_1 + 1, se o31_1 v10_1 (sl v0_1 0 ((idxF v0_1 (fun b_ => decide ((b_.toNat : Int) = byt sep 0))) + save)), ghe_to (n := 66) rfl rfl ⟨rfl, rfl, rfl, rfl, rfl, rfl, trivial⟩, h.1, h.2⟩
     ·replace h := h.2 (of_decide_eq_false q11)
      refine aw_exit ?_
      refine aw_seq ?_
      refine aw_region ?_
      refine run_s (ss_move rfl) rfl ?_
      refine run_s (ss_move rfl) rfl ?_
      refine run_s (ss_move rfl) rfl ?_
      obtain ⟨q24, h⟩ := h
      refine run_s (ss_idxR (f := cs) rfl rfl rfl q24) rfl ?_
      refine run_w (ws_storeE rfl rfl (map_lt q24) rfl rfl (map_se (f := cs)) rfl ⟨rfl, ?_⟩)
      refine run_nil ?_
      refine aw_seq ?_
      refine aw_gh (gh_to (n := 66) (σ' := [(31, ⟨strs (se o31_1 v10_1 v0_1), []⟩)]) (env' := [(9, .ref 31), (10, .c (ci v10_1))]) rfl rfl ⟨rfl, rfl, trivial⟩) ?_
      refine aw_region ?_
      refine run_s (ss_move rfl) rfl ?_
      refine run_s (ss_move rfl) rfl ?_
      obtain ⟨q25, h⟩ := h
      refine run_s (ss_add rfl rfl q25) rfl ?_
      refine run_gh (gh_frzE (id := 31) cs rfl (fun _ => rfl)) ?_
      obtain ⟨q26, h⟩ := h
      refine run_s (ss_slL (f := cs) rfl rfl ⟨_, rfl⟩ q26) rfl ?_
      refine run_s (ss_assign rfl) rfl ?_
      refine run_nil ?_
      refine aw_ret ?_
      exact retAF_mk (retv1 rfl (rv_tmp rfl)) rfl rfl ⟨_, (cle_refl _), _, h, rfl⟩
    ·replace h := h.2 (of_decide_eq_false q3)
     exact h.elim

theorem c_strings_genSplit (s : List UInt8) (sep : List UInt8) (save : Int) (n : Int) (hp : sep.length = 1 ∧ save = 0 ∧ n = -1 ∧ (s.length : Int) ≤ 1000000) : AF Tryd.prog 44 [cs s, cs sep, ci save, ci n] (fun R_ => R_ = .lst (strs (splS s (byt sep 0)))) :=
  (w_strings_genSplit s sep save n (fun y0 => y0 = splS s (byt sep 0)) (p_strings_genSplit s sep save n hp)).mono (by rintro r ⟨_, rfl, rfl⟩; rfl)

set_option maxRecDepth 100000 in
set_option maxHeartbeats 4000000 in
theorem w_strings_Split (s : List UInt8) (sep : List UInt8) (Q : List (List UInt8) → Prop) (h : wp_strings_Split s sep Q) : AF Tryd.prog 35 [cs s, cs sep] (fun R_ => ∃ y0, Q y0 ∧ R_ = .lst (strs y0)) := by
  refine AF.ofWQ (af_enter (n := 8) Tryd.func35 rfl (by rfl) rfl (Nat.le_of_ble_eq_true rfl) ?_)
  unfold wp_strings_Split at h
  refine aw_seq ?_
  refine aw_gh (gh_to (n := 8) (σ' := []) (env' := [(0, .c (cs s)), (1, .c (cs sep))]) rfl rfl ⟨rfl, rfl, trivial⟩) ?_
  refine aw_region ?_
  refine run_s (ss_assign rfl) rfl ?_
  refine run_nil ?_
  refine aw_seq ?_
  refine aw_region ?_
  refine run_s (ss_move rfl) rfl ?_
  refine run_s (ss_move rfl) rfl ?_
  obtain ⟨q1, h⟩ := h
  refine run_w (ws_call (xs := [.tmp 5, .tmp 6, .const (.int .i64 (0)), .const (.int .i64 (-1))]) (ids := []) rfl rfl rfl rfl (c_strings_genSplit s sep 0 (-1) q1) rfl ?_ )
  rintro _ rfl
  refine ⟨rfl, ?_⟩
  refine run_s (ss_assign rfl) rfl ?_
  refine run_nil ?_
  refine aw_ret ?_
  exact retAF_mk (retv1 rfl (rv_tmp rfl)) rfl rfl ⟨_, (cle_refl _), _, h, rfl⟩

theorem c_strings_Split (s : List UInt8) (sep : List UInt8) (hp : sep.length = 1 ∧ (s.length : Int) ≤ 1000000) : AF Tryd.prog 35 [cs s, cs sep] (fun R_ => R_ = .lst (strs (splS s (byt sep 0)))) :=
  (w_strings_Split s sep (fun y0 => y0 = splS s (byt sep 0)) (p_strings_Split s sep hp)).mono (by rintro r ⟨_, rfl, rfl⟩; rfl)

set_option maxRecDepth 100000 in
set_option maxHeartbeats 4000000 in
theorem w_impl_readDigits (text : List UInt8) (Q : List Int → Bool → Prop) (h : wp_impl_readDigits text Q) : AF Tryd.prog 36 [cs text] (fun R_ => ∃ y0 y1, Q y0 y1 ∧ R_ = .tup [.own (ints y0), cb y1]) := by
  refine AF.ofWQ (af_enter (n := 27) Tryd.func36 rfl (by rfl) rfl (Nat.le_of_ble_eq_true rfl) ?_)
  unfold wp_impl_readDigits at h
  refine aw_seq ?_
  refine aw_gh (gh_to (n := 27) (σ' := []) (env' := [(0, .c (cs text))]) rfl rfl ⟨rfl, trivial⟩) ?_
  refine aw_region ?_
  refine run_s (ss_assign rfl) rfl ?_
  refine run_s (ss_assign rfl) rfl ?_
  refine run_nil ?_
  refine aw_seq ?_
  refine aw_region ?_
  refine run_s (ss_move rfl) rfl ?_
  refine run_s (ss_lenS rfl) rfl ?_
  obtain ⟨q1, h⟩ := h
  refine run_w (ws_mk (id := 9) ci (0 : Int) rfl rfl rfl q1 (Nat.le_of_ble_eq_true rfl) rfl ⟨rfl, ?_⟩)
  refine run_s (ss_assign rfl) rfl ?_
  refine run_nil ?_
  refine aw_seq ?_
  refine aw_seq ?_
  refine aw_region ?_
  refine run_s (ss_move rfl) rfl ?_
  refine run_s (ss_lenR (f := ci) rfl rfl) rfl ?_
  refine run_s (ss_move rfl) rfl ?_
  refine run_nil ?_
  refine aw_block ?_
  obtain ⟨H1, m1, q2, h⟩ := h
  refine aw_loop2 (fun (v12_1 : Int) (o9_1 : List Int) => ⟨[(9, ⟨ints o9_1, []⟩)], [(0, .c (cs text)), (4, .ref 9), (11, .c (ci ((List.replicate (text.length : Int).toNat (0 : Int)).length : Int))), (12, .c (ci v12_1))], 27⟩) H1 m1 ⟨0, List.replicate (text.length : Int).toNat (0 : Int), ghe_to (n := 27) rfl rfl ⟨rfl, rfl, rfl, rfl, trivial⟩, q2⟩ ?_
  rintro v12_1 o9_1 q2
  replace h := h v12_1 o9_1 q2
  refine aw_seq ?_
  refine aw_region ?_
  refine run_s (ss_lss rfl rfl) rfl ?_
  refine run_nil ?_
  refine aw_seq ?_
  refine aw_cond rfl (fun q3 => ?_) (fun q3 => ?_)
  ·replace h := h.1 (of_decide_eq_true q3)
   refine aw_skip ?_
   refine aw_seq ?_
   refine aw_block ?_
   refine aw_seq ?_
   refine aw_region ?_
   refine run_s (ss_move rfl) rfl ?_
   refine run_s (ss_assign rfl) rfl ?_
   refine run_nil ?_
   refine aw_seq ?_
   refine aw_region ?_
   refine run_s (ss_move rfl) rfl ?_
   refine run_s (ss_move rfl) rfl ?_
   obtain ⟨q4, h⟩ := h
   refine run_s (ss_indexS (s := text) rfl rfl q4) rfl ?_
   obtain ⟨q5, h⟩ := h
   refine run_w (ws_call (xs := [.const (.string ⟨#[48, 49, 50, 51, 52, 53, 54, 55, 56, 57, 97, 98]⟩), .tmp 17]) (ids := []) rfl rfl rfl rfl (c_strings_IndexByte ([48, 49, 50, 51, 52, 53, 54, 55, 56, 57, 97, 98] : List UInt8) (byt text v12_1) q5) rfl ?_ )
   rintro _ rfl
   refine ⟨rfl, ?_⟩
   refine run_s (ss_assign rfl) rfl ?_
   refine run_nil ?_
   refine aw_seq ?_
   refine aw_seq ?_
   refine aw_gh (gh_to (n := 27) (σ' := [(9, ⟨ints o9_1, []⟩)]) (env' := [(0, .c (cs text)), (4, .ref 9), (5, .c (ci v12_1)), (6, .c (ci (idxF ([48, 49, 50, 51, 52, 53, 54, 55, 56, 57, 97, 98] : List UInt8) (fun b_ => decide ((b_.toNat : Int) = (byt text v12_1)))))), (11, .c (ci ((List.replicate (text.length : Int).toNat (0 : Int)).length : Int))), (12, .c (ci v12_1))]) rfl rfl ⟨rfl, rfl, rfl, rfl, rfl, rfl, trivial⟩) ?_
   refine aw_region ?_
   refine run_s (ss_move rfl) rfl ?_
   refine run_s (ss_lss rfl rfl) rfl ?_
   refine run_nil ?_
   refine aw_cond rfl (fun q7 => ?_) (fun q7 => ?_)
   ·replace h := h.1 (of_decide_eq_true q7)
    refine aw_seq ?_
    refine aw_gh (gh_to (n := 27) (σ' := [(9, ⟨ints o9_1, []⟩)]) (env' := []) rfl rfl trivial) ?_
    refine aw_region ?_
    refine run_s (ss_assign rfl) rfl ?_
    refine run_s (ss_assign rfl) rfl ?_
    refine run_nil ?_
    refine aw_ret ?_
    exact retAF_mk (retv2 rfl (rv_tmp rfl) (rv_tmp rfl)) rfl rfl ⟨_, (cle_tup (cleL_cons cle_nilO (cleL_cons (cle_refl _) cleL_nil))), _, _, h, rfl⟩
   ·replace h := h.2 (of_decide_eq_false q7)
    refine aw_skip ?_
    refine aw_region ?_
    refine run_s (ss_move rfl) rfl ?_
    refine run_s (ss_move rfl) rfl ?_
    refine run_s (ss_move rfl) rfl ?_
    obtain ⟨q8, h⟩ := h
    refine run_s (ss_idxR (f := ci) rfl rfl rfl q8) rfl ?_
    refine run_w (ws_storeE rfl rfl (map_lt q8) rfl rfl (map_se (f := ci)) rfl ⟨rfl, ?_⟩)
    refine run_nil ?_
    refine aw_gh (gh_to (n := 27) (σ' := [(9, ⟨ints (se o9_1 v12_1 (idxF ([48, 49, 50, 51, 52, 53, 54, 55, 56, 57, 97, 98] : List UInt8) (fun b_ => decide ((b_.toNat : Int) = (byt text v12_1))))), []⟩)]) (env' := [(0, .c (cs text)), (4, .ref 9), (11, .c (ci ((List.replicate (text.length : Int).toNat (0 : Int)).length : Int))), (12, .c (ci v12_1))]) rfl rfl ⟨rfl, rfl, rfl, rfl, trivial⟩) ?_
    refine aw_region ?_
    obtain ⟨q9, h⟩ := h
    refine run_s (ss_add rfl rfl q9) rfl ?_
    refine run_s (ss_move rfl) rfl ?_
    refine run_nil ?_
    exact ⟨v12_1 + 1, se o9_1 v12_1 (idxF ([48, 49, 50, 51, 52, 53, 54, 55, 56, 57, 97, 98] : List UInt8) (fun b_ => decide ((b_.toNat : Int) = (byt text v12_1)))), ghe_to (n := 27) rfl rfl ⟨rfl, rfl, rfl, rfl, trivial⟩, h.1, h.2⟩
  ·replace h := h.2 (of_decide_eq_false q3)
   refine aw_exit ?_
   refine aw_seq ?_
   refine aw_region ?_
   refine run_s (ss_move rfl) rfl ?_
   refine run_s (ss_assign rfl) rfl ?_
   refine run_s (ss_assign rfl) rfl ?_
   refine run_nil ?_
   refine aw_ret ?_
   exact retAF_mk (retv2 rfl (rv_tmp rfl) (rv_tmp rfl)) rfl rfl ⟨_, (cle_refl _), _, _, h, rfl⟩

theorem c_impl_readDigits (text : List UInt8) (hp : small text) : AF Tryd.prog 36 [cs text] (fun R_ => R_ = .tup [.own (ints (rdgT text)), cb (rdgB text)]) :=
  (w_impl_readDigits text (fun y0 y1 => y0 = rdgT text ∧ y1 = rdgB text) (p_impl_readDigits text hp)).mono (by rintro r ⟨_, _, ⟨rfl, rfl⟩, rfl⟩; rfl)

set_option maxRecDepth 100000 in
set_option maxHeartbeats 4000000 in
theorem w_impl_readTable (text : List UInt8) (Q : List (List Int) → Bool → Prop) (h : wp_impl_readTable text Q) : AF Tryd.prog 23 [cs text] (fun R_ => ∃ y0 y1, Q y0 y1 ∧ R_ = .tup [.own (orows y0), cb y1]) := by
  refine AF.ofWQ (af_enter (n := 34) Tryd.func23 rfl (by rfl) rfl (Nat.le_of_ble_eq_true rfl) ?_)
  unfold wp_impl_readTable at h
  refine aw_seq ?_
  refine aw_gh (gh_to (n := 34) (σ' := []) (env' := [(0, .c (cs text))]) rfl rfl ⟨rfl, trivial⟩) ?_
  refine aw_region ?_
  refine run_s (ss_assign rfl) rfl ?_
  refine run_s (ss_assign rfl) rfl ?_
  refine run_nil ?_
  refine aw_seq ?_
  refine aw_seq ?_
  refine aw_region ?_
  refine run_s (ss_move rfl) rfl ?_
  refine run_s (ss_lenS rfl) rfl ?_
  refine run_s (ss_gtr rfl rfl) rfl ?_
  refine run_nil ?_
  refine aw_cond rfl (fun q1 => ?_) (fun q1 => ?_)
  ·replace h := h.1 (of_decide_eq_true q1)
   refine aw_seq ?_
   refine aw_gh (gh_to (n := 34) (σ' := []) (env' := [(2, .c (cnil)), (3, .c (cb false))]) rfl rfl ⟨rfl, rfl, trivial⟩) ?_
   refine aw_region ?_
   refine run_s (ss_assign rfl) rfl ?_
   refine run_s (ss_assign rfl) rfl ?_
   refine run_nil ?_
   refine aw_ret ?_
   exact retAF_mk (retv2 rfl (rv_tmp rfl) (rv_tmp rfl)) rfl rfl ⟨_, (cle_tup (cleL_cons cle_nilO (cleL_cons (cle_refl _) cleL_nil))), _, _, h, rfl⟩
  ·replace h := h.2 (of_decide_eq_false q1)
   refine aw_skip ?_
   refine aw_seq ?_
   refine aw_gh (gh_to (n := 34) (σ' := []) (env' := [(0, .c (cs text))]) rfl rfl ⟨rfl, trivial⟩) ?_
   refine aw_region ?_
   refine run_s (ss_assign rfl) rfl ?_
   refine run_nil ?_
   refine aw_seq ?_
   refine aw_seq ?_
   refine aw_region ?_
   refine run_s (ss_move rfl) rfl ?_
   obtain ⟨q2, h⟩ := h
   refine run_w (ws_call (xs := [.tmp 12, .const (.string ⟨#[47]⟩)]) (ids := []) rfl rfl rfl rfl (c_strings_Split text ([47] : List UInt8) q2) rfl ?_ )
   rintro _ rfl
   refine ⟨rfl, ?_⟩
   refine run_s (ss_lenL (f := cs) rfl) rfl ?_
   refine run_s (ss_move rfl) rfl ?_
   refine run_nil ?_
   refine aw_block ?_
   obtain ⟨H1, m1, q4, h⟩ := h
   refine aw_loop2 (fun (v15_1 : Int) (o100004_1 : List (List Int)) => ⟨[(100004, ⟨orows o100004_1, []⟩)], [(4, .ref 100004), (13, .c (.lst (strs (splS text (byt ([47] : List UInt8) 0))))), (14, .c (ci ((splS text (byt ([47] : List UInt8) 0)).length : Int))), (15, .c (ci v15_1))], 34⟩) H1 m1 ⟨0, ([] : List (List Int)), ghe_step (gh_nilE (i := 4) (id := 100004) rfl rfl) (ghe_to (n := 34) rfl rfl ⟨rfl, rfl, rfl, rfl, trivial⟩), q4⟩ ?_
   rintro v15_1 o100004_1 q4
   replace h := h v15_1 o100004_1 q4
   refine aw_seq ?_
   refine aw_region ?_
   refine run_s (ss_lss rfl rfl) rfl ?_
   refine run_nil ?_
   refine aw_seq ?_
   refine aw_cond rfl (fun q5 => ?_) (fun q5 => ?_)
   ·replace h := h.1 (of_decide_eq_true q5)
    refine aw_skip ?_
    refine aw_seq ?_
    refine aw_block ?_
    refine aw_seq ?_
    refine aw_region ?_
    obtain ⟨q6, h⟩ := h
    refine run_s (ss_idxL rfl rfl q6) rfl ?_
    refine run_s (ss_loadL (f := cs) rfl q6) rfl ?_
    refine run_s (ss_assign rfl) rfl ?_
    refine run_nil ?_
    refine aw_seq ?_
    refine aw_region ?_
    refine run_s (ss_move rfl) rfl ?_
    obtain ⟨q7, h⟩ := h
    refine run_w (ws_call (xs := [.tmp 20]) (ids := [21]) rfl rfl rfl rfl (c_impl_readDigits (el (splS text (byt ([47] : List UInt8) 0)) v15_1) q7) rfl ?_ )
    rintro _ rfl
    refine ⟨rfl, ?_⟩
    refine run_s (ss_move rfl) rfl ?_
    refine run_s (ss_extract rfl rfl) rfl ?_
    refine run_s (ss_extract rfl rfl) rfl ?_
    refine run_s (ss_assign rfl) rfl ?_
    refine run_s (ss_assign rfl) rfl ?_
    refine run_nil ?_
    refine aw_seq ?_
    refine aw_seq ?_
    refine aw_gh (gh_to (n := 34) (σ' := [(21, ⟨ints (rdgT (el (splS text (byt ([47] : List UInt8) 0)) v15_1)), []⟩), (100004, ⟨orows o100004_1, []⟩)]) (env' := [(4, .ref 100004), (7, .ref 21), (8, .c (cb (rdgB (el (splS text (byt ([47] : List UInt8) 0)) v15_1)))), (13, .c (.lst (strs (splS text (byt ([47] : List UInt8) 0))))), (14, .c (ci ((splS text (byt ([47] : List UInt8) 0)).length : Int))), (15, .c (ci v15_1))]) rfl rfl ⟨rfl, rfl, rfl, rfl, rfl, rfl, trivial⟩) ?_
    refine aw_region ?_
    refine run_s (ss_move rfl) rfl ?_
    refine run_s (ss_not rfl) rfl ?_
    refine run_nil ?_
    refine aw_cond rfl (fun q9 => ?_) (fun q9 => ?_)
    ·replace h := h.1 ((bnot_t q9))
     refine aw_seq ?_
     refine aw_gh (gh_to (n := 34) (σ' := [(21, ⟨ints (rdgT (el (splS text (byt ([47] : List UInt8) 0)) v15_1)), []⟩), (100004, ⟨orows o100004_1, []⟩)]) (env' := []) rfl rfl trivial) ?_
     refine aw_region ?_
     refine run_s (ss_assign rfl) rfl ?_
     refine run_s (ss_assign rfl) rfl ?_
     refine run_nil ?_
     refine aw_ret ?_
     exact retAF_mk (retv2 rfl (rv_tmp rfl) (rv_tmp rfl)) rfl rfl ⟨_, (cle_tup (cleL_cons cle_nilO (cleL_cons (cle_refl _) cleL_nil))), _, _, h, rfl⟩
    ·replace h := h.2 ((bnot_f q9))
     refine aw_skip ?_
     refine aw_region ?_
     refine run_s (ss_move rfl) rfl ?_
     refine run_s (ss_move rfl) rfl ?_
     refine run_w (ws_buildSlice (id := 28) (ps := [(0, .tmp 27)]) rfl rfl (Nat.le_of_ble_eq_true rfl) rfl ⟨rfl, ?_⟩)
     refine run_gh (gh_fill (id := 28) (id2 := 21) (j := 0) rfl rfl (Nat.le_of_ble_eq_true rfl) rfl rfl rfl) ?_
     obtain ⟨q10, h⟩ := h
     refine run_w (ws_app1 (fun r => C.own (ints r)) (l := o100004_1) (m := [rdgT (el (splS text (byt ([47] : List UInt8) 0)) v15_1)]) rfl rfl rfl rfl rfl (Nat.le_of_ble_eq_true rfl) q10 ⟨rfl, ?_⟩)
     refine run_s (ss_assign rfl) rfl ?_
     refine run_nil ?_
     refine aw_gh (gh_to (n := 34) (σ' := [(100004, ⟨orows (o100004_1 ++ ([rdgT (el (splS text (byt ([47] : List UInt8) 0)) v15_1)])), []⟩)]) (env' := [(4, .ref 100004), (13, .c (.lst (strs (splS text (byt ([47] : List UInt8) 0))))), (14, .c (ci ((splS text (byt ([47] : List UInt8) 0)).length : Int))), (15, .c (ci v15_1))]) rfl rfl ⟨rfl, rfl, rfl, rfl, trivial⟩) ?_
     refine aw_region ?_
     obtain ⟨q11, h⟩ := h
     refine run_s (ss_add rfl rfl q11) rfl ?_
     refine run_s (ss_move rfl) rfl ?_
     refine run_nil ?_
     exact ⟨v15_1 + 1, o100004_1 ++ ([rdgT (el (splS text (byt ([47] : List UInt8) 0)) v15_1)]), ghe_to (n := 34) rfl rfl ⟨rfl, rfl, rfl, rfl, trivial⟩, h.1, h.2⟩
   ·replace h := h.2 (of_decide_eq_false q5)
    refine aw_exit ?_
    refine aw_seq ?_
    refine aw_region ?_
    refine run_s (ss_move rfl) rfl ?_
    refine run_s (ss_move rfl) rfl ?_
    obtain ⟨q12, h⟩ := h
    refine run_w (ws_callR (xs := [.tmp 32]) (cs := [.own (orows o100004_1)]) (ids := []) rfl (.inr ⟨rfl, rfl⟩) rfl rfl (fz_cons (fz_own (fz_map (fun _ => (fz_own (fz_map (fun _ => rfl) _))) _)) fz_nil) (c_impl_IsTable o100004_1 q12) rfl ?_ )
    rintro _ rfl
    refine ⟨rfl, rfl, ?_⟩
    refine run_s (ss_assign rfl) rfl ?_
    refine run_s (ss_assign rfl) rfl ?_
    refine run_nil ?_
    refine aw_ret ?_
    exact retAF_mk (retv2 rfl (rv_tmp rfl) (rv_tmp rfl)) rfl rfl ⟨_, (cle_refl _), _, _, h, rfl⟩

theorem c_impl_readTable (text : List UInt8) (hp : small text) : AF Tryd.prog 23 [cs text] (fun R_ => R_ = .tup [.own (orows (rdiT text)), cb (rtbB text)]) :=
  (w_impl_readTable text (fun y0 y1 => y0 = rdiT text ∧ y1 = rtbB text) (p_impl_readTable text hp)).mono (by rintro r ⟨_, _, ⟨rfl, rfl⟩, rfl⟩; rfl)

set_option maxRecDepth 100000 in
set_option maxHeartbeats 4000000 in
theorem w_impl_ParseCycleSet (text : List UInt8) (Q : List (List Int) → Int → Prop) (h : wp_impl_ParseCycleSet text Q) : AF Tryd.prog 10 [cs text] (fun R_ => ∃ y0 y1, Q y0 y1 ∧ R_ = .tup [.agg [.own (orows y0)], ci y1]) := by
  refine AF.ofWQ (af_enter (n := 22) Tryd.func10 rfl (by rfl) rfl (Nat.le_of_ble_eq_true rfl) ?_)
  unfold wp_impl_ParseCycleSet at h
  refine aw_seq ?_
  refine aw_gh (gh_to (n := 22) (σ' := []) (env' := [(0, .c (cs text))]) rfl rfl ⟨rfl, trivial⟩) ?_
  refine aw_region ?_
  refine run_w (ws_alloc (id := 2) rfl (Nat.le_of_ble_eq_true rfl) ⟨rfl, ?_⟩)
  refine run_s (ss_assign rfl) rfl ?_
  refine run_nil ?_
  refine aw_seq ?_
  refine aw_region ?_
  refine run_s (ss_move rfl) rfl ?_
  obtain ⟨q1, h⟩ := h
  refine run_w (ws_call (xs := [.tmp 7]) (ids := [8]) rfl rfl rfl rfl (c_impl_readTable text q1) rfl ?_ )
  rintro _ rfl
  refine ⟨rfl, ?_⟩
  refine run_s (ss_move rfl) rfl ?_
  refine run_s (ss_extract rfl rfl) rfl ?_
  refine run_s (ss_extract rfl rfl) rfl ?_
  refine run_s (ss_assign rfl) rfl ?_
  refine run_s (ss_assign rfl) rfl ?_
  refine run_nil ?_
  refine aw_seq ?_
  refine aw_seq ?_
  refine aw_region ?_
  refine run_s (ss_move rfl) rfl ?_
  refine run_s (ss_not rfl) rfl ?_
  refine run_s (ss_move rfl) rfl ?_
  refine run_split (s := 13) rfl (fun q3 => ?_) (fun q3 => ?_)
  ·replace h := h.1 ((bnot_t q3))
   refine run_gf rfl rfl q3 rfl ?_
   refine run_gf rfl rfl q3 rfl ?_
   refine run_gf rfl rfl q3 rfl ?_
   refine run_gf rfl rfl q3 rfl ?_
   refine run_s (ss_pickT rfl q3 rfl) rfl ?_
   refine run_nil ?_
   refine aw_cond rfl (fun q4 => ?_) (fun q4 => ?_)
   ·skip
    refine aw_seq ?_
    refine aw_gh (gh_to (n := 22) (σ' := [(8, ⟨orows (rdiT text), []⟩), (2, ⟨[cnil], []⟩)]) (env' := [(2, .cell 2 0), (3, .c (ci 0))]) rfl rfl ⟨rfl, rfl, trivial⟩) ?_
    refine aw_region ?_
    refine run_s (ss_build0) rfl ?_
    refine run_w (ws_storeS rfl rfl (Nat.le_of_ble_eq_true rfl) rfl rfl rfl ⟨rfl, ?_⟩)
    refine run_s (ss_assign rfl) rfl ?_
    refine run_nil ?_
    refine aw_ret ?_
    exact retAF_mk (retv2 rfl (rv_struct rfl rfl rfl) (rv_tmp rfl)) rfl rfl ⟨_, (cle_tup (cleL_cons (cle_agg (cleL_cons cle_nilO cleL_nil)) (cleL_cons (cle_refl _) cleL_nil))), _, _, h, rfl⟩
   ·cases q4
  ·replace h := h.2 ((bnot_f q3))
   refine run_gt rfl rfl q3 ?_
   refine run_s (ss_move rfl) rfl ?_
   refine run_gt rfl rfl q3 ?_
   refine run_s (ss_build (ps := [(0, .tmp 14)]) rfl rfl) rfl ?_
   refine run_gt rfl rfl q3 ?_
   obtain ⟨q5, h⟩ := h
   refine run_w (ws_callR (xs := [.tmp 15]) (cs := [.agg [.own (orows (rdiT text))]]) (ids := []) rfl (.inr ⟨rfl, rfl⟩) rfl rfl (fz_cons (fz_agg (fz_cons (fz_own (fz_map (fun _ => (fz_own (fz_map (fun _ => rfl) _))) _)) fz_nil)) fz_nil) (c_impl_IsCycleSet (rdiT text) q5) rfl ?_ )
   rintro _ rfl
   refine ⟨rfl, rfl, ?_⟩
   refine run_gt rfl rfl q3 ?_
   refine run_s (ss_not rfl) rfl ?_
   refine run_s (ss_pickF rfl q3 rfl) rfl ?_
   refine run_nil ?_
   refine aw_cond rfl (fun q7 => ?_) (fun q7 => ?_)
   ·replace h := h.1 ((bnot_t q7))
    refine aw_seq ?_
    refine aw_gh (gh_to (n := 22) (σ' := [(8, ⟨orows (rdiT text), []⟩), (2, ⟨[cnil], []⟩)]) (env' := [(2, .cell 2 0), (3, .c (ci 0))]) rfl rfl ⟨rfl, rfl, trivial⟩) ?_
    refine aw_region ?_
    refine run_s (ss_build0) rfl ?_
    refine run_w (ws_storeS rfl rfl (Nat.le_of_ble_eq_true rfl) rfl rfl rfl ⟨rfl, ?_⟩)
    refine run_s (ss_assign rfl) rfl ?_
    refine run_nil ?_
    refine aw_ret ?_
    exact retAF_mk (retv2 rfl (rv_struct rfl rfl rfl) (rv_tmp rfl)) rfl rfl ⟨_, (cle_tup (cleL_cons (cle_agg (cleL_cons cle_nilO cleL_nil)) (cleL_cons (cle_refl _) cleL_nil))), _, _, h, rfl⟩
   ·replace h := h.2 ((bnot_f q7))
    refine aw_skip ?_
    refine aw_seq ?_
    refine aw_gh (gh_to (n := 22) (σ' := [(8, ⟨orows (rdiT text), []⟩), (2, ⟨[cnil], []⟩)]) (env' := [(2, .cell 2 0), (3, .c (ci 0)), (4, .ref 8)]) rfl rfl ⟨rfl, rfl, rfl, trivial⟩) ?_
    refine aw_region ?_
    refine run_s (ss_move rfl) rfl ?_
    refine run_s (ss_build (ps := [(0, .tmp 20)]) rfl rfl) rfl ?_
    refine run_w (ws_storeS rfl rfl (Nat.le_of_ble_eq_true rfl) rfl rfl rfl ⟨rfl, ?_⟩)
    refine run_s (ss_assign rfl) rfl ?_
    refine run_nil ?_
    refine aw_ret ?_
    exact retAF_mk (retv2 rfl (rv_struct rfl rfl rfl) (rv_tmp rfl)) rfl rfl ⟨_, (cle_refl _), _, _, h, rfl⟩

theorem c_impl_ParseCycleSet (text : List UInt8) (hp : shortS text) : AF Tryd.prog 10 [cs text] (fun R_ => R_ = .tup [.agg [.own (orows (pcyT text))], ci (pcyE text)]) :=
  (w_impl_ParseCycleSet text (fun y0 y1 => y0 = pcyT text ∧ y1 = pcyE text) (p_impl_ParseCycleSet text hp)).mono (by rintro r ⟨_, _, ⟨rfl, rfl⟩, rfl⟩; rfl)

def wp_spec_DrawAffineCycleSet (code : List Int) (Q : Int → Int → Int → Int → Prop) : Prop :=
 (small code ∧ bytes code) ∧
 ∀ (r1_0 : List Int) (r1_1 : Int) (r1_2 : Int), (r1_0 = code ∧ okS code r1_1 r1_2) →
 (okS r1_0 r1_1 r1_2 ∧ InI (12 : Int)) ∧
 ∀ (r2_0 : Int) (o2_0 : List Int) (o2_1 : Int) (o2_2 : Int), (nxP (12 : Int) r2_0 ∧ o2_0 = r1_0 ∧ okS r1_0 o2_1 o2_2) →
 (InI (1 + r2_0)) ∧
 (okS o2_0 o2_1 o2_2 ∧ InI (20 : Int)) ∧
 ∀ (r3_0 : Int) (o3_0 : List Int) (o3_1 : Int) (o3_2 : Int), (nxP (20 : Int) r3_0 ∧ o3_0 = o2_0 ∧ okS o2_0 o3_1 o3_2) →
 ((r3_0 = 0 →
 (okS o3_0 o3_1 o3_2 ∧ 1 ≤ (([0, 13, (-1), 1 + r2_0]).length : Int) ∧ small ([0, 13, (-1), 1 + r2_0])) ∧
 ∀ (r4_0 : Int) (o4_0 : List Int) (o4_1 : Int) (o4_2 : Int) (o4_3 : List Int), ((r4_0 ∈ ([0, 13, (-1), 1 + r2_0])) ∧ o4_0 = o3_0 ∧ okS o3_0 o4_1 o4_2 ∧ o4_3 = ([0, 13, (-1), 1 + r2_0])) →
 (okS o4_0 o4_1 o4_2 ∧ 1 ≤ (([0, 1 + r2_0, (-1)]).length : Int) ∧ small ([0, 1 + r2_0, (-1)])) ∧
 ∀ (r5_0 : Int) (o5_0 : List Int) (o5_1 : Int) (o5_2 : Int) (o5_3 : List Int), ((r5_0 ∈ ([0, 1 + r2_0, (-1)])) ∧ o5_0 = o4_0 ∧ okS o4_0 o5_1 o5_2 ∧ o5_3 = ([0, 1 + r2_0, (-1)])) →
 Q r4_0 r5_0 1 0) ∧
 (¬ (r3_0 = 0) →
 ((0 : Int) ≤ 1 ∧ (0 : Int) < 1 + r2_0) ∧
 (okS o3_0 o3_1 o3_2 ∧ InI (1 + r2_0)) ∧
 ∀ (r6_0 : Int) (o6_0 : List Int) (o6_1 : Int) (o6_2 : Int), (nxP (1 + r2_0) r6_0 ∧ o6_0 = o3_0 ∧ okS o3_0 o6_1 o6_2) →
 (okS o6_0 o6_1 o6_2 ∧ InI (1 + r2_0)) ∧
 ∀ (r7_0 : Int) (o7_0 : List Int) (o7_1 : Int) (o7_2 : Int), (nxP (1 + r2_0) r7_0 ∧ o7_0 = o6_0 ∧ okS o6_0 o7_1 o7_2) →
 (okS o7_0 o7_1 o7_2 ∧ 1 ≤ (([1 % (1 + r2_0), r7_0]).length : Int) ∧ small ([1 % (1 + r2_0), r7_0])) ∧
 ∀ (r8_0 : Int) (o8_0 : List Int) (o8_1 : Int) (o8_2 : Int) (o8_3 : List Int), ((r8_0 ∈ ([1 % (1 + r2_0), r7_0])) ∧ o8_0 = o7_0 ∧ okS o7_0 o8_1 o8_2 ∧ o8_3 = ([1 % (1 + r2_0), r7_0])) →
 (okS o8_0 o8_1 o8_2 ∧ InI (1 + r2_0)) ∧
 ∀ (r9_0 : Int) (o9_0 : List Int) (o9_1 : Int) (o9_2 : Int), (nxP (1 + r2_0) r9_0 ∧ o9_0 = o8_0 ∧ okS o8_0 o9_1 o9_2) →
 Q (1 + r2_0) r6_0 r8_0 r9_0))

theorem p_spec_DrawAffineCycleSet (code : List Int) (hp : small code ∧ bytes code) : wp_spec_DrawAffineCycleSet code (fun y0 y1 y2 y3 => aff1 y0 ∧ aff1 y1 ∧ aff1 y2 ∧ aff1 y3) := by
  unfold aff1
  refine ⟨hp, ?_⟩
  rintro c a h ⟨rfl, hs⟩
  refine ⟨⟨hs, by omega, by omega⟩, ?_⟩
  rintro k c1 a1 h1 ⟨hk, rfl, s1⟩
  have hk := hk.2 (by omega)
  refine ⟨⟨by omega, by omega⟩, ⟨s1, by omega, by omega⟩, ?_⟩
  rintro q c2 a2 h2 ⟨_, rfl, s2⟩
  refine ⟨fun _ => ?_, fun _ => ?_⟩
  · refine ⟨⟨s2, by simp, by show (_ : Int) ≤ _; simp⟩, ?_⟩
    rintro n c3 a3 h3 l3 ⟨hn, rfl, s3, _⟩
    refine ⟨⟨s3, by simp, by show (_ : Int) ≤ _; simp⟩, ?_⟩
    rintro m c4 a4 h4 l4 ⟨hm, _⟩
    simp only [List.mem_cons, List.mem_nil_iff, or_false] at hn hm
    omega
  · refine ⟨⟨by omega, by omega⟩, ⟨s2, by omega, by omega⟩, ?_⟩
    rintro x c3 a3 h3 ⟨hx, rfl, s3⟩
    have hx := hx.2 (by omega)
    refine ⟨⟨s3, by omega, by omega⟩, ?_⟩
    rintro y c4 a4 h4 ⟨hy, rfl, s4⟩
    have hy := hy.2 (by omega)
    refine ⟨⟨s4, by simp, by show (_ : Int) ≤ _; simp⟩, ?_⟩
    rintro z c5 a5 h5 l5 ⟨hz, rfl, s5, _⟩
    simp only [List.mem_cons, List.mem_nil_iff, or_false] at hz
    refine ⟨⟨s5, by omega, by omega⟩, ?_⟩
    rintro w c6 a6 h6 ⟨hw, _⟩
    have hw := hw.2 (by omega)
    have m1 := Int.emod_nonneg 1 (show 1 + k ≠ 0 by omega)
    have m2 := Int.emod_lt_of_pos 1 (show 0 < 1 + k by omega)
    rcases hz with rfl | rfl <;> omega
set_option maxRecDepth 100000 in
set_option maxHeartbeats 4000000 in
theorem w_spec_DrawAffineCycleSet (code : List Int) (Q : Int → Int → Int → Int → Prop) (h : wp_spec_DrawAffineCycleSet code Q) : AF Tryd.prog 5 [.lst (bys code)] (fun R_ => ∃ y0 y1 y2 y3, Q y0 y1 y2 y3 ∧ R_ = .tup [ci y0, ci y1, ci y2, ci y3]) := by
  refine AF.ofWQ (af_enter (n := 39) Tryd.func5 rfl (by rfl) rfl (Nat.le_of_ble_eq_true rfl) ?_)
  unfold wp_spec_DrawAffineCycleSet at h
  refine aw_seq ?_
  refine aw_gh (gh_to (n := 39) (σ' := []) (env' := [(0, .c (.lst (bys code)))]) rfl rfl ⟨rfl, trivial⟩) ?_
  refine aw_region ?_
  refine run_s (ss_assign rfl) rfl ?_
  refine run_s (ss_assign rfl) rfl ?_
  refine run_s (ss_assign rfl) rfl ?_
  refine run_s (ss_assign rfl) rfl ?_
  refine run_nil ?_
  refine aw_seq ?_
  refine aw_region ?_
  refine run_s (ss_move rfl) rfl ?_
  obtain ⟨q1, h⟩ := h
  refine run_w (ws_call (xs := [.tmp 8]) (ids := [9]) rfl rfl rfl rfl (c_spec_l01From code q1) rfl ?_ )
  rintro _ ⟨r1_0, r1_1, r1_2, q2, rfl⟩
  replace h := h r1_0 r1_1 r1_2 q2
  refine ⟨rfl, ?_⟩
  refine run_s (ss_assign rfl) rfl ?_
  refine run_nil ?_
  refine aw_seq ?_
  refine aw_gh (gh_to (n := 39) (σ' := [(9, ⟨[.lst (bys r1_0), ci r1_1, cu r1_2], []⟩)]) (env' := [(6, .cell 9 0)]) rfl rfl ⟨rfl, trivial⟩) ?_
  refine aw_region ?_
  refine run_s (ss_move rfl) rfl ?_
  obtain ⟨q3, h⟩ := h
  refine run_w (ws_callM (xs := [.tmp 10, .const (.int .i64 (12))]) (cs := [.obox [.lst (bys r1_0), ci r1_1, cu r1_2], ci 12]) (ids := []) rfl (.inr ⟨rfl, rfl⟩) rfl rfl rfl (c_spec_l01Next r1_0 r1_1 r1_2 12 q3) rfl rfl ?_ )
  rintro _ _ ⟨r2_0, o2_0, o2_1, o2_2, q4, rfl, rfl⟩
  replace h := h r2_0 o2_0 o2_1 o2_2 q4
  refine ⟨rfl, rfl, ?_⟩
  obtain ⟨q5, h⟩ := h
  refine run_s (ss_add rfl rfl q5) rfl ?_
  refine run_s (ss_assign rfl) rfl ?_
  refine run_nil ?_
  refine aw_seq ?_
  refine aw_seq ?_
  refine aw_region ?_
  refine run_s (ss_move rfl) rfl ?_
  obtain ⟨q6, h⟩ := h
  refine run_w (ws_callM (xs := [.tmp 13, .const (.int .i64 (20))]) (cs := [.obox [.lst (bys o2_0), ci o2_1, cu o2_2], ci 20]) (ids := []) rfl (.inr ⟨rfl, rfl⟩) rfl rfl rfl (c_spec_l01Next o2_0 o2_1 o2_2 20 q6) rfl rfl ?_ )
  rintro _ _ ⟨r3_0, o3_0, o3_1, o3_2, q7, rfl, rfl⟩
  replace h := h r3_0 o3_0 o3_1 o3_2 q7
  refine ⟨rfl, rfl, ?_⟩
  refine run_s (ss_eql rfl rfl) rfl ?_
  refine run_nil ?_
  refine aw_cond rfl (fun q8 => ?_) (fun q8 => ?_)
  ·replace h := h.1 (of_decide_eq_true q8)
   refine aw_seq ?_
   refine aw_region ?_
   refine run_s (ss_move rfl) rfl ?_
   refine run_s (ss_move rfl) rfl ?_
   refine run_w (ws_buildSlice (id := 18) (ps := [(0, .const (.int .i64 (0))), (1, .const (.int .i64 (13))), (2, .const (.int .i64 (-1))), (3, .tmp 17)]) rfl rfl (Nat.le_of_ble_eq_true rfl) rfl ⟨rfl, ?_⟩)
   obtain ⟨q9, h⟩ := h
   refine run_w (ws_callM (xs := [.tmp 16, .tmp 18]) (cs := [.obox [.lst (bys o3_0), ci o3_1, cu o3_2], .own (ints ([0, 13, (-1), 1 + r2_0]))]) (ids := []) rfl (.inr ⟨rfl, rfl⟩) rfl rfl rfl (c_spec_l01Pick o3_0 o3_1 o3_2 ([0, 13, (-1), 1 + r2_0]) q9) rfl rfl ?_ )
   rintro _ _ ⟨r4_0, o4_0, o4_1, o4_2, o4_3, q10, rfl, rfl⟩
   replace h := h r4_0 o4_0 o4_1 o4_2 o4_3 q10
   refine ⟨rfl, rfl, ?_⟩
   refine run_s (ss_move rfl) rfl ?_
   refine run_s (ss_move rfl) rfl ?_
   refine run_w (ws_buildSlice (id := 22) (ps := [(0, .const (.int .i64 (0))), (1, .tmp 21), (2, .const (.int .i64 (-1)))]) rfl rfl (Nat.le_of_ble_eq_true rfl) rfl ⟨rfl, ?_⟩)
   obtain ⟨q11, h⟩ := h
   refine run_w (ws_callM (xs := [.tmp 20, .tmp 22]) (cs := [.obox [.lst (bys o4_0), ci o4_1, cu o4_2], .own (ints ([0, 1 + r2_0, (-1)]))]) (ids := []) rfl (.inr ⟨rfl, rfl⟩) rfl rfl rfl (c_spec_l01Pick o4_0 o4_1 o4_2 ([0, 1 + r2_0, (-1)]) q11) rfl rfl ?_ )
   rintro _ _ ⟨r5_0, o5_0, o5_1, o5_2, o5_3, q12, rfl, rfl⟩
   replace h := h r5_0 o5_0 o5_1 o5_2 o5_3 q12
   refine ⟨rfl, rfl, ?_⟩
   refine run_s (ss_assign rfl) rfl ?_
   refine run_s (ss_assign rfl) rfl ?_
   refine run_s (ss_assign rfl) rfl ?_
   refine run_s (ss_assign rfl) rfl ?_
   refine run_nil ?_
   refine aw_ret ?_
   exact retAF_mk (retv4 rfl (rv_tmp rfl) (rv_tmp rfl) (rv_tmp rfl) (rv_tmp rfl)) rfl rfl ⟨_, (cle_refl _), _, _, _, _, h, rfl⟩
  ·replace h := h.2 (of_decide_eq_false q8)
   refine aw_skip ?_
   refine aw_seq ?_
   refine aw_gh (gh_to (n := 39) (σ' := [(9, ⟨[.lst (bys o3_0), ci o3_1, cu o3_2], []⟩)]) (env' := [(6, .cell 9 0), (7, .c (ci (1 + r2_0)))]) rfl rfl ⟨rfl, rfl, trivial⟩) ?_
   refine aw_regionD (kd := kdl [0, 0, 0, 2, 0, 0, 0, 0, 0, 2, 2, 2, 0, 0, 2, 0, 0, 0, 0]) (ord := [0, 1, 2, 4, 5, 6, 7, 8, 12, 13, 3, 9, 10, 11, 14, 15, 16, 17, 18]) [9, 34] mixed (by kernel_rfl) ?_
   refine rd_s rfl rfl trivial (ss_move rfl) rfl ?_
   refine rd_s rfl rfl trivial (ss_move rfl) rfl ?_
   refine rd_s rfl rfl trivial (ss_move rfl) rfl ?_
   refine rd_s rfl rfl trivial (ss_move rfl) rfl ?_
   refine rd_s rfl rfl trivial (ss_move rfl) rfl ?_
   obtain ⟨q13, h⟩ := h
   refine rd_s rfl rfl trivial (ss_rem rfl rfl q13) rfl ?_
   refine rd_s rfl rfl trivial (ss_move rfl) rfl ?_
   refine rd_s rfl rfl trivial (ss_move rfl) rfl ?_
   refine rd_s rfl rfl trivial (ss_move rfl) rfl ?_
   refine rd_s rfl rfl trivial (ss_move rfl) rfl ?_
   obtain ⟨q14, h⟩ := h
   refine rd_w rfl rfl trivial rfl rfl (ws_callM (xs := [.tmp 25, .tmp 26]) (cs := [.obox [.lst (bys o3_0), ci o3_1, cu o3_2], ci (1 + r2_0)]) (ids := []) rfl (.inr ⟨rfl, rfl⟩) rfl rfl rfl (c_spec_l01Next o3_0 o3_1 o3_2 (1 + r2_0) q14) rfl rfl ?_ )
   rintro _ _ ⟨r6_0, o6_0, o6_1, o6_2, q15, rfl, rfl⟩
   replace h := h r6_0 o6_0 o6_1 o6_2 q15
   refine ⟨rfl, rfl, ?_⟩
   obtain ⟨q16, h⟩ := h
   refine rd_w rfl rfl trivial rfl rfl (ws_callM (xs := [.tmp 31, .tmp 32]) (cs := [.obox [.lst (bys o6_0), ci o6_1, cu o6_2], ci (1 + r2_0)]) (ids := []) rfl (.inr ⟨rfl, rfl⟩) rfl rfl rfl (c_spec_l01Next o6_0 o6_1 o6_2 (1 + r2_0) q16) rfl rfl ?_ )
   rintro _ _ ⟨r7_0, o7_0, o7_1, o7_2, q17, rfl, rfl⟩
   replace h := h r7_0 o7_0 o7_1 o7_2 q17
   refine ⟨rfl, rfl, ?_⟩
   refine rd_w rfl rfl trivial rfl rfl (ws_buildSlice (id := 34) (ps := [(0, .tmp 30), (1, .tmp 33)]) rfl rfl (Nat.le_of_ble_eq_true rfl) rfl ⟨rfl, ?_⟩)
   obtain ⟨q18, h⟩ := h
   refine rd_w rfl rfl trivial rfl rfl (ws_callM (xs := [.tmp 28, .tmp 34]) (cs := [.obox [.lst (bys o7_0), ci o7_1, cu o7_2], .own (ints ([1 % (1 + r2_0), r7_0]))]) (ids := []) rfl (.inr ⟨rfl, rfl⟩) rfl rfl rfl (c_spec_l01Pick o7_0 o7_1 o7_2 ([1 % (1 + r2_0), r7_0]) q18) rfl rfl ?_ )
   rintro _ _ ⟨r8_0, o8_0, o8_1, o8_2, o8_3, q19, rfl, rfl⟩
   replace h := h r8_0 o8_0 o8_1 o8_2 o8_3 q19
   refine ⟨rfl, rfl, ?_⟩
   obtain ⟨q20, h⟩ := h
   refine rd_w rfl rfl trivial rfl rfl (ws_callM (xs := [.tmp 36, .tmp 37]) (cs := [.obox [.lst (bys o8_0), ci o8_1, cu o8_2], ci (1 + r2_0)]) (ids := []) rfl (.inr ⟨rfl, rfl⟩) rfl rfl rfl (c_spec_l01Next o8_0 o8_1 o8_2 (1 + r2_0) q20) rfl rfl ?_ )
   rintro _ _ ⟨r9_0, o9_0, o9_1, o9_2, q21, rfl, rfl⟩
   replace h := h r9_0 o9_0 o9_1 o9_2 q21
   refine ⟨rfl, rfl, ?_⟩
   refine rd_s rfl rfl trivial (ss_assign rfl) rfl ?_
   refine rd_s rfl rfl trivial (ss_assign rfl) rfl ?_
   refine rd_s rfl rfl trivial (ss_assign rfl) rfl ?_
   refine rd_s rfl rfl trivial (ss_assign rfl) rfl ?_
   refine rd_nil ?_
   refine aw_ret ?_
   exact retAF_mk (retv4 rfl (rv_tmp rfl) (rv_tmp rfl) (rv_tmp rfl) (rv_tmp rfl)) rfl rfl ⟨_, (cle_refl _), _, _, _, _, h, rfl⟩

theorem c_spec_DrawAffineCycleSet (code : List Int) (hp : small code ∧ bytes code) : AF Tryd.prog 5 [.lst (bys code)] (fun R_ => ∃ y0 y1 y2 y3, (aff1 y0 ∧ aff1 y1 ∧ aff1 y2 ∧ aff1 y3) ∧ R_ = .tup [ci y0, ci y1, ci y2, ci y3]) :=
  w_spec_DrawAffineCycleSet code (fun y0 y1 y2 y3 => aff1 y0 ∧ aff1 y1 ∧ aff1 y2 ∧ aff1 y3) (p_spec_DrawAffineCycleSet code hp)

def wp_laws_FnAffineCycles (code : List Int) (Q : Bool → Prop) : Prop :=
 ((4096 < (code.length : Int) →
 Q true) ∧
 (¬ (4096 < (code.length : Int)) →
 (small code ∧ bytes code) ∧
 ∀ (r1_0 : Int) (r1_1 : Int) (r1_2 : Int) (r1_3 : Int), (aff1 r1_0 ∧ aff1 r1_1 ∧ aff1 r1_2 ∧ aff1 r1_3) →
 (InI r1_0 ∧ InI r1_1 ∧ InI r1_2 ∧ InI r1_3) ∧
 (InI r1_0 ∧ InI r1_1 ∧ InI r1_2 ∧ InI r1_3) ∧
 ((¬ (AffE r1_0 r1_1 r1_2 r1_3 = AffE r1_0 r1_1 r1_2 r1_3) →
 Q false) ∧
 (AffE r1_0 r1_1 r1_2 r1_3 = AffE r1_0 r1_1 r1_2 r1_3 →
 (small2 (AffT r1_0 r1_1 r1_2 r1_3) ∧ small2 (AffT r1_0 r1_1 r1_2 r1_3)) ∧
 ((¬ ((AffT r1_0 r1_1 r1_2 r1_3) = (AffT r1_0 r1_1 r1_2 r1_3)) →
 Q false) ∧
 ((AffT r1_0 r1_1 r1_2 r1_3) = (AffT r1_0 r1_1 r1_2 r1_3) →
 ((¬ (AffE r1_0 r1_1 r1_2 r1_3 = 0) →
 ((AffE r1_0 r1_1 r1_2 r1_3 = 2 →
 Q true) ∧
 (¬ (AffE r1_0 r1_1 r1_2 r1_3 = 2) →
 Q (decide (AffE r1_0 r1_1 r1_2 r1_3 = 5))))) ∧
 (AffE r1_0 r1_1 r1_2 r1_3 = 0 →
 ∃ (H1 : Int → Prop) (m1 : Int → Nat),
 H1 0 ∧
 ∀ (v11_1 : Int), H1 v11_1 →
 ( ((v11_1 < r1_0 →
 ∃ (H2 : Int → Prop) (m2 : Int → Nat),
 H2 0 ∧
 ∀ (v12_2 : Int), H2 v12_2 →
 ( ((v12_2 < r1_0 →
 (InI (r1_1 * v11_1)) ∧
 (InI (r1_2 * v12_2)) ∧
 (InI ((r1_1 * v11_1) + (r1_2 * v12_2))) ∧
 (InI (((r1_1 * v11_1) + (r1_2 * v12_2)) + r1_3)) ∧
 ((0 : Int) ≤ ((r1_1 * v11_1) + (r1_2 * v12_2)) + r1_3 ∧ (0 : Int) < r1_0) ∧
 (0 ≤ v11_1 ∧ v11_1 < ((AffT r1_0 r1_1 r1_2 r1_3).length : Int)) ∧
 (0 ≤ v12_2 ∧ v12_2 < ((el (AffT r1_0 r1_1 r1_2 r1_3) v11_1).length : Int)) ∧
 ((¬ (el (el (AffT r1_0 r1_1 r1_2 r1_3) v11_1) v12_2 = (((r1_1 * v11_1) + (r1_2 * v12_2)) + r1_3) % r1_0) →
 Q false) ∧
 (el (el (AffT r1_0 r1_1 r1_2 r1_3) v11_1) v12_2 = (((r1_1 * v11_1) + (r1_2 * v12_2)) + r1_3) % r1_0 →
 (InI (v12_2 + 1)) ∧
 (H2 (v12_2 + 1) ∧ m2 (v12_2 + 1) < m2 v12_2)))) ∧
 (¬ (v12_2 < r1_0) →
 (InI (v11_1 + 1)) ∧
 (H1 (v11_1 + 1) ∧ m1 (v11_1 + 1) < m1 v11_1))))) ∧
 (¬ (v11_1 < r1_0) →
 (small2 (AffT r1_0 r1_1 r1_2 r1_3)) ∧
 (shortS (if isTab (AffT r1_0 r1_1 r1_2 r1_3) then txtI (AffT r1_0 r1_1 r1_2 r1_3) else [])) ∧
 (((if isTab (AffT r1_0 r1_1 r1_2 r1_3) then (0 : Int) else 1) = 0 →
 ((pcyE (if isTab (AffT r1_0 r1_1 r1_2 r1_3) then txtI (AffT r1_0 r1_1 r1_2 r1_3) else []) = 0 →
 (small2 (AffT r1_0 r1_1 r1_2 r1_3)) ∧
 (((isCyc (AffT r1_0 r1_1 r1_2 r1_3)) = true →
 (small2 (pcyT (if isTab (AffT r1_0 r1_1 r1_2 r1_3) then txtI (AffT r1_0 r1_1 r1_2 r1_3) else [])) ∧ small2 (AffT r1_0 r1_1 r1_2 r1_3)) ∧
 Q (decide ((pcyT (if isTab (AffT r1_0 r1_1 r1_2 r1_3) then txtI (AffT r1_0 r1_1 r1_2 r1_3) else [])) = (AffT r1_0 r1_1 r1_2 r1_3)))) ∧
 ((isCyc (AffT r1_0 r1_1 r1_2 r1_3)) = false →
 Q false))) ∧
 (¬ (pcyE (if isTab (AffT r1_0 r1_1 r1_2 r1_3) then txtI (AffT r1_0 r1_1 r1_2 r1_3) else []) = 0) →
 Q false))) ∧
 (¬ ((if isTab (AffT r1_0 r1_1 r1_2 r1_3) then (0 : Int) else 1) = 0) →
 Q false)))))))))))))

@[reducible] def fine2 (t : List (List Int)) : Prop := small2 t ∧ tot t ≤ 1000000000
theorem fine2_nil : fine2 [] := ⟨⟨by simp, by simp⟩, by simp [tot]⟩
theorem mem_ranf {α : Type} {n : Int} {f : Int → α} {r : α} (h : r ∈ ran n f) : ∃ i, (0 ≤ i ∧ i < n) ∧ r = f i := by
  unfold ran at h
  obtain ⟨k, hk, rfl⟩ := List.mem_map.1 h
  have := List.mem_range.1 hk
  exact ⟨k, ⟨by omega, by omega⟩, rfl⟩
theorem fine2_tab {n : Int} {f : Int → Int → Int} (h : n ≤ 1000) : fine2 (tab n f) := by
  refine ⟨⟨by simp [tab]; omega, fun r hr => ?_⟩, ?_⟩
  · obtain ⟨i, _, rfl⟩ := mem_ranf hr
    simp; omega
  · rw [tot_tab]
    have : n.toNat ≤ 1000 := by omega
    have : n.toNat * n.toNat ≤ 1000 * 1000 := Nat.mul_le_mul this this
    omega
theorem fine2_ite {c : Prop} [Decidable c] {t : List (List Int)} (h : c → fine2 t) : fine2 (if c then t else []) := by
  split
  · exact h (by assumption)
  · exact fine2_nil
theorem fine_AffT (n a b c : Int) : fine2 (AffT n a b c) := fine2_ite fun h => fine2_tab (by
  unfold AffE at h
  split at h
  · rename_i h2; simp only [inN, Bool.and_eq_true, decide_eq_true_eq] at h2; omega
  · cases h)
theorem bytes_of {code : List Int} (hp : code.length ≤ 9223372036854775807 ∧ ∀ z_ ∈ code, 0 ≤ z_ ∧ z_ ≤ 255) (h : ¬ (4096 < (code.length : Int))) : small code ∧ bytes code :=
  ⟨by show (_ : Int) ≤ _; omega, fun i i0 i1 => hp.2 _ (el_mem ⟨i0, i1⟩)⟩
theorem parse_cyc {t : List (List Int)} (h : isCyc t = true) : pcyE (txtI t) = 0 ∧ pcyT (txtI t) = t := by
  obtain ⟨b, v⟩ := rtb_txt (isCyc_tab h)
  have e : rtbV (txtI t) = t := by rw [← (rdi_eq b).2, v]
  have z : pcyE (txtI t) = 0 := by unfold pcyE; rw [e, if_pos ⟨b, h⟩]
  exact ⟨z, by unfold pcyT; rw [if_pos z, e]⟩
theorem aff_codes (n a b c : Int) : AffE n a b c = 0 ∨ AffE n a b c = 2 ∨ AffE n a b c = 5 := by
  unfold AffE
  repeat' split
  all_goals omega
theorem aff_zero {n a b c : Int} (h : AffE n a b c = 0) : ((1 ≤ n ∧ n ≤ 12) ∧ (0 ≤ a ∧ a < n) ∧ (0 ≤ b ∧ b < n) ∧ 0 ≤ c ∧ c < n) ∧ isCyc (affT n a b c) = true ∧ AffT n a b c = affT n a b c := by
  have e : AffT n a b c = affT n a b c := by unfold AffT; rw [if_pos h]
  unfold AffE at h
  split at h
  · rename_i h1
    split at h
    · rename_i h2
      simp only [inN, Bool.and_eq_true, decide_eq_true_eq] at h1
      exact ⟨⟨by omega, by omega, by omega, by omega⟩, h2, e⟩
    · cases h
  · cases h
theorem p_laws_FnAffineCycles (code : List Int) (hp : code.length ≤ 9223372036854775807 ∧ ∀ z_ ∈ code, 0 ≤ z_ ∧ z_ ≤ 255) : wp_laws_FnAffineCycles code (fun y0 => y0 = true) := by
  unfold wp_laws_FnAffineCycles
  refine ⟨fun _ => rfl, fun hc => ?_⟩
  have hb := bytes_of hp hc
  refine ⟨hb, fun n a b c ⟨⟨n1, n2⟩, ⟨a1, a2⟩, ⟨b1, b2⟩, ⟨c1, c2⟩⟩ => ?_⟩
  have fs : small2 (AffT n a b c) := (fine_AffT n a b c).1
  have hi : InI n ∧ InI a ∧ InI b ∧ InI c := ⟨⟨by omega, by omega⟩, ⟨by omega, by omega⟩, ⟨by omega, by omega⟩, ⟨by omega, by omega⟩⟩
  refine ⟨hi, hi, fun k => absurd rfl k, fun _ => ⟨⟨fs, fs⟩, fun k => absurd rfl k, fun _ => ⟨fun h => ⟨fun _ => rfl, fun h2 => decide_eq_true ?_⟩, fun h => ?_⟩⟩⟩
  · rcases aff_codes n a b c with e | e | e
    · exact absurd e h
    · exact absurd e h2
    · exact e
  obtain ⟨⟨hn, ha, hb2, hc2⟩, hcy, eT⟩ := aff_zero h
  rw [eT] at fs ⊢
  have ht := isCyc_tab hcy
  have hl : ((affT n a b c).length : Int) = n := len_tab (by omega)
  refine ⟨fun x => 0 ≤ x ∧ x ≤ n, fun x => (n - x).toNat, ⟨by omega, by omega⟩, ?_⟩
  rintro x ⟨x0, x1⟩
  dsimp only
  refine ⟨fun hx => ⟨fun y => 0 ≤ y ∧ y ≤ n, fun y => (n - y).toNat, ⟨by omega, by omega⟩, ?_⟩, fun hx => ?_⟩
  · rintro y ⟨y0, y1⟩
    dsimp only
    refine ⟨fun hy => ?_, fun hy => ⟨⟨by omega, by omega⟩, ⟨by omega, by omega⟩, by omega⟩⟩
    have m0 := Int.mul_nonneg ha.1 x0
    have m1 : a * x ≤ 12 * 12 := Int.mul_le_mul (by omega) (by omega) (by omega) (by omega)
    have m2 := Int.mul_nonneg hb2.1 y0
    have m3 : b * y ≤ 12 * 12 := Int.mul_le_mul (by omega) (by omega) (by omega) (by omega)
    have hr := rk_len ht (x := x) ⟨x0, by omega⟩
    refine ⟨⟨by omega, by omega⟩, ⟨by omega, by omega⟩, ⟨by omega, by omega⟩, ⟨by omega, by omega⟩, ⟨by omega, by omega⟩, ⟨x0, by omega⟩, ⟨y0, by omega⟩, fun k => absurd ?_ k, fun _ => ⟨⟨by omega, by omega⟩, ⟨by omega, by omega⟩, by omega⟩⟩
    unfold affT
    rw [el_tab ⟨x0, hx⟩ ⟨y0, hy⟩]
  · obtain ⟨z, v⟩ := parse_cyc hcy
    have sh : shortS (txtI (affT n a b c)) := by
      have := txt_len _ (row_le ht)
      have hn2 := isTab_len ht
      show ((txtI (affT n a b c)).length : Int) ≤ 2000000
      omega
    simp only [ht, if_true, z, v, hcy]
    exact ⟨fs, sh, fun _ => ⟨fun _ => ⟨fs, fun _ => ⟨⟨fs, fs⟩, by simp⟩, fun k => by cases k⟩, fun k => absurd trivial k⟩, fun k => absurd trivial k⟩

set_option maxRecDepth 100000 in
set_option maxHeartbeats 4000000 in
theorem w_laws_FnAffineCycles (code : List Int) (Q : Bool → Prop) (h : wp_laws_FnAffineCycles code Q) : AF Tryd.prog 3 [.lst (bys code)] (fun R_ => ∃ y0, Q y0 ∧ R_ = cb y0) := by
  refine AF.ofWQ (af_enter (n := 118) Tryd.func3 rfl (by rfl) rfl (Nat.le_of_ble_eq_true rfl) ?_)
  unfold wp_laws_FnAffineCycles at h
  refine aw_seq ?_
  refine aw_gh (gh_to (n := 118) (σ' := []) (env' := [(0, .c (.lst (bys code)))]) rfl rfl ⟨rfl, trivial⟩) ?_
  refine aw_region ?_
  refine run_s (ss_assign rfl) rfl ?_
  refine run_nil ?_
  refine aw_seq ?_
  refine aw_seq ?_
  refine aw_region ?_
  refine run_s (ss_move rfl) rfl ?_
  refine run_w (ws_call (xs := [.tmp 17]) (ids := []) rfl rfl rfl rfl (c_laws_big code) rfl ?_ )
  rintro _ rfl
  refine ⟨rfl, ?_⟩
  refine run_nil ?_
  refine aw_cond rfl (fun q2 => ?_) (fun q2 => ?_)
  ·replace h := h.1 (of_decide_eq_true q2)
   refine aw_seq ?_
   refine aw_gh (gh_to (n := 118) (σ' := []) (env' := [(2, .c (cb false))]) rfl rfl ⟨rfl, trivial⟩) ?_
   refine aw_region ?_
   refine run_s (ss_assign rfl) rfl ?_
   refine run_nil ?_
   refine aw_ret ?_
   exact retAF_mk (retv1 rfl (rv_tmp rfl)) rfl rfl ⟨_, (cle_refl _), _, h, rfl⟩
  ·replace h := h.2 (of_decide_eq_false q2)
   refine aw_skip ?_
   refine aw_seq ?_
   refine aw_region ?_
   refine run_s (ss_move rfl) rfl ?_
   obtain ⟨q3, h⟩ := h
   refine run_w (ws_call (xs := [.tmp 20]) (ids := []) rfl rfl rfl rfl (c_spec_DrawAffineCycleSet code q3) rfl ?_ )
   rintro _ ⟨r1_0, r1_1, r1_2, r1_3, q4, rfl⟩
   replace h := h r1_0 r1_1 r1_2 r1_3 q4
   refine ⟨rfl, ?_⟩
   refine run_s (ss_move rfl) rfl ?_
   refine run_s (ss_extract rfl rfl) rfl ?_
   refine run_s (ss_extract rfl rfl) rfl ?_
   refine run_s (ss_extract rfl rfl) rfl ?_
   refine run_s (ss_extract rfl rfl) rfl ?_
   refine run_s (ss_assign rfl) rfl ?_
   refine run_s (ss_assign rfl) rfl ?_
   refine run_s (ss_assign rfl) rfl ?_
   refine run_s (ss_assign rfl) rfl ?_
   refine run_nil ?_
   refine aw_seq ?_
   refine aw_region ?_
   refine run_s (ss_move rfl) rfl ?_
   refine run_s (ss_move rfl) rfl ?_
   refine run_s (ss_move rfl) rfl ?_
   refine run_s (ss_move rfl) rfl ?_
   obtain ⟨q5, h⟩ := h
   refine run_w (ws_call (xs := [.tmp 27, .tmp 28, .tmp 29, .tmp 30]) (ids := [31]) rfl rfl rfl rfl (c_impl_AffineCycleSet r1_0 r1_1 r1_2 r1_3 q5) rfl ?_ )
   rintro _ rfl
   refine ⟨rfl, ?_⟩
   refine run_s (ss_move rfl) rfl ?_
   refine run_s (ss_extract rfl rfl) rfl ?_
   refine run_s (ss_extract rfl rfl) rfl ?_
   refine run_w (ws_alloc (id := 7) rfl (Nat.le_of_ble_eq_true rfl) ⟨rfl, ?_⟩)
   refine run_w (ws_storeS rfl rfl (Nat.le_of_ble_eq_true rfl) rfl rfl rfl ⟨rfl, ?_⟩)
   refine run_s (ss_assign rfl) rfl ?_
   refine run_nil ?_
   refine aw_gh (gh_to (n := 118) (σ' := [(7, ⟨[.hole], [(0, .ref 31)]⟩), (31, ⟨orows (AffT r1_0 r1_1 r1_2 r1_3), []⟩)]) (env' := [(3, .c (ci r1_0)), (4, .c (ci r1_1)), (5, .c (ci r1_2)), (6, .c (ci r1_3)), (7, .cell 7 0), (8, .c (ci (AffE r1_0 r1_1 r1_2 r1_3)))]) rfl rfl ⟨rfl, rfl, rfl, rfl, rfl, rfl, trivial⟩) ?_
   refine aw_gh (gh_frzE (id := 31) (fun r => C.lst (ints r)) rfl (fun _ => (fz_own (fz_map (fun _ => rfl) _)))) ?_
   refine aw_gh (gh_fillc (id := 7) (j := 0) rfl rfl (Nat.le_of_ble_eq_true rfl)) ?_
   refine aw_gh (gh_to (n := 118) (σ' := [(7, ⟨[.lst (rows (AffT r1_0 r1_1 r1_2 r1_3))], []⟩)]) (env' := [(3, .c (ci r1_0)), (4, .c (ci r1_1)), (5, .c (ci r1_2)), (6, .c (ci r1_3)), (7, .cell 7 0), (8, .c (ci (AffE r1_0 r1_1 r1_2 r1_3)))]) rfl rfl ⟨rfl, rfl, rfl, rfl, rfl, rfl, trivial⟩) ?_
   refine aw_seq ?_
   refine aw_region ?_
   refine run_s (ss_move rfl) rfl ?_
   refine run_s (ss_move rfl) rfl ?_
   refine run_s (ss_move rfl) rfl ?_
   refine run_s (ss_move rfl) rfl ?_
   obtain ⟨q7, h⟩ := h
   refine run_w (ws_call (xs := [.tmp 35, .tmp 36, .tmp 37, .tmp 38]) (ids := [39]) rfl rfl rfl rfl (c_spec_AffineCycleSet r1_0 r1_1 r1_2 r1_3 q7) rfl ?_ )
   rintro _ rfl
   refine ⟨rfl, ?_⟩
   refine run_s (ss_move rfl) rfl ?_
   refine run_s (ss_extract rfl rfl) rfl ?_
   refine run_s (ss_extract rfl rfl) rfl ?_
   refine run_w (ws_alloc (id := 9) rfl (Nat.le_of_ble_eq_true rfl) ⟨rfl, ?_⟩)
   refine run_w (ws_storeS rfl rfl (Nat.le_of_ble_eq_true rfl) rfl rfl rfl ⟨rfl, ?_⟩)
   refine run_s (ss_assign rfl) rfl ?_
   refine run_nil ?_
   refine aw_gh (gh_to (n := 118) (σ' := [(9, ⟨[.hole], [(0, .ref 39)]⟩), (39, ⟨orows (AffT r1_0 r1_1 r1_2 r1_3), []⟩), (7, ⟨[.lst (rows (AffT r1_0 r1_1 r1_2 r1_3))], []⟩)]) (env' := [(3, .c (ci r1_0)), (4, .c (ci r1_1)), (5, .c (ci r1_2)), (6, .c (ci r1_3)), (7, .cell 7 0), (8, .c (ci (AffE r1_0 r1_1 r1_2 r1_3))), (9, .cell 9 0), (10, .c (ci (AffE r1_0 r1_1 r1_2 r1_3)))]) rfl rfl ⟨rfl, rfl, rfl, rfl, rfl, rfl, rfl, rfl, trivial⟩) ?_
   refine aw_gh (gh_frzE (id := 39) (fun r => C.lst (ints r)) rfl (fun _ => (fz_own (fz_map (fun _ => rfl) _)))) ?_
   refine aw_gh (gh_fillc (id := 9) (j := 0) rfl rfl (Nat.le_of_ble_eq_true rfl)) ?_
   refine aw_gh (gh_to (n := 118) (σ' := [(9, ⟨[.lst (rows (AffT r1_0 r1_1 r1_2 r1_3))], []⟩), (7, ⟨[.lst (rows (AffT r1_0 r1_1 r1_2 r1_3))], []⟩)]) (env' := [(3, .c (ci r1_0)), (4, .c (ci r1_1)), (5, .c (ci r1_2)), (6, .c (ci r1_3)), (7, .cell 7 0), (8, .c (ci (AffE r1_0 r1_1 r1_2 r1_3))), (9, .cell 9 0), (10, .c (ci (AffE r1_0 r1_1 r1_2 r1_3)))]) rfl rfl ⟨rfl, rfl, rfl, rfl, rfl, rfl, rfl, rfl, trivial⟩) ?_
   refine aw_seq ?_
   refine aw_seq ?_
   refine aw_region ?_
   refine run_s (ss_move rfl) rfl ?_
   refine run_s (ss_move rfl) rfl ?_
   refine run_s (ss_neq rfl rfl) rfl ?_
   refine run_s (ss_move rfl) rfl ?_
   refine run_split (s := 45) rfl (fun q9 => ?_) (fun q9 => ?_)
   ·replace h := h.1 (of_decide_eq_false (bnot_t q9))
    refine run_gf rfl rfl q9 rfl ?_
    refine run_gf rfl rfl q9 rfl ?_
    refine run_gf rfl rfl q9 rfl ?_
    refine run_gf rfl rfl q9 rfl ?_
    refine run_gf rfl rfl q9 rfl ?_
    refine run_gf rfl rfl q9 rfl ?_
    refine run_s (ss_pickT rfl q9 rfl) rfl ?_
    refine run_nil ?_
    refine aw_cond rfl (fun q10 => ?_) (fun q10 => ?_)
    ·skip
     refine aw_seq ?_
     refine aw_gh (gh_to (n := 118) (σ' := [(9, ⟨[.lst (rows (AffT r1_0 r1_1 r1_2 r1_3))], []⟩), (7, ⟨[.lst (rows (AffT r1_0 r1_1 r1_2 r1_3))], []⟩)]) (env' := []) rfl rfl trivial) ?_
     refine aw_region ?_
     refine run_s (ss_assign rfl) rfl ?_
     refine run_nil ?_
     refine aw_ret ?_
     exact retAF_mk (retv1 rfl (rv_tmp rfl)) rfl rfl ⟨_, (cle_refl _), _, h, rfl⟩
    ·cases q10
   ·replace h := h.2 (of_decide_eq_true (bnot_f q9))
    refine run_gt rfl rfl q9 ?_
    refine run_s (ss_field_cell rfl) rfl ?_
    refine run_gt rfl rfl q9 ?_
    refine run_s (ss_loadC rfl rfl rfl rfl rfl) rfl ?_
    refine run_gt rfl rfl q9 ?_
    refine run_s (ss_field_cell rfl) rfl ?_
    refine run_gt rfl rfl q9 ?_
    refine run_s (ss_loadC rfl rfl rfl rfl rfl) rfl ?_
    refine run_gt rfl rfl q9 ?_
    obtain ⟨q11, h⟩ := h
    refine run_w (ws_call (xs := [.tmp 47, .tmp 49]) (ids := []) rfl rfl rfl rfl (c_laws_likeRows5 (AffT r1_0 r1_1 r1_2 r1_3) (AffT r1_0 r1_1 r1_2 r1_3) q11) rfl ?_ )
    rintro _ rfl
    refine ⟨rfl, ?_⟩
    refine run_gt rfl rfl q9 ?_
    refine run_s (ss_not rfl) rfl ?_
    refine run_s (ss_pickF rfl q9 rfl) rfl ?_
    refine run_nil ?_
    refine aw_cond rfl (fun q13 => ?_) (fun q13 => ?_)
    ·replace h := h.1 (of_decide_eq_false (bnot_t q13))
     refine aw_seq ?_
     refine aw_gh (gh_to (n := 118) (σ' := [(9, ⟨[.lst (rows (AffT r1_0 r1_1 r1_2 r1_3))], []⟩), (7, ⟨[.lst (rows (AffT r1_0 r1_1 r1_2 r1_3))], []⟩)]) (env' := []) rfl rfl trivial) ?_
     refine aw_region ?_
     refine run_s (ss_assign rfl) rfl ?_
     refine run_nil ?_
     refine aw_ret ?_
     exact retAF_mk (retv1 rfl (rv_tmp rfl)) rfl rfl ⟨_, (cle_refl _), _, h, rfl⟩
    ·replace h := h.2 (of_decide_eq_true (bnot_f q13))
     refine aw_skip ?_
     refine aw_seq ?_
     refine aw_seq ?_
     refine aw_region ?_
     refine run_s (ss_move rfl) rfl ?_
     refine run_s (ss_neq rfl rfl) rfl ?_
     refine run_nil ?_
     refine aw_cond rfl (fun q14 => ?_) (fun q14 => ?_)
     ·replace h := h.1 (of_decide_eq_false (bnot_t q14))
      refine aw_seq ?_
      refine aw_gh (gh_to (n := 118) (σ' := [(9, ⟨[.lst (rows (AffT r1_0 r1_1 r1_2 r1_3))], []⟩), (7, ⟨[.lst (rows (AffT r1_0 r1_1 r1_2 r1_3))], []⟩)]) (env' := [(8, .c (ci (AffE r1_0 r1_1 r1_2 r1_3)))]) rfl rfl ⟨rfl, trivial⟩) ?_
      refine aw_region ?_
      refine run_s (ss_move rfl) rfl ?_
      refine run_s (ss_eql rfl rfl) rfl ?_
      refine run_s (ss_move rfl) rfl ?_
      refine run_split (s := 57) rfl (fun q15 => ?_) (fun q15 => ?_)
      ·replace h := h.1 (of_decide_eq_true q15)
       refine run_gf rfl rfl q15 rfl ?_
       refine run_gf rfl rfl q15 rfl ?_
       refine run_s (ss_pickT rfl q15 rfl) rfl ?_
       refine run_s (ss_assign rfl) rfl ?_
       refine run_nil ?_
       refine aw_ret ?_
       exact retAF_mk (retv1 rfl (rv_tmp rfl)) rfl rfl ⟨_, (cle_refl _), _, h, rfl⟩
      ·replace h := h.2 (of_decide_eq_false q15)
       refine run_gt rfl rfl q15 ?_
       refine run_s (ss_move rfl) rfl ?_
       refine run_gt rfl rfl q15 ?_
       refine run_s (ss_eql rfl rfl) rfl ?_
       refine run_s (ss_pickF rfl q15 rfl) rfl ?_
       refine run_s (ss_assign rfl) rfl ?_
       refine run_nil ?_
       refine aw_ret ?_
       exact retAF_mk (retv1 rfl (rv_tmp rfl)) rfl rfl ⟨_, (cle_refl _), _, h, rfl⟩
     ·replace h := h.2 (of_decide_eq_true (bnot_f q14))
      refine aw_skip ?_
      refine aw_seq ?_
      refine aw_seq ?_
      refine aw_gh (gh_to (n := 118) (σ' := [(9, ⟨[.lst (rows (AffT r1_0 r1_1 r1_2 r1_3))], []⟩), (7, ⟨[.lst (rows (AffT r1_0 r1_1 r1_2 r1_3))], []⟩)]) (env' := [(3, .c (ci r1_0)), (4, .c (ci r1_1)), (5, .c (ci r1_2)), (6, .c (ci r1_3)), (7, .cell 7 0)]) rfl rfl ⟨rfl, rfl, rfl, rfl, rfl, trivial⟩) ?_
      refine aw_region ?_
      refine run_s (ss_assign rfl) rfl ?_
      refine run_nil ?_
      refine aw_block ?_
      refine aw_gh (gh_freeze (id := 9) rfl rfl) ?_
      obtain ⟨H1, m1, q16, h⟩ := h
      refine aw_loop1 (fun (v11_1 : Int) => ⟨[(7, ⟨[.lst (rows (AffT r1_0 r1_1 r1_2 r1_3))], []⟩)], [(3, .c (ci r1_0)), (4, .c (ci r1_1)), (5, .c (ci r1_2)), (6, .c (ci r1_3)), (7, .cell 7 0), (11, .c (ci v11_1))], 118⟩) H1 m1 ⟨0, ghe_to (n := 118) rfl rfl ⟨rfl, rfl, rfl, rfl, rfl, rfl, trivial⟩, q16⟩ ?_
      rintro v11_1 q16
      replace h := h v11_1 q16
      refine aw_seq ?_
      refine aw_seq ?_
      refine aw_region ?_
      refine run_s (ss_move rfl) rfl ?_
      refine run_s (ss_move rfl) rfl ?_
      refine run_s (ss_lss rfl rfl) rfl ?_
      refine run_nil ?_
      refine aw_cond rfl (fun q17 => ?_) (fun q17 => ?_)
      ·replace h := h.1 (of_decide_eq_true q17)
       refine aw_skip ?_
       refine aw_seq ?_
       refine aw_block ?_
       refine aw_seq ?_
       refine aw_region ?_
       refine run_s (ss_assign rfl) rfl ?_
       refine run_nil ?_
       refine aw_block ?_
       obtain ⟨H2, m2, q18, h⟩ := h
       refine aw_loop1 (fun (v12_2 : Int) => ⟨[(7, ⟨[.lst (rows (AffT r1_0 r1_1 r1_2 r1_3))], []⟩)], [(3, .c (ci r1_0)), (4, .c (ci r1_1)), (5, .c (ci r1_2)), (6, .c (ci r1_3)), (7, .cell 7 0), (11, .c (ci v11_1)), (12, .c (ci v12_2))], 118⟩) H2 m2 ⟨0, ghe_to (n := 118) rfl rfl ⟨rfl, rfl, rfl, rfl, rfl, rfl, rfl, trivial⟩, q18⟩ ?_
       rintro v12_2 q18
       replace h := h v12_2 q18
       refine aw_seq ?_
       refine aw_seq ?_
       refine aw_region ?_
       refine run_s (ss_move rfl) rfl ?_
       refine run_s (ss_move rfl) rfl ?_
       refine run_s (ss_lss rfl rfl) rfl ?_
       refine run_nil ?_
       refine aw_cond rfl (fun q19 => ?_) (fun q19 => ?_)
       ·replace h := h.1 (of_decide_eq_true q19)
        refine aw_skip ?_
        refine aw_seq ?_
        refine aw_block ?_
        refine aw_seq ?_
        refine aw_gh (gh_to (n := 118) (σ' := [(7, ⟨[.lst (rows (AffT r1_0 r1_1 r1_2 r1_3))], []⟩)]) (env' := [(3, .c (ci r1_0)), (4, .c (ci r1_1)), (5, .c (ci r1_2)), (6, .c (ci r1_3)), (7, .cell 7 0), (11, .c (ci v11_1)), (12, .c (ci v12_2))]) rfl rfl ⟨rfl, rfl, rfl, rfl, rfl, rfl, rfl, trivial⟩) ?_
        refine aw_regionD (kd := kdl [0, 1, 0, 0, 1, 0, 0, 1, 0, 0, 0, 0, 0, 0, 0, 0, 0, 0, 0, 0]) (ord := [0, 2, 5, 8, 9, 10, 11, 12, 13, 14, 15, 16, 17, 18, 1, 3, 4, 6, 7, 19]) [] mixed (by kernel_rfl) ?_
        refine rd_s rfl rfl trivial (ss_field_cell rfl) rfl ?_
        refine rd_s rfl rfl trivial (ss_move rfl) rfl ?_
        refine rd_s rfl rfl trivial (ss_move rfl) rfl ?_
        refine rd_s rfl rfl trivial (ss_move rfl) rfl ?_
        refine rd_s rfl rfl trivial (ss_move rfl) rfl ?_
        obtain ⟨q20, h⟩ := h
        refine rd_s rfl rfl trivial (ss_mul rfl rfl q20) rfl ?_
        refine rd_s rfl rfl trivial (ss_move rfl) rfl ?_
        refine rd_s rfl rfl trivial (ss_move rfl) rfl ?_
        obtain ⟨q21, h⟩ := h
        refine rd_s rfl rfl trivial (ss_mul rfl rfl q21) rfl ?_
        obtain ⟨q22, h⟩ := h
        refine rd_s rfl rfl trivial (ss_add rfl rfl q22) rfl ?_
        refine rd_s rfl rfl trivial (ss_move rfl) rfl ?_
        obtain ⟨q23, h⟩ := h
        refine rd_s rfl rfl trivial (ss_add rfl rfl q23) rfl ?_
        refine rd_s rfl rfl trivial (ss_move rfl) rfl ?_
        obtain ⟨q24, h⟩ := h
        refine rd_s rfl rfl trivial (ss_rem rfl rfl q24) rfl ?_
        refine rd_l rfl rfl trivial (ss_loadC rfl rfl rfl rfl rfl) rfl ?_
        obtain ⟨q25, h⟩ := h
        refine rd_s rfl rfl trivial (ss_idxL rfl rfl q25) rfl ?_
        refine rd_l rfl rfl trivial (ss_loadL (f := (fun r => C.lst (ints r))) rfl q25) rfl ?_
        obtain ⟨q26, h⟩ := h
        refine rd_s rfl rfl trivial (ss_idxL rfl rfl q26) rfl ?_
        refine rd_l rfl rfl trivial (ss_loadL (f := ci) rfl q26) rfl ?_
        refine rd_s rfl rfl trivial (ss_neq rfl rfl) rfl ?_
        refine rd_nil ?_
        refine aw_cond rfl (fun q27 => ?_) (fun q27 => ?_)
        ·replace h := h.1 (of_decide_eq_false (bnot_t q27))
         refine aw_seq ?_
         refine aw_gh (gh_to (n := 118) (σ' := [(7, ⟨[.lst (rows (AffT r1_0 r1_1 r1_2 r1_3))], []⟩)]) (env' := []) rfl rfl trivial) ?_
         refine aw_region ?_
         refine run_s (ss_assign rfl) rfl ?_
         refine run_nil ?_
         refine aw_ret ?_
         exact retAF_mk (retv1 rfl (rv_tmp rfl)) rfl rfl ⟨_, (cle_refl _), _, h, rfl⟩
        ·replace h := h.2 (of_decide_eq_true (bnot_f q27))
         refine aw_skip ?_
         refine aw_gh (gh_to (n := 118) (σ' := [(7, ⟨[.lst (rows (AffT r1_0 r1_1 r1_2 r1_3))], []⟩)]) (env' := [(3, .c (ci r1_0)), (4, .c (ci r1_1)), (5, .c (ci r1_2)), (6, .c (ci r1_3)), (7, .cell 7 0), (11, .c (ci v11_1)), (12, .c (ci v12_2))]) rfl rfl ⟨rfl, rfl, rfl, rfl, rfl, rfl, rfl, trivial⟩) ?_
         refine aw_region ?_
         refine run_s (ss_move rfl) rfl ?_
         obtain ⟨q28, h⟩ := h
         refine run_s (ss_add rfl rfl q28) rfl ?_
         refine run_s (ss_assign rfl) rfl ?_
         refine run_nil ?_
         exact ⟨v12_2 + 1, ghe_to (n := 118) rfl rfl ⟨rfl, rfl, rfl, rfl, rfl, rfl, rfl, trivial⟩, h.1, h.2⟩
       ·replace h := h.2 (of_decide_eq_false q19)
        refine aw_exit ?_
        refine aw_region ?_
        refine run_s (ss_move rfl) rfl ?_
        obtain ⟨q29, h⟩ := h
        refine run_s (ss_add rfl rfl q29) rfl ?_
        refine run_s (ss_assign rfl) rfl ?_
        refine run_nil ?_
        exact ⟨v11_1 + 1, ghe_to (n := 118) rfl rfl ⟨rfl, rfl, rfl, rfl, rfl, rfl, trivial⟩, h.1, h.2⟩
      ·replace h := h.2 (of_decide_eq_false q17)
       refine aw_exit ?_
       refine aw_seq ?_
       refine aw_region ?_
       refine run_s (ss_loadS rfl rfl rfl rfl) rfl ?_
       obtain ⟨q30, h⟩ := h
       refine run_w (ws_call (xs := [.tmp 92]) (ids := []) rfl rfl rfl rfl (c_impl_CycleSetText (AffT r1_0 r1_1 r1_2 r1_3) q30) rfl ?_ )
       rintro _ rfl
       refine ⟨rfl, ?_⟩
       refine run_s (ss_move rfl) rfl ?_
       refine run_s (ss_extract rfl rfl) rfl ?_
       refine run_s (ss_extract rfl rfl) rfl ?_
       refine run_s (ss_assign rfl) rfl ?_
       refine run_s (ss_assign rfl) rfl ?_
       refine run_nil ?_
       refine aw_seq ?_
       refine aw_region ?_
       refine run_s (ss_move rfl) rfl ?_
       obtain ⟨q32, h⟩ := h
       refine run_w (ws_call (xs := [.tmp 97]) (ids := [98]) rfl rfl rfl rfl (c_impl_ParseCycleSet (if isTab (AffT r1_0 r1_1 r1_2 r1_3) then txtI (AffT r1_0 r1_1 r1_2 r1_3) else []) q32) rfl ?_ )
       rintro _ rfl
       refine ⟨rfl, ?_⟩
       refine run_s (ss_move rfl) rfl ?_
       refine run_s (ss_extract rfl rfl) rfl ?_
       refine run_s (ss_extract rfl rfl) rfl ?_
       refine run_w (ws_alloc (id := 15) rfl (Nat.le_of_ble_eq_true rfl) ⟨rfl, ?_⟩)
       refine run_w (ws_storeS rfl rfl (Nat.le_of_ble_eq_true rfl) rfl rfl rfl ⟨rfl, ?_⟩)
       refine run_s (ss_assign rfl) rfl ?_
       refine run_nil ?_
       refine aw_gh (gh_to (n := 118) (σ' := [(15, ⟨[.hole], [(0, .ref 98)]⟩), (98, ⟨orows (pcyT (if isTab (AffT r1_0 r1_1 r1_2 r1_3) then txtI (AffT r1_0 r1_1 r1_2 r1_3) else [])), []⟩), (7, ⟨[.lst (rows (AffT r1_0 r1_1 r1_2 r1_3))], []⟩)]) (env' := [(7, .cell 7 0), (14, .c (ci (if isTab (AffT r1_0 r1_1 r1_2 r1_3) then (0 : Int) else 1))), (15, .cell 15 0), (16, .c (ci (pcyE (if isTab (AffT r1_0 r1_1 r1_2 r1_3) then txtI (AffT r1_0 r1_1 r1_2 r1_3) else []))))]) rfl rfl ⟨rfl, rfl, rfl, rfl, trivial⟩) ?_
       refine aw_gh (gh_frzE (id := 98) (fun r => C.lst (ints r)) rfl (fun _ => (fz_own (fz_map (fun _ => rfl) _)))) ?_
       refine aw_gh (gh_fillc (id := 15) (j := 0) rfl rfl (Nat.le_of_ble_eq_true rfl)) ?_
       refine aw_gh (gh_to (n := 118) (σ' := [(15, ⟨[.lst (rows (pcyT (if isTab (AffT r1_0 r1_1 r1_2 r1_3) then txtI (AffT r1_0 r1_1 r1_2 r1_3) else [])))], []⟩), (7, ⟨[.lst (rows (AffT r1_0 r1_1 r1_2 r1_3))], []⟩)]) (env' := [(7, .cell 7 0), (14, .c (ci (if isTab (AffT r1_0 r1_1 r1_2 r1_3) then (0 : Int) else 1))), (15, .cell 15 0), (16, .c (ci (pcyE (if isTab (AffT r1_0 r1_1 r1_2 r1_3) then txtI (AffT r1_0 r1_1 r1_2 r1_3) else []))))]) rfl rfl ⟨rfl, rfl, rfl, rfl, trivial⟩) ?_
       refine aw_seq ?_
       refine aw_region ?_
       refine run_s (ss_move rfl) rfl ?_
       refine run_s (ss_eql rfl rfl) rfl ?_
       refine run_s (ss_move rfl) rfl ?_
       refine run_split (s := 103) rfl (fun q34 => ?_) (fun q34 => ?_)
       ·replace h := h.1 (of_decide_eq_true q34)
        refine run_gt rfl rfl q34 ?_
        refine run_s (ss_move rfl) rfl ?_
        refine run_gt rfl rfl q34 ?_
        refine run_s (ss_eql rfl rfl) rfl ?_
        refine run_s (ss_pickT rfl q34 rfl) rfl ?_
        refine run_s (ss_move rfl) rfl ?_
        refine run_split (s := 107) rfl (fun q35 => ?_) (fun q35 => ?_)
        ·replace h := h.1 (of_decide_eq_true q35)
         refine run_gt rfl rfl q35 ?_
         refine run_s (ss_loadS rfl rfl rfl rfl) rfl ?_
         refine run_gt rfl rfl q35 ?_
         obtain ⟨q36, h⟩ := h
         refine run_w (ws_call (xs := [.tmp 108]) (ids := []) rfl rfl rfl rfl (c_impl_IsCycleSet (AffT r1_0 r1_1 r1_2 r1_3) q36) rfl ?_ )
         rintro _ rfl
         refine ⟨rfl, ?_⟩
         refine run_s (ss_pickT rfl q35 rfl) rfl ?_
         refine run_s (ss_move rfl) rfl ?_
         refine run_split (s := 111) rfl (fun q38 => ?_) (fun q38 => ?_)
         ·replace h := h.1 (q38)
          refine run_gt rfl rfl q38 ?_
          refine run_s (ss_field_cell rfl) rfl ?_
          refine run_gt rfl rfl q38 ?_
          refine run_s (ss_loadC rfl rfl rfl rfl rfl) rfl ?_
          refine run_gt rfl rfl q38 ?_
          refine run_s (ss_field_cell rfl) rfl ?_
          refine run_gt rfl rfl q38 ?_
          refine run_s (ss_loadC rfl rfl rfl rfl rfl) rfl ?_
          refine run_gt rfl rfl q38 ?_
          obtain ⟨q39, h⟩ := h
          refine run_w (ws_call (xs := [.tmp 113, .tmp 115]) (ids := []) rfl rfl rfl rfl (c_laws_likeRows5 (pcyT (if isTab (AffT r1_0 r1_1 r1_2 r1_3) then txtI (AffT r1_0 r1_1 r1_2 r1_3) else [])) (AffT r1_0 r1_1 r1_2 r1_3) q39) rfl ?_ )
          rintro _ rfl
          refine ⟨rfl, ?_⟩
          refine run_s (ss_pickT rfl q38 rfl) rfl ?_
          refine run_s (ss_assign rfl) rfl ?_
          refine run_nil ?_
          refine aw_ret ?_
          exact retAF_mk (retv1 rfl (rv_tmp rfl)) rfl rfl ⟨_, (cle_refl _), _, h, rfl⟩
         ·replace h := h.2 (q38)
          refine run_gf rfl rfl q38 rfl ?_
          refine run_gf rfl rfl q38 rfl ?_
          refine run_gf rfl rfl q38 rfl ?_
          refine run_gf rfl rfl q38 rfl ?_
          refine run_gf rfl rfl q38 rfl ?_
          refine run_s (ss_pickF rfl q38 rfl) rfl ?_
          refine run_s (ss_assign rfl) rfl ?_
          refine run_nil ?_
          refine aw_ret ?_
          exact retAF_mk (retv1 rfl (rv_tmp rfl)) rfl rfl ⟨_, (cle_refl _), _, h, rfl⟩
        ·replace h := h.2 (of_decide_eq_false q35)
         refine run_gf rfl rfl q35 rfl ?_
         refine run_gf rfl rfl q35 rfl ?_
         refine run_s (ss_pickF rfl q35 rfl) rfl ?_
         refine run_s (ss_move rfl) rfl ?_
         refine run_split (s := 111) rfl (fun q41 => ?_) (fun q41 => ?_)
         ·cases q41
         ·skip
          refine run_gf rfl rfl q41 rfl ?_
          refine run_gf rfl rfl q41 rfl ?_
          refine run_gf rfl rfl q41 rfl ?_
          refine run_gf rfl rfl q41 rfl ?_
          refine run_gf rfl rfl q41 rfl ?_
          refine run_s (ss_pickF rfl q41 rfl) rfl ?_
          refine run_s (ss_assign rfl) rfl ?_
          refine run_nil ?_
          refine aw_ret ?_
          exact retAF_mk (retv1 rfl (rv_tmp rfl)) rfl rfl ⟨_, (cle_refl _), _, h, rfl⟩
       ·replace h := h.2 (of_decide_eq_false q34)
        refine run_gf rfl rfl q34 rfl ?_
        refine run_gf rfl rfl q34 rfl ?_
        refine run_s (ss_pickF rfl q34 rfl) rfl ?_
        refine run_s (ss_move rfl) rfl ?_
        refine run_split (s := 107) rfl (fun q42 => ?_) (fun q42 => ?_)
        ·cases q42
        ·skip
         refine run_gf rfl rfl q42 rfl ?_
         refine run_gf rfl rfl q42 rfl ?_
         refine run_s (ss_pickF rfl q42 rfl) rfl ?_
         refine run_s (ss_move rfl) rfl ?_
         refine run_split (s := 111) rfl (fun q43 => ?_) (fun q43 => ?_)
         ·cases q43
         ·skip
          refine run_gf rfl rfl q43 rfl ?_
          refine run_gf rfl rfl q43 rfl ?_
          refine run_gf rfl rfl q43 rfl ?_
          refine run_gf rfl rfl q43 rfl ?_
          refine run_gf rfl rfl q43 rfl ?_
          refine run_s (ss_pickF rfl q43 rfl) rfl ?_
          refine run_s (ss_assign rfl) rfl ?_
          refine run_nil ?_
          refine aw_ret ?_
          exact retAF_mk (retv1 rfl (rv_tmp rfl)) rfl rfl ⟨_, (cle_refl _), _, h, rfl⟩

theorem c_laws_FnAffineCycles (code : List Int) (hp : code.length ≤ 9223372036854775807 ∧ ∀ z_ ∈ code, 0 ≤ z_ ∧ z_ ≤ 255) : AF Tryd.prog 3 [.lst (bys code)] (fun R_ => R_ = cb true) :=
  (w_laws_FnAffineCycles code (fun y0 => y0 = true) (p_laws_FnAffineCycles code hp)).mono (by rintro r ⟨_, rfl, rfl⟩; rfl)

end Go.Proofs.YtjolbldlhjfciaaDoor
