/- Plain definitions, the twenty-first part: lists of lists in order, classes of conjugates; no condition. -/
import Derived.Test.YtfpkpefokcphpaaPs
namespace Go.Proofs.Ytfpkpefokcphpaa
theorem upto_cons {α : Type} [Inhabited α] {x y : α} {a b : List α} {j : Int} (hj : 0 ≤ j) : Upto (j + 1) (fun m => el (x :: a) m = el (y :: b) m) ↔ x = y ∧ Upto j (fun m => el a m = el b m) := by
  constructor
  · intro h
    refine ⟨by have := h 0 (by omega) (by omega); simpa [el_cons_0] using this, fun m m0 m1 => ?_⟩
    have : el (x :: a) (m + 1) = el (y :: b) (m + 1) := h (m + 1) (by omega) (by omega)
    rw [el_cons_s (by omega), el_cons_s (by omega), Int.add_sub_cancel] at this
    exact this
  · rintro ⟨rfl, h⟩ m m0 m1
    show el (x :: a) m = el (x :: b) m
    by_cases e : m = 0
    · subst e; rw [el_cons_0, el_cons_0]
    · rw [el_cons_s (by omega), el_cons_s (by omega)]; exact h _ (by omega) (by omega)
theorem lex_cons {x y : Int} {a b : List Int} : lexL (x :: a) (y :: b) ↔ x < y ∨ (x = y ∧ lexL a b) := by
  constructor
  · rintro ⟨j, hj, hu, hlt⟩
    by_cases e : j = 0
    · subst e; left; simpa [el_cons_0] using hlt
    · right
      obtain ⟨i, rfl⟩ : ∃ i, j = i + 1 := ⟨j - 1, by omega⟩
      obtain ⟨h1, h2⟩ := (upto_cons (by omega)).1 hu
      rw [el_cons_s (by omega), el_cons_s (by omega), Int.add_sub_cancel] at hlt
      exact ⟨h1, i, ⟨by omega, by have := hj.2; simp at this; omega⟩, h2, hlt⟩
  · rintro (h | ⟨rfl, j, hj, hu, hlt⟩)
    · exact ⟨0, ⟨by omega, by simp⟩, fun m _ _ => by omega, by rw [el_cons_0, el_cons_0]; exact h⟩
    · exact ⟨j + 1, ⟨by omega, by simp; omega⟩, (upto_cons hj.1).2 ⟨rfl, hu⟩, by rw [el_cons_s (by omega), el_cons_s (by omega), Int.add_sub_cancel]; exact hlt⟩
theorem lexL_total : ∀ {a b : List Int}, a.length = b.length → a ≠ b → lexL a b ∨ lexL b a
  | [], [], _, h => absurd rfl h
  | [], _ :: _, h, _ => by cases h
  | _ :: _, [], h, _ => by cases h
  | x :: a, y :: b, hl, h => by
    rcases Int.lt_trichotomy x y with g | rfl | g
    · exact .inl (lex_cons.2 (.inl g))
    · rcases lexL_total (a := a) (b := b) (by simpa using hl) (fun e => h (by rw [e])) with k | k
      · exact .inl (lex_cons.2 (.inr ⟨rfl, k⟩))
      · exact .inr (lex_cons.2 (.inr ⟨rfl, k⟩))
    · exact .inr (lex_cons.2 (.inl g))
theorem cmp_lex : ∀ {a b : List Int}, a.length = b.length → (cmpG cmp1 a b < 0 ↔ lexL a b)
  | [], [], _ => by simp only [cmpG]; exact ⟨fun h => by omega, fun h => absurd h lexL_irrefl⟩
  | [], _ :: _, h => by cases h
  | _ :: _, [], h => by cases h
  | x :: a, y :: b, hl => by
    rw [lex_cons, ← cmp_lex (a := a) (b := b) (by simpa using hl)]
    simp only [cmpG, cmp1_zero]
    split
    · rename_i h; subst h; exact ⟨fun h => .inr ⟨rfl, h⟩, fun h => h.elim (fun h => by omega) fun h => h.2⟩
    · rename_i h
      unfold cmp1
      split
      · exact ⟨fun _ => .inl (by assumption), fun _ => by omega⟩
      · split
        · exact ⟨fun _ => by omega, fun k => k.elim (fun _ => by omega) fun k => absurd k.1 h⟩
        · exact ⟨fun _ => by omega, fun k => k.elim (fun _ => by omega) fun k => absurd k.1 h⟩
theorem cmp1_anti (x y : Int) : cmp1 x y = - cmp1 y x := by unfold cmp1; split <;> split <;> (try split) <;> omega
theorem cmp_anti : ∀ a b : List Int, cmpG cmp1 a b = - cmpG cmp1 b a
  | [], [] => rfl
  | [], _ :: _ => rfl
  | _ :: _, [] => rfl
  | x :: a, y :: b => by
    have h := cmp_anti a b
    have h1 := cmp1_anti x y
    simp only [cmpG]
    split <;> split <;> omega
def LexS (n : Nat) (l : List (List Int)) : Prop := l.Pairwise lexL ∧ ∀ x ∈ l, x.length = n
theorem LexS.tail {n : Nat} {a : List Int} {l : List (List Int)} (h : LexS n (a :: l)) : LexS n l := ⟨(List.pairwise_cons.1 h.1).2, fun x hx => h.2 x (List.mem_cons_of_mem _ hx)⟩
theorem LexS.nodup {n : Nat} {l : List (List Int)} (h : LexS n l) : l.Nodup := h.1.imp fun h e => by subst e; exact lexL_irrefl h
theorem lexS_uniq {n : Nat} : ∀ {a b : List (List Int)}, LexS n a → LexS n b → (∀ x, x ∈ a ↔ x ∈ b) → a = b
  | [], [], _, _, _ => rfl
  | [], y :: b, _, _, h => by have := (h y).2 List.mem_cons_self; cases this
  | x :: a, [], _, _, h => by have := (h x).1 List.mem_cons_self; cases this
  | x :: a, y :: b, ha, hb, h => by
    have pa := List.pairwise_cons.1 ha.1
    have pb := List.pairwise_cons.1 hb.1
    have e : x = y := by
      rcases List.mem_cons.1 ((h x).1 List.mem_cons_self) with e | h1
      · exact e
      · rcases List.mem_cons.1 ((h y).2 List.mem_cons_self) with e | h2
        · exact e.symm
        · exact absurd (lexL_trans (by rw [ha.2 x List.mem_cons_self, hb.2 y List.mem_cons_self]) (pa.1 y h2) (pb.1 x h1)) lexL_irrefl
    subst e
    rw [lexS_uniq ha.tail hb.tail fun z => ?_]
    constructor
    · intro hz
      rcases List.mem_cons.1 ((h z).1 (List.mem_cons_of_mem _ hz)) with e | h1
      · subst e; exact absurd (pa.1 z hz) lexL_irrefl
      · exact h1
    · intro hz
      rcases List.mem_cons.1 ((h z).2 (List.mem_cons_of_mem _ hz)) with e | h1
      · subst e; exact absurd (pb.1 z hz) lexL_irrefl
      · exact h1
theorem lexS_ins {n : Nat} {x : List Int} (hx : x.length = n) : ∀ {l : List (List Int)}, LexS n l → x ∉ l → ∃ o, LexS n o ∧ ∀ z, z ∈ o ↔ z = x ∨ z ∈ l
  | [], _, _ => ⟨[x], ⟨List.pairwise_singleton _ _, fun z hz => by rw [List.mem_singleton.1 hz]; exact hx⟩, fun z => by simp⟩
  | b :: r, hl, hn => by
    have pl := List.pairwise_cons.1 hl.1
    have hb := hl.2 b List.mem_cons_self
    rcases lexL_total (a := x) (b := b) (by omega) (fun e => hn (by rw [e]; exact List.mem_cons_self)) with h | h
    · refine ⟨x :: b :: r, ⟨List.pairwise_cons.2 ⟨fun z hz => ?_, hl.1⟩, fun z hz => ?_⟩, fun z => by simp⟩
      · rcases List.mem_cons.1 hz with rfl | hz
        · exact h
        · exact lexL_trans (by omega) h (pl.1 z hz)
      · rcases List.mem_cons.1 hz with rfl | hz
        · exact hx
        · exact hl.2 z hz
    · obtain ⟨o, ho, hm⟩ := lexS_ins hx hl.tail fun h => hn (List.mem_cons_of_mem _ h)
      refine ⟨b :: o, ⟨List.pairwise_cons.2 ⟨fun z hz => ?_, ho.1⟩, fun z hz => ?_⟩, fun z => by simp only [List.mem_cons, hm]; constructor <;> (rintro (h | h | h) <;> simp [h])⟩
      · rcases (hm z).1 hz with rfl | hz
        · exact h
        · exact pl.1 z hz
      · rcases List.mem_cons.1 hz with rfl | hz
        · exact hb
        · exact ho.2 z hz
theorem lexS_ex {n : Nat} : ∀ (l : List (List Int)), (∀ x ∈ l, x.length = n) → ∃ o, LexS n o ∧ ∀ z, z ∈ o ↔ z ∈ l
  | [], _ => ⟨[], ⟨List.Pairwise.nil, fun _ h => by cases h⟩, fun _ => Iff.rfl⟩
  | a :: l, h => by
    obtain ⟨o, ho, hm⟩ := lexS_ex l fun x hx => h x (List.mem_cons_of_mem _ hx)
    by_cases ha : a ∈ o
    · exact ⟨o, ho, fun z => by rw [List.mem_cons, hm]; exact ⟨.inr, fun k => k.elim (fun e => by subst e; exact (hm _).1 ha) id⟩⟩
    · obtain ⟨o2, h2, m2⟩ := lexS_ins (h a List.mem_cons_self) ho ha
      exact ⟨o2, h2, fun z => by rw [m2, List.mem_cons, hm]⟩
theorem el_takeG {α : Type} [Inhabited α] {l : List α} {j m : Int} (hj : 0 ≤ j ∧ j < m) : el (l.take m.toNat) j = el l j := by
  unfold el
  simp only [List.getD_eq_getElem?_getD, List.getElem?_take]
  rw [if_pos (by omega)]
theorem lexS_put {n : Nat} {s : List (List Int)} {x : List Int} {k : Int} (hs : LexS n s) (hx : x.length = n) (hk : 0 ≤ k ∧ k ≤ (s.length : Int)) (h1 : 0 < k → lexL (el s (k - 1)) x) (h2 : k < (s.length : Int) → lexL x (el s k)) :
    LexS n (sl s 0 k ++ x :: sl s k (s.length : Int)) ∧ ∀ z, z ∈ sl s 0 k ++ x :: sl s k (s.length : Int) ↔ z = x ∨ z ∈ s := by
  have e : s = s.take k.toNat ++ s.drop k.toNat := (List.take_append_drop _ _).symm
  have e1 : sl s 0 k = s.take k.toNat := by simp [sl]
  have e2 : sl s k (s.length : Int) = s.drop k.toNat := by simp [sl]
  rw [e1, e2]
  have hp := hs.1
  rw [e] at hp
  obtain ⟨p1, p2, p3⟩ := List.pairwise_append.1 hp
  have hlen : ∀ z ∈ s, z.length = x.length := fun z hz => by rw [hs.2 z hz, hx]
  have lo : ∀ z ∈ s.take k.toNat, lexL z x := fun z hz => by
    obtain ⟨i, hi, rfl⟩ := mem_el hz
    have hi2 : i < k := by have := hi.2; simp at this; omega
    rw [el_takeG ⟨hi.1, hi2⟩]
    have hkp := h1 (by omega)
    by_cases hik : i = k - 1
    · subst hik; exact hkp
    · have := sort_at (a := i.toNat) (b := (k - 1).toNat) (x := el s i) (y := el s (k - 1)) hs.1 (by unfold el; rw [List.getD_eq_getElem?_getD, List.getElem?_eq_getElem (by omega)]; rfl) (by unfold el; rw [List.getD_eq_getElem?_getD, List.getElem?_eq_getElem (by omega)]; rfl) (by omega)
      exact lexL_trans (by rw [hs.2 _ (el_mem ⟨hi.1, by omega⟩), hs.2 _ (el_mem ⟨by omega, by omega⟩)]) this hkp
  have hi : ∀ z ∈ s.drop k.toNat, lexL x z := fun z hz => by
    by_cases hkl : k < (s.length : Int)
    · rw [drop_el ⟨hk.1, hkl⟩] at hz p2
      rcases List.mem_cons.1 hz with rfl | hz
      · exact h2 hkl
      · exact lexL_trans (by rw [hx, hs.2 _ (el_mem ⟨hk.1, hkl⟩)]) (h2 hkl) ((List.pairwise_cons.1 p2).1 z hz)
    · rw [List.drop_of_length_le (by omega)] at hz; cases hz
  have hmem : ∀ z, z ∈ s.take k.toNat ++ x :: s.drop k.toNat ↔ z = x ∨ z ∈ s := fun z => by
    rw [show (z ∈ s) = (z ∈ s.take k.toNat ++ s.drop k.toNat) by rw [← e]]
    simp only [List.mem_append, List.mem_cons]
    constructor
    · rintro (h | h | h) <;> simp [h]
    · rintro (h | h | h) <;> simp [h]
  refine ⟨⟨List.pairwise_append.2 ⟨p1, List.pairwise_cons.2 ⟨hi, p2⟩, fun a ha b hb => ?_⟩, fun z hz => ?_⟩, hmem⟩
  · rcases List.mem_cons.1 hb with rfl | hb
    · exact lo a ha
    · exact p3 a ha b hb
  · rcases (hmem z).1 hz with rfl | hz
    · exact hx
    · exact hs.2 z hz
theorem adj_lex {n : Nat} : ∀ {l : List (List Int)}, (∀ x ∈ l, x.length = n) → (∀ i : Int, 0 ≤ i → i + 1 < (l.length : Int) → lexL (el l i) (el l (i + 1))) → l.Pairwise lexL
  | [], _, _ => List.Pairwise.nil
  | a :: l, hn, h => by
    have ih := adj_lex (l := l) (fun x hx => hn x (List.mem_cons_of_mem _ hx)) fun i i0 i1 => by
      have := h (i + 1) (by omega) (by simp; omega)
      rw [el_cons_s (by omega), el_cons_s (by omega), Int.add_sub_cancel, show i + 1 + 1 - 1 = i + 1 by omega] at this
      exact this
    refine List.pairwise_cons.2 ⟨fun z hz => ?_, ih⟩
    cases l with
    | nil => cases hz
    | cons b r =>
      have h0 := h 0 (by omega) (by simp; omega)
      rw [el_cons_0, el_cons_s (by omega), show (0 : Int) + 1 - 1 = 0 by omega, el_cons_0] at h0
      rcases List.mem_cons.1 hz with rfl | hz
      · exact h0
      · exact lexL_trans (by rw [hn a List.mem_cons_self, hn b (by simp)]) h0 ((List.pairwise_cons.1 ih).1 z hz)
theorem idxL_mem {l : List (List Int)} {v : List Int} (h : v ∈ l) : 0 ≤ idxL l v ∧ idxL l v < (l.length : Int) := by
  unfold idxL idxF
  have hany : l.any (fun own => decide (own = v)) = true := List.any_eq_true.2 ⟨v, h, decide_eq_true rfl⟩
  rw [if_pos hany]
  have := List.findIdx_lt_length_of_exists (p := fun own => decide (own = v)) ⟨v, h, decide_eq_true rfl⟩
  omega
theorem idxL_neg {l : List (List Int)} {v : List Int} : idxL l v < 0 ↔ v ∉ l := by
  constructor
  · intro h hm; have := idxL_mem hm; omega
  · intro h
    unfold idxL idxF
    rw [if_neg (by
      intro ha
      obtain ⟨x, hx, e⟩ := List.any_eq_true.1 ha
      exact h (by rw [← of_decide_eq_true e]; exact hx))]
    omega
def thnI (p q : List Int) : List Int := p.map (el q)
theorem thn_len (p q : List Int) : (thnI p q).length = p.length := by simp [thnI]
theorem thn_el {p q : List Int} {i : Int} (hi : 0 ≤ i ∧ i < (p.length : Int)) : el (thnI p q) i = el q (el p i) := el_map hi
theorem perm_mk {p : List Int} (h : ∀ i, 0 ≤ i → i < (p.length : Int) → 0 ≤ el p i ∧ el p i < (p.length : Int)) (hi : ∀ i j, 0 ≤ i → i < j → j < (p.length : Int) → el p i ≠ el p j) : isPerm p = true :=
  isPerm_iff.2 ⟨nodup_el.2 hi, fun x hx => by obtain ⟨i, hi, rfl⟩ := mem_el hx; exact h i hi.1 hi.2⟩
theorem thn_perm {p q : List Int} (hp : isPerm p = true) (hq : isPerm q = true) (hl : p.length = q.length) : isPerm (thnI p q) = true := by
  have e := thn_len p q
  refine perm_mk (fun i i0 i1 => ?_) fun i j i0 ij j1 => ?_
  · rw [e] at i1 ⊢
    rw [thn_el ⟨i0, i1⟩]
    have h1 := isPerm_el hp ⟨i0, i1⟩
    have h2 := isPerm_el hq (i := el p i) ⟨h1.1, by omega⟩
    omega
  · rw [e] at j1
    rw [thn_el ⟨i0, by omega⟩, thn_el ⟨by omega, j1⟩]
    intro h
    have a1 := isPerm_el hp (i := i) ⟨i0, by omega⟩
    have a2 := isPerm_el hp (i := j) ⟨by omega, j1⟩
    have := isPerm_inj hq ⟨a1.1, by omega⟩ ⟨a2.1, by omega⟩ h
    have := isPerm_inj hp ⟨i0, by omega⟩ ⟨by omega, j1⟩ this
    omega
section
variable {x y : List Int}
theorem cj_len : (conjI x y).length = x.length := by simp [conjI]
theorem cj_el (hx : isPerm x = true) (_hy : isPerm y = true) (hl : x.length = y.length) {i : Int} (hi : 0 ≤ i ∧ i < (x.length : Int)) : el (conjI x y) (el x i) = el x (el y i) := by
  have h1 := isPerm_el hx hi
  unfold conjI
  rw [el_map ⟨h1.1, by simp; omega⟩, el_map ⟨h1.1, by simp; omega⟩, el_backI hx hi]
theorem cj_uniq {z : List Int} (hx : isPerm x = true) (hy : isPerm y = true) (hl : x.length = y.length) (hz : z.length = x.length) (h : ∀ i, 0 ≤ i → i < (x.length : Int) → el z (el x i) = el x (el y i)) : z = conjI x y := by
  refine ext_el (by rw [cj_len]; exact hz) fun j j0 j1 => ?_
  obtain ⟨i, hi, rfl⟩ := isPerm_surj hx (x := j) ⟨j0, by omega⟩
  rw [h i hi.1 hi.2, cj_el hx hy hl hi]
theorem cj_perm (hx : isPerm x = true) (hy : isPerm y = true) (hl : x.length = y.length) : isPerm (conjI x y) = true := by
  have hb := isPerm_backI hx
  have e : conjI x y = thnI (thnI (backI x) y) x := rfl
  rw [e]
  exact thn_perm (thn_perm hb hy (by simp; exact hl)) hx (by rw [thn_len]; simp)
theorem cj_cj {p : List Int} (hx : isPerm x = true) (hy : isPerm y = true) (hp : isPerm p = true) (h1 : x.length = y.length) (h2 : y.length = p.length) : conjI x (conjI y p) = conjI (thnI y x) p := by
  have hc := cj_perm hy hp h2
  refine cj_uniq (thn_perm hy hx h1.symm) hp (by rw [thn_len]; exact h2) (by rw [cj_len, thn_len]; exact h1) fun i i0 i1 => ?_
  rw [thn_len] at i1
  have g1 := isPerm_el hy ⟨i0, i1⟩
  have g2 := isPerm_el hp (i := i) ⟨i0, by omega⟩
  rw [thn_el ⟨i0, i1⟩, cj_el hx hc (by rw [cj_len]; exact h1) (by omega), cj_el hy hp h2 ⟨i0, i1⟩, thn_el (by omega)]
end
def ClsP (p : List Int) (o : List (List Int)) : Prop := LexS p.length o ∧ ∀ z, z ∈ o ↔ ∃ q ∈ growL (p.length : Int) [], conjI q p = z
noncomputable def clsL (p : List Int) : List (List Int) := the (ClsP p)
theorem grow_iff {n : Int} (hn : 0 ≤ n) {q : List Int} : q ∈ growL n [] ↔ (q.length : Int) = n ∧ isPerm q = true := ⟨growL_perm hn, fun h => growL_all hn h.2 h.1⟩
theorem cls_ex (p : List Int) : ClsP p (clsL p) := by
  obtain ⟨o, h1, h2⟩ := lexS_ex (n := p.length) ((growL (p.length : Int) []).map fun q => conjI q p) fun z hz => by
    obtain ⟨q, hq, rfl⟩ := List.mem_map.1 hz
    have := (grow_iff (by omega)).1 hq
    rw [cj_len]; omega
  exact the_spec (a := o) ⟨h1, fun z => by rw [h2, List.mem_map]⟩
theorem cls_mem {p z : List Int} : z ∈ clsL p ↔ ∃ q, (q.length = p.length ∧ isPerm q = true) ∧ conjI q p = z := by
  rw [(cls_ex p).2]
  constructor
  · rintro ⟨q, hq, e⟩; have := (grow_iff (by omega)).1 hq; exact ⟨q, ⟨by omega, this.2⟩, e⟩
  · rintro ⟨q, hq, e⟩; exact ⟨q, (grow_iff (by omega)).2 ⟨by omega, hq.2⟩, e⟩
noncomputable def ClqE (p : List Int) : Int := if permB p then (if 7 < (p.length : Int) then 3 else if 12 < ((clsL p).length : Int) then 3 else 0) else 1
noncomputable def ClqT (p : List Int) : List (List Int) := if ClqE p = 0 then cjT (clsL p) else []
section
variable {p : List Int} (hp : permB p = true)
include hp
theorem cls_perm {z : List Int} (h : z ∈ clsL p) : permB z = true ∧ z.length = p.length := by
  obtain ⟨q, ⟨h1, h2⟩, rfl⟩ := cls_mem.1 h
  have h3 := cj_perm h2 (permB_isPerm hp) h1
  have h4 := permB_len hp
  have h5 : (conjI q p).length = p.length := by rw [cj_len, h1]
  refine ⟨?_, h5⟩
  unfold permB
  rw [h3, h5]; simp; omega
theorem cls_one : 1 ≤ ((clsL p).length : Int) := by
  have h1 := permB_isPerm hp
  have : conjI p p ∈ clsL p := cls_mem.2 ⟨p, ⟨rfl, h1⟩, rfl⟩
  have := List.length_pos_of_mem this
  omega
theorem cls_good : GoodL (clsL p) := by
  have h1 := cls_one hp
  refine ⟨h1, fun i i0 i1 => ⟨(cls_perm hp (el_mem ⟨i0, i1⟩)).1, ?_, fun j j0 j1 => ?_⟩⟩
  · rw [(cls_perm hp (el_mem ⟨i0, i1⟩)).2, (cls_perm hp (el_mem ⟨by omega, by omega⟩)).2]
  · exact nodup_el.1 (cls_ex p).1.nodup j i j0 j1 i1
theorem cls_closed {u v : List Int} (hu : u ∈ clsL p) (hv : v ∈ clsL p) : conjI u v ∈ clsL p := by
  have h1 := cls_perm hp hu
  obtain ⟨q, ⟨h2, h3⟩, rfl⟩ := cls_mem.1 hv
  rw [cj_cj (permB_isPerm h1.1) h3 (permB_isPerm hp) (by omega) h2]
  exact cls_mem.2 ⟨_, ⟨by rw [thn_len]; exact h2, thn_perm h3 (permB_isPerm h1.1) (by omega)⟩, rfl⟩
theorem cls_tab (h : ((clsL p).length : Int) ≤ 12) : isTab (cjT (clsL p)) = true :=
  isTab_tab ⟨cls_one hp, h⟩ fun _ _ x0 x1 y0 y1 => idxL_mem (cls_closed hp (el_mem ⟨x0, x1⟩) (el_mem ⟨y0, y1⟩))
theorem cls_cjq (h : ((clsL p).length : Int) ≤ 12) : CjqT (clsL p) = cjT (clsL p) ∧ CjqE (clsL p) = 0 := by
  have e : CjqE (clsL p) = 0 := by
    unfold CjqE
    rw [dec_t (cls_good hp), cls_tab hp h, if_pos rfl, if_neg (by omega), if_pos rfl]
  exact ⟨by unfold CjqT; rw [if_pos e], e⟩
end
theorem clq1 {p : List Int} (h : permB p = false) : [] = ClqT p ∧ 1 = ClqE p := by
  have e : ClqE p = 1 := by unfold ClqE; rw [h]; rfl
  exact ⟨by unfold ClqT; rw [e]; rfl, e.symm⟩
theorem clq3 {p : List Int} (h : permB p = true) (h2 : 7 < (p.length : Int) ∨ 12 < ((clsL p).length : Int)) : [] = ClqT p ∧ 3 = ClqE p := by
  have e : ClqE p = 3 := by
    unfold ClqE; rw [h, if_pos rfl]
    split
    · rfl
    · rw [if_pos (by omega)]
  exact ⟨by unfold ClqT; rw [e]; rfl, e.symm⟩
theorem clq0 {p : List Int} (h : permB p = true) (h2 : ¬ 7 < (p.length : Int)) (h3 : ((clsL p).length : Int) ≤ 12) : cjT (clsL p) = ClqT p ∧ 0 = ClqE p := by
  have e : ClqE p = 0 := by unfold ClqE; rw [h, if_pos rfl, if_neg h2, if_neg (by omega)]
  exact ⟨by unfold ClqT; rw [if_pos e], e.symm⟩
theorem cls_more {p : List Int} {o : List (List Int)} (hn : o.Nodup) (h : ∀ z ∈ o, z ∈ clsL p) : o.length ≤ (clsL p).length := nodup_len _ _ hn h

end Go.Proofs.Ytfpkpefokcphpaa
