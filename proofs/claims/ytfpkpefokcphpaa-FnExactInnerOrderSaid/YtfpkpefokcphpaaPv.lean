/- Plain definitions, the twenty-second part: the group that permutations generate; no condition. -/
import Derived.Test.YtfpkpefokcphpaaPu
import Derived.Test.YtfpkpefokcphpaaPi
import Derived.Test.YtfpkpefokcphpaaPn
namespace Go.Proofs.Ytfpkpefokcphpaa
inductive Gn (n : Int) (list : List (List Int)) : List Int → Prop
  | unit : Gn n list (unitI n)
  | step {p g : List Int} : Gn n list p → g ∈ list → Gn n list (thnI p g)
noncomputable def grpL (n : Int) (list : List (List Int)) : List (List Int) := (growL n []).filter fun p => dec (Gn n list p)
noncomputable def grpN (n : Int) (list : List (List Int)) : Int := ((grpL n list).length : Int)
theorem unit_perm {n : Int} (_hn : 0 ≤ n) : isPerm (unitI n) = true := isPerm_iff.2 ⟨nodup_ran n, fun x hx => by
  have := mem_ran.1 hx
  have hl : ((unitI n).length : Int) = n := by simp [unitI]; omega
  omega⟩
theorem unit_len {n : Int} (_hn : 0 ≤ n) : ((unitI n).length : Int) = n := by simp [unitI]; omega
section
variable {n : Int} {list : List (List Int)} (hn : 1 ≤ n ∧ n ≤ 12) (hP : permsN n list)
include hn hP
theorem gn_perm {p : List Int} (h : Gn n list p) : (p.length : Int) = n ∧ isPerm p = true := by
  induction h with
  | unit => exact ⟨unit_len (by omega), unit_perm (by omega)⟩
  | step _ hg ih =>
    have h2 := hP _ hg
    exact ⟨by rw [thn_len]; exact ih.1, thn_perm ih.2 h2.2 (by omega)⟩
theorem mem_grp {p : List Int} : p ∈ grpL n list ↔ Gn n list p := by
  unfold grpL
  rw [List.mem_filter, dec_iff]
  exact ⟨fun h => h.2, fun h => ⟨(grow_iff (by omega)).2 (gn_perm hn hP h), h⟩⟩
end
theorem grp_nodup (n : Int) (list : List (List Int)) : (grpL n list).Nodup := List.Pairwise.filter _ (growL_sort.imp fun h e => by subst e; exact lexL_irrefl h)
structure GrB (n : Int) (list q : List (List Int)) : Prop where
  nd : q.Nodup
  one : unitI n ∈ q
  gn : ∀ p ∈ q, Gn n list p
structure GrC (list q : List (List Int)) (i k : Int) : Prop where
  done : ∀ j, 0 ≤ j → j < i → ∀ g ∈ list, thnI (el q j) g ∈ q
  part : ∀ m, 0 ≤ m → m < k → thnI (el q i) (el list m) ∈ q
theorem grb_one (n : Int) (list : List (List Int)) : GrB n list [unitI n] := ⟨by simp, by simp, fun p hp => by rw [List.mem_singleton.1 hp]; exact .unit⟩
theorem grc_zero (list q : List (List Int)) : GrC list q 0 0 := ⟨fun j _ _ => by omega, fun m _ _ => by omega⟩
section
variable {n : Int} {list q : List (List Int)} {i k : Int}
theorem grc_old (h : GrC list q i k) (ho : thnI (el q i) (el list k) ∈ q) : GrC list q i (k + 1) := ⟨h.done, fun m m0 m1 => by
  by_cases e : m = k
  · subst e; exact ho
  · exact h.part m m0 (by omega)⟩
theorem grc_next (h : GrC list q i (list.length : Int)) : GrC list q (i + 1) 0 := ⟨fun j j0 j1 g hg => by
  by_cases e : j = i
  · subst e; obtain ⟨m, hm, rfl⟩ := mem_el hg; exact h.part m hm.1 hm.2
  · exact h.done j j0 (by omega) g hg, fun m _ _ => by omega⟩
theorem grc_app {x : List Int} (hi : 0 ≤ i ∧ i < (q.length : Int)) (h : GrC list q i k) : GrC list (q ++ [x]) i k := ⟨fun j j0 j1 g hg => by
  rw [el_append_l ⟨j0, by omega⟩]; exact List.mem_append_left _ (h.done j j0 j1 g hg), fun m m0 m1 => by
  rw [el_append_l hi]; exact List.mem_append_left _ (h.part m m0 m1)⟩
theorem grb_app {x : List Int} (h : GrB n list q) (hx : Gn n list x) (hn : x ∉ q) : GrB n list (q ++ [x]) := ⟨List.nodup_append.2 ⟨h.nd, by simp, fun a ha b hb e => by
  rw [List.mem_singleton.1 hb] at e; exact hn (e ▸ ha)⟩, List.mem_append_left _ h.one, fun p hp => by
  rcases List.mem_append.1 hp with hp | hp
  · exact h.gn p hp
  · rw [List.mem_singleton.1 hp]; exact hx⟩
theorem grc_add (hi : 0 ≤ i ∧ i < (q.length : Int)) (h : GrC list q i k) : GrC list (q ++ [thnI (el q i) (el list k)]) i (k + 1) :=
  grc_old (grc_app hi h) (by rw [el_append_l hi]; simp)
theorem gn_next (h : GrB n list q) (hi : 0 ≤ i ∧ i < (q.length : Int)) (hk : 0 ≤ k ∧ k < (list.length : Int)) : Gn n list (thnI (el q i) (el list k)) := .step (h.gn _ (el_mem hi)) (el_mem hk)
theorem grb_len (hn : 1 ≤ n ∧ n ≤ 12) (hP : permsN n list) (h : GrB n list q) : (q.length : Int) ≤ grpN n list := by
  have := nodup_len q (grpL n list) h.nd fun p hp => (mem_grp hn hP).2 (h.gn p hp)
  unfold grpN; omega
theorem grc_end (hn : 1 ≤ n ∧ n ≤ 12) (hP : permsN n list) (h : GrB n list q) (hc : GrC list q (q.length : Int) 0) : (q.length : Int) = grpN n list := by
  have h1 := grb_len hn hP h
  have key : ∀ p, Gn n list p → p ∈ q := fun p hp => by
    induction hp with
    | unit => exact h.one
    | step _ hg ih => obtain ⟨j, hj, rfl⟩ := mem_el ih; exact hc.done j hj.1 hj.2 _ hg
  have := nodup_len (grpL n list) q (grp_nodup n list) fun p hp => key p ((mem_grp hn hP).1 hp)
  unfold grpN at *; omega
end
theorem dgt_inj {x y : Int} (hx : 0 ≤ x ∧ x < 12) (hy : 0 ≤ y ∧ y < 12) (h : dgt x = dgt y) : x = y := by
  unfold dgt at h
  have h2 := congrArg UInt8.toNat h
  simp only [UInt8.toNat_ofNat'] at h2
  split at h2 <;> split at h2 <;> omega
theorem digI_inj : ∀ {a b : List Int}, (∀ x ∈ a, 0 ≤ x ∧ x < 12) → (∀ x ∈ b, 0 ≤ x ∧ x < 12) → digI a = digI b → a = b
  | [], [], _, _, _ => rfl
  | [], _ :: _, _, _, h => by simp [digI] at h
  | _ :: _, [], _, _, h => by simp [digI] at h
  | x :: a, y :: b, ha, hb, h => by
    simp only [digI, List.map_cons, List.cons.injEq] at h
    rw [dgt_inj (ha x List.mem_cons_self) (hb y List.mem_cons_self) h.1, digI_inj (fun z hz => ha z (List.mem_cons_of_mem _ hz)) (fun z hz => hb z (List.mem_cons_of_mem _ hz)) h.2]
theorem perm_dig {n : Int} (hn : 1 ≤ n ∧ n ≤ 12) {p : List Int} (h : (p.length : Int) = n ∧ isPerm p = true) : (small p ∧ digs p) ∧ ∀ x ∈ p, 0 ≤ x ∧ x < 12 := by
  have h2 := (isPerm_iff.1 h.2).2
  refine ⟨⟨by show _ ≤ (1000000000 : Int); omega, fun i i0 i1 => ?_⟩, fun x hx => ?_⟩
  · have := h2 _ (el_mem ⟨i0, i1⟩); omega
  · have := h2 x hx; omega
noncomputable def InoE (r : List (List Int)) : Int := if isRk r then (if 5000 < grpN (r.length : Int) r then 3 else 0) else 1
noncomputable def InoV (r : List (List Int)) : Int := if InoE r = 0 then grpN (r.length : Int) r else 0
theorem ino1 {r : List (List Int)} (h : isRk r = false) : 0 = InoV r ∧ 1 = InoE r := by
  have e : InoE r = 1 := by unfold InoE; rw [h]; rfl
  exact ⟨by unfold InoV; rw [e]; rfl, e.symm⟩
theorem ino3 {r : List (List Int)} (h : isRk r = true) (h2 : 5000 < grpN (r.length : Int) r) : 0 = InoV r ∧ 3 = InoE r := by
  have e : InoE r = 3 := by unfold InoE; rw [h, if_pos rfl, if_pos h2]
  exact ⟨by unfold InoV; rw [e]; rfl, e.symm⟩
theorem ino0 {r : List (List Int)} (h : isRk r = true) (h2 : ¬ 5000 < grpN (r.length : Int) r) : grpN (r.length : Int) r = InoV r ∧ 0 = InoE r := by
  have e : InoE r = 0 := by unfold InoE; rw [h, if_pos rfl, if_neg h2]
  exact ⟨by unfold InoV; rw [if_pos e], e.symm⟩

end Go.Proofs.Ytfpkpefokcphpaa
