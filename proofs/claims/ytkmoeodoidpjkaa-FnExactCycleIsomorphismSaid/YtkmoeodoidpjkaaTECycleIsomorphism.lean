/- The statement on laws.FnExactCycleIsomorphism, whatever the arguments; no condition. -/
import Derived.Test.YtkmoeodoidpjkaaRows
import Derived.Test.YtkmoeodoidpjkaaKECycleIsomorphismf
import Derived.Test.YtkmoeodoidpjkaaOa
import Derived.ProofKit
import Derived.OpenShut
namespace Go.Proofs.Ytkmoeodoidpjkaa
open Go.ChangeShapes Go.WideShapes Go.ChangeAt Go.RowKit

theorem fnExactCycleIsomorphism_own : ownKnob Try.prog.godebug = none := by kernel_rfl
theorem fnExactCycleIsomorphism_laidOut : laidOutB Try.prog = true := by kernel_rfl

set_option maxRecDepth 100000 in
theorem fnExactCycleIsomorphism_lifted (os : Os) (started : os.Started) (H : Type) (enc : TypeId × Value → H) :
    ReturnsInHanded {} Try.checked os 4 .any (Rows.fnExactCycleIsomorphismSpec.pre6 enc Try.prog Try.f4 Rows.fnExactCycleIsomorphismRow.domain false) (Rows.fnExactCycleIsomorphismSpec.post enc Try.prog Try.f4 false true false false) := by
  refine returnsInHanded_of_change (C := Try.checked) fnExactCycleIsomorphism_own started (by kernel_rfl) Try.func4
    (ChangeSpec.witness6 (enc := enc) (C := Try.checked) false ⟨#[], #[.agg #[.slice none 0 0], .agg #[.slice none 0 0]], []⟩ 8 (by kernel_rfl) (by kernel_rfl) (by kernel_rfl) (by kernel_rfl)) ?_
  intro W base args ds gs before hval0 hW hcnd _
  have hval : ∀ (j : Nat) t v, Try.f4.params[j]? = some t → args[j]? = some v → Value.okWide Try.prog W .any base t v := hval0
  have hW' := hW
  obtain ⟨p, q, hA0, hV, rfl, hfz, hnd⟩ := hW
  have hA : DataW.TrodAll enc Try.prog W 0 (fun _ => true) true Try.f4.params.toList args.toList ds p := hA0
  rw [Try.params4] at hA hval
  obtain ⟨v0, vs0, d0, ds0, p0, q0, hargs, rfl, rfl, h0, r0⟩ := trodAll_cons hA
  obtain ⟨v1, vs1, d1, ds1, p1, q1, rfl, rfl, rfl, h1, r1⟩ := trodAll_cons r0
  obtain ⟨rfl, rfl, rfl⟩ := trodAll_nil r1
  obtain rfl : args = #[v0, v1] := by cases args; simp_all
  obtain ⟨rfl, rfl⟩ := trodVars_none hV
  have hlt0 : ∀ x ∈ p0, x.block < W.heap.size := fun x hx => hW'.lt x (by simp [hx])
  obtain ⟨a0, u0, c0⟩ := opened_rack (hs := Try.underlying36) (by kernel_rfl) (by kernel_rfl) rfl (show Try.prog.underlying 22 = some (.slice 26) by kernel_rfl) (show Try.prog.underlying 26 = some (.slice 2) by kernel_rfl) (show Try.prog.underlying 2 = some (.int .i64) by kernel_rfl) (by kernel_rfl) (by kernel_rfl) (hval 0 36 v0 rfl rfl) h0
  have hlt1 : ∀ x ∈ p1, x.block < W.heap.size := fun x hx => hW'.lt x (by simp [hx])
  obtain ⟨a1, u1, c1⟩ := opened_rack (hs := Try.underlying36) (by kernel_rfl) (by kernel_rfl) rfl (show Try.prog.underlying 22 = some (.slice 26) by kernel_rfl) (show Try.prog.underlying 26 = some (.slice 2) by kernel_rfl) (show Try.prog.underlying 2 = some (.int .i64) by kernel_rfl) (by kernel_rfl) (by kernel_rfl) (hval 1 36 v1 rfl rfl) h1
  clear hA0 hval0
  refine ((c_laws_FnExactCycleIsomorphism a0 a1 ⟨u0, u1⟩).out W (fun b => b < W.heap.size) [v0, v1] (fun _ h => h) (by simp only [RpL]; exact ⟨_, _, [], [], rfl, rfl, c0, ⟨_, _, [], [], rfl, rfl, c1, ⟨rfl, rfl⟩⟩⟩)).mono fun e W' ⟨r, x, fr, he, hr, hx, _, _, hsz, hkeep, hos, hta, hou⟩ => ?_
  subst hr; subst he
  obtain ⟨rfl, _⟩ : x = .bool true ∧ fr = [] := by simpa only [Rp] using hx
  have hb : Below W.heap.size W W' := ⟨hos, hta, hou, hsz, hkeep⟩
  exact ⟨_, rfl, _, _, _, [], _, [], hW', trodAll_mk1 (shut_bool (show Try.prog.underlying 4 = some .bool by kernel_rfl) _), (trodAll_cons_mk (Below.trod fnExactCycleIsomorphism_laidOut (by kernel_rfl) (of_decide_eq_true (by kernel_rfl)) h0 hb hlt0) (trodAll_cons_mk (Below.trod fnExactCycleIsomorphism_laidOut (by kernel_rfl) (of_decide_eq_true (by kernel_rfl)) h1 hb hlt1) trodAll_mk0)), rfl, hb.frame _, fun h => by cases h⟩

theorem fnExactCycleIsomorphism_holds : Rows.FnExactCycleIsomorphismSaid :=
  OpenClaim.holds_of_wide 4 Try.f4 rfl rfl rfl rfl rfl rfl rfl ⟨rfl, rfl, rfl, rfl, rfl⟩ rfl rfl rfl rfl rfl (by kernel_rfl) Try.func4 (by kernel_rfl)
    (of_decide_eq_true (by kernel_rfl)) (by unfold Func.isWrapper; first | (rw [if_pos (by decide +kernel)]; kernel_rfl) | (rw [if_neg (by decide +kernel)]; exact ⟨rfl, rfl⟩))
    (fun os started H enc _ => fnExactCycleIsomorphism_lifted os started H enc)

#print axioms fnExactCycleIsomorphism_holds
end Go.Proofs.Ytkmoeodoidpjkaa
