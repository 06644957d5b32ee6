/- The statement on laws.FnExactRackIsomorphism, whatever the arguments; no condition. -/
import Derived.Test.YtkmoeodoidpjkaaRows
import Derived.Test.YtkmoeodoidpjkaaKERackIsomorphisme
import Derived.Test.YtkmoeodoidpjkaaOa
import Derived.ProofKit
import Derived.OpenShut
namespace Go.Proofs.Ytkmoeodoidpjkaa
open Go.ChangeShapes Go.WideShapes Go.ChangeAt Go.RowKit

theorem fnExactRackIsomorphism_own : ownKnob Try.prog.godebug = none := by kernel_rfl
theorem fnExactRackIsomorphism_laidOut : laidOutB Try.prog = true := by kernel_rfl

set_option maxRecDepth 100000 in
theorem fnExactRackIsomorphism_lifted (os : Os) (started : os.Started) (H : Type) (enc : TypeId × Value → H) :
    ReturnsInHanded {} Try.checked os 3 .any (Rows.fnExactRackIsomorphismSpec.pre6 enc Try.prog Try.f3 Rows.fnExactRackIsomorphismRow.domain false) (Rows.fnExactRackIsomorphismSpec.post enc Try.prog Try.f3 false true false false) := by
  refine returnsInHanded_of_change (C := Try.checked) fnExactRackIsomorphism_own started (by kernel_rfl) Try.func3
    (ChangeSpec.witness6 (enc := enc) (C := Try.checked) false ⟨#[], #[.agg #[.slice none 0 0], .agg #[.slice none 0 0]], []⟩ 8 (by kernel_rfl) (by kernel_rfl) (by kernel_rfl) (by kernel_rfl)) ?_
  intro W base args ds gs before hval0 hW hcnd _
  have hval : ∀ (j : Nat) t v, Try.f3.params[j]? = some t → args[j]? = some v → Value.okWide Try.prog W .any base t v := hval0
  have hW' := hW
  obtain ⟨p, q, hA0, hV, rfl, hfz, hnd⟩ := hW
  have hA : DataW.TrodAll enc Try.prog W 0 (fun _ => true) true Try.f3.params.toList args.toList ds p := hA0
  rw [Try.params3] at hA hval
  obtain ⟨v0, vs0, d0, ds0, p0, q0, hargs, rfl, rfl, h0, r0⟩ := trodAll_cons hA
  obtain ⟨v1, vs1, d1, ds1, p1, q1, rfl, rfl, rfl, h1, r1⟩ := trodAll_cons r0
  obtain ⟨rfl, rfl, rfl⟩ := trodAll_nil r1
  obtain rfl : args = #[v0, v1] := by cases args; simp_all
  obtain ⟨rfl, rfl⟩ := trodVars_none hV
  have hlt0 : ∀ x ∈ p0, x.block < W.heap.size := fun x hx => hW'.lt x (by simp [hx])
  obtain ⟨a0, u0, c0⟩ := opened_rack (hs := Try.underlying24) (by kernel_rfl) (by kernel_rfl) rfl (show Try.prog.underlying 22 = some (.slice 26) by kernel_rfl) (show Try.prog.underlying 26 = some (.slice 2) by kernel_rfl) (show Try.prog.underlying 2 = some (.int .i64) by kernel_rfl) (by kernel_rfl) (by kernel_rfl) (hval 0 24 v0 rfl rfl) h0
  have hlt1 : ∀ x ∈ p1, x.block < W.heap.size := fun x hx => hW'.lt x (by simp [hx])
  obtain ⟨a1, u1, c1⟩ := opened_rack (hs := Try.underlying24) (by kernel_rfl) (by kernel_rfl) rfl (show Try.prog.underlying 22 = some (.slice 26) by kernel_rfl) (show Try.prog.underlying 26 = some (.slice 2) by kernel_rfl) (show Try.prog.underlying 2 = some (.int .i64) by kernel_rfl) (by kernel_rfl) (by kernel_rfl) (hval 1 24 v1 rfl rfl) h1
  clear hA0 hval0
  refine ((c_laws_FnExactRackIsomorphism a0 a1 ⟨u0, u1⟩).out W (fun b => b < W.heap.size) [v0, v1] (fun _ h => h) (by simp only [RpL]; exact ⟨_, _, [], [], rfl, rfl, c0, ⟨_, _, [], [], rfl, rfl, c1, ⟨rfl, rfl⟩⟩⟩)).mono fun e W' ⟨r, x, fr, he, hr, hx, _, _, hsz, hkeep, hos, hta, hou⟩ => ?_
  subst hr; subst he
  obtain ⟨rfl, _⟩ : x = .bool true ∧ fr = [] := by simpa only [Rp] using hx
  have hb : Below W.heap.size W W' := ⟨hos, hta, hou, hsz, hkeep⟩
  exact ⟨_, rfl, _, _, _, [], _, [], hW', trodAll_mk1 (shut_bool (show Try.prog.underlying 4 = some .bool by kernel_rfl) _), (trodAll_cons_mk (Below.trod fnExactRackIsomorphism_laidOut (by kernel_rfl) (of_decide_eq_true (by kernel_rfl)) h0 hb hlt0) (trodAll_cons_mk (Below.trod fnExactRackIsomorphism_laidOut (by kernel_rfl) (of_decide_eq_true (by kernel_rfl)) h1 hb hlt1) trodAll_mk0)), rfl, hb.frame _, fun h => by cases h⟩

theorem fnExactRackIsomorphism_holds : Rows.FnExactRackIsomorphismSaid :=
  OpenClaim.holds_of_wide 3 Try.f3 rfl rfl rfl rfl rfl rfl rfl ⟨rfl, rfl, rfl, rfl, rfl⟩ rfl rfl rfl rfl rfl (by kernel_rfl) Try.func3 (by kernel_rfl)
    (of_decide_eq_true (by kernel_rfl)) (by unfold Func.isWrapper; first | (rw [if_pos (by decide +kernel)]; kernel_rfl) | (rw [if_neg (by decide +kernel)]; exact ⟨rfl, rfl⟩))
    (fun os started H enc _ => fnExactRackIsomorphism_lifted os started H enc)

#print axioms fnExactRackIsomorphism_holds
end Go.Proofs.Ytkmoeodoidpjkaa
