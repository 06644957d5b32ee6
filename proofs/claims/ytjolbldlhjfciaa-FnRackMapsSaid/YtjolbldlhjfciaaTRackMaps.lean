/- The statement on laws.FnRackMaps, whatever the arguments; no condition. -/
import Derived.Test.YtjolbldlhjfciaaRows
import Derived.Test.YtjolbldlhjfciaaKRackMapsf
import Derived.Test.YtjolbldlhjfciaaOa
import Derived.ProofKit
import Derived.OpenShut
namespace Go.Proofs.Ytjolbldlhjfciaa
open Go.ChangeShapes Go.WideShapes Go.ChangeAt Go.RowKit

theorem fnRackMaps_own : ownKnob Try.prog.godebug = none := by kernel_rfl
theorem fnRackMaps_laidOut : laidOutB Try.prog = true := by kernel_rfl

set_option maxRecDepth 100000 in
theorem fnRackMaps_lifted (os : Os) (started : os.Started) (H : Type) (enc : TypeId × Value → H) :
    ReturnsInHanded {} Try.checked os 3 .any (Rows.fnRackMapsSpec.pre6 enc Try.prog Try.f3 Rows.fnRackMapsRow.domain false) (Rows.fnRackMapsSpec.post enc Try.prog Try.f3 false true false false) := by
  refine returnsInHanded_of_change (C := Try.checked) fnRackMaps_own started (by kernel_rfl) Try.func3
    (ChangeSpec.witness6 (enc := enc) (C := Try.checked) false ⟨#[], #[.slice none 0 0], []⟩ 8 (by kernel_rfl) (by kernel_rfl) (by kernel_rfl) (by kernel_rfl)) ?_
  intro W base args ds gs before hval0 hW hcnd _
  have hval : ∀ (j : Nat) t v, Try.f3.params[j]? = some t → args[j]? = some v → Value.okWide Try.prog W .any base t v := hval0
  have hW' := hW
  obtain ⟨p, q, hA0, hV, rfl, hfz, hnd⟩ := hW
  have hA : DataW.TrodAll enc Try.prog W 0 (fun _ => true) true Try.f3.params.toList args.toList ds p := hA0
  rw [Try.params3] at hA hval
  obtain ⟨v0, vs0, d0, ds0, p0, q0, hargs, rfl, rfl, h0, r0⟩ := trodAll_cons hA
  obtain ⟨rfl, rfl, rfl⟩ := trodAll_nil r0
  obtain rfl : args = #[v0] := by cases args; simp_all
  obtain ⟨rfl, rfl⟩ := trodVars_none hV
  have hlt0 : ∀ x ∈ p0, x.block < W.heap.size := fun x hx => hW'.lt x (by simp [hx])
  obtain ⟨a0, u0, c0⟩ := opened_bytes (show Try.prog.underlying 22 = some (.slice 5) by kernel_rfl) (show Try.prog.underlying 5 = some (.int .u8) by kernel_rfl) (by kernel_rfl) (hval 0 22 v0 rfl rfl) h0
  clear hA0 hval0
  refine ((c_laws_FnRackMaps a0 u0).out W (fun b => b < W.heap.size) [v0] (fun _ h => h) (by simp only [RpL]; exact ⟨_, _, [], [], rfl, rfl, c0, ⟨rfl, rfl⟩⟩)).mono fun e W' ⟨r, x, fr, he, hr, hx, _, _, hsz, hkeep, hos, hta, hou⟩ => ?_
  subst hr; subst he
  obtain ⟨rfl, _⟩ : x = .bool true ∧ fr = [] := by simpa only [Rp] using hx
  have hb : Below W.heap.size W W' := ⟨hos, hta, hou, hsz, hkeep⟩
  exact ⟨_, rfl, _, _, _, [], _, [], hW', trodAll_mk1 (shut_bool (show Try.prog.underlying 4 = some .bool by kernel_rfl) _), (trodAll_cons_mk (Below.trod fnRackMaps_laidOut (by kernel_rfl) (of_decide_eq_true (by kernel_rfl)) h0 hb hlt0) trodAll_mk0), rfl, hb.frame _, fun h => by cases h⟩

theorem fnRackMaps_holds : Rows.FnRackMapsSaid :=
  OpenClaim.holds_of_wide 3 Try.f3 rfl rfl rfl rfl rfl rfl rfl ⟨rfl, rfl, rfl, rfl, rfl⟩ rfl rfl rfl rfl rfl (by kernel_rfl) Try.func3 (by kernel_rfl)
    (of_decide_eq_true (by kernel_rfl)) (by unfold Func.isWrapper; first | (rw [if_pos (by decide +kernel)]; kernel_rfl) | (rw [if_neg (by decide +kernel)]; exact ⟨rfl, rfl⟩))
    (fun os started H enc _ => fnRackMaps_lifted os started H enc)

#print axioms fnRackMaps_holds
end Go.Proofs.Ytjolbldlhjfciaa
