/- The statement on laws.FnExactCongruenceFrom, whatever the arguments; no condition. -/
import Derived.Test.YtllimiejaijbkaaRows
import Derived.Test.YtllimiejaijbkaaKECongruenceFromi
import Derived.Test.YtllimiejaijbkaaOa
import Derived.ProofKit
import Derived.OpenShut
namespace Go.Proofs.Ytllimiejaijbkaa
open Go.ChangeShapes Go.WideShapes Go.ChangeAt Go.RowKit

theorem fnExactCongruenceFrom_own : ownKnob Try.prog.godebug = none := by kernel_rfl
theorem fnExactCongruenceFrom_laidOut : laidOutB Try.prog = true := by kernel_rfl

set_option maxRecDepth 100000 in
theorem fnExactCongruenceFrom_lifted (os : Os) (started : os.Started) (H : Type) (enc : TypeId × Value → H) :
    ReturnsInHanded {} Try.checked os 11 .any (Rows.fnExactCongruenceFromSpec.pre6 enc Try.prog Try.f11 Rows.fnExactCongruenceFromRow.domain false) (Rows.fnExactCongruenceFromSpec.post enc Try.prog Try.f11 false true false false) := by
  refine returnsInHanded_of_change (C := Try.checked) fnExactCongruenceFrom_own started (by kernel_rfl) Try.func11
    (ChangeSpec.witness6 (enc := enc) (C := Try.checked) false ⟨#[], #[.agg #[.slice none 0 0], .int .i64 0, .int .i64 0], []⟩ 8 (by kernel_rfl) (by kernel_rfl) (by kernel_rfl) (by kernel_rfl)) ?_
  intro W base args ds gs before hval0 hW hcnd _
  have hval : ∀ (j : Nat) t v, Try.f11.params[j]? = some t → args[j]? = some v → Value.okWide Try.prog W .any base t v := hval0
  have hW' := hW
  obtain ⟨p, q, hA0, hV, rfl, hfz, hnd⟩ := hW
  have hA : DataW.TrodAll enc Try.prog W 0 (fun _ => true) true Try.f11.params.toList args.toList ds p := hA0
  rw [Try.params11] at hA hval
  obtain ⟨v0, vs0, d0, ds0, p0, q0, hargs, rfl, rfl, h0, r0⟩ := trodAll_cons hA
  obtain ⟨v1, vs1, d1, ds1, p1, q1, rfl, rfl, rfl, h1, r1⟩ := trodAll_cons r0
  obtain ⟨v2, vs2, d2, ds2, p2, q2, rfl, rfl, rfl, h2, r2⟩ := trodAll_cons r1
  obtain ⟨rfl, rfl, rfl⟩ := trodAll_nil r2
  obtain rfl : args = #[v0, v1, v2] := by cases args; simp_all
  obtain ⟨rfl, rfl⟩ := trodVars_none hV
  have hlt0 : ∀ x ∈ p0, x.block < W.heap.size := fun x hx => hW'.lt x (by simp [hx])
  obtain ⟨a0, u0, c0⟩ := opened_rack (hs := Try.underlying33) (by kernel_rfl) (by kernel_rfl) rfl (show Try.prog.underlying 22 = some (.slice 54) by kernel_rfl) (show Try.prog.underlying 54 = some (.slice 2) by kernel_rfl) (show Try.prog.underlying 2 = some (.int .i64) by kernel_rfl) (by kernel_rfl) (by kernel_rfl) (hval 0 33 v0 rfl rfl) h0
  have hlt1 : ∀ x ∈ p1, x.block < W.heap.size := fun x hx => hW'.lt x (by simp [hx])
  obtain ⟨a1, u1, c1⟩ := opened_int (show Try.prog.underlying 2 = some (.int .i64) by kernel_rfl) (hval 1 2 v1 rfl rfl) h1
  have hlt2 : ∀ x ∈ p2, x.block < W.heap.size := fun x hx => hW'.lt x (by simp [hx])
  obtain ⟨a2, u2, c2⟩ := opened_int (show Try.prog.underlying 2 = some (.int .i64) by kernel_rfl) (hval 2 2 v2 rfl rfl) h2
  clear hA0 hval0
  refine ((c_laws_FnExactCongruenceFrom a0 a1 a2 ⟨u0, u1, u2⟩).out W (fun b => b < W.heap.size) [v0, v1, v2] (fun _ h => h) (by simp only [RpL]; exact ⟨_, _, [], [], rfl, rfl, c0, ⟨_, _, [], [], rfl, rfl, c1, ⟨_, _, [], [], rfl, rfl, c2, ⟨rfl, rfl⟩⟩⟩⟩)).mono fun e W' ⟨r, x, fr, he, hr, hx, _, _, hsz, hkeep, hos, hta, hou⟩ => ?_
  subst hr; subst he
  obtain ⟨rfl, _⟩ : x = .bool true ∧ fr = [] := by simpa only [Rp] using hx
  have hb : Below W.heap.size W W' := ⟨hos, hta, hou, hsz, hkeep⟩
  exact ⟨_, rfl, _, _, _, [], _, [], hW', trodAll_mk1 (shut_bool (show Try.prog.underlying 4 = some .bool by kernel_rfl) _), (trodAll_cons_mk (Below.trod fnExactCongruenceFrom_laidOut (by kernel_rfl) (of_decide_eq_true (by kernel_rfl)) h0 hb hlt0) (trodAll_cons_mk (Below.trod fnExactCongruenceFrom_laidOut (by kernel_rfl) (of_decide_eq_true (by kernel_rfl)) h1 hb hlt1) (trodAll_cons_mk (Below.trod fnExactCongruenceFrom_laidOut (by kernel_rfl) (of_decide_eq_true (by kernel_rfl)) h2 hb hlt2) trodAll_mk0))), rfl, hb.frame _, fun h => by cases h⟩

theorem fnExactCongruenceFrom_holds : Rows.FnExactCongruenceFromSaid :=
  OpenClaim.holds_of_wide 11 Try.f11 rfl rfl rfl rfl rfl rfl rfl ⟨rfl, rfl, rfl, rfl, rfl⟩ rfl rfl rfl rfl rfl (by kernel_rfl) Try.func11 (by kernel_rfl)
    (of_decide_eq_true (by kernel_rfl)) (by unfold Func.isWrapper; first | (rw [if_pos (by decide +kernel)]; kernel_rfl) | (rw [if_neg (by decide +kernel)]; exact ⟨rfl, rfl⟩))
    (fun os started H enc _ => fnExactCongruenceFrom_lifted os started H enc)
#print axioms fnExactCongruenceFrom_holds
end Go.Proofs.Ytllimiejaijbkaa
