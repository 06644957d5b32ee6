/- The statement on laws.FnExactParseCycleSet, whatever the arguments; no condition. -/
import Derived.Test.YtkmoeodoidpjkaaDoorTie
import Derived.Test.YtkmoeodoidpjkaaDoorCards
import Derived.LaidMore
import Derived.Lay
import Derived.SevenTiedAt
import Derived.Stop.Joined
import Derived.Test.YtkmoeodoidpjkaaDoorRows
import Derived.Test.YtkmoeodoidpjkaaDoorKEParseCycleSetb
import Derived.Test.YtkmoeodoidpjkaaDoorOa
import Derived.ProofKit
import Derived.OpenShut
namespace Go.Proofs.YtkmoeodoidpjkaaDoor
open Go.ChangeShapes Go.WideShapes Go.ChangeAt Go.RowKit

theorem fnExactParseCycleSet_own : ownKnob Tryd.prog.godebug = none := by kernel_rfl
theorem fnExactParseCycleSet_laidOut : laidOutB Tryd.prog = true := by kernel_rfl

set_option maxRecDepth 100000 in
theorem fnExactParseCycleSet_lifted (os : Os) (started : os.Started) (H : Type) (enc : TypeId × Value → H) :
    ReturnsInHanded {} Tryd.checked os 4 .any (fun w args => (Rows.fnExactParseCycleSetSpec.pre enc Tryd.prog Tryd.f4 Rows.fnExactParseCycleSetRow.domain false w args ∧ laidMetH Tryd.prog Rows.fnExactParseCycleSetRow.laid w) ∧ sizedMet enc Tryd.prog Tryd.f4 (OpenSpec.ofChange Rows.fnExactParseCycleSetSpec) false w args) (Rows.fnExactParseCycleSetSpec.post enc Tryd.prog Tryd.f4 false true false false) := by
  refine returnsInHanded_of_change_and (C := Tryd.checked) (X := fun w _ => laidMetH Tryd.prog Rows.fnExactParseCycleSetRow.laid w) (fun _ _ _ hh h => h.of_heap hh) fnExactParseCycleSet_own started (by kernel_rfl) Tryd.func4
    (ChangeSpec.witness_shaped (enc := enc) (C := Tryd.checked) (os := os) (X := fun w _ => laidMetH Tryd.prog Rows.fnExactParseCycleSetRow.laid w) false (World.laidAll Tryd.prog os Rows.fnExactParseCycleSetRow.laid) #[.string ⟨#[]⟩] 8 (World.laidAll_os _ _ _)
      (World.shaped_of_ZipB (by kernel_rfl) (by kernel_rfl)) (by kernel_rfl) (by kernel_rfl) (by kernel_rfl)
      (by rw [MakeChecks.laidMetH_plain _ _ _ (by kernel_rfl)]; exact laidMet_laidAll _ (by kernel_rfl) (by kernel_rfl))) ?_
  intro W base args ds gs before hval0 hW hcnd _ _ _
  have hval : ∀ (j : Nat) t v, Tryd.f4.params[j]? = some t → args[j]? = some v → Value.okWide Tryd.prog W .any base t v := hval0
  have hW' := hW
  obtain ⟨p, q, hA0, hV, rfl, hfz, hnd⟩ := hW
  have hA : DataW.TrodAll enc Tryd.prog W 0 (fun _ => true) true Tryd.f4.params.toList args.toList ds p := hA0
  rw [Tryd.params4] at hA hval
  obtain ⟨v0, vs0, d0, ds0, p0, q0, hargs, rfl, rfl, h0, r0⟩ := trodAll_cons hA
  obtain ⟨rfl, rfl, rfl⟩ := trodAll_nil r0
  obtain rfl : args = #[v0] := by cases args; simp_all
  obtain ⟨rfl, rfl⟩ := trodVars_none hV
  have hlt0 : ∀ x ∈ p0, x.block < W.heap.size := fun x hx => hW'.lt x (by simp [hx])
  obtain ⟨a0, u0, c0⟩ := opened_str (show Tryd.prog.underlying 9 = some (.string) by kernel_rfl) (hval 0 9 v0 rfl rfl) h0
  clear hA0 hval0
  refine ((c_laws_FnExactParseCycleSet a0 u0).out W (fun b => b < W.heap.size) [v0] (fun _ h => h) (by simp only [RpL]; exact ⟨_, _, [], [], rfl, rfl, c0, ⟨rfl, rfl⟩⟩)).mono fun e W' ⟨r, x, fr, he, hr, hx, _, _, hsz, hkeep, hos, hta, hou⟩ => ?_
  subst hr; subst he
  obtain ⟨rfl, _⟩ : x = .bool true ∧ fr = [] := by simpa only [Rp] using hx
  have hb : Below W.heap.size W W' := ⟨hos, hta, hou, hsz, hkeep⟩
  exact ⟨_, rfl, _, _, _, [], _, [], hW', trodAll_mk1 (shut_bool (show Tryd.prog.underlying 4 = some .bool by kernel_rfl) _), (trodAll_cons_mk (Below.trod fnExactParseCycleSet_laidOut (by kernel_rfl) (of_decide_eq_true (by kernel_rfl)) h0 hb hlt0) trodAll_mk0), rfl, hb.frame _, fun h => by cases h⟩

theorem fnExactParseCycleSet_holds : Rows.FnExactParseCycleSetSaid :=
  OpenClaim.holds_of_wide 4 Tryd.f4 rfl rfl rfl rfl rfl rfl rfl ⟨rfl, rfl, rfl, rfl, rfl⟩ rfl rfl rfl rfl rfl (by kernel_rfl) Tryd.func4 (by kernel_rfl)
    (of_decide_eq_true (by kernel_rfl)) (by unfold Func.isWrapper; first | (rw [if_pos (by decide +kernel)]; kernel_rfl) | (rw [if_neg (by decide +kernel)]; exact ⟨rfl, rfl⟩))
    (fun os started H enc _ => fnExactParseCycleSet_lifted os started H enc)

theorem fnExactParseCycleSetCard_holds : Rows.FnExactParseCycleSetCardSaid :=
  Claim7.holds_tied_plain_at .later [] [.data, .pinned] true (true, "58470259b9ed6ca1e4ee9a0892e9facae7ffbfbd4e9118bdb06bca01f112c4e2") false fnExactParseCycleSet_holds (fun _ h => by cases h) (by kernel_rfl) (fun _ h => by cases h) fnExactParseCycleSet_row_tie rfl ⟨rfl, rfl⟩ (by kernel_rfl) rfl
    (fun f fn hf hfn => by
      obtain rfl : f = 4 := Option.some.inj ((show Tryd.prog.funcNamed "loop.example/g01119/laws.FnExactParseCycleSet" = some 4 by kernel_rfl).symm.trans hf) |>.symm
      obtain rfl : fn = Tryd.f4 := (Option.some.inj (Tryd.func4.symm.trans hfn)).symm
      exact ⟨by kernel_rfl, fun j t ht => by
        rw [Tryd.params4] at ht
        have hm : t ∈ [9] := by simpa using Array.mem_of_getElem? ht
        have hall : ([9].all fun u => !Tryd.prog.wantsStandIn u) = true := by kernel_rfl
        exact (show Tryd.prog.wantsStandIn t = false by simpa using List.all_eq_true.1 hall t hm)⟩)
    (by kernel_rfl)
#print axioms fnExactParseCycleSetCard_holds
end Go.Proofs.YtkmoeodoidpjkaaDoor
