/- The statement on laws.FnRackForms, whatever the arguments; no condition. -/
import Derived.Test.YtjolbldlhjfciaaGreatDoorTie
import Derived.Test.YtjolbldlhjfciaaGreatDoorCards
import Derived.LaidMore
import Derived.Lay
import Derived.SevenTiedAt
import Derived.Stop.Joined
import Derived.Test.YtjolbldlhjfciaaGreatDoorRows
import Derived.Test.YtjolbldlhjfciaaGreatDoorKRackFormsi
import Derived.Test.YtjolbldlhjfciaaGreatDoorOa
import Derived.ProofKit
import Derived.OpenShut
namespace Go.Proofs.YtjolbldlhjfciaaGreatDoor
open Go.ChangeShapes Go.WideShapes Go.ChangeAt Go.RowKit
theorem fnRackForms_own:ownKnob Tryz.prog.godebug = none:=by kernel_rfl
theorem fnRackForms_laidOut:laidOutB Tryz.prog = true:=by kernel_rfl
set_option maxRecDepth 100000 in
theorem fnRackForms_lifted (os:Os) (started:os.Started) (H:Type) (enc:TypeId × Value->H) :
    ReturnsInHanded {} Tryz.checked os 3 .any (fun w args=>(Rows.fnRackFormsSpec.pre enc Tryz.prog Tryz.f3 Rows.fnRackFormsRow.domain false w args/\laidMetH Tryz.prog Rows.fnRackFormsRow.laid w)/\sizedMet enc Tryz.prog Tryz.f3 (OpenSpec.ofChange Rows.fnRackFormsSpec) false w args) (Rows.fnRackFormsSpec.post enc Tryz.prog Tryz.f3 false true false false):=by
  refine returnsInHanded_of_change_and (C:=Tryz.checked) (X:=fun w _=>laidMetH Tryz.prog Rows.fnRackFormsRow.laid w) (fun _ _ _ hh h=>h.of_heap hh) fnRackForms_own started (by kernel_rfl) Tryz.func3
    (ChangeSpec.witness_shaped (enc:=enc) (C:=Tryz.checked) (os:=os) (X:=fun w _=>laidMetH Tryz.prog Rows.fnRackFormsRow.laid w) false (World.laidAll Tryz.prog os Rows.fnRackFormsRow.laid) #[.slice none 0 0] 8 (World.laidAll_os _ _ _)
      (World.shaped_of_ZipB (by kernel_rfl) (by kernel_rfl)) (by kernel_rfl) (by kernel_rfl) (by kernel_rfl)
      (by rw [MakeChecks.laidMetH_plain _ _ _ (by kernel_rfl)]; exact laidMet_laidAll _ (by kernel_rfl) (by kernel_rfl))) ?_
  intro W base args ds gs before hval0 hW hcnd _ _ _
  have hval : ∀ (j:Nat) t v,Tryz.f3.params[j]? = some t->args[j]? = some v->Value.okWide Tryz.prog W .any base t v:=hval0
  have hW':=hW
  obtain⟨p,q,hA0,hV,rfl,hfz,hnd⟩:=hW
  have hA:DataW.TrodAll enc Tryz.prog W 0 (fun _=>true) true Tryz.f3.params.toList args.toList ds p:=hA0
  rw [Tryz.params3] at hA hval
  obtain⟨v0,vs0,d0,ds0,p0,q0,hargs,rfl,rfl,h0,r0⟩:=trodAll_cons hA
  obtain⟨rfl,rfl,rfl⟩:=trodAll_nil r0
  obtain rfl:args = #[v0]:=by cases args; simp_all
  obtain⟨rfl,rfl⟩:=trodVars_none hV
  have hlt0 : ∀ x ∈ p0,x.block < W.heap.size:=fun x hx=>hW'.lt x (by simp [hx])
  obtain⟨a0,u0,c0⟩:=opened_bytes (show Tryz.prog.underlying 22 = some (.slice 5) by kernel_rfl) (show Tryz.prog.underlying 5 = some (.int .u8) by kernel_rfl) (by kernel_rfl) (hval 0 22 v0 rfl rfl) h0
  clear hA0 hval0
  refine ((c_laws_FnRackForms a0 u0).out W (fun b=>b < W.heap.size) [v0] (fun _ h=>h) (by simp only [RpL]; exact⟨_,_,[],[],rfl,rfl,c0,⟨rfl,rfl⟩⟩)).mono fun e W' ⟨r,x,fr,he,hr,hx,_,_,hsz,hkeep,hos,hta,hou⟩=>?_
  subst hr; subst he
  obtain⟨rfl,_⟩ : x = .bool true/\fr = []:=by simpa only [Rp] using hx
  have hb:Below W.heap.size W W':=⟨hos,hta,hou,hsz,hkeep⟩
  exact⟨_,rfl,_,_,_,[],_,[],hW',trodAll_mk1 (shut_bool (show Tryz.prog.underlying 4 = some .bool by kernel_rfl) _),(trodAll_cons_mk (Below.trod fnRackForms_laidOut (by kernel_rfl) (of_decide_eq_true (by kernel_rfl)) h0 hb hlt0) trodAll_mk0),rfl,hb.frame _,fun h=>by cases h⟩
theorem fnRackForms_holds:Rows.FnRackFormsSaid:=
  OpenClaim.holds_of_wide 3 Tryz.f3 rfl rfl rfl rfl rfl rfl rfl ⟨rfl,rfl,rfl,rfl,rfl⟩ rfl rfl rfl rfl rfl (by kernel_rfl) Tryz.func3 (by kernel_rfl)
    (of_decide_eq_true (by kernel_rfl)) (by unfold Func.isWrapper; first | (rw [if_pos (by decide +kernel)]; kernel_rfl) | (rw [if_neg (by decide +kernel)]; exact⟨rfl,rfl⟩))
    (fun os started H enc _=>fnRackForms_lifted os started H enc)
theorem fnRackFormsCard_holds:Rows.FnRackFormsCardSaid:=
  Claim7.holds_tied_plain_at .later [] [.data, .pinned] true (true, "4e40ab8dce0697ea10846b62df5150d9e5db40a8a0b95a0aedecc566b6c53b66") false fnRackForms_holds (fun _ h => by cases h) (by kernel_rfl) (fun _ h => by cases h) fnRackForms_row_tie rfl ⟨rfl, rfl⟩ (by kernel_rfl) rfl
    (fun f fn hf hfn=>by
      obtain rfl : f = 3 := Option.some.inj ((show Tryz.prog.funcNamed "loop.example/g01119/laws.FnRackForms" = some 3 by kernel_rfl).symm.trans hf) |>.symm
      obtain rfl:fn = Tryz.f3:=(Option.some.inj (Tryz.func3.symm.trans hfn)).symm
      exact⟨by kernel_rfl,fun j t ht=>by
        rw [Tryz.params3] at ht
        have hm:t ∈ [22]:=by simpa using Array.mem_of_getElem? ht
        have hall:([22].all fun u=>!Tryz.prog.wantsStandIn u) = true:=by kernel_rfl
        exact (show Tryz.prog.wantsStandIn t = false by simpa using List.all_eq_true.1 hall t hm)⟩)
    (by kernel_rfl)
#print axioms fnRackFormsCard_holds
end Go.Proofs.YtjolbldlhjfciaaGreatDoor
