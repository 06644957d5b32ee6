/- strings.Join in the value layer's words; condition: the text has at most 2^47 bytes. -/
import Derived.Test.YtjolbldlhjfciaaGreatDoorSh
import Derived.Test.YtjolbldlhjfciaaGreatDoorTy
import Derived.Test.YtjolbldlhjfciaaGreatDoorPP
namespace Go.Proofs.YtjolbldlhjfciaaGreatDoor
theorem c_strings_Join (elems:List (List UInt8)) (sep:List UInt8) (hp:JoinPre elems sep):AF Tryz.prog 54 [.lst (strs elems),cs sep] (fun R_=>R_ = cs (joinI elems sep)):=by
  refine⟨by kernel_rfl,fun w I vals hI hv=>?_⟩
  simp only [RpL,Rp,cs] at hv
  obtain⟨x,r1,f1,f2,rfl,e0,⟨rfl,ba,cap,vs,rfl,hcap,hL,hR⟩,y,r2,f3,f4,rfl,e1,⟨rfl,rfl⟩,rfl,e2⟩:=hv
  obtain⟨rfl,_⟩:=rpL_strs hL
  have hlen:(strs elems).length = elems.length:=by simp [strs]
  rw [hlen] at hcap ⊢
  have hmap:(elems.map fun s:List UInt8=>(⟨s.toArray⟩ : ByteArray)).map (·.data.toList) = elems:=by
    rw [List.map_map]
    exact (List.map_congr_left fun s _=>rfl).trans (List.map_id elems)
  by_cases he:elems = []
  · subst he
    refine (Tryz.strings_Join_none ba cap ⟨sep.toArray⟩ w).mono ?_
    rintro e w' ⟨rfl,rfl⟩
    exact⟨_,_,[],rfl,rfl,by simp [cs,Rp,joinI,Lib.join_nil],by simp,by simp,Nat.le_refl _,fun _ _=>rfl,rfl,rfl,rfl⟩
  · have h0:0 < elems.length:=List.length_pos_iff.2 he
    obtain⟨b,off,hb,hIb,_⟩:=hR 0 (.string ⟨elems[0].toArray⟩) (by simp [h0])
    subst hb
    have hj:((elems.map fun s:List UInt8=>(⟨s.toArray⟩ : ByteArray)).length) = elems.length:=by simp
    have hc:=Tryz.strings_Join b off cap (elems.map fun s:List UInt8=>(⟨s.toArray⟩ : ByteArray)) ⟨sep.toArray⟩ w (fun j x hx=>by
        rw [List.getElem?_map] at hx
        obtain⟨s,hs,rfl⟩:=Option.map_eq_some_iff.1 hx
        obtain⟨b',off',g1,_,g3,_⟩:=hR j (.string ⟨s.toArray⟩) (by rw [List.getElem?_map,hs]; rfl)
        simp only [Option.some.injEq,Addr.mk.injEq,and_true] at g1
        obtain⟨rfl,rfl⟩:=g1
        exact g3) (hI b hIb) (by have:=hp.2; rw [hj]; omega) (by rw [hj]; exact hcap) (by rw [hmap]; exact hp.1)
    rw [hj,hmap] at hc
    refine hc.mono ?_
    rintro e w' ⟨rfl,hB⟩
    exact⟨_,_,[],rfl,rfl,by simp [cs,Rp,joinI],by simp,by simp,hB.size,hB.block,hB.os,hB.tape,hB.output⟩
end Go.Proofs.YtjolbldlhjfciaaGreatDoor
