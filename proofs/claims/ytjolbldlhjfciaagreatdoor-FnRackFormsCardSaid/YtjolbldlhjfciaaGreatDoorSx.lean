/- strings.Index and strings.Count at one byte, stringslite.IndexByte, in the value layer's words; condition: the text that is looked for is one byte. -/
import Derived.Test.YtjolbldlhjfciaaGreatDoorSh
import Derived.Test.YtjolbldlhjfciaaGreatDoorTy
import Derived.Test.YtjolbldlhjfciaaGreatDoorPP
namespace Go.Proofs.YtjolbldlhjfciaaGreatDoor
theorem idx_lib (c:UInt8) (v:Int) (hv:(c.toNat:Int) = v) : ∀ s:List UInt8,Lib.indexByte s c = idxF s (fun b=>decide ((b.toNat:Int) = v))
  | []=>by simp [Lib.indexByte,idxF]
  | b :: s=>by
    have e:(b == c) = decide ((b.toNat:Int) = v):=by
      rw [Bool.eq_iff_iff,beq_iff_eq,decide_eq_true_iff,<- UInt8.toNat_inj]; omega
    have ih:=idx_lib c v hv s
    unfold Lib.indexByte
    rw [idxF_cons,e,ih]
    simp only [beq_iff_eq]
theorem cnt_lib (c:UInt8) (v:Int) (hv:(c.toNat:Int) = v) (s:List UInt8):Lib.countByte s c = (s.filter fun b=>decide ((b.toNat:Int) = v)).length:=by
  unfold Lib.countByte List.count
  rw [List.countP_eq_length_filter]
  congr 2
  funext b
  rw [Bool.eq_iff_iff,beq_iff_eq,decide_eq_true_iff,<- UInt8.toNat_inj]; omega
theorem one_byte {sep:List UInt8} (h:sep.length = 1) : ∃ c:UInt8,sep = [c]/\(c.toNat:Int) = byt sep 0:=by
  match sep,h with
  | [c],_=>exact⟨c,rfl,rfl⟩
theorem c_strings_Index (s sep:List UInt8) (hp:sep.length = 1):AF Tryz.prog 104 [cs s,cs sep] (fun R_=>R_ = ci (idxF s (fun b_=>decide ((b_.toNat:Int) = byt sep 0)))):=by
  refine⟨by kernel_rfl,fun w I vals hI hv=>?_⟩
  simp only [RpL,Rp,cs] at hv
  obtain⟨x,r1,f1,f2,rfl,e0,⟨rfl,rfl⟩,y,r2,f3,f4,rfl,e1,⟨rfl,rfl⟩,rfl,e2⟩:=hv
  obtain⟨c,rfl,hc⟩:=one_byte hp
  refine (Tryz.strings_Index_one ⟨s.toArray⟩ c w).mono ?_
  rintro e w' ⟨rfl,rfl⟩
  exact⟨_,_,[],rfl,rfl,by simp only [ci,Rp]; exact⟨by rw [idx_lib c _ hc],trivial⟩,by simp,by simp,Nat.le_refl _,fun _ _=>rfl,rfl,rfl,rfl⟩
theorem c_strings_Count (s sep:List UInt8) (hp:sep.length = 1):AF Tryz.prog 103 [cs s,cs sep] (fun R_=>R_ = ci ((s.filter (fun b_=>decide ((b_.toNat:Int) = byt sep 0))).length:Int)):=by
  refine⟨by kernel_rfl,fun w I vals hI hv=>?_⟩
  simp only [RpL,Rp,cs] at hv
  obtain⟨x,r1,f1,f2,rfl,e0,⟨rfl,rfl⟩,y,r2,f3,f4,rfl,e1,⟨rfl,rfl⟩,rfl,e2⟩:=hv
  obtain⟨c,rfl,hc⟩:=one_byte hp
  refine (Tryz.strings_Count_one ⟨s.toArray⟩ c w).mono ?_
  rintro e w' ⟨rfl,rfl⟩
  exact⟨_,_,[],rfl,rfl,by simp only [ci,Rp]; exact⟨by rw [cnt_lib c _ hc],trivial⟩,by simp,by simp,Nat.le_refl _,fun _ _=>rfl,rfl,rfl,rfl⟩
theorem c_internal_stringslite_IndexByte (s:List UInt8) (c:Int) (hp:0<=c/\c<=255):AF Tryz.prog 105 [cs s,cy c] (fun R_=>R_ = ci (idxF s (fun b_=>decide ((b_.toNat:Int) = c)))):=by
  refine⟨by kernel_rfl,fun w I vals hI hv=>?_⟩
  simp only [RpL,Rp,cs,cy] at hv
  obtain⟨x,r1,f1,f2,rfl,e0,⟨rfl,rfl⟩,y,r2,f3,f4,rfl,e1,⟨rfl,rfl⟩,rfl,e2⟩:=hv
  refine (Tryz.stringslite_IndexByte ⟨s.toArray⟩ c w).mono ?_
  rintro e w' ⟨rfl,rfl⟩
  exact⟨_,_,[],rfl,rfl,by simp only [ci,Rp]; exact⟨by rw [idx_lib c.toNat.toUInt8 c (by simp; omega)],trivial⟩,by simp,by simp,Nat.le_refl _,fun _ _=>rfl,rfl,rfl,rfl⟩
end Go.Proofs.YtjolbldlhjfciaaGreatDoor
