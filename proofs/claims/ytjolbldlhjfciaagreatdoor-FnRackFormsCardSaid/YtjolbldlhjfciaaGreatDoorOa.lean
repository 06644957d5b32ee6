/- How arguments are read: numbers, lists, tables, structs of tables, texts; no condition. -/
import Derived.Test.YtjolbldlhjfciaaGreatDoorWd
import Derived.ProofKit
import Derived.OpenShut
import Derived.ChangeMaps5
import Derived.Deep.Matrix
import Derived.Lib.SmallJoins

namespace Go.Proofs.YtjolbldlhjfciaaGreatDoor
open Go.ChangeShapes Go.WideShapes Go.Joins Go.Deep Go.ChangeMaps
theorem row_of_cells {w:World} {a:Addr} {n:Nat} {f:Nat->Value} (h : ∀ i,i < n->w.cell? (a.add i) = some (f i)) (ho : ∀ i,i < n->(f i).oneCell' = true) :
    RowAt w (fun b=>b < w.heap.size) (some a) ((List.range n).map f):=fun i v hv=>by
  rw [List.getElem?_map] at hv
  obtain⟨j,hj,rfl⟩:=Option.map_eq_some_iff.1 hv
  obtain⟨hj1,hj2⟩:=List.getElem?_eq_some_iff.1 hj
  rw [List.getElem_range] at hj2
  subst hj2
  have hi:i < n:=by simpa using hj1
  have hc:=h i hi
  obtain⟨b,off,sp⟩:=a
  cases sp with
  | some k=>
    exfalso
    have h0:=h 0 (by omega)
    simp only [Addr.add,World.cell?,if_true] at h0
    split at h0 <;> simp_all
  | none=>
    rw [Addr.add_lit] at hc
    refine⟨b,off,rfl,?_,hc,ho i hi⟩
    unfold World.cell? at hc
    split at hc
    · rename_i hb
      exact (Array.getElem?_eq_some_iff.1 hb).1
    · cases hc
theorem RpL.ofFn {w:World} {I:Nat->Prop} {f:Nat->C} {g:Nat->Value} : ∀ (n:Nat),(∀ i,i < n->Rp w I (f i) (g i) [])->RpL w I ((List.range n).map f) ((List.range n).map g) []
  | 0,_=>by simp [RpL]
  | n + 1,h=>by
    rw [List.range_succ,List.map_append,List.map_append]
    have h2:=RpL.ofFn n fun i hi=>h i (by omega)
    have h3:RpL w I [f n] [g n] []:=by simp only [RpL]; exact⟨_,[],[],[],rfl,rfl,h n (by omega),rfl,rfl⟩
    exact h2.append h3
section
variable {H:Type} {enc:TypeId × Value->H} {P:Program} {w:World} {base:Nat} {held:Bool} {r:Reach} {b0:Nat} {v:Value} {d:DataW H} {p:List MemPlace}
theorem lst_ints {a:Addr} {len cap:Nat} {zs:List Int} (hl:len<=cap) (hz:len<=zs.length) (hc : ∀ i,i < len->w.cell? (a.add i) = some (.int .i64 (zs.getD i 0))) :
    Rp w (fun b=>b < w.heap.size) (.lst (ints (zs.take len))) (.slice (some a) len cap) []:=by
  simp only [Rp]
  have hlen:(ints (zs.take len)).length = len:=by simp; omega
  have he:ints (zs.take len) = (List.range len).map fun i=>C.val (.int .i64 (zs.getD i 0)):=by
    apply List.ext_getElem (by simp; omega)
    intro i h1 h2
    have hi:i < len:=by simpa using h2
    have hi2:i < zs.length:=by omega
    simp [ints,List.getD_eq_getElem?_getD,List.getElem?_eq_getElem hi2]
  refine⟨trivial,some a,cap,(List.range len).map fun i=>.int .i64 (zs.getD i 0),by rw [hlen],by rw [hlen]; exact hl,?_,row_of_cells hc fun _ _=>rfl⟩
  rw [he]
  exact RpL.ofFn len fun i _=>by simp [Rp]
theorem open_ints1 {t e fuel:Nat} {y:DataW H × List MemPlace} (ht:P.underlying t = some (.slice e)) (he:P.underlying e = some (.int .i64)) (hc:P.cellsOf e = 1) (h:DataW.trod enc P w base (fun _=>true) held fuel t [v] = some y) :
    ∃ a:List Int,a.length<=9223372036854775807/\Rp w (fun b=>b < w.heap.size) (.lst (ints a)) v []:=by
  rcases open_ints ht he hc h with ⟨hcs,_⟩ | ⟨a,len,cap,zs,hcs,_,hl,hm,hz,_,hcell,_⟩
  · obtain rfl:=(List.cons.inj hcs).1
    exact⟨[],by simp,by simp only [Rp]; exact⟨trivial,none,0,[],rfl,by simp [ints],by simp [ints,RpL],by intro i v hv; simp at hv⟩⟩
  · obtain rfl:=(List.cons.inj hcs).1
    simp only [if_true] at hz
    exact⟨zs.take len,by simp only [maxLen] at hm; simp; omega,lst_ints hl (by omega) fun i hi=>hcell i (by omega)⟩
theorem open_rows1 {t e q fuel:Nat} {y:DataW H × List MemPlace} (ht:P.underlying t = some (.slice e)) (he:P.underlying e = some (.slice q)) (hq:P.underlying q = some (.int .i64)) (ce:P.cellsOf e = 1) (cq:P.cellsOf q = 1) (h:DataW.trod enc P w base (fun _=>true) held fuel t [v] = some y) :
    ∃ a:List (List Int),(a.length<=9223372036854775807/\∀ r ∈ a,r.length<=9223372036854775807)/\Rp w (fun b=>b < w.heap.size) (.lst (rows a)) v []:=by
  rcases open_int_rows ht he hq ce cq h with ⟨hcs,_⟩ | ⟨a,len,cap,A,L,C,Z,hcs,_,hl,hm,_,hrow⟩
  · obtain rfl:=(List.cons.inj hcs).1
    exact⟨[],by simp,by simp only [Rp]; exact⟨trivial,none,0,[],rfl,by simp [rows],by simp [rows,RpL],by intro i v hv; simp at hv⟩⟩
  · obtain rfl:=(List.cons.inj hcs).1
    simp only [maxLen] at hm
    refine⟨(List.range len).map fun r=>(Z r).take (L r),⟨by simp; omega,fun x hx=>?_⟩,?_⟩
    · obtain⟨r,hr,rfl⟩:=List.mem_map.1 hx
      obtain⟨_,h1,h2,h3,_⟩:=hrow r (by have:=List.mem_range.1 hr; omega)
      simp only [maxLen] at h2
      simp; omega
    · simp only [Rp]
      have hlen:(rows ((List.range len).map fun r=>(Z r).take (L r))).length = len:=by simp
      refine⟨trivial,some a,cap,(List.range len).map fun r=>.slice (A r) (L r) (C r),by rw [hlen],by rw [hlen]; exact hl,?_,row_of_cells (fun i hi=>(hrow i (by omega)).1) fun _ _=>rfl⟩
      simp only [rows,List.map_map]
      refine RpL.ofFn len fun i hi=>?_
      obtain⟨_,h1,h2,h3,_,h5,h6⟩:=hrow i (by omega)
      simp only [Function.comp]
      cases hA:A i with
      | none=>
        have hC:=h5 hA
        have hL:L i = 0:=by omega
        rw [hL,hC]
        simp only [Rp]
        exact⟨trivial,none,0,[],rfl,by simp [ints],by simp [ints,RpL],by intro i v hv; simp at hv⟩
      | some a'=>exact lst_ints h1 (by omega) fun c hc=>(h6 a' hA).2 c (by omega)
theorem opened_ints {t e:Nat} (ht:P.underlying t = some (.slice e)) (he:P.underlying e = some (.int .i64)) (hc:P.cellsOf e = 1) (hv:Value.okWide P w r b0 t v) (h:DataW.Trod enc P w base (fun _=>true) held t v d p) :
    ∃ a:List Int,a.length<=9223372036854775807/\Rp w (fun b=>b < w.heap.size) (.lst (ints a)) v []:=by
  obtain⟨a0,len,cap,rfl⟩:=okWide_slice ht hv
  obtain⟨fuel,hf⟩:=h
  exact open_ints1 ht he hc (by simpa [Value.cells] using hf)
theorem opened_rows {t e q:Nat} (ht:P.underlying t = some (.slice e)) (he:P.underlying e = some (.slice q)) (hq:P.underlying q = some (.int .i64)) (ce:P.cellsOf e = 1) (cq:P.cellsOf q = 1) (hv:Value.okWide P w r b0 t v) (h:DataW.Trod enc P w base (fun _=>true) held t v d p) :
    ∃ a:List (List Int),(a.length<=9223372036854775807/\∀ r ∈ a,r.length<=9223372036854775807)/\Rp w (fun b=>b < w.heap.size) (.lst (rows a)) v []:=by
  obtain⟨a0,len,cap,rfl⟩:=okWide_slice ht hv
  obtain⟨fuel,hf⟩:=h
  exact open_rows1 ht he hq ce cq (by simpa [Value.cells] using hf)
theorem array1 {α:Type} {cs:Array α} (h:cs.size = 1) : ∃ c0,cs = #[c0]:=by
  obtain⟨l⟩:=cs
  match l,h with
  | [c0],_=>exact⟨c0,rfl⟩
theorem opened_rack {t e q s:Nat} {f0:Field} (hs:P.underlying t = some (.struct #[f0])) (hone:oneCellFields P #[f0] = true) (hC:P.cellsOf t = 1) (hty:f0.type = s) (ht:P.underlying s = some (.slice e)) (he:P.underlying e = some (.slice q)) (hq:P.underlying q = some (.int .i64)) (ce:P.cellsOf e = 1) (cq:P.cellsOf q = 1)
    (hv:Value.okWide P w r b0 t v) (h:DataW.Trod enc P w base (fun _=>true) held t v d p) :
    ∃ a:List (List Int),(a.length<=9223372036854775807/\∀ r ∈ a,r.length<=9223372036854775807)/\Rp w (fun b=>b < w.heap.size) (.agg [.lst (rows a)]) v []:=by
  obtain⟨cs,rfl,hsz⟩:=okWide_struct hs hv
  obtain⟨c0,rfl⟩:=array1 (hsz.trans hC)
  obtain⟨fuel,hf⟩:=h
  obtain⟨xs,n,_,_,hl,hlen,hfl⟩:=DataW.trod_struct hs hf
  obtain⟨o0,k0⟩:=hone_of hone 0 f0 rfl
  have h0:=hfl 0 f0 rfl
  match xs,hlen with
  | [y0],_=>
    have h1:DataW.trod enc P w base (fun _=>true) held n f0.type [c0] = some y0:=by simpa [Value.cells,o0,k0] using h0
    rw [hty] at h1
    obtain⟨a,ha,hr⟩:=open_rows1 ht he hq ce cq h1
    exact⟨a,ha,by simp only [Rp]; exact⟨[c0],rfl,by simp only [RpL]; exact⟨c0,[],[],[],rfl,rfl,hr,rfl,rfl⟩⟩⟩
theorem opened_sol {t e q s:Nat} {f0 f1:Field} (hs:P.underlying t = some (.struct #[f0,f1])) (hone:oneCellFields P #[f0,f1] = true) (hC:P.cellsOf t = 2) (hty:f0.type = s) (hty' : f1.type = s) (ht:P.underlying s = some (.slice e)) (he:P.underlying e = some (.slice q)) (hq:P.underlying q = some (.int .i64)) (ce:P.cellsOf e = 1) (cq:P.cellsOf q = 1)
    (hv:Value.okWide P w r b0 t v) (h:DataW.Trod enc P w base (fun _=>true) held t v d p) :
    ∃ a b:List (List Int),((a.length<=9223372036854775807/\∀ r ∈ a,r.length<=9223372036854775807)/\(b.length<=9223372036854775807/\∀ r ∈ b,r.length<=9223372036854775807))/\Rp w (fun b=>b < w.heap.size) (.agg [.lst (rows a),.lst (rows b)]) v []:=by
  obtain⟨v0,v1,y0,y1,n,rfl,_,_,h0,h1⟩:=open_agg2 hs hone hC hv h
  rw [hty] at h0
  rw [hty'] at h1
  obtain⟨a,ha,hr⟩:=open_rows1 ht he hq ce cq h0
  obtain⟨b,hb,hr2⟩:=open_rows1 ht he hq ce cq h1
  exact⟨a,b,⟨ha,hb⟩,by simp only [Rp]; exact⟨[v0,v1],rfl,by simp only [RpL]; exact⟨v0,[v1],[],[],rfl,rfl,hr,v1,[],[],[],rfl,rfl,hr2,rfl,rfl⟩⟩⟩
theorem lst_bys {a:Addr} {len cap:Nat} {zs:List Int} (hl:len<=cap) (hz:len<=zs.length) (hc : ∀ i,i < len->w.cell? (a.add i) = some (.int .u8 (zs.getD i 0))) :
    Rp w (fun b=>b < w.heap.size) (.lst (bys (zs.take len))) (.slice (some a) len cap) []:=by
  simp only [Rp]
  have hlen:(bys (zs.take len)).length = len:=by simp [bys]; omega
  have he:bys (zs.take len) = (List.range len).map fun i=>C.val (.int .u8 (zs.getD i 0)):=by
    apply List.ext_getElem (by simp [bys]; omega)
    intro i h1 h2
    have hi:i < len:=by simpa using h2
    have hi2:i < zs.length:=by omega
    simp [bys,cy,List.getD_eq_getElem?_getD,List.getElem?_eq_getElem hi2]
  refine⟨trivial,some a,cap,(List.range len).map fun i=>.int .u8 (zs.getD i 0),by rw [hlen],by rw [hlen]; exact hl,?_,row_of_cells hc fun _ _=>rfl⟩
  rw [he]
  exact RpL.ofFn len fun i _=>by simp [Rp]
theorem opened_bytes {t e:Nat} (ht:P.underlying t = some (.slice e)) (he:P.underlying e = some (.int .u8)) (hc:P.cellsOf e = 1) (hv:Value.okWide P w r b0 t v) (h:DataW.Trod enc P w base (fun _=>true) held t v d p) :
    ∃ a:List Int,(a.length<=9223372036854775807/\∀ z ∈ a,0<=z/\z<=255)/\Rp w (fun b=>b < w.heap.size) (.lst (bys a)) v []:=by
  obtain⟨a0,len,cap,rfl⟩:=okWide_slice ht hv
  obtain⟨fuel,hf⟩:=h
  have hf' : DataW.trod enc P w base (fun _=>true) held fuel t [.slice a0 len cap] = some (d,p):=by simpa [Value.cells] using hf
  rcases open_ints ht he hc hf' with ⟨hcs,_⟩ | ⟨a,len,cap,zs,hcs,_,hl,hm,hz,_,hcell,hwf⟩
  · obtain h1:=(List.cons.inj hcs).1
    rw [h1]
    exact⟨[],by simp,by simp only [Rp]; exact⟨trivial,none,0,[],rfl,by simp [bys],by simp [bys,RpL],by intro i v hv; simp at hv⟩⟩
  · obtain h1:=(List.cons.inj hcs).1
    rw [h1]
    simp only [if_true] at hz
    refine⟨zs.take len,⟨by simp only [maxLen] at hm; simp; omega,fun z hz'=>?_⟩,lst_bys hl (by omega) fun i hi=>hcell i (by omega)⟩
    have:=hwf z (List.mem_of_mem_take hz')
    simp [Lit.wf,IntKind.min,IntKind.max,IntKind.signed,IntKind.bits] at this
    omega
theorem opened_str {t:Nat} (ht:P.underlying t = some .string) (hv:Value.okWide P w r b0 t v) (h:DataW.Trod enc P w base (fun _=>true) held t v d p) :
    ∃ a:List UInt8,a.length<=9223372036854775807/\Rp w (fun b=>b < w.heap.size) (cs a) v []:=by
  obtain⟨s,rfl,_,_,hs⟩:=open_string ht hv h
  exact⟨s.data.toList,by simp only [maxLen] at hs; simpa using hs,by simp [cs,Rp]⟩
theorem opened_int {t:Nat} (ht:P.underlying t = some (.int .i64)) (hv:Value.okWide P w r b0 t v) (h:DataW.Trod enc P w base (fun _=>true) held t v d p) :
    ∃ a:Int,InI a/\Rp w (fun b=>b < w.heap.size) (ci a) v []:=by
  obtain⟨a,rfl,_,_,hw⟩:=open_int ht hv h
  exact⟨a,bounds_i64 hw,by simp [Rp]⟩
end
end Go.Proofs.YtjolbldlhjfciaaGreatDoor
