/- The value layer: a part of an owned list of numbers turned in place by a function; no condition. -/
import Derived.Test.YtjolbldlhjfciaaGreatDoorWk
import Derived.Shelf.SlicesG.Reverse
namespace Go.Proofs.YtjolbldlhjfciaaGreatDoor
open Go.Sort
structure AT (P:Program) (f:Nat) (F:List Int->List Int):Prop where
  ent:EntB P f = true
  len : ∀ l,(F l).length = l.length
  out : ∀ (w:World) (b off cap:Nat) (zs:List Int),Holds (Value.int .i64) w b off zs.toArray->zs.length<=1000000000->
    Calls P f #[.slice (some ⟨b,off,none⟩) zs.length cap] w fun e w'=>e = .returned (.tuple #[])/\∃ n,w' = putRow (Value.int .i64) (Sort.ahead w n) b off (F zs).toArray
  emp : ∀ (w:World) (a:Option Addr) (cap:Nat),Calls P f #[.slice a 0 cap] w fun e w'=>e = .returned (.tuple #[])/\w' = w
theorem own_part {w:World} {b off cap j:Nat} {l l' : List Int} (h:OwnAt w b off cap (l.map (Value.int .i64))) (hj:j<=l.length) (hl:l'.length = l.length - j) (n:Nat) :
    OwnAt (putRow (Value.int .i64) (Sort.ahead w n) b (off + j) l'.toArray) b off cap ((l.take j ++ l').map (Value.int .i64))/\w.heap.size<=(putRow (Value.int .i64) (Sort.ahead w n) b (off + j) l'.toArray).heap.size/\
      ∀ k,k < w.heap.size->k≠b->(putRow (Value.int .i64) (Sort.ahead w n) b (off + j) l'.toArray).heap[k]? = w.heap[k]?:=by
  have hb:=h.lt
  obtain⟨cur,e,g1,g2,g3,g4,g5⟩:=h
  rw [List.length_map] at g2
  have hh:(putRow (Value.int .i64) (Sort.ahead w n) b (off + j) l'.toArray).heap = w.heap.modify b (onCells (putCells (Value.int .i64) (off + j) l'.toArray)):=rfl
  refine⟨⟨putCells (Value.int .i64) (off + j) l'.toArray cur,e,?_,by simp; omega,by simp [putCells]; omega,g4,fun i v hv=>?_⟩,by rw [hh]; simp,fun k hk hne=>?_⟩
  · rw [hh,Array.getElem?_modify,if_pos rfl,g1]; rfl
  · rw [List.getElem?_map] at hv
    obtain⟨z,hz,rfl⟩:=Option.map_eq_some_iff.1 hv
    have hi:i < (l.take j ++ l').length:=(List.getElem?_eq_some_iff.1 hz).1
    simp at hi
    refine⟨?_,rfl⟩
    have ho:off + i < cur.size:=by omega
    unfold putCells
    rw [Array.getElem?_mapIdx,Array.getElem?_eq_getElem ho,Option.map_some]
    by_cases hij:i < j
    · rw [if_neg (by omega)]
      rw [List.getElem?_append_left (by simp; omega),List.getElem?_take,if_pos hij] at hz
      have:=(g5 i (Value.int .i64 z) (by rw [List.getElem?_map,hz]; rfl)).1
      rw [Array.getElem?_eq_getElem ho] at this
      exact this
    · have h2:off + j<=off + i/\off + i < off + j + l'.toArray.size:=⟨by omega,by simp; omega⟩
      rw [if_pos h2]
      rw [List.getElem?_append_right (by simp; omega)] at hz
      have hmin:(l.take j).length = j:=by simp; omega
      rw [hmin] at hz
      have h3:l'.toArray[off + i - (off + j)]! = z:=by
        rw [show off + i - (off + j) = i - j by omega,getElem!_pos l'.toArray (i - j) (by simp; omega)]
        have:=(List.getElem?_eq_some_iff.1 hz).2
        simpa using this
      rw [h3]
  · rw [hh,Array.getElem?_modify,if_neg (Ne.symm hne)]
theorem holds_part {w:World} {b off cap j:Nat} {l:List Int} (h:OwnAt w b off cap (l.map (Value.int .i64))):Holds (Value.int .i64) w b (off + j) (l.drop j).toArray:=fun k hk=>by
  have hk' : k < (l.drop j).length:=by simpa using hk
  simp at hk'
  refine⟨?_,h.frozen _⟩
  rw [getElem!_pos (l.drop j).toArray k hk]
  have:=h.cell (i:=j + k) (v:=Value.int .i64 (l[j + k]'(by omega))) (by rw [List.getElem?_map,List.getElem?_eq_getElem (by omega)]; simp)
  simpa [Nat.add_assoc] using this
section
variable {P:Program} {ops:Array Oper} {K:St->Prop} {st:St} {rest:List Oper}
theorem run_part {f id d1 d2:Nat} {F:List Int->List Int} {T:TypeId} [hT:SlT P T] {x lo fo:Operand} {ats:Array TypeId} {ty1 ty2:TypeId} {p1 p2:String} {a1 a2:Array Edge} {l:List Int} {j:Int} {k:IntKind}
    (hc:AT P f F) (hx:st.ev x = some (.ref id)) (ho:lko id st.σ = some ⟨l.map ci,[]⟩) (hlo:st.ev lo = some (.c (.val (.int k j)))) (hj:0<=j/\j<=(l.length:Int)) (hs:(l.length:Int)<=1000000000) (hd1:Nat.blt d1 st.n = true) (hd2:Nat.blt d2 st.n = true)
    (hf:(st.put (some d1) (.c .hole)).ev fo = some (.c (.clo f [])))
    (h:Run P ops K rest ⟨mo id ⟨(l.take j.toNat ++ F (l.drop j.toNat)).map ci,[]⟩ [] [] st.σ,(d2,.c (.tup [])) :: killE [] ((d1,.c .hole) :: st.env),st.n⟩) :
    Run P ops K (⟨some d1,.slice T x (some lo) none none,ty1,p1,a1,none⟩ :: ⟨some d2,.call ⟨.value fo,#[.tmp d1],ats⟩,ty2,p2,a2,none⟩ :: rest) st:=⟨fun G D a w hr Q hQ r=>by
  have hs' : (l.length:Int)<=1000000000:=hs
  obtain⟨lc,hl,hv,hob⟩:=hr.ref hx ho
  have hI:=intsAt_ob.1 hob
  have hlo':=hr.evVal hlo
  simp only [Nat.blt_eq] at hd1 hd2
  obtain⟨v,hv1,hv2⟩ : ∃ v,(∀ w',(execOp a.eval ⟨some d1,.slice T x (some lo) none none,ty1,p1,a1,none⟩).run P w' = .ok (.value v) w')/\
      ((lc.nil = true/\l = []/\∃ ad cp,v = .slice ad 0 cp)\/(lc.nil = false/\l.drop j.toNat = []/\∃ ad cp,v = .slice ad 0 cp)\/(lc.nil = false/\∃ cp,v = .slice (some ⟨lc.b,lc.off + j.toNat,none⟩) (l.drop j.toNat).length cp)):=by
    rcases hI with ⟨h1,h2,h3⟩ | ⟨h1,h2,h3,h4⟩
    · subst h2
      have hj0:j = 0:=by simp at hj; omega
      subst hj0
      have hsl:a.eval x = .slice none 0 0:=by rw [hv,Loc.slice,h1]; rfl
      refine⟨_,fun w'=>exec_slice (l:=0) (h:=0) hsl (fun o e=>⟨k,by cases e; exact hlo'⟩) (fun e=>by cases e) (fun o e=>by cases e) (fun _=>rfl) (by omega) (by omega) w' _ _ _ _,.inl ⟨h1,rfl,_,_,rfl⟩⟩
    · have hcap:l.length<=lc.cap:=by obtain⟨_,_,_,g,_⟩:=h4; simpa using g
      have hsl:a.eval x = .slice (some ⟨lc.b,lc.off,none⟩) l.length lc.cap:=by rw [hv,Loc.slice,h1,h2]; rfl
      refine⟨_,fun w'=>exec_slice (l:=j.toNat) (h:=l.length) hsl (fun o e=>⟨k,by cases e; rw [hlo']; congr 1; omega⟩) (fun e=>by cases e) (fun o e=>by cases e) (fun _=>rfl) (by omega) hcap w' _ _ _ _,?_⟩
      by_cases he:l.length = j.toNat
      · exact .inr (.inl ⟨h1,by simp [he],_,_,by rw [he,Nat.sub_self]⟩)
      · refine .inr (.inr ⟨h1,lc.cap - j.toNat,?_⟩)
        rw [if_neg (by omega),List.length_drop]
        simp [Addr.add_lit]
  refine wpListIn_plain rfl fun K1 hK1=>wpIn_of_ok (hv1 w) (hK1 _ _ ?_)
  have hr1:=hr.put (d:=some d1) (v:=.c .hole) (x:=v) (fun q e=>by cases e; exact hd1) (by simp [VRp,Rp])
  have hev:(a.put (some d1) v).eval (.tmp d1) = v:=by
    have:=hr.ntmps
    simp [Act.put,Act.eval,show d1 < a.tmps.size by omega]
  have h3:(a.put (some d1) v).eval fo = .func (.func f) #[] #[]:=by
    have h3:=hr1.ev hf
    simp only [VRp,Rp] at h3; obtain⟨cv,e1,e2⟩:=h3; simp only [RpL] at e2; obtain⟨rfl,_⟩:=e2; exact e1
  have hrun:(execOp (a.put (some d1) v).eval ⟨some d2,.call ⟨.value fo,#[.tmp d1],ats⟩,ty2,p2,a2,none⟩).run P w = .ok (.enter f #[v]) w:=by
    simp only [execOp,resolve,h3,Deferred.ofValue,Sem.run_bind,Sem.run_pure,Result.andThen_ok,invoke]
    rw [callFunc_run hc.ent]
    simp [hev]
  refine wpListIn_plain rfl fun K2 hK2=>wpIn_of_vals (R:=fun x w'=>x = .tuple #[]/\∃ D',Rep D' G ⟨mo id ⟨(l.take j.toNat ++ F (l.drop j.toNat)).map ci,[]⟩ [] [] st.σ,killE [] ((d1,.c .hole) :: st.env),st.n⟩ (a.put (some d1) v) w') ?_ fun x w' ⟨ex,D',hr'⟩=>hK2 _ _ ?_
  · rw [hrun]
    have fin : ∀ w',IntsAt w' lc (l.take j.toNat ++ F (l.drop j.toNat)) (D.fp id)->w.heap.size<=w'.heap.size->(∀ b,b < w.heap.size->b ∉ D.fp id->w'.heap[b]? = w.heap[b]?)->w'.os = w.os->w'.tape = w.tape->w'.output = w.output->
        ∃ D',Rep D' G ⟨mo id ⟨(l.take j.toNat ++ F (l.drop j.toNat)).map ci,[]⟩ [] [] st.σ,killE [] ((d1,.c .hole) :: st.env),st.n⟩ (a.put (some d1) v) w':=fun w' g1 g2 g3 g4 g5 g6=>by
      obtain⟨p,hp,hpid⟩ : ∃ p ∈ st.σ,p.1 = id:=⟨_,mem_of_lko ho,rfl⟩
      obtain⟨D',r1,_⟩:=hr1.mod (id:=id) (ob:=⟨l.map ci,[]⟩) (ob':=⟨(l.take j.toNat ++ F (l.drop j.toNat)).map ci,[]⟩) (l:=lc) (l':=lc) (w':=w') (F:=D.fp id) (ids:=[]) (drop:=[]) ho hl (by simp) (by simp) (.inl rfl) g2 g4 g5 g6 (fun b hb hn=>g3 b hb hn) (by rw [<- hpid]; exact hr.disj1 p hp) (fun b hb=>.inl hb) (fun I' _ M' _=>intsAt_ob.2 g1)
      exact⟨D',r1⟩
    rcases hv2 with ⟨h1,h2,ad,cp,rfl⟩ | ⟨h1,h2,ad,cp,rfl⟩ | ⟨h1,cp,rfl⟩
    · refine (hc.emp w ad cp).mono ?_
      rintro e w' ⟨rfl,rfl⟩
      have hF:F [] = []:=List.eq_nil_of_length_eq_zero (by rw [hc.len]; rfl)
      refine⟨_,rfl,rfl,fin _ ?_ (Nat.le_refl _) (fun _ _ _=>rfl) rfl rfl rfl⟩
      subst h2; simp [hF]; exact hI
    · refine (hc.emp w ad cp).mono ?_
      rintro e w' ⟨rfl,rfl⟩
      have hF:F [] = []:=List.eq_nil_of_length_eq_zero (by rw [hc.len]; rfl)
      refine⟨_,rfl,rfl,fin _ ?_ (Nat.le_refl _) (fun _ _ _=>rfl) rfl rfl rfl⟩
      rw [h2,hF,List.append_nil,show l.take j.toNat = l from List.take_of_length_le (by have:=congrArg List.length h2; simp at this; omega)]
      exact hI
    · rcases hI with ⟨g1,_⟩ | ⟨g1,g2,g3,g4⟩
      · rw [h1] at g1; cases g1
      · refine (hc.out w lc.b (lc.off + j.toNat) cp (l.drop j.toNat) (holds_part g4) (by simp; omega)).mono ?_
        rintro e w' ⟨rfl,n,rfl⟩
        obtain⟨q1,q2,q3⟩:=own_part (j:=j.toNat) (l':=F (l.drop j.toNat)) g4 (by omega) (by rw [hc.len]; simp) n
        exact⟨_,rfl,rfl,fin _ (.inr ⟨g1,by rw [g2]; simp [hc.len]; omega,g3,q1⟩) q2 (fun b hb hn=>q3 b hb fun e=>hn (by rw [g3,e]; simp)) rfl rfl rfl⟩
  · subst ex
    have hr2:=hr'.put (d:=some d2) (v:=.c (.tup [])) (x:=.tuple #[]) (fun q e=>by cases e; exact hd2) (by simp [VRp,Rp,RpL])
    exact h.out G D' _ w' hr2 Q hQ r⟩
end
theorem AM.weak {P:Program} {f:Nat} {args args' : List C} {Q:C->List C->Prop} (h:AM P f args' Q) (hc:cleL args args'):AM P f args Q:=⟨h.ent,fun w I vals fp a b c d=>h.out w I vals fp a b c (hc.2 w I vals fp d)⟩
theorem ws_store5 {P:Program} {st:St} {ty:TypeId} {T:TypeId} {p x:Operand} {id off:Nat} {ob:Ob} {v u1 u2 u3 u4 u5:V} [hS:SzT P T 5] (hp:st.ev p = some (.cell id off)) (ho:lko id st.σ = some ob) (hlt:off + 4 < ob.xs.length) (hx:st.ev x = some v) (hf:v.fields = some [u1,u2,u3,u4,u5]) (hone:(u1.one && u2.one && u3.one && u4.one && u5.one) = true)
    {K:V->St->Prop} (h:K (.c .hole) ⟨(so id ⟨(((((ob.xs.set off u1.closed).set (off + 1) u2.closed).set (off + 2) u3.closed).set (off + 3) u4.closed).set (off + 4) u5.closed),(u5.holeAt (off + 4) ++ rmH (off + 4) (u4.holeAt (off + 3) ++ rmH (off + 3) (u3.holeAt (off + 2) ++ rmH (off + 2) (u2.holeAt (off + 1) ++ rmH (off + 1) (u1.holeAt off ++ rmH off ob.holes)))))⟩ (so id ⟨((((ob.xs.set off u1.closed).set (off + 1) u2.closed).set (off + 2) u3.closed).set (off + 3) u4.closed),(u4.holeAt (off + 3) ++ rmH (off + 3) (u3.holeAt (off + 2) ++ rmH (off + 2) (u2.holeAt (off + 1) ++ rmH (off + 1) (u1.holeAt off ++ rmH off ob.holes))))⟩ (so id ⟨(((ob.xs.set off u1.closed).set (off + 1) u2.closed).set (off + 2) u3.closed),(u3.holeAt (off + 2) ++ rmH (off + 2) (u2.holeAt (off + 1) ++ rmH (off + 1) (u1.holeAt off ++ rmH off ob.holes)))⟩ (so id ⟨((ob.xs.set off u1.closed).set (off + 1) u2.closed),(u2.holeAt (off + 1) ++ rmH (off + 1) (u1.holeAt off ++ rmH off ob.holes))⟩ (so id ⟨(ob.xs.set off u1.closed),(u1.holeAt off ++ rmH off ob.holes)⟩ st.σ))))),st.env,st.n⟩):WS P [id] [] (.store T p x) ty st K:=by
  intro D G a w hr dst pos after guard
  simp only [Bool.and_eq_true] at hone
  obtain⟨⟨⟨⟨h1,h2⟩,h3⟩,h4⟩,h5⟩:=hone
  obtain⟨l,vs,f,hl,hn,hpv,_⟩:=hr.cell hp ho
  obtain⟨xs,hxe,hxs⟩:=fields_spec hf (hr.ev hx)
  simp only [VRpL] at hxs
  obtain⟨y1,_,rfl,hv1,y2,_,rfl,hv2,y3,_,rfl,hv3,y4,_,rfl,hv4,y5,_,rfl,hv5,rfl⟩:=hxs
  obtain⟨_,e1⟩:=one_spec hv1 h1
  obtain⟨_,e2⟩:=one_spec hv2 h2
  obtain⟨_,e3⟩:=one_spec hv3 h3
  obtain⟨_,e4⟩:=one_spec hv4 h4
  obtain⟨_,e5⟩:=one_spec hv5 h5
  obtain⟨c1,d1,D1,r1,m1,p1,M1,i1,k1⟩:=hr.store1 (off:=off) ho hl hn (by omega) hv1 e1
  have hw2:=VRp.frame i1 k1 M1 _ _ hv2
  have hw3:=VRp.frame i1 k1 M1 _ _ hv3
  have hw4:=VRp.frame i1 k1 M1 _ _ hv4
  have hw5:=VRp.frame i1 k1 M1 _ _ hv5
  obtain⟨c2,d2,D2,r2,m2,p2,M2,i2,k2⟩:=r1.store1 (off:=off + 1) (lko_so ho) m1 hn (by simp; omega) hw2 e2
  have hx3:=VRp.frame i2 k2 M2 _ _ hw3
  have hx4:=VRp.frame i2 k2 M2 _ _ hw4
  have hx5:=VRp.frame i2 k2 M2 _ _ hw5
  obtain⟨c3,d3,D3,r3,m3,p3,M3,i3,k3⟩:=r2.store1 (off:=off + 2) (lko_so (lko_so ho)) m2 hn (by simp; omega) hx3 e3
  have hy4:=VRp.frame i3 k3 M3 _ _ hx4
  have hy5:=VRp.frame i3 k3 M3 _ _ hx5
  obtain⟨c4,d4,D4,r4,m4,p4,M4,i4,k4⟩:=r3.store1 (off:=off + 3) (lko_so (lko_so (lko_so ho))) m3 hn (by simp; omega) hy4 e4
  have hz5:=VRp.frame i4 k4 M4 _ _ hy5
  obtain⟨c5,d5,D5,r5,m5,p5,_⟩:=r4.store1 (off:=off + 4) (lko_so (lko_so (lko_so (lko_so ho)))) m4 hn (by simp; omega) hz5 e5
  obtain⟨z1,hz1⟩:=Option.ne_none_iff_exists'.1 c1
  obtain⟨z2,hz2⟩:=Option.ne_none_iff_exists'.1 c2
  obtain⟨z3,hz3⟩:=Option.ne_none_iff_exists'.1 c3
  obtain⟨z4,hz4⟩:=Option.ne_none_iff_exists'.1 c4
  obtain⟨z5,hz5'⟩:=Option.ne_none_iff_exists'.1 c5
  have hrun:(execOp a.eval ⟨dst,.store T p x,ty,pos,after,guard⟩).run P w = .ok .skip (((((w.setCell ⟨l.b,l.off + off,none⟩ y1).setCell ⟨l.b,l.off + (off + 1),none⟩ y2).setCell ⟨l.b,l.off + (off + 2),none⟩ y3).setCell ⟨l.b,l.off + (off + 3),none⟩ y4).setCell ⟨l.b,l.off + (off + 4),none⟩ y5):=by
    simp [execOp,Instr.storeAt,hpv,hxe,Instr.sureAddr,storeVar,Value.cells,sizeOf_run hS.s,storeCells,run_store _ _ _ _ _ e1,run_store _ _ _ _ _ e2,run_store _ _ _ _ _ e3,run_store _ _ _ _ _ e4,run_store _ _ _ _ _ e5,hz1,d1,hz2,d2,hz3,d3,hz4,d4,hz5',d5,Addr.add,Nat.add_assoc]
  rw [hrun]
  have q2:=Upd.comp r1 ⟨_,mem_of_lko (lko_so ho),rfl⟩ p1 p2 r2
  have q3:=Upd.comp r2 ⟨_,mem_of_lko (lko_so (lko_so ho)),rfl⟩ q2 p3 r3
  have q4:=Upd.comp r3 ⟨_,mem_of_lko (lko_so (lko_so (lko_so ho))),rfl⟩ q3 p4 r4
  have q5:=Upd.comp r4 ⟨_,mem_of_lko (lko_so (lko_so (lko_so (lko_so ho)))),rfl⟩ q4 p5 r5
  exact⟨D5,.c .hole,_,h,r5,by simp [VRp,Rp],q5⟩
end Go.Proofs.YtjolbldlhjfciaaGreatDoor