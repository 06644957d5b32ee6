/- The value layer: bytes and texts; no condition. -/
import Derived.Test.YtjolbldlhjfciaaGreatDoorWc
import Derived.Laws.BytesArg
namespace Go.Proofs.YtjolbldlhjfciaaGreatDoor
def cy (x:Int):C:=.val (.int .u8 x)
def bys (l:List Int):List C:=l.map cy
def bs (l:List Int):List UInt8:=l.map fun n=>UInt8.ofNat n.toNat
def byt (s:List UInt8) (z:Int):Int:=((s.getD z.toNat 0).toNat:Int)
theorem rpL_bys {w:World} {I:Nat->Prop} : ∀ {l:List Int} {vs:List Value} {fp:List Nat},RpL w I (l.map cy) vs fp->vs = l.map (Value.int .u8)/\fp = []
  | [],vs,fp,h=>by simpa only [RpL,List.map_nil] using h
  | x :: l,vs,fp,h=>by
    simp only [RpL,List.map_cons,cy,Rp] at h
    obtain⟨v,vs',f,f',h1,h2,⟨h3,h4⟩,h5⟩:=h
    obtain⟨a,b⟩:=rpL_bys h5
    subst h1 h2 h3 h4 a b
    exact⟨rfl,rfl⟩
theorem rpL_strs {w:World} {I:Nat->Prop} : ∀ {l:List (List UInt8)} {vs:List Value} {fp:List Nat},RpL w I (l.map cs) vs fp->vs = l.map (fun s=>Value.string ⟨s.toArray⟩)/\fp = []
  | [],vs,fp,h=>by simpa only [RpL,List.map_nil] using h
  | x :: l,vs,fp,h=>by
    simp only [RpL,List.map_cons,cs,Rp] at h
    obtain⟨v,vs',f,f',h1,h2,⟨h3,h4⟩,h5⟩:=h
    obtain⟨a,b⟩:=rpL_strs h5
    subst h1 h2 h3 h4 a b
    exact⟨rfl,rfl⟩
theorem getD_cell {w:World} {b off:Nat} {l:List Int} (h : ∀ i v,(l.map (Value.int .u8))[i]? = some v->w.cell? ⟨b,off + i,none⟩ = some v) : ∀ i,i < l.length->w.cell? ⟨b,off + i,none⟩ = some (.int .u8 (l.getD i 0)):=fun i hi=>
  h i _ (by rw [List.getElem?_map,List.getElem?_eq_getElem hi]; simp [List.getD,List.getElem?_eq_getElem hi])
theorem u8_in {n:Int} (h:0<=n/\n<=255):IntKind.u8.wrap n = n:=IntWalk.u8_in n h
class ByT (P:Program) (T:Nat):Prop where
  u:P.underlying T = some (.slice (P.elem T))
  e:P.underlying (P.elem T) = some (.int .u8)
section
variable {P:Program} {X:Option (List Nat)} {st:St} {ty:TypeId}
theorem ss_indexS {T:TypeId} [hT:StrT P T] {x i:Operand} {s:List UInt8} {k:IntKind} {z:Int} (hx:st.ev x = some (.c (cs s))) (hi:st.ev i = some (.c (.val (.int k z)))) (h:0<=z/\z < (s.length:Int)) :
    SS P X (.index T x i) ty st (.c (cy (byt s z))):=fun D G a w hr=>
  ⟨_,vrp_val _ _ _ _,fun w' _ dst pos after guard=>by
    have hx' : a.eval x = .string ⟨s.toArray⟩:=hr.evVal hx
    have hs:0<=z/\z < ((⟨s.toArray⟩ : ByteArray).size:Int):=by simpa [ByteArray.size] using h
    simp only [execOp,hx',hr.evVal hi,Sem.run_bind]
    rw [run_index_string w' T _ k z hT.u,dif_pos hs]
    have hz:z.toNat < s.length:=by omega
    have:(⟨s.toArray⟩ : ByteArray)[z.toNat]'(by omega) = s.getD z.toNat 0:=by
      rw [List.getD_eq_getElem?_getD,List.getElem?_eq_getElem hz]; rfl
    simp [byt,this]⟩
theorem ss_cat {T T' : TypeId} {x y:Operand} {u v:List UInt8} (hx:st.ev x = some (.c (cs u))) (hy:st.ev y = some (.c (cs v))) (h:(u.length:Int) + (v.length:Int)<=9223372036854775807) :
    SS P X (.binOp .add T x y T') ty st (.c (cs (u ++ v))):=
  ss_bin (u:=.string ⟨u.toArray⟩) (v:=.string ⟨v.toArray⟩) (z:=.string ⟨(u ++ v).toArray⟩) hx hy (fun _ _=>eqGuard_add ..) fun w=>by
    rw [binOp_string_add]
    have e:(⟨u.toArray⟩ : ByteArray) ++ ⟨v.toArray⟩ = ⟨(u ++ v).toArray⟩:=by
      apply ByteArray.ext
      simp
    have hs : ¬ ((((⟨u.toArray⟩ : ByteArray).size + (⟨v.toArray⟩ : ByteArray).size:Nat):Int) > IntKind.i64.max):=by
      simp only [ByteArray.size,List.size_toArray,IntKind.max]
      simp [IntKind.bits,IntKind.signed]
      omega
    simp only [Op.stringOp,if_neg hs,Sem.run_pure,e]
theorem ss_eqlS {T T' : TypeId} {x y:Operand} {u v:List UInt8} (hx:st.ev x = some (.c (cs u))) (hy:st.ev y = some (.c (cs v))):SS P X (.binOp .eql T x y T') ty st (.c (cb (u == v))):=
  ss_bin (u:=.string ⟨u.toArray⟩) (v:=.string ⟨v.toArray⟩) (z:=.bool (u == v)) hx hy (fun _ _=>eqGuard_at_string ..) fun w=>by
    rw [binOp_string_eql,ByteArray.toList_eq,ByteArray.toList_eq]; rfl
theorem ss_neqS {T T' : TypeId} {x y:Operand} {u v:List UInt8} (hx:st.ev x = some (.c (cs u))) (hy:st.ev y = some (.c (cs v))):SS P X (.binOp .neq T x y T') ty st (.c (cb (!(u == v)))):=
  ss_bin (u:=.string ⟨u.toArray⟩) (v:=.string ⟨v.toArray⟩) (z:=.bool (!(u == v))) hx hy (fun _ _=>eqGuard_at_string ..) fun w=>by
    rw [binOp_string_neq,ByteArray.toList_eq,ByteArray.toList_eq]; rfl
theorem ss_bytesR {Y:List Nat} {S T:TypeId} [hS:ByT P S] [hT:StrT P T] {x:Operand} {id:Nat} {l:List Int} (hx:st.ev x = some (.ref id)) (ho:lko id st.σ = some ⟨l.map cy,[]⟩) (hX:memN id Y = false) :
    SS P (some Y) (.convert S T x) ty st (.c (cs (bs l))):=fun D G a w hr=>by
  obtain⟨lo,hl,hv,hob⟩:=hr.ref hx ho
  refine⟨_,vrp_val _ _ _ _,fun w' hag dst pos after guard=>?_⟩
  rcases hob with ⟨h1,h2,_⟩ | ⟨h1,h2,vs,f,h3,h4,h5,_⟩
  · have:l = []:=by simpa using h2
    subst this
    have hv' : a.eval x = .slice none 0 0:=by rw [hv,Loc.slice,h1]; rfl
    simp only [execOp,hv',Sem.run_bind]
    rw [run_convert_bytes_nil w' S _ hS.u hS.e _ _ T hT.u]
    rfl
  · obtain⟨rfl,_⟩:=rpL_bys h4
    have hv' : a.eval x = .slice (some ⟨lo.b,lo.off,none⟩) l.length lo.cap:=by rw [hv,Loc.slice,h1]; simp [h2]
    simp only [execOp,hv',Sem.run_bind]
    have hb:=hag Y rfl lo.b h5.lt (hr.ownX (mem_of_lko ho) (by rw [h3]; exact List.mem_cons_self) (fun hm=>by rw [memN_spec.2 hm] at hX; cases hX))
    rw [run_convert_bytes_arg w' S _ hS.u hS.e lo.b lo.off l.length lo.cap l rfl (getD_cell fun i v hv=>by
      rw [World.cell?_of_block (w:=w) hb]
      exact h5.cell hv) T hT.u]
    rfl
end
end Go.Proofs.YtjolbldlhjfciaaGreatDoor
