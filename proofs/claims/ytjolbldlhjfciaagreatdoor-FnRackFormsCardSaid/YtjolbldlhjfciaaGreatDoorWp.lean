/- The value layer: parts of texts; no condition. -/
import Derived.Test.YtjolbldlhjfciaaGreatDoorWo
import Derived.Laws.Strings2
import Derived.Laws.Slices
namespace Go.Proofs.YtjolbldlhjfciaaGreatDoor
section
variable {P:Program} {X:Option (List Nat)} {st:St} {ty:TypeId}
theorem ext_sl (s:List UInt8) {a b:Nat} : (⟨s.toArray⟩ : ByteArray).extract a b = ⟨((s.take b).drop a).toArray⟩:=by
  apply ByteArray.ext
  rw [ByteArray.data_extract]
  apply Array.ext'
  simp [List.drop_take]
theorem ss_slS {T:TypeId} [hT:StrT P T] {x:Operand} {lo hi:Option Operand} {s:List UInt8} {a b:Int} (hx:st.ev x = some (.c (cs s))) (hlo:bndV st lo 0 a) (hhi:bndV st hi s.length b)
    (hb:0<=a/\a<=b/\b<=(s.length:Int)):SS P X (.slice T x lo hi none) ty st (.c (cs ((s.take b.toNat).drop a.toNat))):=fun D G a' w hr=>
  ⟨_,vrp_val _ _ _ _,fun w' _ dst pos after guard=>by
    have hx' : a'.eval x = .string ⟨s.toArray⟩:=hr.evVal hx
    have hs:((⟨s.toArray⟩ : ByteArray).size:Int) = (s.length:Int):=by simp [ByteArray.size]
    have hs2:(⟨s.toArray⟩ : ByteArray).size = s.length:=by omega
    simp only [execOp,hx',Sem.run_bind,run_sliceAt_string _ _ _ _ _ _ hT.u]
    cases lo with
    | none=>
      simp only [bndV] at hlo; subst hlo
      cases hi with
      | none=>
        simp only [bndV] at hhi; subst hhi
        simp only [Option.map_none]
        rw [run_slice_string_all w' T _ hT.u,ext_sl,hs2]
        simp
      | some o2=>
        obtain⟨k2,h2⟩:=hhi
        simp only [Option.map_none,Option.map_some,hr.evVal h2]
        rw [run_slice_string_h w' T _ hT.u k2 b (by omega) (by omega),ext_sl]
        simp
    | some o1=>
      obtain⟨k1,h1⟩:=hlo
      cases hi with
      | none=>
        simp only [bndV] at hhi; subst hhi
        simp only [Option.map_none,Option.map_some,hr.evVal h1]
        rw [run_slice_string_l w' T _ hT.u k1 a (by omega) (by omega),ext_sl,hs2]
        simp
      | some o2=>
        obtain⟨k2,h2⟩:=hhi
        simp only [Option.map_none,Option.map_some,hr.evVal h1,hr.evVal h2]
        rw [run_slice_string w' T _ k1 k2 a b hT.u (by omega) (by omega) (by omega),ext_sl]
        simp⟩
class FvT (P:Program) (T k:Nat) (off:outParam Nat):Prop where
  f:(match P.underlying T with | some (.struct fs)=>(fs[k]?).map (fun x=>(x.offset,aggB P x.type)) | _=>none) = some (off,false)
theorem ss_fieldV {T k off:Nat} [hT:FvT P T k off] {x:Operand} {v u:V} {us:List V} (hx:st.ev x = some v) (hf:v.fields = some us) (hk:us[off]? = some u):SS P X (.field T x k) ty st u:=fun D G a w hr=>by
  have h1:=hr.ev hx
  obtain⟨xs,e1,h2⟩:=fields_spec hf h1
  obtain⟨y,e2,e3⟩:=h2.get hk
  refine⟨y,e3,fun w' _ dst pos after guard=>?_⟩
  have hf:=hT.f
  split at hf
  · rename_i fs hu
    obtain⟨z,hz,hy⟩:=Option.map_eq_some_iff.1 hf
    simp only [Prod.mk.injEq] at hy
    obtain⟨h3,h4⟩:=hy
    simp [execOp,e1,Instr.field,run_underlying hu,hz,asAgg,part,isAgg_plain h4,h3,e2]
  · cases hf
end
section
variable {P:Program} {st:St}
variable {Q:Exit->St->Prop} {x y:Code}
theorem aw_join0 (S:St) (J:Prop) (hx:AW P x (thn (fun st'=>GhE st' S/\J) Q) st) (hy:J->AW P y Q S):AW P (.seq x y) Q st:=
  aw_seq (aw_mono hx fun e s h=>by
    cases e with
    | normal=>simp only [thn] at h ⊢; obtain⟨⟨Y,h1⟩,h2⟩:=h; exact aw_gh h1 (hy h2)
    | _=>exact h)
theorem aw_join1 {A0:Type} (S:A0->St) (J:A0->Prop) (hx:AW P x (thn (fun st'=>∃ a0,GhE st' (S a0)/\J a0) Q) st) (hy : ∀ a0,J a0->AW P y Q (S a0)):AW P (.seq x y) Q st:=
  aw_seq (aw_mono hx fun e s h=>by
    cases e with
    | normal=>simp only [thn] at h ⊢; obtain⟨a0,⟨Y,h1⟩,h2⟩:=h; exact aw_gh h1 (hy a0 h2)
    | _=>exact h)
theorem aw_join3 {A0 A1 A2:Type} (S:A0->A1->A2->St) (J:A0->A1->A2->Prop) (hx:AW P x (thn (fun st'=>∃ a0 a1 a2,GhE st' (S a0 a1 a2)/\J a0 a1 a2) Q) st) (hy : ∀ a0 a1 a2,J a0 a1 a2->AW P y Q (S a0 a1 a2)):AW P (.seq x y) Q st:=
  aw_seq (aw_mono hx fun e s h=>by
    cases e with
    | normal=>simp only [thn] at h ⊢; obtain⟨a0,a1,a2,⟨Y,h1⟩,h2⟩:=h; exact aw_gh h1 (hy a0 a1 a2 h2)
    | _=>exact h)
theorem aw_join4 {A0 A1 A2 A3:Type} (S:A0->A1->A2->A3->St) (J:A0->A1->A2->A3->Prop) (hx:AW P x (thn (fun st'=>∃ a0 a1 a2 a3,GhE st' (S a0 a1 a2 a3)/\J a0 a1 a2 a3) Q) st) (hy : ∀ a0 a1 a2 a3,J a0 a1 a2 a3->AW P y Q (S a0 a1 a2 a3)):AW P (.seq x y) Q st:=
  aw_seq (aw_mono hx fun e s h=>by
    cases e with
    | normal=>simp only [thn] at h ⊢; obtain⟨a0,a1,a2,a3,⟨Y,h1⟩,h2⟩:=h; exact aw_gh h1 (hy a0 a1 a2 a3 h2)
    | _=>exact h)
end
end Go.Proofs.YtjolbldlhjfciaaGreatDoor
