/- The value layer: walks beside which something is carried that no object holds (a ghost that is told of the globals); maps of texts used as sets; no condition. -/
import Derived.Test.YtjolbldlhjfciaaGreatDoorWl
import Derived.Maps.Own
import Derived.Maps.Views
import Derived.StringKeys
import Derived.Carry
namespace Go.Proofs.YtjolbldlhjfciaaGreatDoor
structure AZ {Γ:Type} (P:Program) (Φ:Γ->Glob->Prop) (c:Code) (Q:Exit->Γ->St->Prop) (γ:Γ) (st:St):Prop where
  out : ∀ (G:Glob) (D:Data) (a:Act) (w:World),Rep D G st a w->Φ γ G->c.wpIn (Fw none) 0 P (fun e a' w'=>∃ γ' G' D' st',Q e γ' st'/\Rep D' G' st' a' w'/\Φ γ' G') a w
structure RunZ {Γ:Type} (P:Program) (Φ:Γ->Glob->Prop) (ops:Array Oper) (K:Γ->St->Prop) (l:List Oper) (γ:Γ) (st:St):Prop where
  out : ∀ (G:Glob) (D:Data) (a:Act) (w:World),Rep D G st a w->Φ γ G->∀ Q:Exit->Act->World->Prop,(∀ γ' G' D' st' a' w',K γ' st'->Rep D' G' st' a' w'->Φ γ' G'->Q .normal a' w')->wpListIn (Fw none) 0 P ops Q l a w
def thnZ {Γ:Type} (K:Γ->St->Prop) (Q:Exit->Γ->St->Prop):Exit->Γ->St->Prop
  | .normal,γ,st=>K γ st
  | e,γ,st=>Q e γ st
def inBlkZ {Γ:Type} (id:Nat) (Q:Exit->Γ->St->Prop):Exit->Γ->St->Prop
  | .exit id',γ,st=>if id' = id then Q .normal γ st else Q (.exit id') γ st
  | e,γ,st=>Q e γ st
section
variable {Γ:Type} {P:Program} {Φ:Γ->Glob->Prop} {ops:Array Oper} {K:Γ->St->Prop} {γ:Γ} {st:St} {rest:List Oper}
theorem rz_nil (h:K γ st):RunZ P Φ ops K [] γ st:=⟨fun _ _ _ _ hr hp _ hQ=>hQ _ _ _ _ _ _ h hr hp⟩
theorem rz_s {op:Op} {ty:TypeId} {dst:Option Nat} {pos:String} {after:Array Edge} {v:V} (hs:SS P (some []) op ty st v) (hd:dOk dst st.n = true) (h:RunZ P Φ ops K rest γ (st.put dst v)) :
    RunZ P Φ ops K (⟨dst,op,ty,pos,after,none⟩ :: rest) γ st:=⟨fun G D a w hr hp Q hQ=>by
  obtain⟨x,hx,hrun⟩:=hs D G a w hr
  exact wpListIn_plain rfl fun K' hK'=>wpIn_of_ok (hrun w (AgreeO.refl _ _ _) dst pos after none) (hK' _ _ (h.out G D _ w (hr.put (dOk_spec hd) hx) hp Q hQ))⟩
theorem rz_w {op:Op} {ty:TypeId} {dst:Option Nat} {pos:String} {after:Array Edge} {X Y:List Nat} (hw:WS P X Y op ty st (fun v st'=>dOk dst st'.n = true/\RunZ P Φ ops K rest γ (st'.put dst v))) :
    RunZ P Φ ops K (⟨dst,op,ty,pos,after,none⟩ :: rest) γ st:=⟨fun G D a w hr hp Q hQ=>by
  have h1:=hw D G a w hr dst pos after none
  exact wpListIn_plain rfl fun K' hK'=>wpIn_of_vals (o:=⟨dst,op,ty,pos,after,none⟩) h1 fun x w' ⟨D',v,st',⟨hd,hk⟩,hr',hx,_⟩=>hK' _ _ (hk.out G D' _ w' (hr'.put (dOk_spec hd) hx) hp Q hQ)⟩
theorem rz_gh {Y:List Nat} {st' : St} {l:List Oper} (hg:Gh Y st st') (h:RunZ P Φ ops K l γ st'):RunZ P Φ ops K l γ st:=⟨fun G D a w hr hp Q hQ=>by
  obtain⟨D',h1,_⟩:=hg D G a w hr
  exact h.out G D' a w h1 hp Q hQ⟩
end
section
variable {Γ:Type} {P:Program} {Φ:Γ->Glob->Prop} {Q:Exit->Γ->St->Prop} {γ:Γ} {st:St}
theorem az_aw {c:Code} (h:AW P c (fun e s=>Q e γ s) st):AZ P Φ c Q γ st:=⟨fun G D a w hr hp=>wpIn_mono (h.out G D a w hr none) fun _ _ _ ⟨D',st',h1,h2⟩=>⟨γ,G,D',st',h1,h2,hp⟩⟩
theorem az_skip (h:Q .normal γ st):AZ P Φ .skip Q γ st:=⟨fun G D _ _ hr hp=>wpIn_skip ⟨γ,G,D,st,h,hr,hp⟩⟩
theorem az_ret (h:Q .ret γ st):AZ P Φ .ret Q γ st:=⟨fun G D _ _ hr hp=>wpIn_ret ⟨γ,G,D,st,h,hr,hp⟩⟩
theorem az_exit {id:Nat} (h:Q (.exit id) γ st):AZ P Φ (.exit id) Q γ st:=⟨fun G D _ _ hr hp=>wpIn_exit ⟨γ,G,D,st,h,hr,hp⟩⟩
theorem az_region {id:Nat} {l:List Oper} (h:RunZ P Φ l.toArray (Q .normal) l γ st):AZ P Φ (.region id l.toArray false) Q γ st:=
  ⟨fun G D a w hr hp=>wpIn_region_lit (h.out G D a w hr hp _ (fun γ' G' D' st' _ _ hk hr' hp'=>⟨γ',G',D',st',hk,hr',hp'⟩))⟩
theorem az_seq {x y:Code} (h:AZ P Φ x (thnZ (AZ P Φ y Q) Q) γ st):AZ P Φ (.seq x y) Q γ st:=⟨fun G D a w hr hp=>
  wpIn_seq (wpIn_mono (h.out G D a w hr hp) fun e a' w' ⟨γ',G',D',st',h1,h2,h3⟩=>by
    cases e with
    | normal=>exact AZ.out h1 G' D' a' w' h2 h3
    | _=>exact⟨γ',G',D',st',h1,h2,h3⟩)⟩
theorem az_cond {c:Operand} {x y:Code} {b:Bool} (hc:st.ev c = some (.c (.val (.bool b)))) (ht:b = true->AZ P Φ x Q γ st) (hf:b = false->AZ P Φ y Q γ st):AZ P Φ (.cond c x y) Q γ st:=⟨fun G D a w hr hp=>
  wpIn_cond_split (t:=b) (hr.evVal hc) (fun h=>(ht h).out G D a w hr hp) (fun h=>(hf h).out G D a w hr hp)⟩
theorem az_block {id:Nat} {c:Code} (h:AZ P Φ c (inBlkZ id Q) γ st):AZ P Φ (.block id c) Q γ st:=⟨fun G D a w hr hp=>
  wpIn_block (wpIn_mono (h.out G D a w hr hp) fun e a' w' ⟨γ',G',D',st',h1,h2⟩=>by
    cases e with
    | exit id'=>
      simp only [inBlkZ] at h1
      simp only [Exit.inBlock]
      split
      · rename_i he; rw [if_pos he] at h1; exact⟨γ',G',D',st',h1,h2⟩
      · rename_i he; rw [if_neg he] at h1; exact⟨γ',G',D',st',h1,h2⟩
    | _=>exact⟨γ',G',D',st',h1,h2⟩)⟩
theorem az_gh {Y:List Nat} {st' : St} {c:Code} (hg:Gh Y st st') (h:AZ P Φ c Q γ st'):AZ P Φ c Q γ st:=⟨fun G D a w hr hp=>
  let ⟨D',h1,_⟩:=hg D G a w hr
  h.out G D' a w h1 hp⟩
theorem az_mono {Q' : Exit->Γ->St->Prop} {c:Code} (h:AZ P Φ c Q γ st) (hq : ∀ e g s,Q e g s->Q' e g s):AZ P Φ c Q' γ st:=⟨fun G D a w hr hp=>
  wpIn_mono (h.out G D a w hr hp) fun e _ _ ⟨γ',G',D',st',h1,h2⟩=>⟨γ',G',D',st',hq e γ' st' h1,h2⟩⟩
theorem az_loop {X:Type} (S:X->St) (g:X->Γ) (H:X->Prop) (μ:X->Nat) {c:Code} (h0 : ∃ x,GhE st (S x)/\γ = g x/\H x)
    (round : ∀ x,H x->AZ P Φ c (thnZ (fun γ' st'=>∃ x',GhE st' (S x')/\γ' = g x'/\H x'/\μ x' < μ x) Q) (g x) (S x)):AZ P Φ (.loop c) Q γ st:=⟨fun G D a w hr hp=>by
  obtain⟨x0,⟨Y0,hg0⟩,rfl,hx0⟩:=h0
  obtain⟨D0,hr0,_⟩:=hg0 D G a w hr
  have key : ∀ n x G a w,μ x < n->H x->(∃ D,Rep D G (S x) a w)->Φ (g x) G->Code.roundsIn (Fw none) 0 P c (fun e a' w'=>∃ γ' G' D' st',Q e γ' st'/\Rep D' G' st' a' w'/\Φ γ' G') n a w:=by
    intro n
    induction n with
    | zero=>intro x G a w hn; omega
    | succ n ih=>
      intro x G a w hn hx ⟨D,hr⟩ hp
      rw [roundsIn_succ]
      refine wpIn_mono ((round x hx).out G D a w hr hp) ?_
      rintro e a1 w1 ⟨γ1,G1,D1,st1,hq,hr1,hp1⟩
      cases e with
      | normal=>
        obtain⟨x',⟨Y,hg⟩,rfl,hx',hlt⟩:=hq
        obtain⟨D2,hr2,_⟩:=hg D1 G1 a1 w1 hr1
        exact ih x' G1 a1 w1 (by omega) hx' ⟨D2,hr2⟩ hp1
      | _=>exact⟨γ1,G1,D1,st1,hq,hr1,hp1⟩
  exact wpIn_loop_rounds (μ x0 + 1) (key _ x0 G a w (Nat.lt_succ_self _) hx0 ⟨D0,hr0⟩ hp)⟩
theorem az_loop2 {A0 A1:Type} {c:Code} (S:A0->A1->St) (g:A0->A1->Γ) (H:A0->A1->Prop) (μ:A0->A1->Nat) (h0 : ∃ a0 a1,GhE st (S a0 a1)/\γ = g a0 a1/\H a0 a1)
    (round : ∀ a0 a1,H a0 a1->AZ P Φ c (thnZ (fun γ' st'=>∃ b0 b1,GhE st' (S b0 b1)/\γ' = g b0 b1/\H b0 b1/\μ b0 b1 < μ a0 a1) Q) (g a0 a1) (S a0 a1)):AZ P Φ (.loop c) Q γ st:=
  az_loop (X:=A0 × A1) (fun x=>S x.1 x.2) (fun x=>g x.1 x.2) (fun x=>H x.1 x.2) (fun x=>μ x.1 x.2) (by obtain⟨a0,a1,h1,h2,h3⟩:=h0; exact⟨⟨a0,a1⟩,h1,h2,h3⟩)
    fun x hx=>az_mono (round x.1 x.2 hx) fun e γ' s h=>by
      cases e with
      | normal=>simp only [thnZ] at h ⊢; obtain⟨b0,b1,h1,h2,h3,h4⟩:=h; exact⟨⟨b0,b1⟩,h1,h2,h3,h4⟩
      | _=>exact h
theorem az_loop3 {A0 A1 A2:Type} {c:Code} (S:A0->A1->A2->St) (g:A0->A1->A2->Γ) (H:A0->A1->A2->Prop) (μ:A0->A1->A2->Nat) (h0 : ∃ a0 a1 a2,GhE st (S a0 a1 a2)/\γ = g a0 a1 a2/\H a0 a1 a2)
    (round : ∀ a0 a1 a2,H a0 a1 a2->AZ P Φ c (thnZ (fun γ' st'=>∃ b0 b1 b2,GhE st' (S b0 b1 b2)/\γ' = g b0 b1 b2/\H b0 b1 b2/\μ b0 b1 b2 < μ a0 a1 a2) Q) (g a0 a1 a2) (S a0 a1 a2)):AZ P Φ (.loop c) Q γ st:=
  az_loop (X:=A0 × A1 × A2) (fun x=>S x.1 x.2.1 x.2.2) (fun x=>g x.1 x.2.1 x.2.2) (fun x=>H x.1 x.2.1 x.2.2) (fun x=>μ x.1 x.2.1 x.2.2) (by obtain⟨a0,a1,a2,h1,h2,h3⟩:=h0; exact⟨⟨a0,a1,a2⟩,h1,h2,h3⟩)
    fun x hx=>az_mono (round x.1 x.2.1 x.2.2 hx) fun e γ' s h=>by
      cases e with
      | normal=>simp only [thnZ] at h ⊢; obtain⟨b0,b1,b2,h1,h2,h3,h4⟩:=h; exact⟨⟨b0,b1,b2⟩,h1,h2,h3,h4⟩
      | _=>exact h
theorem az_loop7 {A0 A1 A2 A3 A4 A5 A6:Type} {c:Code} (S:A0->A1->A2->A3->A4->A5->A6->St) (g:A0->A1->A2->A3->A4->A5->A6->Γ) (H:A0->A1->A2->A3->A4->A5->A6->Prop) (μ:A0->A1->A2->A3->A4->A5->A6->Nat) (h0 : ∃ a0 a1 a2 a3 a4 a5 a6,GhE st (S a0 a1 a2 a3 a4 a5 a6)/\γ = g a0 a1 a2 a3 a4 a5 a6/\H a0 a1 a2 a3 a4 a5 a6)
    (round : ∀ a0 a1 a2 a3 a4 a5 a6,H a0 a1 a2 a3 a4 a5 a6->AZ P Φ c (thnZ (fun γ' st'=>∃ b0 b1 b2 b3 b4 b5 b6,GhE st' (S b0 b1 b2 b3 b4 b5 b6)/\γ' = g b0 b1 b2 b3 b4 b5 b6/\H b0 b1 b2 b3 b4 b5 b6/\μ b0 b1 b2 b3 b4 b5 b6 < μ a0 a1 a2 a3 a4 a5 a6) Q) (g a0 a1 a2 a3 a4 a5 a6) (S a0 a1 a2 a3 a4 a5 a6)):AZ P Φ (.loop c) Q γ st:=
  az_loop (X:=A0 × A1 × A2 × A3 × A4 × A5 × A6) (fun x=>S x.1 x.2.1 x.2.2.1 x.2.2.2.1 x.2.2.2.2.1 x.2.2.2.2.2.1 x.2.2.2.2.2.2) (fun x=>g x.1 x.2.1 x.2.2.1 x.2.2.2.1 x.2.2.2.2.1 x.2.2.2.2.2.1 x.2.2.2.2.2.2) (fun x=>H x.1 x.2.1 x.2.2.1 x.2.2.2.1 x.2.2.2.2.1 x.2.2.2.2.2.1 x.2.2.2.2.2.2) (fun x=>μ x.1 x.2.1 x.2.2.1 x.2.2.2.1 x.2.2.2.2.1 x.2.2.2.2.2.1 x.2.2.2.2.2.2) (by obtain⟨a0,a1,a2,a3,a4,a5,a6,h1,h2,h3⟩:=h0; exact⟨⟨a0,a1,a2,a3,a4,a5,a6⟩,h1,h2,h3⟩)
    fun x hx=>az_mono (round x.1 x.2.1 x.2.2.1 x.2.2.2.1 x.2.2.2.2.1 x.2.2.2.2.2.1 x.2.2.2.2.2.2 hx) fun e γ' s h=>by
      cases e with
      | normal=>simp only [thnZ] at h ⊢; obtain⟨b0,b1,b2,b3,b4,b5,b6,h1,h2,h3,h4⟩:=h; exact⟨⟨b0,b1,b2,b3,b4,b5,b6⟩,h1,h2,h3,h4⟩
      | _=>exact h
end
def MpT (P:Program) (T:TypeId) (k e:TypeId):Prop:=P.underlying T = some (.map k e)/\P.underlying k = some .string/\P.underlying e = some .bool/\∀ w,(zeroValue e).run P w = .ok (.bool false) w
def MapAt (P:Program) (k e:TypeId) (w:World) (b:Nat) (ks:List (List UInt8)):Prop:=
  ∃ (n:Nat) (D:DataW Unit),w.ownsMap P k (plainElem P e) b n D/\n<=ks.length/\∀ s:List UInt8,D.atKey (.string s) (.lit (.bool false)) = .lit (.bool (decide (s ∈ ks)))
theorem MapAt.same {P:Program} {k e:TypeId} {w w' : World} {b:Nat} {ks:List (List UInt8)} (h:MapAt P k e w b ks) (hk:w'.heap[b]? = w.heap[b]?):MapAt P k e w' b ks:=
  let ⟨n,D,⟨es,c,h1,h2⟩,h3⟩:=h
  ⟨n,D,⟨es,c,hk.trans h1,h2⟩,h3⟩
theorem MapAt.put {P:Program} {T k e:TypeId} (hT:MpT P T k e) {w:World} {b:Nat} {ks:List (List UInt8)} (h:MapAt P k e w b ks) (s:List UInt8) (hs:(s.length:Int)<=1000000) (hn:(ks.length:Int)<=1000000) :
    ∃ w',(Instr.mapUpdate T (.map (some b)) (.string ⟨s.toArray⟩) (.bool true)).run P w = .ok () w'/\MapAt P k e w' b (ks ++ [s])/\w.grownBy w' (some b):=by
  obtain⟨n,D,h1,h2,h3⟩:=h
  obtain⟨w',r1,r2,r3⟩:=h1.update (Maps.string_keyed hT.2.1) hT.1 (by simp [maxLen]; omega) (key:=.string ⟨s.toArray⟩) (kl:=.string s) (val:=.bool true) (by
    have:=WideMaps.keyOf_string_mk hT.2.1 (s:=⟨s.toArray⟩) (by simp [ByteArray.size,maxLen]; omega)
    simpa using this) (plainElem_bool hT.2.2.1 true)
  refine⟨w',r1,⟨n + 1,_,r2,by simp; omega,fun t=>?_⟩,r3⟩
  by_cases e:t = s
  · subst e
    obtain⟨es,c,_,_,_,rfl⟩:=h1
    rw [Maps.atKey_put_same ⟨_,rfl⟩ (by simp [WideAt.IsKeyLit])]; simp
  · rw [Maps.atKey_put_other (fun k=>e (by cases k; rfl)),h3]
    simp [e]
section
variable {P:Program} {k e:TypeId} {G0:Glob} {ops:Array Oper} {K:Option (Nat × List (List UInt8))->St->Prop} {st:St} {rest:List Oper} {ty:TypeId} {dst:Option Nat} {pos:String} {after:Array Edge}
end
end Go.Proofs.YtjolbldlhjfciaaGreatDoor