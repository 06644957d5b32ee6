/- The value layer: what an iterator does for its loop, and the loop over it; no condition. -/
import Derived.Test.YtjolbldlhjfciaaGreatDoorWg
namespace Go.Proofs.YtjolbldlhjfciaaGreatDoor
def Abd (n0:Nat) (Z:Nat->Prop) (W W' : World):Prop:=
  W.heap.size<=W'.heap.size/\(∀ b,(Z b\/b < n0)->b < W.heap.size->W'.heap[b]? = W.heap[b]?)/\W'.os = W.os/\W'.tape = W.tape/\W'.output = W.output
def Grw (Z:Nat->Prop) (W:World) (Z' : Nat->Prop) (W' : World):Prop:=
  W.heap.size<=W'.heap.size/\(∀ b,b < W.heap.size->¬ Z b->W'.heap[b]? = W.heap[b]?)/\(∀ b,Z' b->b < W'.heap.size/\(Z b\/W.heap.size<=b))/\W'.os = W.os/\W'.tape = W.tape/\W'.output = W.output
structure SeqA (P:Program) (f:Nat) (args:List C) (xs:List C):Prop where
  ent:EntB P f = true
  out : ∀ (l:Nat) (w:World) (I:Nat->Prop) (vals:List Value) (J:Nat->World->(Nat->Prop)->Prop) (Jx:World->(Nat->Prop)->Prop),
    (∀ b,I b->b < w.heap.size)->RpL w I args vals []->
    (∀ k W W' Z,J k W Z->Abd w.heap.size Z W W'->J k W' Z)->(∀ W W' Z,Jx W Z->Abd w.heap.size Z W W'->Jx W' Z)->
    (∀ k W Z (Ie:Nat->Prop) c v,xs[k]? = some c->J k W Z->w.heap.size<=W.heap.size->(∀ b,Ie b->b < W.heap.size/\¬ Z b)->Rp W Ie c v []->
      YieldAt (Fw none) 0 P l #[v] W fun e W'=>(e = .returned (.bool true)/\∃ Z',J (k + 1) W' Z'/\Grw Z W Z' W')\/(e = .returned (.bool false)/\∃ Z',Jx W' Z'/\Grw Z W Z' W'))->
    ∀ Z,J 0 w Z->(∀ b,Z b->b < w.heap.size/\¬ I b)->
    CallsIn (Fw none) 0 P f (#[.func (.yield l) #[] #[]] ++ vals.toArray) w fun e W'=>(∃ v,e = .returned v)/\((∃ Z',J xs.length W' Z')\/∃ Z',Jx W' Z')
def σok (σ:List (Nat × Ob)):Bool:=σ.all fun p=>slfL p.2.xs && p.2.holes.isEmpty
def vOk:V->Bool
  | .c _ | .ref _ | .cell _ _=>true
  | _=>false
def gh0 (ofs:Nat) (env:List (Nat × V)):List (Nat × V):=env.map fun p=>(p.1 + ofs,p.2)
theorem lk_gh0 {ofs i:Nat} {u:V} : ∀ {env:List (Nat × V)},lk i env = some u->lk (i + ofs) (gh0 ofs env) = some u
  | [],h=>by cases h
  | (j,v) :: r,h=>by
    unfold lk at h
    simp only [gh0,List.map_cons]
    unfold lk
    cases hb:Nat.beq j i with
    | true=>
      rw [hb] at h
      rw [show Nat.beq (j + ofs) (i + ofs) = true by simp only [Nat.beq_eq] at hb ⊢; omega]; exact h
    | false=>
      rw [hb] at h
      rw [show Nat.beq (j + ofs) (i + ofs) = false by
        rw [Bool.eq_false_iff] at hb ⊢; intro g; apply hb; simp only [Nat.beq_eq] at g ⊢; omega]
      exact lk_gh0 (env:=r) h
theorem lk_gh0' {ofs j:Nat} {u:V} : ∀ {env:List (Nat × V)},lk j (gh0 ofs env) = some u->∃ i,j = i + ofs/\lk i env = some u
  | [],h=>by cases h
  | (k,v) :: r,h=>by
    simp only [gh0,List.map_cons] at h
    unfold lk at h
    cases hb:Nat.beq (k + ofs) j with
    | true=>
      rw [hb] at h
      refine⟨k,by simp only [Nat.beq_eq] at hb; omega,?_⟩
      unfold lk; rw [show Nat.beq k k = true by simp]; exact h
    | false=>
      rw [hb] at h
      obtain⟨i,e,h2⟩:=lk_gh0' (env:=r) h
      refine⟨i,e,?_⟩
      unfold lk
      rw [show Nat.beq k i = false by
        rw [Bool.eq_false_iff] at hb ⊢; intro g; apply hb; simp only [Nat.beq_eq] at g ⊢; omega]
      exact h2
theorem lk_app {i:Nat} {u:V} : ∀ {l l' : List (Nat × V)},lk i (l ++ l') = some u->lk i l = some u\/lk i l' = some u
  | [],_,h=>.inr h
  | (j,v) :: r,l',h=>by
    rw [List.cons_append] at h
    cases hb:Nat.beq j i with
    | true=>left; simp only [lk,hb,cond_true] at h ⊢; exact h
    | false=>
      simp only [lk,hb,cond_false] at h
      rcases lk_app h with g | g
      · left; simp only [lk,hb,cond_false]; exact g
      · exact .inr g
theorem lk_key {i:Nat} {u:V} {f:Nat × V->Bool} {env:List (Nat × V)} (h:env.all f = true) (hl:lk i env = some u):f (i,u) = true:=List.all_eq_true.1 h _ (mem_of_lk hl)
def rq {X:Type} (T:X->List (Nat × Ob)) (H:Nat->X->Prop) (Q:Exit->St->Prop) (ofs k:Nat) (env:List (Nat × V)) (n:Nat):Exit->St->Prop
  | .normal,s=>∃ x Y,Gh Y s ⟨T x,gh0 ofs env,n⟩/\σok (T x) = true/\H (k + 1) x
  | .ret,s=>∃ σ Y,Gh Y s ⟨σ,gh0 ofs env,n⟩/\σok σ = true/\Q .ret ⟨σ,env,n⟩
  | .exit id,s=>∃ σ Y,Gh Y s ⟨σ,gh0 ofs env,n⟩/\σok σ = true/\Q (.exit id) ⟨σ,env,n⟩
  | _,_=>False
def JJ (G:Glob) (D:Data) (st:St) (a:Act) (w:World) (ofs l:Nat) (R:List (Nat × Ob)->Prop) (o:Loop) (W:World) (Z:Nat->Prop):Prop:=
  ∃ (σ:List (Nat × Ob)) (D' : Data),R σ/\
    Rep D' ⟨W,fun b=>∃ p ∈ σ,b ∈ D'.fp p.1,Imm G st.σ D.fp w,fun i=>if ofs<=i then slot G st.n a (i - ofs) else G.gv i,[]⟩ ⟨σ,gh0 ofs st.env,st.n⟩ { tmps:=a.tmps,defers:=[] } W/\
    W.heap[l]? = some (.loop o)/\W.heap[w.heap.size]? = some (.deferred (some []))/\(∀ b,Z b↔b = l\/b = w.heap.size\/∃ p ∈ σ,b ∈ D'.fp p.1)/\
    w.heap.size + 2<=W.heap.size/\(∀ b,b < w.heap.size->(∀ p ∈ st.σ,b ∉ D.fp p.1)->W.heap[b]? = w.heap[b]?)/\
    (∀ p ∈ σ,∀ b ∈ D'.fp p.1,(b < w.heap.size/\∃ p ∈ st.σ,b ∈ D.fp p.1)\/w.heap.size + 2<=b)/\W.os = w.os/\W.tape = w.tape/\W.output = w.output
section
variable {P:Program} {G:Glob} {D:Data} {st:St} {a:Act} {w:World} {ofs l:Nat} {rec:LoopState->Option Code->Loop} {R:List (Nat × Ob)->Prop} {o:Loop}
theorem JJ.abide (hl:l = w.heap.size + 1) {W W' : World} {Z:Nat->Prop} (h:JJ G D st a w ofs l R o W Z) (ha:Abd (w.heap.size + 2) Z W W'):JJ G D st a w ofs l R o W' Z:=by
  obtain⟨σ,D',h1,hr,h3,h4,h5,h6,h7,h8,h9,h10,h11⟩:=h
  obtain⟨a1,a2,a3,a4,a5⟩:=ha
  have hfp : ∀ p ∈ σ,∀ b ∈ D'.fp p.1,W'.heap[b]? = W.heap[b]?:=fun p hp b hb=>a2 b (.inl ((h5 b).2 (.inr (.inr ⟨p,hp,hb⟩)))) (hr.lt hp hb)
  have hr':=hr.rebase (w':=W') (Imm G st.σ D.fp w) (fun b hb=>by
      rcases hb.1 with g | ⟨p,hp,g⟩ | g
      · exact g
      · exact absurd g (hb.2.2 p hp)
      · exact absurd hb.2.1 (Nat.not_lt.2 g)) (fun b hb=>by have:=hb.2.1; omega) (fun b hb=>a2 b (.inr (by
      rcases hb.1 with g | ⟨p,hp,g⟩ | g
      · have:=g.2.1; omega
      · exact absurd g (hb.2.2 p hp)
      · exact absurd hb.2.1 (Nat.not_lt.2 g))) hb.2.1) hfp a1
  refine⟨σ,D',h1,hr',?_,?_,h5,by omega,fun b hb hn=>(a2 b (.inr (by omega)) (by omega)).trans (h7 b hb hn),h8,a3.trans h9,a4.trans h10,a5.trans h11⟩
  · exact (a2 l (.inr (by omega)) (by omega)).trans h3
  · exact (a2 _ (.inr (by omega)) (by omega)).trans h4
theorem slot_ge {G:Glob} {n i:Nat} {a:Act} (h:n<=i):slot G n a i = G.gv i:=by
  unfold slot
  rw [show Nat.blt i n = false by rw [Bool.eq_false_iff]; intro g; rw [Nat.blt_eq] at g; omega]; rfl
theorem round_end (hrep:Rep D G st a w) (hok:st.env.all (fun p=>vOk p.2 && Nat.blt p.1 ofs) = true) (hofs:st.n<=ofs) (hl:l = w.heap.size + 1) {W:World} {Z:Nat->Prop}
    (hZ : ∀ b,Z b->b = l\/b = w.heap.size\/(b < w.heap.size/\∃ p ∈ st.σ,b ∈ D.fp p.1)\/w.heap.size + 2<=b) (hZl:Z l/\Z w.heap.size) (hW:w.heap.size + 2<=W.heap.size)
    (hWw : ∀ b,b < w.heap.size->(∀ p ∈ st.σ,b ∉ D.fp p.1)->W.heap[b]? = w.heap[b]?) (hWo:W.os = w.os/\W.tape = w.tape/\W.output = w.output)
    {G2:Glob} {D3:Data} {σ3:List (Nat × Ob)} {a3:Act} {w4:World} {r1:Loop} (hr:Rep D3 G2 ⟨σ3,gh0 ofs st.env,st.n⟩ a3 w4) (hgv:G2.gv = fun i=>if ofs<=i then slot G st.n a (i - ofs) else G.gv i) (hσ:σok σ3 = true)
    (hA:W.heap.size<=G2.w0.heap.size) (hB : ∀ b,b < W.heap.size->¬ Z b->G2.w0.heap[b]? = W.heap[b]?) (hC : ∀ b,G2.F0 b->(Z b/\b≠l/\b≠w.heap.size)\/W.heap.size<=b)
    (hD:G2.w0.heap[l]? = some (.loop r1)/\G2.w0.heap[w.heap.size]? = some (.deferred (some []))) (hE:G2.w0.os = W.os/\G2.w0.tape = W.tape/\G2.w0.output = W.output) (hR:R σ3) :
    w4.heap[l]? = some (.loop r1)/\∀ o' : Loop,∃ Z',JJ G D st a w ofs l R o' (w4.putObj l (.loop o')) Z'/\Grw Z W Z' (w4.putObj l (.loop o')):=by
  have hnl : ¬ G2.F0 l:=fun g=>by exact (hC l g).elim (fun g=>g.2.1 rfl) (fun g=>by omega)
  have hnd : ¬ G2.F0 w.heap.size:=fun g=>by exact (hC _ g).elim (fun g=>g.2.2 rfl) (fun g=>by omega)
  have hfp : ∀ p ∈ σ3,∀ b ∈ D3.fp p.1,(Z b/\b≠l/\b≠w.heap.size)\/W.heap.size<=b:=fun p hp b hb=>by
    rcases hr.own p hp b hb with g | g
    · exact hC b g
    · exact .inr (by omega)
  have hfp2 : ∀ p ∈ σ3,∀ b ∈ D3.fp p.1,(b < w.heap.size/\∃ p ∈ st.σ,b ∈ D.fp p.1)\/w.heap.size + 2<=b:=fun p hp b hb=>by
    rcases hfp p hp b hb with ⟨g,g1,g2⟩ | g
    · rcases hZ b g with h | h | h
      · exact absurd h g1
      · exact absurd h g2
      · exact h
    · exact .inr (by omega)
  have h4l:w4.heap[l]? = some (.loop r1):=(hr.frame l (by omega) hnl).trans hD.1
  have h4d:w4.heap[w.heap.size]? = some (.deferred (some [])):=(hr.frame _ (by omega) hnd).trans hD.2
  have hs4:=hr.size
  refine⟨h4l,fun o'=>⟨fun b=>b = l\/b = w.heap.size\/∃ p ∈ σ3,b ∈ D3.fp p.1,?_,?_⟩⟩
  · have hne : ∀ p ∈ σ3,∀ b ∈ D3.fp p.1,b≠l:=fun p hp b hb e=>by exact (hfp p hp b hb).elim (fun g=>g.2.1 e) (fun g=>by omega)
    have h5 : ∀ b,b≠l->(w4.putObj l (.loop o')).heap[b]? = w4.heap[b]?:=fun b hb=>World.putObj_heap_other hb
    have h5w : ∀ b,b < w.heap.size->(∀ p ∈ st.σ,b ∉ D.fp p.1)->(w4.putObj l (.loop o')).heap[b]? = w.heap[b]?:=fun b hb hn=>by
      have hnz : ¬ Z b:=fun g=>by
        rcases hZ b g with h | h | ⟨_,p,hp,h⟩ | h
        · omega
        · omega
        · exact hn p hp h
        · omega
      rw [h5 b (by omega),hr.frame b (by omega) (fun g=>by exact (hC b g).elim (fun g=>hnz g.1) (fun g=>by omega)),hB b (by omega) hnz]; exact hWw b hb hn
    refine⟨σ3,D3,hR,⟨fun p hp=>?_,hr.dom,hr.nodup,hr.disj1,hr.disj2,fun j v hv=>?_,fun p hp b hb=>.inl ⟨p,hp,hb⟩,fun _ _ _=>rfl,Nat.le_refl _,rfl,rfl,rfl,hrep.ntmps,rfl⟩,World.putObj_heap_same (by omega),(h5 _ (by omega)).trans h4d,fun b=>Iff.rfl,by simp; omega,h5w,hfp2,hr.os.trans (hE.1.trans hWo.1),hr.tape.trans (hE.2.1.trans hWo.2.1),hr.output.trans (hE.2.2.trans hWo.2.2)⟩
    · obtain⟨lo,h1,h2⟩:=hr.obs p hp
      have hk:=List.all_eq_true.1 hσ p hp
      simp only [Bool.and_eq_true,List.isEmpty_iff] at hk
      refine⟨lo,h1,?_⟩
      rcases h2 with ⟨e1,e2,e3,e4⟩ | ⟨e1,e2,vs,f,e3,e4,e5,e6⟩
      · exact .inl ⟨e1,e2,e3,e4⟩
      · have hf : ∀ b ∈ f,(w4.putObj l (.loop o')).heap[b]? = w4.heap[b]?:=fun b hb=>h5 b (hne p hp b (by rw [e3]; exact List.mem_cons_of_mem _ hb))
        have hb0:(w4.putObj l (.loop o')).heap[lo.b]? = w4.heap[lo.b]?:=h5 _ (hne p hp _ (by rw [e3]; exact List.mem_cons_self))
        refine .inr ⟨e1,e2,vs,f,e3,RpL.frame (I:=fun _=>False) (fun _ g=>g.elim) (fun _ g=>g.elim) _ _ _ hf (RpL.slf _ _ _ hk.1 e4),e5.frame hb0,fun h hh=>?_⟩
        rw [hk.2] at hh; cases hh
    · obtain⟨i,rfl,h0⟩:=lk_gh0' hv
      obtain⟨x,hx,hv2⟩:=hr.env _ v hv
      rw [slot_ge (show st.n<=i + ofs by omega),hgv] at hx
      simp only [show ofs<=i + ofs by omega,if_true,Nat.add_sub_cancel] at hx
      refine⟨x,by rw [slot_ge (show st.n<=i + ofs by omega)]; simp only [show ofs<=i + ofs by omega,if_true,Nat.add_sub_cancel]; exact hx,?_⟩
      have hk:=lk_key hok h0
      simp only [Bool.and_eq_true] at hk
      cases v with
      | c c=>
        obtain⟨x',hx',hv'⟩:=hrep.env i _ h0
        rw [hx] at hx'; cases hx'
        simp only [VRp] at hv' ⊢
        refine Rp.frame (fun b hb=>⟨.inl hb,by have:=hb.2.1; simp; omega,fun p hp g=>?_⟩) (fun b hb=>h5w b hb.2.1 hb.2.2) _ _ _ (by simp) hv'
        rcases hfp2 p hp b g with ⟨_,q,hq,g2⟩ | g2
        · exact hb.2.2 q hq g2
        · have:=hb.2.1; omega
      | ref id=>exact hv2
      | cell id off=>exact hv2
      | _=>simp [vOk] at hk
  · refine⟨by simp; omega,fun b hb hn=>?_,fun b hb=>?_,hr.os.trans hE.1,hr.tape.trans hE.2.1,hr.output.trans hE.2.2⟩
    · have hbl:b≠l:=fun e=>hn (e ▸ hZl.1)
      rw [World.putObj_heap_other hbl,hr.frame b (by omega) (fun g=>by exact (hC b g).elim (fun g=>hn g.1) (fun g=>by omega))]; exact hB b hb hn
    · rw [World.putObj_size]
      rcases hb with rfl | rfl | ⟨p,hp,g⟩
      · exact⟨by omega,.inl hZl.1⟩
      · exact⟨by omega,.inl hZl.2⟩
      · exact⟨hr.lt hp g,by exact (hfp p hp b g).elim (fun g=>.inl g.1) (fun g=>by exact .inr g)⟩
end
end Go.Proofs.YtjolbldlhjfciaaGreatDoor
