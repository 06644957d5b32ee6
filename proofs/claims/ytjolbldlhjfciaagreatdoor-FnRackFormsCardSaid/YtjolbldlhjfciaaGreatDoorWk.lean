/- The value layer: the loop that ranges over a function, as the printed walks take it; no condition. -/
import Derived.Test.YtjolbldlhjfciaaGreatDoorWj
namespace Go.Proofs.YtjolbldlhjfciaaGreatDoor
theorem slf_ints (l:List Int):slfL (ints l) = true:=slfL_map (fun _=>rfl) l
theorem slf_orows (t:List (List Int)):slfL (orows t) = true:=slfL_map (fun r=>by simp only [C.slf]; exact slf_ints r) t
theorem slf_ci (n:Int):(ci n).slf = true:=rfl
def rqE {X:Type} (T:X->List (Nat × Ob)) (H:Nat->X->Prop) (Q:Exit->St->Prop) (eg:List (Nat × V)) (k:Nat) (env:List (Nat × V)) (n:Nat):Exit->St->Prop
  | .normal,s=>∃ x,GhE s ⟨T x,eg,n⟩/\σok (T x) = true/\H (k + 1) x
  | .ret,s=>∃ σ,GhE s ⟨σ,eg,n⟩/\σok σ = true/\Q .ret ⟨σ,env,n⟩
  | .exit id,s=>∃ σ,GhE s ⟨σ,eg,n⟩/\σok σ = true/\Q (.exit id) ⟨σ,env,n⟩
  | _,_=>False
section
variable {P:Program} {Q:Exit->St->Prop} {A0 α:Type}
theorem ar_rangeE {g:Operand} {p f n:Nat} {assign body:Code} {args:List C} {L:List α} {en:α->C} {σ:List (Nat × Ob)} {env:List (Nat × V)} (ofs:Nat) (eg:List (Nat × V)) (T:A0->List (Nat × Ob)) (H:Nat->A0->Prop) (hs:SeqA P f args (L.map en))
    (hg:St.ev ⟨σ,env,n⟩ g = some (.c (.clo f args))) (hp:Nat.blt p n = true) (hok:env.all (fun p=>vOk p.2 && Nat.blt p.1 ofs) = true) (hofs:Nat.ble n ofs = true) (heg:gh0 ofs env = eg) (h0 : ∃ x,GhE ⟨σ,env,n⟩ ⟨T x,env,n⟩/\σok (T x) = true/\H 0 x)
    (round : ∀ k x e,L[k]? = some e->H k x->AW P assign (thn (AW P body (rqE T H Q eg k env n)) (fun _ _=>False)) ⟨T x,(p,.c (en e)) :: (env ++ eg),n⟩)
    (done : ∀ x,H L.length x->Q .normal ⟨T x,env,n⟩):AR P (.rangeFunc g #[p] assign body) Q ⟨σ,env,n⟩:=by
  obtain⟨x0,⟨Y,hgh⟩,hx0,hH0⟩:=h0
  subst heg
  refine ar_range ofs T H hs hg (Nat.le_of_ble_eq_true hp) hok (Nat.le_of_ble_eq_true hofs) ⟨x0,Y,hgh,hx0,hH0⟩ (fun k x c hc hH=>?_) fun x hx=>done x (by rw [List.length_map] at hx; exact hx)
  rw [List.getElem?_map] at hc
  obtain⟨e,he,rfl⟩:=Option.map_eq_some_iff.1 hc
  refine aw_mono (round k x e he hH) fun ex s h=>?_
  cases ex with
  | normal=>
    refine aw_mono (show AW P body _ s from h) fun ex s h=>?_
    cases ex with
    | normal=>obtain⟨x,⟨Y,h1⟩,h2,h3⟩:=h; exact⟨x,Y,h1,h2,h3⟩
    | ret=>obtain⟨σ,⟨Y,h1⟩,h2,h3⟩:=h; exact⟨σ,Y,h1,h2,h3⟩
    | exit id=>obtain⟨σ,⟨Y,h1⟩,h2,h3⟩:=h; exact⟨σ,Y,h1,h2,h3⟩
    | _=>exact h.elim
  | _=>exact h.elim
end
end Go.Proofs.YtjolbldlhjfciaaGreatDoor
