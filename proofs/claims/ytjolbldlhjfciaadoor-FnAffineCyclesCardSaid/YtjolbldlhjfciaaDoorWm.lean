/- The value layer: walks beside which something is carried that no object holds (a ghost that is told of the globals); maps of texts used as sets; no condition. -/
import Derived.Test.YtjolbldlhjfciaaDoorWl
import Derived.Maps.Own
import Derived.Maps.Views
import Derived.StringKeys
import Derived.Carry
namespace Go.Proofs.YtjolbldlhjfciaaDoor
structure AZ {Γ : Type} (P : Program) (Φ : Γ → Glob → Prop) (c : Code) (Q : Exit → Γ → St → Prop) (γ : Γ) (st : St) : Prop where
  out : ∀ (G : Glob) (D : Data) (a : Act) (w : World), Rep D G st a w → Φ γ G → c.wpIn (Fw none) 0 P (fun e a' w' => ∃ γ' G' D' st', Q e γ' st' ∧ Rep D' G' st' a' w' ∧ Φ γ' G') a w
structure RunZ {Γ : Type} (P : Program) (Φ : Γ → Glob → Prop) (ops : Array Oper) (K : Γ → St → Prop) (l : List Oper) (γ : Γ) (st : St) : Prop where
  out : ∀ (G : Glob) (D : Data) (a : Act) (w : World), Rep D G st a w → Φ γ G → ∀ Q : Exit → Act → World → Prop, (∀ γ' G' D' st' a' w', K γ' st' → Rep D' G' st' a' w' → Φ γ' G' → Q .normal a' w') → wpListIn (Fw none) 0 P ops Q l a w
def thnZ {Γ : Type} (K : Γ → St → Prop) (Q : Exit → Γ → St → Prop) : Exit → Γ → St → Prop
  | .normal, γ, st => K γ st
  | e, γ, st => Q e γ st
def inBlkZ {Γ : Type} (id : Nat) (Q : Exit → Γ → St → Prop) : Exit → Γ → St → Prop
  | .exit id', γ, st => if id' = id then Q .normal γ st else Q (.exit id') γ st
  | e, γ, st => Q e γ st
section
variable {Γ : Type} {P : Program} {Φ : Γ → Glob → Prop} {ops : Array Oper} {K : Γ → St → Prop} {γ : Γ} {st : St} {rest : List Oper}
theorem rz_nil (h : K γ st) : RunZ P Φ ops K [] γ st := ⟨fun _ _ _ _ hr hp _ hQ => hQ _ _ _ _ _ _ h hr hp⟩
theorem rz_s {op : Op} {ty : TypeId} {dst : Option Nat} {pos : String} {after : Array Edge} {v : V} (hs : SS P (some []) op ty st v) (hd : dOk dst st.n = true) (h : RunZ P Φ ops K rest γ (st.put dst v)) :
    RunZ P Φ ops K (⟨dst, op, ty, pos, after, none⟩ :: rest) γ st := ⟨fun G D a w hr hp Q hQ => by
  obtain ⟨x, hx, hrun⟩ := hs D G a w hr
  exact wpListIn_plain rfl fun K' hK' => wpIn_of_ok (hrun w (AgreeO.refl _ _ _) dst pos after none) (hK' _ _ (h.out G D _ w (hr.put (dOk_spec hd) hx) hp Q hQ))⟩
theorem rz_w {op : Op} {ty : TypeId} {dst : Option Nat} {pos : String} {after : Array Edge} {X Y : List Nat} (hw : WS P X Y op ty st (fun v st' => dOk dst st'.n = true ∧ RunZ P Φ ops K rest γ (st'.put dst v))) :
    RunZ P Φ ops K (⟨dst, op, ty, pos, after, none⟩ :: rest) γ st := ⟨fun G D a w hr hp Q hQ => by
  have h1 := hw D G a w hr dst pos after none
  exact wpListIn_plain rfl fun K' hK' => wpIn_of_vals (o := ⟨dst, op, ty, pos, after, none⟩) h1 fun x w' ⟨D', v, st', ⟨hd, hk⟩, hr', hx, _⟩ => hK' _ _ (hk.out G D' _ w' (hr'.put (dOk_spec hd) hx) hp Q hQ)⟩
theorem rz_gh {Y : List Nat} {st' : St} {l : List Oper} (hg : Gh Y st st') (h : RunZ P Φ ops K l γ st') : RunZ P Φ ops K l γ st := ⟨fun G D a w hr hp Q hQ => by
  obtain ⟨D', h1, _⟩ := hg D G a w hr
  exact h.out G D' a w h1 hp Q hQ⟩
/-- An operation that runs to its end by itself, the ghost with it. -/
theorem rz_op {op : Op} {ty : TypeId} {dst : Option Nat} {pos : String} {after : Array Edge} (h : ∀ (G : Glob) (D : Data) (a : Act) (w : World), Rep D G st a w → Φ γ G →
    ∃ R : Value → World → Prop, valsR P R ((execOp a.eval ⟨dst, op, ty, pos, after, none⟩).run P w) ∧ ∀ x w', R x w' → ∃ γ' G' D' v st', Rep D' G' st' a w' ∧ VRp w' (Imm G' st'.σ D'.fp w') D'.M v x ∧ Φ γ' G' ∧ dOk dst st'.n = true ∧ RunZ P Φ ops K rest γ' (st'.put dst v)) :
    RunZ P Φ ops K (⟨dst, op, ty, pos, after, none⟩ :: rest) γ st := ⟨fun G D a w hr hp Q hQ => by
  obtain ⟨R, h1, h2⟩ := h G D a w hr hp
  exact wpListIn_plain rfl fun K' hK' => wpIn_of_vals (o := ⟨dst, op, ty, pos, after, none⟩) h1 fun x w' hx => by
    obtain ⟨γ', G', D', v, st', hr', hv, hp', hd, hk⟩ := h2 x w' hx
    exact hK' _ _ (hk.out G' D' _ w' (hr'.put (dOk_spec hd) hv) hp' Q hQ)⟩
end
section
variable {Γ : Type} {P : Program} {Φ : Γ → Glob → Prop} {Q : Exit → Γ → St → Prop} {γ : Γ} {st : St}
theorem az_aw {c : Code} (h : AW P c (fun e s => Q e γ s) st) : AZ P Φ c Q γ st := ⟨fun G D a w hr hp => wpIn_mono (h.out G D a w hr none) fun _ _ _ ⟨D', st', h1, h2⟩ => ⟨γ, G, D', st', h1, h2, hp⟩⟩
theorem az_skip (h : Q .normal γ st) : AZ P Φ .skip Q γ st := ⟨fun G D _ _ hr hp => wpIn_skip ⟨γ, G, D, st, h, hr, hp⟩⟩
theorem az_ret (h : Q .ret γ st) : AZ P Φ .ret Q γ st := ⟨fun G D _ _ hr hp => wpIn_ret ⟨γ, G, D, st, h, hr, hp⟩⟩
theorem az_exit {id : Nat} (h : Q (.exit id) γ st) : AZ P Φ (.exit id) Q γ st := ⟨fun G D _ _ hr hp => wpIn_exit ⟨γ, G, D, st, h, hr, hp⟩⟩
theorem az_region {id : Nat} {l : List Oper} (h : RunZ P Φ l.toArray (Q .normal) l γ st) : AZ P Φ (.region id l.toArray false) Q γ st :=
  ⟨fun G D a w hr hp => wpIn_region_lit (h.out G D a w hr hp _ (fun γ' G' D' st' _ _ hk hr' hp' => ⟨γ', G', D', st', hk, hr', hp'⟩))⟩
theorem az_seq {x y : Code} (h : AZ P Φ x (thnZ (AZ P Φ y Q) Q) γ st) : AZ P Φ (.seq x y) Q γ st := ⟨fun G D a w hr hp =>
  wpIn_seq (wpIn_mono (h.out G D a w hr hp) fun e a' w' ⟨γ', G', D', st', h1, h2, h3⟩ => by
    cases e with
    | normal => exact AZ.out h1 G' D' a' w' h2 h3
    | _ => exact ⟨γ', G', D', st', h1, h2, h3⟩)⟩
theorem az_cond {c : Operand} {x y : Code} {b : Bool} (hc : st.ev c = some (.c (.val (.bool b)))) (ht : b = true → AZ P Φ x Q γ st) (hf : b = false → AZ P Φ y Q γ st) : AZ P Φ (.cond c x y) Q γ st := ⟨fun G D a w hr hp =>
  wpIn_cond_split (t := b) (hr.evVal hc) (fun h => (ht h).out G D a w hr hp) (fun h => (hf h).out G D a w hr hp)⟩
theorem az_block {id : Nat} {c : Code} (h : AZ P Φ c (inBlkZ id Q) γ st) : AZ P Φ (.block id c) Q γ st := ⟨fun G D a w hr hp =>
  wpIn_block (wpIn_mono (h.out G D a w hr hp) fun e a' w' ⟨γ', G', D', st', h1, h2⟩ => by
    cases e with
    | exit id' =>
      simp only [inBlkZ] at h1
      simp only [Exit.inBlock]
      split
      · rename_i he; rw [if_pos he] at h1; exact ⟨γ', G', D', st', h1, h2⟩
      · rename_i he; rw [if_neg he] at h1; exact ⟨γ', G', D', st', h1, h2⟩
    | _ => exact ⟨γ', G', D', st', h1, h2⟩)⟩
theorem az_gh {Y : List Nat} {st' : St} {c : Code} (hg : Gh Y st st') (h : AZ P Φ c Q γ st') : AZ P Φ c Q γ st := ⟨fun G D a w hr hp =>
  let ⟨D', h1, _⟩ := hg D G a w hr
  h.out G D' a w h1 hp⟩
theorem az_mono {Q' : Exit → Γ → St → Prop} {c : Code} (h : AZ P Φ c Q γ st) (hq : ∀ e g s, Q e g s → Q' e g s) : AZ P Φ c Q' γ st := ⟨fun G D a w hr hp =>
  wpIn_mono (h.out G D a w hr hp) fun e _ _ ⟨γ', G', D', st', h1, h2⟩ => ⟨γ', G', D', st', hq e γ' st' h1, h2⟩⟩
/-- A loop: its state at the head is 'S x' beside the ghost 'g x', with 'H x'; a round lowers 'μ'. -/
theorem az_loop {X : Type} (S : X → St) (g : X → Γ) (H : X → Prop) (μ : X → Nat) {c : Code} (h0 : ∃ x, GhE st (S x) ∧ γ = g x ∧ H x)
    (round : ∀ x, H x → AZ P Φ c (thnZ (fun γ' st' => ∃ x', GhE st' (S x') ∧ γ' = g x' ∧ H x' ∧ μ x' < μ x) Q) (g x) (S x)) : AZ P Φ (.loop c) Q γ st := ⟨fun G D a w hr hp => by
  obtain ⟨x0, ⟨Y0, hg0⟩, rfl, hx0⟩ := h0
  obtain ⟨D0, hr0, _⟩ := hg0 D G a w hr
  have key : ∀ n x G a w, μ x < n → H x → (∃ D, Rep D G (S x) a w) → Φ (g x) G → Code.roundsIn (Fw none) 0 P c (fun e a' w' => ∃ γ' G' D' st', Q e γ' st' ∧ Rep D' G' st' a' w' ∧ Φ γ' G') n a w := by
    intro n
    induction n with
    | zero => intro x G a w hn; omega
    | succ n ih =>
      intro x G a w hn hx ⟨D, hr⟩ hp
      rw [roundsIn_succ]
      refine wpIn_mono ((round x hx).out G D a w hr hp) ?_
      rintro e a1 w1 ⟨γ1, G1, D1, st1, hq, hr1, hp1⟩
      cases e with
      | normal =>
        obtain ⟨x', ⟨Y, hg⟩, rfl, hx', hlt⟩ := hq
        obtain ⟨D2, hr2, _⟩ := hg D1 G1 a1 w1 hr1
        exact ih x' G1 a1 w1 (by omega) hx' ⟨D2, hr2⟩ hp1
      | _ => exact ⟨γ1, G1, D1, st1, hq, hr1, hp1⟩
  exact wpIn_loop_rounds (μ x0 + 1) (key _ x0 G a w (Nat.lt_succ_self _) hx0 ⟨D0, hr0⟩ hp)⟩

theorem az_loop1 {A0 : Type} {c : Code} (S : A0 → St) (g : A0 → Γ) (H : A0 → Prop) (μ : A0 → Nat) (h0 : ∃ a0, GhE st (S a0) ∧ γ = g a0 ∧ H a0)
    (round : ∀ a0, H a0 → AZ P Φ c (thnZ (fun γ' st' => ∃ b0, GhE st' (S b0) ∧ γ' = g b0 ∧ H b0 ∧ μ b0 < μ a0) Q) (g a0) (S a0)) : AZ P Φ (.loop c) Q γ st :=
  az_loop (X := A0) (fun x => S x) (fun x => g x) (fun x => H x) (fun x => μ x) (by obtain ⟨a0, h1, h2, h3⟩ := h0; exact ⟨a0, h1, h2, h3⟩)
    fun x hx => az_mono (round x hx) fun e γ' s h => by
      cases e with
      | normal => simp only [thnZ] at h ⊢; obtain ⟨b0, h1, h2, h3, h4⟩ := h; exact ⟨b0, h1, h2, h3, h4⟩
      | _ => exact h
theorem az_loop2 {A0 A1 : Type} {c : Code} (S : A0 → A1 → St) (g : A0 → A1 → Γ) (H : A0 → A1 → Prop) (μ : A0 → A1 → Nat) (h0 : ∃ a0 a1, GhE st (S a0 a1) ∧ γ = g a0 a1 ∧ H a0 a1)
    (round : ∀ a0 a1, H a0 a1 → AZ P Φ c (thnZ (fun γ' st' => ∃ b0 b1, GhE st' (S b0 b1) ∧ γ' = g b0 b1 ∧ H b0 b1 ∧ μ b0 b1 < μ a0 a1) Q) (g a0 a1) (S a0 a1)) : AZ P Φ (.loop c) Q γ st :=
  az_loop (X := A0 × A1) (fun x => S x.1 x.2) (fun x => g x.1 x.2) (fun x => H x.1 x.2) (fun x => μ x.1 x.2) (by obtain ⟨a0, a1, h1, h2, h3⟩ := h0; exact ⟨⟨a0, a1⟩, h1, h2, h3⟩)
    fun x hx => az_mono (round x.1 x.2 hx) fun e γ' s h => by
      cases e with
      | normal => simp only [thnZ] at h ⊢; obtain ⟨b0, b1, h1, h2, h3, h4⟩ := h; exact ⟨⟨b0, b1⟩, h1, h2, h3, h4⟩
      | _ => exact h
theorem az_loop3 {A0 A1 A2 : Type} {c : Code} (S : A0 → A1 → A2 → St) (g : A0 → A1 → A2 → Γ) (H : A0 → A1 → A2 → Prop) (μ : A0 → A1 → A2 → Nat) (h0 : ∃ a0 a1 a2, GhE st (S a0 a1 a2) ∧ γ = g a0 a1 a2 ∧ H a0 a1 a2)
    (round : ∀ a0 a1 a2, H a0 a1 a2 → AZ P Φ c (thnZ (fun γ' st' => ∃ b0 b1 b2, GhE st' (S b0 b1 b2) ∧ γ' = g b0 b1 b2 ∧ H b0 b1 b2 ∧ μ b0 b1 b2 < μ a0 a1 a2) Q) (g a0 a1 a2) (S a0 a1 a2)) : AZ P Φ (.loop c) Q γ st :=
  az_loop (X := A0 × A1 × A2) (fun x => S x.1 x.2.1 x.2.2) (fun x => g x.1 x.2.1 x.2.2) (fun x => H x.1 x.2.1 x.2.2) (fun x => μ x.1 x.2.1 x.2.2) (by obtain ⟨a0, a1, a2, h1, h2, h3⟩ := h0; exact ⟨⟨a0, a1, a2⟩, h1, h2, h3⟩)
    fun x hx => az_mono (round x.1 x.2.1 x.2.2 hx) fun e γ' s h => by
      cases e with
      | normal => simp only [thnZ] at h ⊢; obtain ⟨b0, b1, b2, h1, h2, h3, h4⟩ := h; exact ⟨⟨b0, b1, b2⟩, h1, h2, h3, h4⟩
      | _ => exact h
theorem az_loop4 {A0 A1 A2 A3 : Type} {c : Code} (S : A0 → A1 → A2 → A3 → St) (g : A0 → A1 → A2 → A3 → Γ) (H : A0 → A1 → A2 → A3 → Prop) (μ : A0 → A1 → A2 → A3 → Nat) (h0 : ∃ a0 a1 a2 a3, GhE st (S a0 a1 a2 a3) ∧ γ = g a0 a1 a2 a3 ∧ H a0 a1 a2 a3)
    (round : ∀ a0 a1 a2 a3, H a0 a1 a2 a3 → AZ P Φ c (thnZ (fun γ' st' => ∃ b0 b1 b2 b3, GhE st' (S b0 b1 b2 b3) ∧ γ' = g b0 b1 b2 b3 ∧ H b0 b1 b2 b3 ∧ μ b0 b1 b2 b3 < μ a0 a1 a2 a3) Q) (g a0 a1 a2 a3) (S a0 a1 a2 a3)) : AZ P Φ (.loop c) Q γ st :=
  az_loop (X := A0 × A1 × A2 × A3) (fun x => S x.1 x.2.1 x.2.2.1 x.2.2.2) (fun x => g x.1 x.2.1 x.2.2.1 x.2.2.2) (fun x => H x.1 x.2.1 x.2.2.1 x.2.2.2) (fun x => μ x.1 x.2.1 x.2.2.1 x.2.2.2) (by obtain ⟨a0, a1, a2, a3, h1, h2, h3⟩ := h0; exact ⟨⟨a0, a1, a2, a3⟩, h1, h2, h3⟩)
    fun x hx => az_mono (round x.1 x.2.1 x.2.2.1 x.2.2.2 hx) fun e γ' s h => by
      cases e with
      | normal => simp only [thnZ] at h ⊢; obtain ⟨b0, b1, b2, b3, h1, h2, h3, h4⟩ := h; exact ⟨⟨b0, b1, b2, b3⟩, h1, h2, h3, h4⟩
      | _ => exact h
theorem az_loop5 {A0 A1 A2 A3 A4 : Type} {c : Code} (S : A0 → A1 → A2 → A3 → A4 → St) (g : A0 → A1 → A2 → A3 → A4 → Γ) (H : A0 → A1 → A2 → A3 → A4 → Prop) (μ : A0 → A1 → A2 → A3 → A4 → Nat) (h0 : ∃ a0 a1 a2 a3 a4, GhE st (S a0 a1 a2 a3 a4) ∧ γ = g a0 a1 a2 a3 a4 ∧ H a0 a1 a2 a3 a4)
    (round : ∀ a0 a1 a2 a3 a4, H a0 a1 a2 a3 a4 → AZ P Φ c (thnZ (fun γ' st' => ∃ b0 b1 b2 b3 b4, GhE st' (S b0 b1 b2 b3 b4) ∧ γ' = g b0 b1 b2 b3 b4 ∧ H b0 b1 b2 b3 b4 ∧ μ b0 b1 b2 b3 b4 < μ a0 a1 a2 a3 a4) Q) (g a0 a1 a2 a3 a4) (S a0 a1 a2 a3 a4)) : AZ P Φ (.loop c) Q γ st :=
  az_loop (X := A0 × A1 × A2 × A3 × A4) (fun x => S x.1 x.2.1 x.2.2.1 x.2.2.2.1 x.2.2.2.2) (fun x => g x.1 x.2.1 x.2.2.1 x.2.2.2.1 x.2.2.2.2) (fun x => H x.1 x.2.1 x.2.2.1 x.2.2.2.1 x.2.2.2.2) (fun x => μ x.1 x.2.1 x.2.2.1 x.2.2.2.1 x.2.2.2.2) (by obtain ⟨a0, a1, a2, a3, a4, h1, h2, h3⟩ := h0; exact ⟨⟨a0, a1, a2, a3, a4⟩, h1, h2, h3⟩)
    fun x hx => az_mono (round x.1 x.2.1 x.2.2.1 x.2.2.2.1 x.2.2.2.2 hx) fun e γ' s h => by
      cases e with
      | normal => simp only [thnZ] at h ⊢; obtain ⟨b0, b1, b2, b3, b4, h1, h2, h3, h4⟩ := h; exact ⟨⟨b0, b1, b2, b3, b4⟩, h1, h2, h3, h4⟩
      | _ => exact h
theorem az_loop6 {A0 A1 A2 A3 A4 A5 : Type} {c : Code} (S : A0 → A1 → A2 → A3 → A4 → A5 → St) (g : A0 → A1 → A2 → A3 → A4 → A5 → Γ) (H : A0 → A1 → A2 → A3 → A4 → A5 → Prop) (μ : A0 → A1 → A2 → A3 → A4 → A5 → Nat) (h0 : ∃ a0 a1 a2 a3 a4 a5, GhE st (S a0 a1 a2 a3 a4 a5) ∧ γ = g a0 a1 a2 a3 a4 a5 ∧ H a0 a1 a2 a3 a4 a5)
    (round : ∀ a0 a1 a2 a3 a4 a5, H a0 a1 a2 a3 a4 a5 → AZ P Φ c (thnZ (fun γ' st' => ∃ b0 b1 b2 b3 b4 b5, GhE st' (S b0 b1 b2 b3 b4 b5) ∧ γ' = g b0 b1 b2 b3 b4 b5 ∧ H b0 b1 b2 b3 b4 b5 ∧ μ b0 b1 b2 b3 b4 b5 < μ a0 a1 a2 a3 a4 a5) Q) (g a0 a1 a2 a3 a4 a5) (S a0 a1 a2 a3 a4 a5)) : AZ P Φ (.loop c) Q γ st :=
  az_loop (X := A0 × A1 × A2 × A3 × A4 × A5) (fun x => S x.1 x.2.1 x.2.2.1 x.2.2.2.1 x.2.2.2.2.1 x.2.2.2.2.2) (fun x => g x.1 x.2.1 x.2.2.1 x.2.2.2.1 x.2.2.2.2.1 x.2.2.2.2.2) (fun x => H x.1 x.2.1 x.2.2.1 x.2.2.2.1 x.2.2.2.2.1 x.2.2.2.2.2) (fun x => μ x.1 x.2.1 x.2.2.1 x.2.2.2.1 x.2.2.2.2.1 x.2.2.2.2.2) (by obtain ⟨a0, a1, a2, a3, a4, a5, h1, h2, h3⟩ := h0; exact ⟨⟨a0, a1, a2, a3, a4, a5⟩, h1, h2, h3⟩)
    fun x hx => az_mono (round x.1 x.2.1 x.2.2.1 x.2.2.2.1 x.2.2.2.2.1 x.2.2.2.2.2 hx) fun e γ' s h => by
      cases e with
      | normal => simp only [thnZ] at h ⊢; obtain ⟨b0, b1, b2, b3, b4, b5, h1, h2, h3, h4⟩ := h; exact ⟨⟨b0, b1, b2, b3, b4, b5⟩, h1, h2, h3, h4⟩
      | _ => exact h
theorem az_loop7 {A0 A1 A2 A3 A4 A5 A6 : Type} {c : Code} (S : A0 → A1 → A2 → A3 → A4 → A5 → A6 → St) (g : A0 → A1 → A2 → A3 → A4 → A5 → A6 → Γ) (H : A0 → A1 → A2 → A3 → A4 → A5 → A6 → Prop) (μ : A0 → A1 → A2 → A3 → A4 → A5 → A6 → Nat) (h0 : ∃ a0 a1 a2 a3 a4 a5 a6, GhE st (S a0 a1 a2 a3 a4 a5 a6) ∧ γ = g a0 a1 a2 a3 a4 a5 a6 ∧ H a0 a1 a2 a3 a4 a5 a6)
    (round : ∀ a0 a1 a2 a3 a4 a5 a6, H a0 a1 a2 a3 a4 a5 a6 → AZ P Φ c (thnZ (fun γ' st' => ∃ b0 b1 b2 b3 b4 b5 b6, GhE st' (S b0 b1 b2 b3 b4 b5 b6) ∧ γ' = g b0 b1 b2 b3 b4 b5 b6 ∧ H b0 b1 b2 b3 b4 b5 b6 ∧ μ b0 b1 b2 b3 b4 b5 b6 < μ a0 a1 a2 a3 a4 a5 a6) Q) (g a0 a1 a2 a3 a4 a5 a6) (S a0 a1 a2 a3 a4 a5 a6)) : AZ P Φ (.loop c) Q γ st :=
  az_loop (X := A0 × A1 × A2 × A3 × A4 × A5 × A6) (fun x => S x.1 x.2.1 x.2.2.1 x.2.2.2.1 x.2.2.2.2.1 x.2.2.2.2.2.1 x.2.2.2.2.2.2) (fun x => g x.1 x.2.1 x.2.2.1 x.2.2.2.1 x.2.2.2.2.1 x.2.2.2.2.2.1 x.2.2.2.2.2.2) (fun x => H x.1 x.2.1 x.2.2.1 x.2.2.2.1 x.2.2.2.2.1 x.2.2.2.2.2.1 x.2.2.2.2.2.2) (fun x => μ x.1 x.2.1 x.2.2.1 x.2.2.2.1 x.2.2.2.2.1 x.2.2.2.2.2.1 x.2.2.2.2.2.2) (by obtain ⟨a0, a1, a2, a3, a4, a5, a6, h1, h2, h3⟩ := h0; exact ⟨⟨a0, a1, a2, a3, a4, a5, a6⟩, h1, h2, h3⟩)
    fun x hx => az_mono (round x.1 x.2.1 x.2.2.1 x.2.2.2.1 x.2.2.2.2.1 x.2.2.2.2.2.1 x.2.2.2.2.2.2 hx) fun e γ' s h => by
      cases e with
      | normal => simp only [thnZ] at h ⊢; obtain ⟨b0, b1, b2, b3, b4, b5, b6, h1, h2, h3, h4⟩ := h; exact ⟨⟨b0, b1, b2, b3, b4, b5, b6⟩, h1, h2, h3, h4⟩
      | _ => exact h
theorem az_loop8 {A0 A1 A2 A3 A4 A5 A6 A7 : Type} {c : Code} (S : A0 → A1 → A2 → A3 → A4 → A5 → A6 → A7 → St) (g : A0 → A1 → A2 → A3 → A4 → A5 → A6 → A7 → Γ) (H : A0 → A1 → A2 → A3 → A4 → A5 → A6 → A7 → Prop) (μ : A0 → A1 → A2 → A3 → A4 → A5 → A6 → A7 → Nat) (h0 : ∃ a0 a1 a2 a3 a4 a5 a6 a7, GhE st (S a0 a1 a2 a3 a4 a5 a6 a7) ∧ γ = g a0 a1 a2 a3 a4 a5 a6 a7 ∧ H a0 a1 a2 a3 a4 a5 a6 a7)
    (round : ∀ a0 a1 a2 a3 a4 a5 a6 a7, H a0 a1 a2 a3 a4 a5 a6 a7 → AZ P Φ c (thnZ (fun γ' st' => ∃ b0 b1 b2 b3 b4 b5 b6 b7, GhE st' (S b0 b1 b2 b3 b4 b5 b6 b7) ∧ γ' = g b0 b1 b2 b3 b4 b5 b6 b7 ∧ H b0 b1 b2 b3 b4 b5 b6 b7 ∧ μ b0 b1 b2 b3 b4 b5 b6 b7 < μ a0 a1 a2 a3 a4 a5 a6 a7) Q) (g a0 a1 a2 a3 a4 a5 a6 a7) (S a0 a1 a2 a3 a4 a5 a6 a7)) : AZ P Φ (.loop c) Q γ st :=
  az_loop (X := A0 × A1 × A2 × A3 × A4 × A5 × A6 × A7) (fun x => S x.1 x.2.1 x.2.2.1 x.2.2.2.1 x.2.2.2.2.1 x.2.2.2.2.2.1 x.2.2.2.2.2.2.1 x.2.2.2.2.2.2.2) (fun x => g x.1 x.2.1 x.2.2.1 x.2.2.2.1 x.2.2.2.2.1 x.2.2.2.2.2.1 x.2.2.2.2.2.2.1 x.2.2.2.2.2.2.2) (fun x => H x.1 x.2.1 x.2.2.1 x.2.2.2.1 x.2.2.2.2.1 x.2.2.2.2.2.1 x.2.2.2.2.2.2.1 x.2.2.2.2.2.2.2) (fun x => μ x.1 x.2.1 x.2.2.1 x.2.2.2.1 x.2.2.2.2.1 x.2.2.2.2.2.1 x.2.2.2.2.2.2.1 x.2.2.2.2.2.2.2) (by obtain ⟨a0, a1, a2, a3, a4, a5, a6, a7, h1, h2, h3⟩ := h0; exact ⟨⟨a0, a1, a2, a3, a4, a5, a6, a7⟩, h1, h2, h3⟩)
    fun x hx => az_mono (round x.1 x.2.1 x.2.2.1 x.2.2.2.1 x.2.2.2.2.1 x.2.2.2.2.2.1 x.2.2.2.2.2.2.1 x.2.2.2.2.2.2.2 hx) fun e γ' s h => by
      cases e with
      | normal => simp only [thnZ] at h ⊢; obtain ⟨b0, b1, b2, b3, b4, b5, b6, b7, h1, h2, h3, h4⟩ := h; exact ⟨⟨b0, b1, b2, b3, b4, b5, b6, b7⟩, h1, h2, h3, h4⟩
      | _ => exact h
theorem az_loop9 {A0 A1 A2 A3 A4 A5 A6 A7 A8 : Type} {c : Code} (S : A0 → A1 → A2 → A3 → A4 → A5 → A6 → A7 → A8 → St) (g : A0 → A1 → A2 → A3 → A4 → A5 → A6 → A7 → A8 → Γ) (H : A0 → A1 → A2 → A3 → A4 → A5 → A6 → A7 → A8 → Prop) (μ : A0 → A1 → A2 → A3 → A4 → A5 → A6 → A7 → A8 → Nat) (h0 : ∃ a0 a1 a2 a3 a4 a5 a6 a7 a8, GhE st (S a0 a1 a2 a3 a4 a5 a6 a7 a8) ∧ γ = g a0 a1 a2 a3 a4 a5 a6 a7 a8 ∧ H a0 a1 a2 a3 a4 a5 a6 a7 a8)
    (round : ∀ a0 a1 a2 a3 a4 a5 a6 a7 a8, H a0 a1 a2 a3 a4 a5 a6 a7 a8 → AZ P Φ c (thnZ (fun γ' st' => ∃ b0 b1 b2 b3 b4 b5 b6 b7 b8, GhE st' (S b0 b1 b2 b3 b4 b5 b6 b7 b8) ∧ γ' = g b0 b1 b2 b3 b4 b5 b6 b7 b8 ∧ H b0 b1 b2 b3 b4 b5 b6 b7 b8 ∧ μ b0 b1 b2 b3 b4 b5 b6 b7 b8 < μ a0 a1 a2 a3 a4 a5 a6 a7 a8) Q) (g a0 a1 a2 a3 a4 a5 a6 a7 a8) (S a0 a1 a2 a3 a4 a5 a6 a7 a8)) : AZ P Φ (.loop c) Q γ st :=
  az_loop (X := A0 × A1 × A2 × A3 × A4 × A5 × A6 × A7 × A8) (fun x => S x.1 x.2.1 x.2.2.1 x.2.2.2.1 x.2.2.2.2.1 x.2.2.2.2.2.1 x.2.2.2.2.2.2.1 x.2.2.2.2.2.2.2.1 x.2.2.2.2.2.2.2.2) (fun x => g x.1 x.2.1 x.2.2.1 x.2.2.2.1 x.2.2.2.2.1 x.2.2.2.2.2.1 x.2.2.2.2.2.2.1 x.2.2.2.2.2.2.2.1 x.2.2.2.2.2.2.2.2) (fun x => H x.1 x.2.1 x.2.2.1 x.2.2.2.1 x.2.2.2.2.1 x.2.2.2.2.2.1 x.2.2.2.2.2.2.1 x.2.2.2.2.2.2.2.1 x.2.2.2.2.2.2.2.2) (fun x => μ x.1 x.2.1 x.2.2.1 x.2.2.2.1 x.2.2.2.2.1 x.2.2.2.2.2.1 x.2.2.2.2.2.2.1 x.2.2.2.2.2.2.2.1 x.2.2.2.2.2.2.2.2) (by obtain ⟨a0, a1, a2, a3, a4, a5, a6, a7, a8, h1, h2, h3⟩ := h0; exact ⟨⟨a0, a1, a2, a3, a4, a5, a6, a7, a8⟩, h1, h2, h3⟩)
    fun x hx => az_mono (round x.1 x.2.1 x.2.2.1 x.2.2.2.1 x.2.2.2.2.1 x.2.2.2.2.2.1 x.2.2.2.2.2.2.1 x.2.2.2.2.2.2.2.1 x.2.2.2.2.2.2.2.2 hx) fun e γ' s h => by
      cases e with
      | normal => simp only [thnZ] at h ⊢; obtain ⟨b0, b1, b2, b3, b4, b5, b6, b7, b8, h1, h2, h3, h4⟩ := h; exact ⟨⟨b0, b1, b2, b3, b4, b5, b6, b7, b8⟩, h1, h2, h3, h4⟩
      | _ => exact h
theorem az_loop10 {A0 A1 A2 A3 A4 A5 A6 A7 A8 A9 : Type} {c : Code} (S : A0 → A1 → A2 → A3 → A4 → A5 → A6 → A7 → A8 → A9 → St) (g : A0 → A1 → A2 → A3 → A4 → A5 → A6 → A7 → A8 → A9 → Γ) (H : A0 → A1 → A2 → A3 → A4 → A5 → A6 → A7 → A8 → A9 → Prop) (μ : A0 → A1 → A2 → A3 → A4 → A5 → A6 → A7 → A8 → A9 → Nat) (h0 : ∃ a0 a1 a2 a3 a4 a5 a6 a7 a8 a9, GhE st (S a0 a1 a2 a3 a4 a5 a6 a7 a8 a9) ∧ γ = g a0 a1 a2 a3 a4 a5 a6 a7 a8 a9 ∧ H a0 a1 a2 a3 a4 a5 a6 a7 a8 a9)
    (round : ∀ a0 a1 a2 a3 a4 a5 a6 a7 a8 a9, H a0 a1 a2 a3 a4 a5 a6 a7 a8 a9 → AZ P Φ c (thnZ (fun γ' st' => ∃ b0 b1 b2 b3 b4 b5 b6 b7 b8 b9, GhE st' (S b0 b1 b2 b3 b4 b5 b6 b7 b8 b9) ∧ γ' = g b0 b1 b2 b3 b4 b5 b6 b7 b8 b9 ∧ H b0 b1 b2 b3 b4 b5 b6 b7 b8 b9 ∧ μ b0 b1 b2 b3 b4 b5 b6 b7 b8 b9 < μ a0 a1 a2 a3 a4 a5 a6 a7 a8 a9) Q) (g a0 a1 a2 a3 a4 a5 a6 a7 a8 a9) (S a0 a1 a2 a3 a4 a5 a6 a7 a8 a9)) : AZ P Φ (.loop c) Q γ st :=
  az_loop (X := A0 × A1 × A2 × A3 × A4 × A5 × A6 × A7 × A8 × A9) (fun x => S x.1 x.2.1 x.2.2.1 x.2.2.2.1 x.2.2.2.2.1 x.2.2.2.2.2.1 x.2.2.2.2.2.2.1 x.2.2.2.2.2.2.2.1 x.2.2.2.2.2.2.2.2.1 x.2.2.2.2.2.2.2.2.2) (fun x => g x.1 x.2.1 x.2.2.1 x.2.2.2.1 x.2.2.2.2.1 x.2.2.2.2.2.1 x.2.2.2.2.2.2.1 x.2.2.2.2.2.2.2.1 x.2.2.2.2.2.2.2.2.1 x.2.2.2.2.2.2.2.2.2) (fun x => H x.1 x.2.1 x.2.2.1 x.2.2.2.1 x.2.2.2.2.1 x.2.2.2.2.2.1 x.2.2.2.2.2.2.1 x.2.2.2.2.2.2.2.1 x.2.2.2.2.2.2.2.2.1 x.2.2.2.2.2.2.2.2.2) (fun x => μ x.1 x.2.1 x.2.2.1 x.2.2.2.1 x.2.2.2.2.1 x.2.2.2.2.2.1 x.2.2.2.2.2.2.1 x.2.2.2.2.2.2.2.1 x.2.2.2.2.2.2.2.2.1 x.2.2.2.2.2.2.2.2.2) (by obtain ⟨a0, a1, a2, a3, a4, a5, a6, a7, a8, a9, h1, h2, h3⟩ := h0; exact ⟨⟨a0, a1, a2, a3, a4, a5, a6, a7, a8, a9⟩, h1, h2, h3⟩)
    fun x hx => az_mono (round x.1 x.2.1 x.2.2.1 x.2.2.2.1 x.2.2.2.2.1 x.2.2.2.2.2.1 x.2.2.2.2.2.2.1 x.2.2.2.2.2.2.2.1 x.2.2.2.2.2.2.2.2.1 x.2.2.2.2.2.2.2.2.2 hx) fun e γ' s h => by
      cases e with
      | normal => simp only [thnZ] at h ⊢; obtain ⟨b0, b1, b2, b3, b4, b5, b6, b7, b8, b9, h1, h2, h3, h4⟩ := h; exact ⟨⟨b0, b1, b2, b3, b4, b5, b6, b7, b8, b9⟩, h1, h2, h3, h4⟩
      | _ => exact h
theorem az_loop11 {A0 A1 A2 A3 A4 A5 A6 A7 A8 A9 A10 : Type} {c : Code} (S : A0 → A1 → A2 → A3 → A4 → A5 → A6 → A7 → A8 → A9 → A10 → St) (g : A0 → A1 → A2 → A3 → A4 → A5 → A6 → A7 → A8 → A9 → A10 → Γ) (H : A0 → A1 → A2 → A3 → A4 → A5 → A6 → A7 → A8 → A9 → A10 → Prop) (μ : A0 → A1 → A2 → A3 → A4 → A5 → A6 → A7 → A8 → A9 → A10 → Nat) (h0 : ∃ a0 a1 a2 a3 a4 a5 a6 a7 a8 a9 a10, GhE st (S a0 a1 a2 a3 a4 a5 a6 a7 a8 a9 a10) ∧ γ = g a0 a1 a2 a3 a4 a5 a6 a7 a8 a9 a10 ∧ H a0 a1 a2 a3 a4 a5 a6 a7 a8 a9 a10)
    (round : ∀ a0 a1 a2 a3 a4 a5 a6 a7 a8 a9 a10, H a0 a1 a2 a3 a4 a5 a6 a7 a8 a9 a10 → AZ P Φ c (thnZ (fun γ' st' => ∃ b0 b1 b2 b3 b4 b5 b6 b7 b8 b9 b10, GhE st' (S b0 b1 b2 b3 b4 b5 b6 b7 b8 b9 b10) ∧ γ' = g b0 b1 b2 b3 b4 b5 b6 b7 b8 b9 b10 ∧ H b0 b1 b2 b3 b4 b5 b6 b7 b8 b9 b10 ∧ μ b0 b1 b2 b3 b4 b5 b6 b7 b8 b9 b10 < μ a0 a1 a2 a3 a4 a5 a6 a7 a8 a9 a10) Q) (g a0 a1 a2 a3 a4 a5 a6 a7 a8 a9 a10) (S a0 a1 a2 a3 a4 a5 a6 a7 a8 a9 a10)) : AZ P Φ (.loop c) Q γ st :=
  az_loop (X := A0 × A1 × A2 × A3 × A4 × A5 × A6 × A7 × A8 × A9 × A10) (fun x => S x.1 x.2.1 x.2.2.1 x.2.2.2.1 x.2.2.2.2.1 x.2.2.2.2.2.1 x.2.2.2.2.2.2.1 x.2.2.2.2.2.2.2.1 x.2.2.2.2.2.2.2.2.1 x.2.2.2.2.2.2.2.2.2.1 x.2.2.2.2.2.2.2.2.2.2) (fun x => g x.1 x.2.1 x.2.2.1 x.2.2.2.1 x.2.2.2.2.1 x.2.2.2.2.2.1 x.2.2.2.2.2.2.1 x.2.2.2.2.2.2.2.1 x.2.2.2.2.2.2.2.2.1 x.2.2.2.2.2.2.2.2.2.1 x.2.2.2.2.2.2.2.2.2.2) (fun x => H x.1 x.2.1 x.2.2.1 x.2.2.2.1 x.2.2.2.2.1 x.2.2.2.2.2.1 x.2.2.2.2.2.2.1 x.2.2.2.2.2.2.2.1 x.2.2.2.2.2.2.2.2.1 x.2.2.2.2.2.2.2.2.2.1 x.2.2.2.2.2.2.2.2.2.2) (fun x => μ x.1 x.2.1 x.2.2.1 x.2.2.2.1 x.2.2.2.2.1 x.2.2.2.2.2.1 x.2.2.2.2.2.2.1 x.2.2.2.2.2.2.2.1 x.2.2.2.2.2.2.2.2.1 x.2.2.2.2.2.2.2.2.2.1 x.2.2.2.2.2.2.2.2.2.2) (by obtain ⟨a0, a1, a2, a3, a4, a5, a6, a7, a8, a9, a10, h1, h2, h3⟩ := h0; exact ⟨⟨a0, a1, a2, a3, a4, a5, a6, a7, a8, a9, a10⟩, h1, h2, h3⟩)
    fun x hx => az_mono (round x.1 x.2.1 x.2.2.1 x.2.2.2.1 x.2.2.2.2.1 x.2.2.2.2.2.1 x.2.2.2.2.2.2.1 x.2.2.2.2.2.2.2.1 x.2.2.2.2.2.2.2.2.1 x.2.2.2.2.2.2.2.2.2.1 x.2.2.2.2.2.2.2.2.2.2 hx) fun e γ' s h => by
      cases e with
      | normal => simp only [thnZ] at h ⊢; obtain ⟨b0, b1, b2, b3, b4, b5, b6, b7, b8, b9, b10, h1, h2, h3, h4⟩ := h; exact ⟨⟨b0, b1, b2, b3, b4, b5, b6, b7, b8, b9, b10⟩, h1, h2, h3, h4⟩
      | _ => exact h
theorem az_loop12 {A0 A1 A2 A3 A4 A5 A6 A7 A8 A9 A10 A11 : Type} {c : Code} (S : A0 → A1 → A2 → A3 → A4 → A5 → A6 → A7 → A8 → A9 → A10 → A11 → St) (g : A0 → A1 → A2 → A3 → A4 → A5 → A6 → A7 → A8 → A9 → A10 → A11 → Γ) (H : A0 → A1 → A2 → A3 → A4 → A5 → A6 → A7 → A8 → A9 → A10 → A11 → Prop) (μ : A0 → A1 → A2 → A3 → A4 → A5 → A6 → A7 → A8 → A9 → A10 → A11 → Nat) (h0 : ∃ a0 a1 a2 a3 a4 a5 a6 a7 a8 a9 a10 a11, GhE st (S a0 a1 a2 a3 a4 a5 a6 a7 a8 a9 a10 a11) ∧ γ = g a0 a1 a2 a3 a4 a5 a6 a7 a8 a9 a10 a11 ∧ H a0 a1 a2 a3 a4 a5 a6 a7 a8 a9 a10 a11)
    (round : ∀ a0 a1 a2 a3 a4 a5 a6 a7 a8 a9 a10 a11, H a0 a1 a2 a3 a4 a5 a6 a7 a8 a9 a10 a11 → AZ P Φ c (thnZ (fun γ' st' => ∃ b0 b1 b2 b3 b4 b5 b6 b7 b8 b9 b10 b11, GhE st' (S b0 b1 b2 b3 b4 b5 b6 b7 b8 b9 b10 b11) ∧ γ' = g b0 b1 b2 b3 b4 b5 b6 b7 b8 b9 b10 b11 ∧ H b0 b1 b2 b3 b4 b5 b6 b7 b8 b9 b10 b11 ∧ μ b0 b1 b2 b3 b4 b5 b6 b7 b8 b9 b10 b11 < μ a0 a1 a2 a3 a4 a5 a6 a7 a8 a9 a10 a11) Q) (g a0 a1 a2 a3 a4 a5 a6 a7 a8 a9 a10 a11) (S a0 a1 a2 a3 a4 a5 a6 a7 a8 a9 a10 a11)) : AZ P Φ (.loop c) Q γ st :=
  az_loop (X := A0 × A1 × A2 × A3 × A4 × A5 × A6 × A7 × A8 × A9 × A10 × A11) (fun x => S x.1 x.2.1 x.2.2.1 x.2.2.2.1 x.2.2.2.2.1 x.2.2.2.2.2.1 x.2.2.2.2.2.2.1 x.2.2.2.2.2.2.2.1 x.2.2.2.2.2.2.2.2.1 x.2.2.2.2.2.2.2.2.2.1 x.2.2.2.2.2.2.2.2.2.2.1 x.2.2.2.2.2.2.2.2.2.2.2) (fun x => g x.1 x.2.1 x.2.2.1 x.2.2.2.1 x.2.2.2.2.1 x.2.2.2.2.2.1 x.2.2.2.2.2.2.1 x.2.2.2.2.2.2.2.1 x.2.2.2.2.2.2.2.2.1 x.2.2.2.2.2.2.2.2.2.1 x.2.2.2.2.2.2.2.2.2.2.1 x.2.2.2.2.2.2.2.2.2.2.2) (fun x => H x.1 x.2.1 x.2.2.1 x.2.2.2.1 x.2.2.2.2.1 x.2.2.2.2.2.1 x.2.2.2.2.2.2.1 x.2.2.2.2.2.2.2.1 x.2.2.2.2.2.2.2.2.1 x.2.2.2.2.2.2.2.2.2.1 x.2.2.2.2.2.2.2.2.2.2.1 x.2.2.2.2.2.2.2.2.2.2.2) (fun x => μ x.1 x.2.1 x.2.2.1 x.2.2.2.1 x.2.2.2.2.1 x.2.2.2.2.2.1 x.2.2.2.2.2.2.1 x.2.2.2.2.2.2.2.1 x.2.2.2.2.2.2.2.2.1 x.2.2.2.2.2.2.2.2.2.1 x.2.2.2.2.2.2.2.2.2.2.1 x.2.2.2.2.2.2.2.2.2.2.2) (by obtain ⟨a0, a1, a2, a3, a4, a5, a6, a7, a8, a9, a10, a11, h1, h2, h3⟩ := h0; exact ⟨⟨a0, a1, a2, a3, a4, a5, a6, a7, a8, a9, a10, a11⟩, h1, h2, h3⟩)
    fun x hx => az_mono (round x.1 x.2.1 x.2.2.1 x.2.2.2.1 x.2.2.2.2.1 x.2.2.2.2.2.1 x.2.2.2.2.2.2.1 x.2.2.2.2.2.2.2.1 x.2.2.2.2.2.2.2.2.1 x.2.2.2.2.2.2.2.2.2.1 x.2.2.2.2.2.2.2.2.2.2.1 x.2.2.2.2.2.2.2.2.2.2.2 hx) fun e γ' s h => by
      cases e with
      | normal => simp only [thnZ] at h ⊢; obtain ⟨b0, b1, b2, b3, b4, b5, b6, b7, b8, b9, b10, b11, h1, h2, h3, h4⟩ := h; exact ⟨⟨b0, b1, b2, b3, b4, b5, b6, b7, b8, b9, b10, b11⟩, h1, h2, h3, h4⟩
      | _ => exact h
end
/-- What is the same in two globals of one walk. -/
theorem le_rebase {G0 G : Glob} {D : Data} {st : St} {a : Act} {w w' : World} (hl : Le G0 G) (hr : Rep D G st a w) (I0' : Nat → Prop) (hI : ∀ b, I0' b → Imm G st.σ D.fp w b) (hs : w.heap.size ≤ w'.heap.size) (hk : ∀ b, b < G0.w0.heap.size → w'.heap[b]? = w.heap[b]?)
    (ho : w'.os = w.os) (ht : w'.tape = w.tape) (hu : w'.output = w.output) : Le G0 ⟨w', fun b => ∃ p ∈ st.σ, b ∈ D.fp p.1, I0', G.gv, G.df⟩ := by
  have hu0 := hr.unle hl
  refine ⟨Nat.le_trans hu0.size hs, fun b hb hn => (hk b hb).trans (hu0.frame b hb hn), fun b ⟨p, hp, hb⟩ => hu0.own p hp b hb, fun b hb => ?_, hl.gv, ho.trans hu0.os, ht.trans hu0.tape, hu.trans hu0.output⟩
  rcases (hI b hb).1 with h | h | h
  · exact hl.imm b h
  · exact .inr (hl.own b h)
  · exact .inr (.inr (Nat.le_trans hl.size h))
theorem af_enterN {P : Program} {f : Nat} {fn : Func} {c : Code} {args : List C} {Q : C → Prop} (hf : P.funcs[f]? = some fn) (hb : fn.body = some c) (he : (fn.name == "runtime.NumGoroutine") = false) {n : Nat} (hn : fn.ntmps = n) (hl : args.length ≤ n)
    (h : ∀ G D a w, G.df = [] → Rep D G ⟨[], initE 0 args, n⟩ a w → c.wpIn (Fw none) 0 P (fun e a' w' => ∃ D' st', RetAF P fn Q e st' ∧ Rep D' G st' a' w') a w) : AF P f args Q := by
  refine ⟨by simp [EntB, hf, hb, he], fun w I vals hI hv => ?_⟩
  refine calls_of_wp hf hb ?_
  have hvl := hv.length
  have hr : Rep ⟨fun _ => none, fun _ => []⟩ ⟨w, fun _ => False, I, fun _ => none, []⟩ ⟨[], initE 0 args, n⟩ { tmps := vals.toArray ++ Array.replicate (fn.ntmps - vals.toArray.size) undef, defers := [] } w := by
    refine ⟨by simp, by simp, by simp, by simp, by simp, ?_, by simp, fun _ _ _ => rfl, Nat.le_refl _, rfl, rfl, rfl, by simp; omega, rfl⟩
    intro i v hiv
    obtain ⟨j, y, h1, h2, rfl⟩ := lk_initE hiv
    obtain ⟨x, e1, e2⟩ := hv.get0 h2
    have hj : j < vals.length := (List.getElem?_eq_some_iff.1 e1).1
    refine ⟨x, ?_, ?_⟩
    · simp only [slot, h1, Nat.zero_add, show Nat.blt j n = true by simp; omega, cond_true]
      rw [Array.getElem?_append_left (by simpa using hj)]
      simpa using e1
    · simp only [VRp]
      exact Rp.frame (fun b hb => ⟨.inl hb, hI b hb, by simp⟩) (fun _ _ => rfl) _ _ _ (by simp) e2
  refine wp_mono (wpIn_wide.1 (h _ _ _ _ rfl hr)) fun e a' w' ⟨D', st', hq, hr'⟩ => ?_
  have fin : ∀ v c ids, RetV P fn st' v → Go.Proofs.YtjolbldlhjfciaaDoor.hv st'.σ v = some (c, ids) → nodupB ids = true → Q c → a'.defers = [] ∧ ∃ x, (results fn a'.tmps).run P w' = .ok x w' ∧
      (∃ r y fr, Ending.returned x = .returned y ∧ Q r ∧ Rp w' (fun b => I b ∨ (w.heap.size ≤ b ∧ b < w'.heap.size ∧ b ∉ fr)) r y fr ∧ fr.Nodup ∧ (∀ b ∈ fr, w.heap.size ≤ b) ∧
      w.heap.size ≤ w'.heap.size ∧ (∀ b, b < w.heap.size → w'.heap[b]? = w.heap[b]?) ∧ w'.os = w.os ∧ w'.tape = w.tape ∧ w'.output = w.output) := by
    intro v c ids h1 h2 h3 h4
    obtain ⟨x, e1, e2⟩ := h1 D' _ a' w' hr'
    obtain ⟨g1, g2⟩ := hv_spec hr' v x c ids h2 e2
    have hnd := nodupB_spec h3
    refine ⟨hr'.defers, x, e1, c, x, ids.flatMap D'.fp, rfl, h4, ?_, ?_, ?_, hr'.size, fun b hb => hr'.frame b hb (fun hf => hf), hr'.os, hr'.tape, hr'.output⟩
    · refine Rp.frame (fun b hb => ?_) (fun _ _ => rfl) _ _ _ (fun _ _ => rfl) g1
      rcases hb with ⟨h5 | h5 | h5, h6, h7⟩
      · exact .inl h5
      · exact h5.elim
      · exact .inr ⟨h5, h6, fun hm => by
          obtain ⟨i, hi, hbi⟩ := List.mem_flatMap.1 hm
          obtain ⟨p, hp, rfl⟩ := g2 i hi
          exact h7 p hp hbi⟩
    · refine flat_nodup hnd (fun i hi => ?_) (fun i hi j hj hij b hbi => ?_)
      · obtain ⟨p, hp, rfl⟩ := g2 i hi; exact hr'.disj1 p hp
      · obtain ⟨p, hp, rfl⟩ := g2 i hi
        obtain ⟨q, hq', rfl⟩ := g2 j hj
        exact hr'.disj2 p hp q hq' hij b hbi
    · intro b hm
      obtain ⟨i, hi, hbi⟩ := List.mem_flatMap.1 hm
      obtain ⟨p, hp, rfl⟩ := g2 i hi
      rcases hr'.own p hp b hbi with h5 | h5
      · exact h5.elim
      · exact h5
  cases e with
  | normal => obtain ⟨v, c, ids, h1, h2, h3, h4⟩ := hq; exact fin v c ids h1 h2 h3 h4
  | ret => obtain ⟨v, c, ids, h1, h2, h3, h4⟩ := hq; exact fin v c ids h1 h2 h3 h4
  | _ => exact hq.elim

/-! Maps of texts used as sets. -/
/-- A type of maps from texts to bools. -/
def MpT (P : Program) (T : TypeId) (k e : TypeId) : Prop := P.underlying T = some (.map k e) ∧ P.underlying k = some .string ∧ P.underlying e = some .bool ∧ ∀ w, (zeroValue e).run P w = .ok (.bool false) w
/-- Block b is a map that holds true at the texts of ks. -/
def MapAt (P : Program) (k e : TypeId) (w : World) (b : Nat) (ks : List (List UInt8)) : Prop :=
  ∃ (n : Nat) (D : DataW Unit), w.ownsMap P k (plainElem P e) b n D ∧ n ≤ ks.length ∧ ∀ s : List UInt8, D.atKey (.string s) (.lit (.bool false)) = .lit (.bool (decide (s ∈ ks)))
theorem MapAt.same {P : Program} {k e : TypeId} {w w' : World} {b : Nat} {ks : List (List UInt8)} (h : MapAt P k e w b ks) (hk : w'.heap[b]? = w.heap[b]?) : MapAt P k e w' b ks :=
  let ⟨n, D, ⟨es, c, h1, h2⟩, h3⟩ := h
  ⟨n, D, ⟨es, c, hk.trans h1, h2⟩, h3⟩
theorem MapAt.made {P : Program} {k e : TypeId} (w : World) : MapAt P k e (w.alloc (.map #[] 0)) w.heap.size [] :=
  ⟨0, .map [], World.ownsMap_made w P k _, Nat.le_refl _, fun s => by simp [DataW.atKey]⟩
theorem MapAt.look {P : Program} {T k e : TypeId} (hT : MpT P T k e) {w : World} {b : Nat} {ks : List (List UInt8)} (h : MapAt P k e w b ks) (s : List UInt8) (hs : (s.length : Int) ≤ 1000000) :
    (Instr.lookup T (.map (some b)) (.string ⟨s.toArray⟩) false).run P w = .ok (.bool (decide (s ∈ ks))) w := by
  obtain ⟨n, D, h1, _, h3⟩ := h
  obtain ⟨v, ps, r1, r2⟩ := h1.lookup (Maps.string_keyed hT.2.1) hT.1 (hT.2.2.2 w) (zd := .lit (.bool false)) (zp := []) (plainElem_bool hT.2.2.1 false) (key := .string ⟨s.toArray⟩) (kl := .string s) (by
    have := WideMaps.keyOf_string_mk hT.2.1 (s := ⟨s.toArray⟩) (by simp [ByteArray.size, maxLen]; omega)
    simpa using this)
  rw [h3] at r2
  rw [r1]
  unfold plainElem at r2
  rw [hT.2.2.1] at r2
  cases v <;> simp at r2
  obtain ⟨r2, _⟩ := r2
  rw [r2]
theorem MapAt.put {P : Program} {T k e : TypeId} (hT : MpT P T k e) {w : World} {b : Nat} {ks : List (List UInt8)} (h : MapAt P k e w b ks) (s : List UInt8) (hs : (s.length : Int) ≤ 1000000) (hn : (ks.length : Int) ≤ 1000000) :
    ∃ w', (Instr.mapUpdate T (.map (some b)) (.string ⟨s.toArray⟩) (.bool true)).run P w = .ok () w' ∧ MapAt P k e w' b (ks ++ [s]) ∧ w.grownBy w' (some b) := by
  obtain ⟨n, D, h1, h2, h3⟩ := h
  obtain ⟨w', r1, r2, r3⟩ := h1.update (Maps.string_keyed hT.2.1) hT.1 (by simp [maxLen]; omega) (key := .string ⟨s.toArray⟩) (kl := .string s) (val := .bool true) (by
    have := WideMaps.keyOf_string_mk hT.2.1 (s := ⟨s.toArray⟩) (by simp [ByteArray.size, maxLen]; omega)
    simpa using this) (plainElem_bool hT.2.2.1 true)
  refine ⟨w', r1, ⟨n + 1, _, r2, by simp; omega, fun t => ?_⟩, r3⟩
  by_cases e : t = s
  · subst e
    obtain ⟨es, c, _, _, _, rfl⟩ := h1
    rw [Maps.atKey_put_same ⟨_, rfl⟩ (by simp [WideAt.IsKeyLit])]; simp
  · rw [Maps.atKey_put_other (fun k => e (by cases k; rfl)), h3]
    simp [e]
/-- The ghost of a walk with one map: none yet, or its block and what it holds. -/
def MF (P : Program) (k e : TypeId) (G0 : Glob) : Option (Nat × List (List UInt8)) → Glob → Prop
  | none, G => Le G0 G ∧ G.df = []
  | some (b, ks), G => (Le G0 G ∧ G.df = []) ∧ (b < G.w0.heap.size ∧ ¬ G.F0 b ∧ ¬ G.I0 b ∧ G0.w0.heap.size ≤ b) ∧ MapAt P k e G.w0 b ks
section
variable {P : Program} {k e : TypeId} {G0 : Glob} {ops : Array Oper} {K : Option (Nat × List (List UInt8)) → St → Prop} {st : St} {rest : List Oper} {ty : TypeId} {dst : Option Nat} {pos : String} {after : Array Edge}
theorem rz_makeMap {T : TypeId} (hd : dOk dst st.n = true) (h : ∀ b, RunZ P (MF P k e G0) ops K rest (some (b, [])) (st.put dst (.c (.val (.map (some b)))))) : RunZ P (MF P k e G0) ops K (⟨dst, .makeMap T none, ty, pos, after, none⟩ :: rest) none st :=
  rz_op fun G D a w hr hp => by
    have hold : ∀ b, b < w.heap.size → (w.alloc (.map #[] 0)).heap[b]? = w.heap[b]? := fun b hb => (MapKept.heap_alloc w _).2 b hb
    have hsz : w.heap.size + 1 = (w.alloc (.map #[] 0)).heap.size := by
      have e : (w.alloc (.map #[] 0)).heap = w.heap.push (.map #[] 0) := rfl
      rw [e]; simp
    have hr1 := hr.rebase (w' := w.alloc (.map #[] 0)) (Imm G st.σ D.fp w) (fun _ h => h) (fun _ h => h.2.1) (fun b hb => hold b hb.2.1) (fun p hp b hb => hold b (hr.lt hp hb)) (by omega)
    refine ⟨fun x w' => x = .map (some w.heap.size) ∧ w' = w.alloc (.map #[] 0), ?_, ?_⟩
    · have : (execOp a.eval ⟨dst, .makeMap T none, ty, pos, after, none⟩).run P w = .ok (.value (.map (some w.heap.size))) (w.alloc (.map #[] 0)) := by simp [execOp, RowKit.run_makeMap]
      rw [this]; exact ⟨rfl, rfl⟩
    · rintro x w' ⟨rfl, rfl⟩
      have hs0 := hr.size
      have hl := le_rebase hp.1 hr (w' := w.alloc (.map #[] 0)) (Imm G st.σ D.fp w) (fun _ h => h) (by omega) (fun b hb => hold b (by have := hp.1.size; omega)) rfl rfl rfl
      refine ⟨some (w.heap.size, []), _, D, .c (.val (.map (some w.heap.size))), st, hr1, by simp [VRp, Rp], ⟨⟨hl, hp.2⟩, ⟨by show _ < (w.alloc (.map #[] 0)).heap.size; omega, fun ⟨p, hp, hb⟩ => by have := hr.lt hp hb; omega, fun hb => by have := hb.2.1; omega, by have := hp.1.size; omega⟩, MapAt.made w⟩, hd, h _⟩
theorem mf_now {b : Nat} {ks : List (List UInt8)} {G : Glob} {D : Data} {a : Act} {w : World} (hr : Rep D G st a w) (hp : MF P k e G0 (some (b, ks)) G) : MapAt P k e w b ks ∧ ¬ Imm G st.σ D.fp w b ∧ (∀ p ∈ st.σ, b ∉ D.fp p.1) ∧ b < w.heap.size := by
  obtain ⟨_, ⟨h1, h2, h3, _⟩, h5⟩ := hp
  refine ⟨h5.same (hr.frame b h1 h2), fun h => ?_, fun p hp hb => ?_, by have := hr.size; omega⟩
  · rcases h.1 with g | g | g
    · exact h3 g
    · exact h2 g
    · omega
  · rcases hr.own p hp b hb with g | g
    · exact h2 g
    · omega
theorem rz_lookup {T : TypeId} {x y : Operand} {b : Nat} {ks : List (List UInt8)} {s : List UInt8} (hT : MpT P T k e) (hx : st.ev x = some (.c (.val (.map (some b))))) (hy : st.ev y = some (.c (cs s))) (hs : (s.length : Int) ≤ 1000000) (hd : dOk dst st.n = true)
    (h : RunZ P (MF P k e G0) ops K rest (some (b, ks)) (st.put dst (.c (.val (.bool (decide (s ∈ ks))))))) : RunZ P (MF P k e G0) ops K (⟨dst, .lookup T x y false, ty, pos, after, none⟩ :: rest) (some (b, ks)) st :=
  rz_op fun G D a w hr hp => by
    obtain ⟨h1, _, _, _⟩ := mf_now hr hp
    refine ⟨fun x w' => x = .bool (decide (s ∈ ks)) ∧ w' = w, ?_, ?_⟩
    · have hy' : a.eval y = .string ⟨s.toArray⟩ := hr.evVal hy
      have : (execOp a.eval ⟨dst, .lookup T x y false, ty, pos, after, none⟩).run P w = .ok (.value (.bool (decide (s ∈ ks)))) w := by simp [execOp, hr.evVal hx, hy', h1.look hT s hs]
      rw [this]; exact ⟨rfl, rfl⟩
    · rintro x w' ⟨rfl, rfl⟩
      exact ⟨_, G, D, _, st, hr, by simp [VRp, Rp], hp, hd, h⟩
theorem mapput {T : TypeId} {x y z : Operand} {b : Nat} {ks : List (List UInt8)} {s : List UInt8} (op : Op) (hop : op = .mapUpdate T x y z ∨ op = .insert T x y z) (hT : MpT P T k e) (hx : st.ev x = some (.c (.val (.map (some b))))) (hy : st.ev y = some (.c (cs s))) (hz : st.ev z = some (.c (.val (.bool true)))) (hs : (s.length : Int) ≤ 1000000) (hn : (ks.length : Int) ≤ 1000000)
    (h : RunZ P (MF P k e G0) ops K rest (some (b, ks ++ [s])) st) : RunZ P (MF P k e G0) ops K (⟨none, op, ty, pos, after, none⟩ :: rest) (some (b, ks)) st :=
  rz_op fun G D a w hr hp => by
    obtain ⟨h1, h2, h3, h4⟩ := mf_now hr hp
    obtain ⟨w', g1, g2, g3⟩ := h1.put hT s hs hn
    have hy' : a.eval y = .string ⟨s.toArray⟩ := hr.evVal hy
    have hk : ∀ c, c < w.heap.size → c ≠ b → w'.heap[c]? = w.heap[c]? := fun c hc hne => g3.block c hc fun e => hne (by cases e; rfl)
    refine ⟨fun _ w2 => w2 = w', ?_, ?_⟩
    · have : (execOp a.eval ⟨none, op, ty, pos, after, none⟩).run P w = .ok .skip w' ∨ ∃ u, (execOp a.eval ⟨none, op, ty, pos, after, none⟩).run P w = .ok (.value u) w' := by
        rcases hop with rfl | rfl <;> simp [execOp, hr.evVal hx, hy', hr.evVal hz, g1]
      rcases this with e | ⟨u, e⟩ <;> (rw [e]; rfl)
    · rintro x w2 rfl
      have hr1 := hr.rebase (w' := w2) (Imm G st.σ D.fp w) (fun _ h => h) (fun _ h => h.2.1) (fun c hc => hk c hc.2.1 fun e => h2 (e ▸ hc)) (fun p hp c hc => hk c (hr.lt hp hc) fun e => h3 p hp (e ▸ hc)) g3.size
      have hl := le_rebase hp.1.1 hr (w' := w2) (Imm G st.σ D.fp w) (fun _ h => h) g3.size (fun c hc => hk c (by have := hp.1.1.size; have := hr.size; omega) fun e => by have := hp.2.1.2.2.2; omega) g3.os g3.tape g3.output
      exact ⟨some (b, ks ++ [s]), _, D, .c .hole, st, hr1, by simp [VRp, Rp], ⟨⟨hl, hp.1.2⟩, ⟨by have := g3.size; show b < w2.heap.size; omega, fun ⟨p, hp, hb⟩ => h3 p hp hb, h2, hp.2.1.2.2.2⟩, g2⟩, rfl, by simpa [St.put] using h⟩
theorem rz_mapUpdate {T : TypeId} {x y z : Operand} {b : Nat} {ks : List (List UInt8)} {s : List UInt8} (hT : MpT P T k e) (hx : st.ev x = some (.c (.val (.map (some b))))) (hy : st.ev y = some (.c (cs s))) (hz : st.ev z = some (.c (.val (.bool true)))) (hs : (s.length : Int) ≤ 1000000) (hn : (ks.length : Int) ≤ 1000000)
    (h : RunZ P (MF P k e G0) ops K rest (some (b, ks ++ [s])) st) : RunZ P (MF P k e G0) ops K (⟨none, .mapUpdate T x y z, ty, pos, after, none⟩ :: rest) (some (b, ks)) st := mapput _ (.inl rfl) hT hx hy hz hs hn h
theorem rz_insert {T : TypeId} {x y z : Operand} {b : Nat} {ks : List (List UInt8)} {s : List UInt8} (hT : MpT P T k e) (hx : st.ev x = some (.c (.val (.map (some b))))) (hy : st.ev y = some (.c (cs s))) (hz : st.ev z = some (.c (.val (.bool true)))) (hs : (s.length : Int) ≤ 1000000) (hn : (ks.length : Int) ≤ 1000000)
    (h : RunZ P (MF P k e G0) ops K rest (some (b, ks ++ [s])) st) : RunZ P (MF P k e G0) ops K (⟨none, .insert T x y z, ty, pos, after, none⟩ :: rest) (some (b, ks)) st := mapput _ (.inr rfl) hT hx hy hz hs hn h
/-- A function that makes a map of its own. -/
theorem af_enterZ {f : Nat} {fn : Func} {c : Code} {args : List C} {Q : C → Prop} (hf : P.funcs[f]? = some fn) (hb : fn.body = some c) (he : (fn.name == "runtime.NumGoroutine") = false) {n : Nat} (hn : fn.ntmps = n) (hl : args.length ≤ n) (k e : TypeId)
    (h : ∀ G0, AZ P (MF P k e G0) c (fun e _ s => RetAF P fn Q e s) none ⟨[], initE 0 args, n⟩) : AF P f args Q :=
  af_enterN hf hb he hn hl fun G D a w hd hr => wpIn_mono ((h G).out G D a w hr ⟨Le.refl G, hd⟩) fun e a' w' ⟨γ', G', D', st', hq, hr', hp'⟩ => by
    have hl : Le G G' ∧ G'.df = [] := by
      rcases γ' with _ | ⟨b, ks⟩
      · exact hp'
      · exact hp'.1
    have := hr'.unle hl.1
    rw [hl.2, ← hd] at this
    exact ⟨D', st', hq, this⟩
end
end Go.Proofs.YtjolbldlhjfciaaDoor