/- The value layer: functions that yield beside what they turn, and the iterators over them; no condition. -/
import Derived.Test.YtggeeemecgmhiaaWn
namespace Go.Proofs.Ytggeeemecgmhiaa
def JG (J : Nat → World → (Nat → Prop) → Prop) (Jx : World → (Nat → Prop) → Prop) : Option Nat → World → (Nat → Prop) → Prop
  | some k, W, Z => J k W Z
  | none, W, Z => Jx W Z
structure LeZ (Gb : Glob) (Zb : Nat → Prop) (G : Glob) (Z : Nat → Prop) : Prop where
  size : Gb.w0.heap.size ≤ G.w0.heap.size
  frame : ∀ b, b < Gb.w0.heap.size → ¬ Gb.F0 b → ¬ Zb b → G.w0.heap[b]? = Gb.w0.heap[b]?
  own : ∀ b, G.F0 b → Gb.F0 b ∨ Gb.w0.heap.size ≤ b
  imm : ∀ b, G.I0 b → Gb.I0 b ∨ Gb.F0 b ∨ Gb.w0.heap.size ≤ b
  zz : ∀ b, Z b → Zb b ∨ Gb.w0.heap.size ≤ b
  gv : G.gv = Gb.gv
  os : G.w0.os = Gb.w0.os
  tape : G.w0.tape = Gb.w0.tape
  output : G.w0.output = Gb.w0.output
theorem LeZ.refl (G : Glob) (Z : Nat → Prop) : LeZ G Z G Z := ⟨Nat.le_refl _, fun _ _ _ _ => rfl, fun _ h => .inl h, fun _ h => .inl h, fun _ h => .inl h, rfl, rfl, rfl, rfl⟩
section
variable {P : Program} {l n0 : Nat} {xs : List C} {J : Nat → World → (Nat → Prop) → Prop} {Jx : World → (Nat → Prop) → Prop}
structure AMZ (P : Program) (n0 : Nat) (J : Nat → World → (Nat → Prop) → Prop) (Jx : World → (Nat → Prop) → Prop) (f : Nat) (args : List C) (γ : Option Nat) (Q : C → List C → Option Nat → Prop) : Prop where
  ent : EntB P f = true
  out : ∀ (w : World) (I : Nat → Prop) (vals : List Value) (fp : List Nat) (Z : Nat → Prop), (∀ b, I b → b < w.heap.size) → (∀ b ∈ fp, ¬ I b) → fp.Nodup → RpL w I args vals fp → (∀ b ∈ fp, n0 ≤ b) → n0 ≤ w.heap.size →
    (∀ b, Z b → b < w.heap.size ∧ b ∉ fp ∧ ¬ I b) → JG J Jx γ w Z →
    CallsIn (Fw none) 0 P f vals.toArray w fun e w' => ∃ r outs x fz γ' Z', e = .returned x ∧ Q r outs γ' ∧ RpL w' (fun b => (I b ∨ ((b ∈ fp ∨ w.heap.size ≤ b) ∧ b < w'.heap.size ∧ b ∉ fz)) ∧ ¬ Z' b) (r :: outs) (x :: vals) fz ∧ fz.Nodup ∧
      (∀ b ∈ fz, (b ∈ fp ∨ w.heap.size ≤ b) ∧ ¬ Z' b) ∧ w.heap.size ≤ w'.heap.size ∧ (∀ b, b < w.heap.size → b ∉ fp → ¬ Z b → w'.heap[b]? = w.heap[b]?) ∧ (∀ b, Z' b → b < w'.heap.size ∧ (Z b ∨ w.heap.size ≤ b)) ∧
      JG J Jx γ' w' Z' ∧ w'.os = w.os ∧ w'.tape = w.tape ∧ w'.output = w.output
theorem AMZ.mono {f : Nat} {args : List C} {γ : Option Nat} {Q Q' : C → List C → Option Nat → Prop} (h : AMZ P n0 J Jx f args γ Q) (hq : ∀ r o g, Q r o g → Q' r o g) : AMZ P n0 J Jx f args γ Q' :=
  ⟨h.ent, fun w I vals fp Z a b c d e f g i => (h.out w I vals fp Z a b c d e f g i).mono fun _ _ ⟨r, outs, x, fz, g', Z', e1, e2, e3⟩ => ⟨r, outs, x, fz, g', Z', e1, hq _ _ _ e2, e3⟩⟩
section
variable {Gb : Glob} {Zb : Nat → Prop} {ops : Array Oper} {K : Option Nat → St → Prop} {st : St} {rest : List Oper} {ty : TypeId} {dst : Option Nat} {pos : String} {after : Array Edge} {γ : Option Nat}
end
end
section
variable {P : Program} {fn : Func} {Q : C → Prop} {e : Exit} {st st' : St}
end
end Go.Proofs.Ytggeeemecgmhiaa