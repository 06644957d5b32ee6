/- The value layer: an iterator whose loop yields what an object of its own holds; no condition. -/
import Derived.Test.YtjolbldlhjfciaaWi
namespace Go.Proofs.Ytjolbldlhjfciaa
structure Zo (n0 : Nat) (G : Glob) (Z : Nat → Prop) : Prop where
  z : ∀ b, Z b → b < G.w0.heap.size ∧ ¬ G.F0 b ∧ ¬ G.I0 b
  nn : n0 ≤ G.w0.heap.size
  f0 : ∀ b, G.F0 b → n0 ≤ b
  df : G.df = []
theorem Zo.abd {n0 : Nat} {G : Glob} {Z : Nat → Prop} (h : Zo n0 G Z) {D : Data} {st : St} {a : Act} {w : World} (hr : Rep D G st a w) : Abd n0 Z G.w0 w :=
  ⟨hr.size, fun b hb hlt => hr.frame b hlt fun g => by
    rcases hb with hb | hb
    · exact (h.z b hb).2.1 g
    · have := h.f0 b g; omega, hr.os, hr.tape, hr.output⟩
theorem Zo.step {n0 : Nat} {G : Glob} {Z Z' : Nat → Prop} (h : Zo n0 G Z) {D : Data} {st : St} {a : Act} {w w' : World} (hr : Rep D G st a w) (hg : Grw Z w Z' w') :
    ∃ G', Rep D G' st a w' ∧ Zo n0 G' Z' ∧ G'.w0 = w' := by
  obtain ⟨g1, g2, g3, g4, g5, g6⟩ := hg
  have hsz := hr.size
  have hnI : ∀ b, Imm G st.σ D.fp w b → ¬ Z b := fun b hb hz => by
    have := h.z b hz
    rcases hb.1 with k | k | k
    · exact this.2.2 k
    · exact this.2.1 k
    · omega
  have hnF : ∀ p ∈ st.σ, ∀ b ∈ D.fp p.1, ¬ Z b := fun p hp b hb hz => by
    have := h.z b hz
    rcases hr.own p hp b hb with k | k
    · exact this.2.1 k
    · omega
  refine ⟨_, hr.rebase (w' := w') (Imm G st.σ D.fp w) (fun _ h => h) (fun _ h => h.2.1) (fun b hb => g2 b hb.2.1 (hnI b hb)) (fun p hp b hb => g2 b (hr.lt hp hb) (hnF p hp b hb)) g1, ⟨fun b hb => ?_, ?_, fun b hb => ?_, ?_⟩, rfl⟩
  · obtain ⟨k1, k2⟩ := g3 b hb
    refine ⟨k1, fun ⟨p, hp, k⟩ => ?_, fun k => ?_⟩
    · rcases k2 with k2 | k2
      · exact hnF p hp b k k2
      · have := hr.lt hp k; omega
    · rcases k2 with k2 | k2
      · exact hnI b k k2
      · have := k.2.1; omega
  · have := h.nn
    show n0 ≤ w'.heap.size
    omega
  · obtain ⟨p, hp, k⟩ := hb
    rcases hr.own p hp b k with k | k
    · exact h.f0 b k
    · have := h.nn; omega
  · show G.df = []
    exact h.df
def yv (l : Nat) : Value := .func (.yield l) #[] #[]
theorem yield_run {P : Program} {l : Nat} {ρ : Operand → Value} {x y : Operand} {at_ : Array TypeId} {dst : Option Nat} {ty : TypeId} {pos : String} {after : Array Edge} {w : World} {r : Result Next} (hx : ρ x = yv l)
    (hy : (Instr.yield l #[ρ y]).run P w = r) : (execOp ρ ⟨dst, .call { callee := .value x, args := #[y], argTypes := at_ }, ty, pos, after, none⟩).run P w = r := by
  subst hy
  simp [execOp, resolve, hx, yv, invoke, go_sem]
end Go.Proofs.Ytjolbldlhjfciaa
