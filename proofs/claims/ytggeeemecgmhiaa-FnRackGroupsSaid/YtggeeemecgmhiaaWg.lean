/- The value layer: loops that range over a function: the walk of the loop's function; no condition. -/
import Derived.Test.YtggeeemecgmhiaaWf
namespace Go.Proofs.Ytggeeemecgmhiaa
theorem Rep.rebase {D : Data} {G : Glob} {st : St} {a : Act} {w w' : World} (h : Rep D G st a w) (I0' : Nat → Prop) (hI : ∀ b, Imm G st.σ D.fp w b → I0' b) (_hI2 : ∀ b, I0' b → b < w.heap.size)
    (hk : ∀ b, Imm G st.σ D.fp w b → w'.heap[b]? = w.heap[b]?) (hf : ∀ p ∈ st.σ, ∀ b ∈ D.fp p.1, w'.heap[b]? = w.heap[b]?) (hs : w.heap.size ≤ w'.heap.size) :
    Rep D ⟨w', fun b => ∃ p ∈ st.σ, b ∈ D.fp p.1, I0', G.gv, G.df⟩ st a w' := by
  have hI' : ∀ b, Imm G st.σ D.fp w b → Imm ⟨w', fun b => ∃ p ∈ st.σ, b ∈ D.fp p.1, I0', G.gv, G.df⟩ st.σ D.fp w' b := fun b hb => ⟨.inl (hI b hb), by have := hb.2.1; omega, hb.2.2⟩
  exact ⟨fun p hp => let ⟨l, h1, h2⟩ := h.obs p hp; ⟨l, h1, h2.frame hI' hk (fun _ _ h => h) (hf p hp)⟩, h.dom, h.nodup, h.disj1, h.disj2,
    fun i v hv => let ⟨x, h1, h2⟩ := h.env i v hv; ⟨x, h1, VRp.frame hI' hk (fun _ _ h => h) _ _ h2⟩, fun p hp b hb => .inl ⟨p, hp, hb⟩, fun _ _ _ => rfl, Nat.le_refl _, rfl, rfl, rfl, h.ntmps, h.defers⟩
structure Le (G G' : Glob) : Prop where
  size : G.w0.heap.size ≤ G'.w0.heap.size
  frame : ∀ b, b < G.w0.heap.size → ¬ G.F0 b → G'.w0.heap[b]? = G.w0.heap[b]?
  own : ∀ b, G'.F0 b → G.F0 b ∨ G.w0.heap.size ≤ b
  imm : ∀ b, G'.I0 b → G.I0 b ∨ G.F0 b ∨ G.w0.heap.size ≤ b
  gv : G'.gv = G.gv
  os : G'.w0.os = G.w0.os
  tape : G'.w0.tape = G.w0.tape
  output : G'.w0.output = G.w0.output
theorem Le.refl (G : Glob) : Le G G := ⟨Nat.le_refl _, fun _ _ _ => rfl, fun _ h => .inl h, fun _ h => .inl h, rfl, rfl, rfl, rfl⟩
theorem Rep.unle {G G' : Glob} (hl : Le G G') {D : Data} {st : St} {a : Act} {w : World} (h : Rep D G' st a w) : Rep D ⟨G.w0, G.F0, G.I0, G.gv, G'.df⟩ st a w := by
  have hI : ∀ b, Imm G' st.σ D.fp w b → Imm ⟨G.w0, G.F0, G.I0, G.gv, G'.df⟩ st.σ D.fp w b := fun b hb => ⟨by
    rcases hb.1 with h1 | h1 | h1
    · exact hl.imm b h1
    · exact .inr (hl.own b h1)
    · exact .inr (.inr (by have := hl.size; show G.w0.heap.size ≤ b; omega)), hb.2.1, hb.2.2⟩
  refine ⟨fun p hp => let ⟨l, h1, h2⟩ := h.obs p hp; ⟨l, h1, h2.frame hI (fun _ _ => rfl) (fun _ _ h => h) (fun _ _ => rfl)⟩, h.dom, h.nodup, h.disj1, h.disj2,
    fun i v hv => let ⟨x, h1, h2⟩ := h.env i v hv; ⟨x, by rw [← h1]; unfold slot; rw [hl.gv], VRp.frame hI (fun _ _ => rfl) (fun _ _ h => h) _ _ h2⟩, fun p hp b hb => ?_, fun b hb hn => ?_, Nat.le_trans hl.size h.size, h.os.trans hl.os, h.tape.trans hl.tape, h.output.trans hl.output, h.ntmps, h.defers⟩
  · rcases h.own p hp b hb with h1 | h1
    · exact hl.own b h1
    · exact .inr (Nat.le_trans hl.size h1)
  · have hlt := hl.size
    rw [h.frame b (Nat.lt_of_lt_of_le hb hlt) fun g => (hl.own b g).elim hn fun g => by have : b < G.w0.heap.size := hb; omega]
    exact hl.frame b hb hn
section
variable {P : Program} {Q : Exit → St → Prop} {st : St}
end
end Go.Proofs.Ytggeeemecgmhiaa
