/- The value layer: a part of an owned list of numbers turned in place by a function; no condition. -/
import Derived.Test.YtjolbldlhjfciaaWk
import Derived.Shelf.SlicesG.Reverse
namespace Go.Proofs.Ytjolbldlhjfciaa
open Go.Sort
section
variable {P : Program} {ops : Array Oper} {K : St → Prop} {st : St} {rest : List Oper}
end
theorem AM.weak {P : Program} {f : Nat} {args args' : List C} {Q : C → List C → Prop} (h : AM P f args' Q) (hc : cleL args args') : AM P f args Q := ⟨h.ent, fun w I vals fp a b c d => h.out w I vals fp a b c (hc.2 w I vals fp d)⟩
theorem ws_store5 {P : Program} {st : St} {ty : TypeId} {T : TypeId} {p x : Operand} {id off : Nat} {ob : Ob} {v u1 u2 u3 u4 u5 : V} [hS : SzT P T 5] (hp : st.ev p = some (.cell id off)) (ho : lko id st.σ = some ob) (hlt : off + 4 < ob.xs.length) (hx : st.ev x = some v) (hf : v.fields = some [u1, u2, u3, u4, u5]) (hone : (u1.one && u2.one && u3.one && u4.one && u5.one) = true)
    {K : V → St → Prop} (h : K (.c .hole) ⟨(so id ⟨(((((ob.xs.set off u1.closed).set (off + 1) u2.closed).set (off + 2) u3.closed).set (off + 3) u4.closed).set (off + 4) u5.closed), (u5.holeAt (off + 4) ++ rmH (off + 4) (u4.holeAt (off + 3) ++ rmH (off + 3) (u3.holeAt (off + 2) ++ rmH (off + 2) (u2.holeAt (off + 1) ++ rmH (off + 1) (u1.holeAt off ++ rmH off ob.holes)))))⟩ (so id ⟨((((ob.xs.set off u1.closed).set (off + 1) u2.closed).set (off + 2) u3.closed).set (off + 3) u4.closed), (u4.holeAt (off + 3) ++ rmH (off + 3) (u3.holeAt (off + 2) ++ rmH (off + 2) (u2.holeAt (off + 1) ++ rmH (off + 1) (u1.holeAt off ++ rmH off ob.holes))))⟩ (so id ⟨(((ob.xs.set off u1.closed).set (off + 1) u2.closed).set (off + 2) u3.closed), (u3.holeAt (off + 2) ++ rmH (off + 2) (u2.holeAt (off + 1) ++ rmH (off + 1) (u1.holeAt off ++ rmH off ob.holes)))⟩ (so id ⟨((ob.xs.set off u1.closed).set (off + 1) u2.closed), (u2.holeAt (off + 1) ++ rmH (off + 1) (u1.holeAt off ++ rmH off ob.holes))⟩ (so id ⟨(ob.xs.set off u1.closed), (u1.holeAt off ++ rmH off ob.holes)⟩ st.σ))))), st.env, st.n⟩) : WS P [id] [] (.store T p x) ty st K := by
  intro D G a w hr dst pos after guard
  simp only [Bool.and_eq_true] at hone
  obtain ⟨⟨⟨⟨h1, h2⟩, h3⟩, h4⟩, h5⟩ := hone
  obtain ⟨l, vs, f, hl, hn, hpv, _⟩ := hr.cell hp ho
  obtain ⟨xs, hxe, hxs⟩ := fields_spec hf (hr.ev hx)
  simp only [VRpL] at hxs
  obtain ⟨y1, _, rfl, hv1, y2, _, rfl, hv2, y3, _, rfl, hv3, y4, _, rfl, hv4, y5, _, rfl, hv5, rfl⟩ := hxs
  obtain ⟨_, e1⟩ := one_spec hv1 h1
  obtain ⟨_, e2⟩ := one_spec hv2 h2
  obtain ⟨_, e3⟩ := one_spec hv3 h3
  obtain ⟨_, e4⟩ := one_spec hv4 h4
  obtain ⟨_, e5⟩ := one_spec hv5 h5
  obtain ⟨c1, d1, D1, r1, m1, p1, M1, i1, k1⟩ := hr.store1 (off := off) ho hl hn (by omega) hv1 e1
  have hw2 := VRp.frame i1 k1 M1 _ _ hv2
  have hw3 := VRp.frame i1 k1 M1 _ _ hv3
  have hw4 := VRp.frame i1 k1 M1 _ _ hv4
  have hw5 := VRp.frame i1 k1 M1 _ _ hv5
  obtain ⟨c2, d2, D2, r2, m2, p2, M2, i2, k2⟩ := r1.store1 (off := off + 1) (lko_so ho) m1 hn (by simp; omega) hw2 e2
  have hx3 := VRp.frame i2 k2 M2 _ _ hw3
  have hx4 := VRp.frame i2 k2 M2 _ _ hw4
  have hx5 := VRp.frame i2 k2 M2 _ _ hw5
  obtain ⟨c3, d3, D3, r3, m3, p3, M3, i3, k3⟩ := r2.store1 (off := off + 2) (lko_so (lko_so ho)) m2 hn (by simp; omega) hx3 e3
  have hy4 := VRp.frame i3 k3 M3 _ _ hx4
  have hy5 := VRp.frame i3 k3 M3 _ _ hx5
  obtain ⟨c4, d4, D4, r4, m4, p4, M4, i4, k4⟩ := r3.store1 (off := off + 3) (lko_so (lko_so (lko_so ho))) m3 hn (by simp; omega) hy4 e4
  have hz5 := VRp.frame i4 k4 M4 _ _ hy5
  obtain ⟨c5, d5, D5, r5, m5, p5, _⟩ := r4.store1 (off := off + 4) (lko_so (lko_so (lko_so (lko_so ho)))) m4 hn (by simp; omega) hz5 e5
  obtain ⟨z1, hz1⟩ := Option.ne_none_iff_exists'.1 c1
  obtain ⟨z2, hz2⟩ := Option.ne_none_iff_exists'.1 c2
  obtain ⟨z3, hz3⟩ := Option.ne_none_iff_exists'.1 c3
  obtain ⟨z4, hz4⟩ := Option.ne_none_iff_exists'.1 c4
  obtain ⟨z5, hz5'⟩ := Option.ne_none_iff_exists'.1 c5
  have hrun : (execOp a.eval ⟨dst, .store T p x, ty, pos, after, guard⟩).run P w = .ok .skip (((((w.setCell ⟨l.b, l.off + off, none⟩ y1).setCell ⟨l.b, l.off + (off + 1), none⟩ y2).setCell ⟨l.b, l.off + (off + 2), none⟩ y3).setCell ⟨l.b, l.off + (off + 3), none⟩ y4).setCell ⟨l.b, l.off + (off + 4), none⟩ y5) := by
    simp [execOp, Instr.storeAt, hpv, hxe, Instr.sureAddr, storeVar, Value.cells, sizeOf_run hS.s, storeCells, run_store _ _ _ _ _ e1, run_store _ _ _ _ _ e2, run_store _ _ _ _ _ e3, run_store _ _ _ _ _ e4, run_store _ _ _ _ _ e5, hz1, d1, hz2, d2, hz3, d3, hz4, d4, hz5', d5, Addr.add, Nat.add_assoc]
  rw [hrun]
  have q2 := Upd.comp r1 ⟨_, mem_of_lko (lko_so ho), rfl⟩ p1 p2 r2
  have q3 := Upd.comp r2 ⟨_, mem_of_lko (lko_so (lko_so ho)), rfl⟩ q2 p3 r3
  have q4 := Upd.comp r3 ⟨_, mem_of_lko (lko_so (lko_so (lko_so ho))), rfl⟩ q3 p4 r4
  have q5 := Upd.comp r4 ⟨_, mem_of_lko (lko_so (lko_so (lko_so (lko_so ho)))), rfl⟩ q4 p5 r5
  exact ⟨D5, .c .hole, _, h, r5, by simp [VRp, Rp], q5⟩

end Go.Proofs.Ytjolbldlhjfciaa