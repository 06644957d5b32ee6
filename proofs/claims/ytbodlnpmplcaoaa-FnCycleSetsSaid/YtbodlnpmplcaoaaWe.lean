/- The value layer: values of array types with elements of one cell; no condition. -/
import Derived.Test.YtbodlnpmplcaoaaWd
namespace Go.Proofs.Ytbodlnpmplcaoaa
class ArT (P : Program) (T : Nat) (n : outParam Nat) (e : outParam Nat) (zs : outParam (List Value)) : Prop where
  u : P.underlying T = some (.array n e)
  z : (P.info? T).map (·.zero) = some (some (.agg zs.toArray))
  n : zs.length = n
  s : (P.info? e).map (·.size) = some 1
  p : aggB P e = false

section
variable {P : Program} {X : Option (List Nat)} {st : St} {ty : TypeId}
end
def cu (x : Int) : C := .val (.int .u64 x)
def w64 (n : Int) : Int := IntKind.u64.wrap n
theorem w64_in (n : Int) : 0 ≤ w64 n ∧ w64 n ≤ 18446744073709551615 := by unfold w64; rw [IntKind.wrap_u64]; omega
section
variable {P : Program} {X : Option (List Nat)} {st : St} {ty : TypeId}
theorem ss_addU {T T' : TypeId} {x y : Operand} {u v : Int} (hx : st.ev x = some (.c (cu u))) (hy : st.ev y = some (.c (cu v))) : SS P X (.binOp .add T x y T') ty st (.c (cu (w64 (u + v)))) :=
  ss_bin (u := .int .u64 u) (v := .int .u64 v) (z := .int .u64 (w64 (u + v))) hx hy (fun _ _ => eqGuard_add ..) fun w => by rw [binOp_add]; simp [Op.intArith, w64]
theorem ss_mulU {T T' : TypeId} {x y : Operand} {u v : Int} (hx : st.ev x = some (.c (cu u))) (hy : st.ev y = some (.c (cu v))) : SS P X (.binOp .mul T x y T') ty st (.c (cu (w64 (u * v)))) :=
  ss_bin (u := .int .u64 u) (v := .int .u64 v) (z := .int .u64 (w64 (u * v))) hx hy (fun _ _ => eqGuard_mul ..) fun w => by rw [binOp_mul]; simp [Op.intArith, w64]
theorem ss_shrU {T T' : TypeId} {x y : Operand} {yk : IntKind} {u v : Int} (hx : st.ev x = some (.c (cu u))) (hy : st.ev y = some (.c (.val (.int yk v)))) (h : 0 ≤ u ∧ 0 ≤ v ∧ v ≤ 62) :
    SS P X (.binOp .shr T x y T') ty st (.c (cu (u / (2 : Int) ^ v.toNat))) :=
  ss_bin (u := .int .u64 u) (z := .int .u64 (u / (2 : Int) ^ v.toNat)) hx hy (fun _ _ => rfl) fun w => by
    have e : min v.toNat IntKind.u64.bits = v.toNat := by show min v.toNat 64 = v.toNat; omega
    simp only [binOp, Op.shift]
    rw [if_neg (by omega)]
    simp only [e, Int.fdiv_eq_ediv_of_nonneg u (Int.pow_nonneg (show (0 : Int) ≤ 2 by omega))]
    rfl
theorem bits_natU {u : Int} (h : 0 ≤ u ∧ u ≤ 18446744073709551615) : (BitVec.ofInt 64 u).toNat = u.toNat := by
  rw [BitVec.toNat_ofInt]
  congr 1
  have : ((2 ^ 64 : Nat) : Int) = 18446744073709551616 := by decide
  rw [this]; exact Int.emod_eq_of_lt h.1 (by omega)
theorem ss_andU {T T' : TypeId} {x y : Operand} {u v : Int} (hx : st.ev x = some (.c (cu u))) (hy : st.ev y = some (.c (cu v))) (h : (0 ≤ u ∧ u ≤ 18446744073709551615) ∧ 0 ≤ v ∧ v ≤ 18446744073709551615) :
    SS P X (.binOp .and T x y T') ty st (.c (cu ((u.toNat &&& v.toNat : Nat) : Int))) :=
  ss_bin (u := .int .u64 u) (v := .int .u64 v) (z := .int .u64 ((u.toNat &&& v.toNat : Nat) : Int)) hx hy (fun _ _ => rfl) fun w => by
    have hl : u.toNat &&& v.toNat ≤ u.toNat := Nat.and_le_left
    have e2 : (BitVec.ofInt IntKind.u64.bits u &&& BitVec.ofInt IntKind.u64.bits v).toNat = u.toNat &&& v.toNat := by
      show (BitVec.ofInt 64 u &&& BitVec.ofInt 64 v).toNat = u.toNat &&& v.toNat
      rw [BitVec.toNat_and, bits_natU h.1, bits_natU h.2]
    have e3 : IntKind.u64.wrap ((u.toNat &&& v.toNat : Nat) : Int) = ((u.toNat &&& v.toNat : Nat) : Int) := IntWalk.u64_in _ ⟨by omega, by omega⟩
    simp only [binOp, Op.intBits, e2, e3]
    rfl
end
def plugs (st : St) : List V → List (Nat × Operand) → Option (List V)
  | l, [] => some l
  | l, (i, o) :: r => match st.ev o with
    | some v => bif Nat.blt i l.length && v.one then plugs st (l.set i v) r else none
    | none => none
def plugV (ev : Operand → Value) : List Value → List (Nat × Operand) → List Value
  | l, [] => l
  | l, (i, o) :: r => plugV ev (l.set i (ev o)) r
section
variable {P : Program} {X : Option (List Nat)} {st : St} {ty : TypeId}
theorem vrpL_len {w : World} {I : Nat → Prop} {M : Nat → Option Loc} : ∀ {l : List V} {xs : List Value}, VRpL w I M l xs → xs.length = l.length
  | [], xs, h => by simp only [VRpL] at h; simp [h]
  | v :: l, xs, h => by
    simp only [VRpL] at h
    obtain ⟨x, xs', rfl, _, h3⟩ := h
    simp [vrpL_len h3]
theorem vrpL_set {w : World} {I : Nat → Prop} {M : Nat → Option Loc} {v : V} {x : Value} (hv : VRp w I M v x) : ∀ {l : List V} {xs : List Value} (i : Nat), VRpL w I M l xs → VRpL w I M (l.set i v) (xs.set i x)
  | [], xs, i, h => by simp only [VRpL] at h; subst h; simp [VRpL]
  | u :: l, xs, 0, h => by
    simp only [VRpL] at h
    obtain ⟨y, xs', rfl, h2, h3⟩ := h
    simp only [List.set_cons_zero, VRpL]
    exact ⟨x, xs', rfl, hv, h3⟩
  | u :: l, xs, i + 1, h => by
    simp only [VRpL] at h
    obtain ⟨y, xs', rfl, h2, h3⟩ := h
    simp only [List.set_cons_succ, VRpL]
    exact ⟨y, _, rfl, h2, vrpL_set hv i h3⟩
theorem plugs_sound {D : Data} {G : Glob} {a : Act} {w : World} (hr : Rep D G st a w) (n : Nat) : ∀ (ps : List (Nat × Operand)) (l vs : List V) (xs : List Value), plugs st l ps = some vs → VRpL w (Imm G st.σ D.fp w) D.M l xs → l.length = n →
    VRpL w (Imm G st.σ D.fp w) D.M vs (plugV a.eval xs ps) ∧ Instr.fill (fun i => (((List.range n).map fun i => (i, 1)).toArray)[i]?) xs.toArray (ps.map fun p => (p.1, a.eval p.2)) = some (plugV a.eval xs ps).toArray
  | [], l, vs, xs, h, hx, hn => by
    simp only [plugs, Option.some.injEq] at h; subst h
    exact ⟨hx, by simp [Instr.fill, plugV]⟩
  | (i, o) :: r, l, vs, xs, h, hx, hn => by
    simp only [plugs] at h
    split at h
    · rename_i v hv
      cases hb : (Nat.blt i l.length && v.one) with
      | false => rw [hb] at h; cases h
      | true =>
        rw [hb] at h
        simp only [cond_true] at h
        simp only [Bool.and_eq_true] at hb
        have hi : i < l.length := Nat.le_of_ble_eq_true hb.1
        have hev := hr.ev hv
        have hc : (a.eval o).cells = #[a.eval o] := (one_spec hev hb.2).1
        obtain ⟨q1, q2⟩ := plugs_sound hr n r (l.set i v) vs (xs.set i (a.eval o)) h (vrpL_set hev i hx) (by simp [hn])
        refine ⟨q1, ?_⟩
        have hl := vrpL_len hx
        have hp : (((List.range n).map fun i => (i, 1)).toArray)[i]? = some (i, 1) := by
          have : i < n := by omega
          simp [this]
        simp only [List.map_cons, Instr.fill, hp, hc]
        rw [if_neg (by simp; omega)]
        have e : ((#[a.eval o] : Array Value).zipIdx.foldl (fun cs (c, j) => cs.setIfInBounds (i + j) c) xs.toArray) = (xs.set i (a.eval o)).toArray := by simp
        simp only [e]
        exact q2
    · cases h
theorem ss_buildG {T : TypeId} {zs : List Value} [hT : BuT P T zs] {ps : List (Nat × Operand)} {vs : List V} (hp : plugs st (zs.map fun z => V.c (.val z)) ps = some vs) : SS P X (.build T ps.toArray) ty st (.agg vs) := fun D G a w hr => by
  have hz : VRpL w (Imm G st.σ D.fp w) D.M (zs.map fun z => V.c (.val z)) zs := VRpL.vals zs
  obtain ⟨q1, q2⟩ := plugs_sound hr zs.length ps _ vs zs hp hz (by simp)
  refine ⟨.agg (plugV a.eval zs ps).toArray, by simp only [VRp]; exact ⟨_, rfl, q1⟩, fun w' _ dst pos after guard => ?_⟩
  obtain ⟨fs, h1, h2⟩ := build_places (P := P) (T := T) w'
  simp only [execOp, Instr.build, Sem.run_bind, build_zero (P := P) (T := T), Result.andThen_ok, run_underlying h1]
  rw [h2]
  simp only [Result.andThen_ok, Array.toList_map, Value.cells]
  rw [q2]
  rfl
end
section
variable {st : St}
end

end Go.Proofs.Ytbodlnpmplcaoaa
