/- The value layer: parts of texts; no condition. -/
import Derived.Test.YtjolbldlhjfciaaDoorWo
import Derived.Laws.Strings2
import Derived.Laws.Slices
namespace Go.Proofs.YtjolbldlhjfciaaDoor
section
variable {P : Program} {X : Option (List Nat)} {st : St} {ty : TypeId}
theorem ext_sl (s : List UInt8) {a b : Nat} : (⟨s.toArray⟩ : ByteArray).extract a b = ⟨((s.take b).drop a).toArray⟩ := by
  apply ByteArray.ext
  rw [ByteArray.data_extract]
  apply Array.ext'
  simp [List.drop_take]
/-- A part of a text. -/
theorem ss_slS {T : TypeId} [hT : StrT P T] {x : Operand} {lo hi : Option Operand} {s : List UInt8} {a b : Int} (hx : st.ev x = some (.c (cs s))) (hlo : bndV st lo 0 a) (hhi : bndV st hi s.length b)
    (hb : 0 ≤ a ∧ a ≤ b ∧ b ≤ (s.length : Int)) : SS P X (.slice T x lo hi none) ty st (.c (cs ((s.take b.toNat).drop a.toNat))) := fun D G a' w hr =>
  ⟨_, vrp_val _ _ _ _, fun w' _ dst pos after guard => by
    have hx' : a'.eval x = .string ⟨s.toArray⟩ := hr.evVal hx
    have hs : ((⟨s.toArray⟩ : ByteArray).size : Int) = (s.length : Int) := by simp [ByteArray.size]
    have hs2 : (⟨s.toArray⟩ : ByteArray).size = s.length := by omega
    simp only [execOp, hx', Sem.run_bind, run_sliceAt_string _ _ _ _ _ _ hT.u]
    cases lo with
    | none =>
      simp only [bndV] at hlo; subst hlo
      cases hi with
      | none =>
        simp only [bndV] at hhi; subst hhi
        simp only [Option.map_none]
        rw [run_slice_string_all w' T _ hT.u, ext_sl, hs2]
        simp
      | some o2 =>
        obtain ⟨k2, h2⟩ := hhi
        simp only [Option.map_none, Option.map_some, hr.evVal h2]
        rw [run_slice_string_h w' T _ hT.u k2 b (by omega) (by omega), ext_sl]
        simp
    | some o1 =>
      obtain ⟨k1, h1⟩ := hlo
      cases hi with
      | none =>
        simp only [bndV] at hhi; subst hhi
        simp only [Option.map_none, Option.map_some, hr.evVal h1]
        rw [run_slice_string_l w' T _ hT.u k1 a (by omega) (by omega), ext_sl, hs2]
        simp
      | some o2 =>
        obtain ⟨k2, h2⟩ := hhi
        simp only [Option.map_none, Option.map_some, hr.evVal h1, hr.evVal h2]
        rw [run_slice_string w' T _ k1 k2 a b hT.u (by omega) (by omega) (by omega), ext_sl]
        simp⟩
/-- A field of a struct's value. -/
class FvT (P : Program) (T k : Nat) (off : outParam Nat) : Prop where
  f : (match P.underlying T with | some (.struct fs) => (fs[k]?).map (fun x => (x.offset, aggB P x.type)) | _ => none) = some (off, false)
theorem ss_fieldV {T k off : Nat} [hT : FvT P T k off] {x : Operand} {v u : V} {us : List V} (hx : st.ev x = some v) (hf : v.fields = some us) (hk : us[off]? = some u) : SS P X (.field T x k) ty st u := fun D G a w hr => by
  have h1 := hr.ev hx
  obtain ⟨xs, e1, h2⟩ := fields_spec hf h1
  obtain ⟨y, e2, e3⟩ := h2.get hk
  refine ⟨y, e3, fun w' _ dst pos after guard => ?_⟩
  have hf := hT.f
  split at hf
  · rename_i fs hu
    obtain ⟨z, hz, hy⟩ := Option.map_eq_some_iff.1 hf
    simp only [Prod.mk.injEq] at hy
    obtain ⟨h3, h4⟩ := hy
    simp [execOp, e1, Instr.field, run_underlying hu, hz, asAgg, part, isAgg_plain h4, h3, e2]
  · cases hf
end
section
variable {P : Program} {st : St}
theorem retv4 {fn : Func} {r1 r2 r3 r4 : ResultVar} {v1 v2 v3 v4 : V} (h : fn.results = #[r1, r2, r3, r4]) (hr1 : Rv P st r1 v1) (hr2 : Rv P st r2 v2) (hr3 : Rv P st r3 v3) (hr4 : Rv P st r4 v4) : RetV P fn st (.tup [v1, v2, v3, v4]) := fun D G a w hrep => by
  obtain ⟨x1, h1, h2⟩ := hr1 D G a w hrep
  obtain ⟨x2, h3, h4⟩ := hr2 D G a w hrep
  obtain ⟨x3, h5, h6⟩ := hr3 D G a w hrep
  obtain ⟨x4, h7, h8⟩ := hr4 D G a w hrep
  refine ⟨.tuple #[x1, x2, x3, x4], ?_, by simp only [VRp]; exact ⟨[x1, x2, x3, x4], rfl, by simp only [VRpL]; exact ⟨_, _, rfl, h2, _, _, rfl, h4, _, _, rfl, h6, _, _, rfl, h8, rfl⟩⟩⟩
  have e : (results fn a.tmps).run P w = (RvRun P r1 a w).andThen fun x1 w => (RvRun P r2 a w).andThen fun x2 w => (RvRun P r3 a w).andThen fun x3 w => (RvRun P r4 a w).andThen fun x4 w => .ok (.tuple #[x1, x2, x3, x4]) w := by
    unfold RvRun; cases r1 <;> cases r2 <;> cases r3 <;> cases r4 <;> simp [results, h, andThen_assoc]
  rw [e, h1, Result.andThen_ok, h3, Result.andThen_ok, h5, Result.andThen_ok, h7]; rfl
/-! Ways that meet again. -/
variable {Q : Exit → St → Prop} {x y : Code}
theorem aw_join0 (S : St) (J : Prop) (hx : AW P x (thn (fun st' => GhE st' S ∧ J) Q) st) (hy : J → AW P y Q S) : AW P (.seq x y) Q st :=
  aw_seq (aw_mono hx fun e s h => by
    cases e with
    | normal => simp only [thn] at h ⊢; obtain ⟨⟨Y, h1⟩, h2⟩ := h; exact aw_gh h1 (hy h2)
    | _ => exact h)
theorem aw_join1 {A0 : Type} (S : A0 → St) (J : A0 → Prop) (hx : AW P x (thn (fun st' => ∃ a0, GhE st' (S a0) ∧ J a0) Q) st) (hy : ∀ a0, J a0 → AW P y Q (S a0)) : AW P (.seq x y) Q st :=
  aw_seq (aw_mono hx fun e s h => by
    cases e with
    | normal => simp only [thn] at h ⊢; obtain ⟨a0, ⟨Y, h1⟩, h2⟩ := h; exact aw_gh h1 (hy a0 h2)
    | _ => exact h)
theorem aw_join2 {A0 A1 : Type} (S : A0 → A1 → St) (J : A0 → A1 → Prop) (hx : AW P x (thn (fun st' => ∃ a0 a1, GhE st' (S a0 a1) ∧ J a0 a1) Q) st) (hy : ∀ a0 a1, J a0 a1 → AW P y Q (S a0 a1)) : AW P (.seq x y) Q st :=
  aw_seq (aw_mono hx fun e s h => by
    cases e with
    | normal => simp only [thn] at h ⊢; obtain ⟨a0, a1, ⟨Y, h1⟩, h2⟩ := h; exact aw_gh h1 (hy a0 a1 h2)
    | _ => exact h)
theorem aw_join3 {A0 A1 A2 : Type} (S : A0 → A1 → A2 → St) (J : A0 → A1 → A2 → Prop) (hx : AW P x (thn (fun st' => ∃ a0 a1 a2, GhE st' (S a0 a1 a2) ∧ J a0 a1 a2) Q) st) (hy : ∀ a0 a1 a2, J a0 a1 a2 → AW P y Q (S a0 a1 a2)) : AW P (.seq x y) Q st :=
  aw_seq (aw_mono hx fun e s h => by
    cases e with
    | normal => simp only [thn] at h ⊢; obtain ⟨a0, a1, a2, ⟨Y, h1⟩, h2⟩ := h; exact aw_gh h1 (hy a0 a1 a2 h2)
    | _ => exact h)
theorem aw_join4 {A0 A1 A2 A3 : Type} (S : A0 → A1 → A2 → A3 → St) (J : A0 → A1 → A2 → A3 → Prop) (hx : AW P x (thn (fun st' => ∃ a0 a1 a2 a3, GhE st' (S a0 a1 a2 a3) ∧ J a0 a1 a2 a3) Q) st) (hy : ∀ a0 a1 a2 a3, J a0 a1 a2 a3 → AW P y Q (S a0 a1 a2 a3)) : AW P (.seq x y) Q st :=
  aw_seq (aw_mono hx fun e s h => by
    cases e with
    | normal => simp only [thn] at h ⊢; obtain ⟨a0, a1, a2, a3, ⟨Y, h1⟩, h2⟩ := h; exact aw_gh h1 (hy a0 a1 a2 a3 h2)
    | _ => exact h)
theorem aw_join5 {A0 A1 A2 A3 A4 : Type} (S : A0 → A1 → A2 → A3 → A4 → St) (J : A0 → A1 → A2 → A3 → A4 → Prop) (hx : AW P x (thn (fun st' => ∃ a0 a1 a2 a3 a4, GhE st' (S a0 a1 a2 a3 a4) ∧ J a0 a1 a2 a3 a4) Q) st) (hy : ∀ a0 a1 a2 a3 a4, J a0 a1 a2 a3 a4 → AW P y Q (S a0 a1 a2 a3 a4)) : AW P (.seq x y) Q st :=
  aw_seq (aw_mono hx fun e s h => by
    cases e with
    | normal => simp only [thn] at h ⊢; obtain ⟨a0, a1, a2, a3, a4, ⟨Y, h1⟩, h2⟩ := h; exact aw_gh h1 (hy a0 a1 a2 a3 a4 h2)
    | _ => exact h)
theorem aw_join6 {A0 A1 A2 A3 A4 A5 : Type} (S : A0 → A1 → A2 → A3 → A4 → A5 → St) (J : A0 → A1 → A2 → A3 → A4 → A5 → Prop) (hx : AW P x (thn (fun st' => ∃ a0 a1 a2 a3 a4 a5, GhE st' (S a0 a1 a2 a3 a4 a5) ∧ J a0 a1 a2 a3 a4 a5) Q) st) (hy : ∀ a0 a1 a2 a3 a4 a5, J a0 a1 a2 a3 a4 a5 → AW P y Q (S a0 a1 a2 a3 a4 a5)) : AW P (.seq x y) Q st :=
  aw_seq (aw_mono hx fun e s h => by
    cases e with
    | normal => simp only [thn] at h ⊢; obtain ⟨a0, a1, a2, a3, a4, a5, ⟨Y, h1⟩, h2⟩ := h; exact aw_gh h1 (hy a0 a1 a2 a3 a4 a5 h2)
    | _ => exact h)
end
end Go.Proofs.YtjolbldlhjfciaaDoor
