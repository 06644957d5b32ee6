/- The value layer: parts of texts; no condition. -/
import Derived.Test.YtkmoeodoidpjkaaDoorWo
import Derived.Laws.Strings2
import Derived.Laws.Slices
namespace Go.Proofs.YtkmoeodoidpjkaaDoor
section
variable {P : Program} {X : Option (List Nat)} {st : St} {ty : TypeId}
theorem ext_sl (s : List UInt8) {a b : Nat} : (⟨s.toArray⟩ : ByteArray).extract a b = ⟨((s.take b).drop a).toArray⟩ := by
  apply ByteArray.ext
  rw [ByteArray.data_extract]
  apply Array.ext'
  simp [List.drop_take]
/-- A part of a text. -/
theorem ss_slS {T : TypeId} [hT : StrT P T] {x : Operand} {lo hi : Option Operand} {s : List UInt8} {a b : Int} (hx : st.ev x = some (.c (cs s))) (hlo : bndV st lo 0 a) (hhi : bndV st hi s.length b)
    (hb : 0 ≤ a ∧ a ≤ b ∧ b ≤ (s.length : Int)) : SS P X (.slice T x lo hi none) ty st (.c (cs ((s.take b.toNat).drop a.toNat))) := fun D G a' w hr =>
  ⟨_, vrp_val _ _ _ _, fun w' _ dst pos after guard => by
    have hx' : a'.eval x = .string ⟨s.toArray⟩ := hr.evVal hx
    have hs : ((⟨s.toArray⟩ : ByteArray).size : Int) = (s.length : Int) := by simp [ByteArray.size]
    have hs2 : (⟨s.toArray⟩ : ByteArray).size = s.length := by omega
    simp only [execOp, hx', Sem.run_bind, run_sliceAt_string _ _ _ _ _ _ hT.u]
    cases lo with
    | none =>
      simp only [bndV] at hlo; subst hlo
      cases hi with
      | none =>
        simp only [bndV] at hhi; subst hhi
        simp only [Option.map_none]
        rw [run_slice_string_all w' T _ hT.u, ext_sl, hs2]
        simp
      | some o2 =>
        obtain ⟨k2, h2⟩ := hhi
        simp only [Option.map_none, Option.map_some, hr.evVal h2]
        rw [run_slice_string_h w' T _ hT.u k2 b (by omega) (by omega), ext_sl]
        simp
    | some o1 =>
      obtain ⟨k1, h1⟩ := hlo
      cases hi with
      | none =>
        simp only [bndV] at hhi; subst hhi
        simp only [Option.map_none, Option.map_some, hr.evVal h1]
        rw [run_slice_string_l w' T _ hT.u k1 a (by omega) (by omega), ext_sl, hs2]
        simp
      | some o2 =>
        obtain ⟨k2, h2⟩ := hhi
        simp only [Option.map_none, Option.map_some, hr.evVal h1, hr.evVal h2]
        rw [run_slice_string w' T _ k1 k2 a b hT.u (by omega) (by omega) (by omega), ext_sl]
        simp⟩
end
end Go.Proofs.YtkmoeodoidpjkaaDoor
