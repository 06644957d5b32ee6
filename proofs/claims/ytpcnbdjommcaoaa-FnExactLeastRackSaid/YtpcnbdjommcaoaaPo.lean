/- Plain definitions, the fifteenth part: images of tables, duals and quandles of racks; no condition. -/
import Derived.Test.YtpcnbdjommcaoaaPn
namespace Go.Proofs.Ytpcnbdjommcaoaa
def renT (t : List (List Int)) (p : List Int) : List (List Int) := tab (t.length : Int) fun u v => el p (el (el t (idxI p u)) (idxI p v))
section
variable {t : List (List Int)} {p : List Int} {x y : Int} {o : List (List Int)}
theorem renT_el (hp : isPerm p = true) (hl : (p.length : Int) = (t.length : Int)) (hx : 0 ≤ x ∧ x < (t.length : Int)) (hy : 0 ≤ y ∧ y < (t.length : Int)) : el (el (renT t p) (el p x)) (el p y) = el p (el (el t x) y) := by
  have px := isPerm_el hp (i := x) ⟨hx.1, by omega⟩
  have py := isPerm_el hp (i := y) ⟨hy.1, by omega⟩
  unfold renT
  rw [el_tab ⟨px.1, by omega⟩ ⟨py.1, by omega⟩, idxI_el hp ⟨hx.1, by omega⟩, idxI_el hp ⟨hy.1, by omega⟩]
theorem isTab_ren (ht : isTab t = true) (hp : isPerm p = true) (hl : (p.length : Int) = (t.length : Int)) : isTab (renT t p) = true :=
  isTab_tab (isTab_len ht) fun u v u0 u1 v0 v1 => by
    have a := (idxI_spec (isPerm_all hp (x := u) ⟨u0, by omega⟩)).1
    have b := (idxI_spec (isPerm_all hp (x := v) ⟨v0, by omega⟩)).1
    have c := rk_el ht (x := idxI p u) (y := idxI p v) ⟨a.1, by omega⟩ ⟨b.1, by omega⟩
    have := isPerm_el hp (i := el (el t (idxI p u)) (idxI p v)) ⟨c.1, by omega⟩
    omega
end
section
variable {r : List (List Int)} (h : isRk r = true)
include h
end

end Go.Proofs.Ytpcnbdjommcaoaa
