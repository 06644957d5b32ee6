/- The value layer: lists of numbers, tables; small helpers; no condition. -/
import Derived.Test.YtjolbldlhjfciaaGreatDoorVi
namespace Go.Proofs.YtjolbldlhjfciaaGreatDoor
@[reducible] def ci (n:Int):C:=.val (.int .i64 n)
@[reducible] def cb (b:Bool):C:=.val (.bool b)
@[reducible] def cnil:C:=.val (.slice none 0 0)
def ints (l:List Int):List C:=l.map ci
def rows (t:List (List Int)):List C:=t.map fun r=>.lst (ints r)
def orows (t:List (List Int)):List C:=t.map fun r=>.own (ints r)
def bools (l:List Bool):List C:=l.map cb
@[simp] theorem length_ints (l:List Int):(ints l).length = l.length:=by simp [ints]
@[simp] theorem length_rows (t:List (List Int)):(rows t).length = t.length:=by simp [rows]
@[simp] theorem length_orows (t:List (List Int)):(orows t).length = t.length:=by simp [orows]
@[simp] theorem length_bools (l:List Bool):(bools l).length = l.length:=by simp [bools]
def at_ (l:List Int) (i:Int):Int:=l.getD i.toNat 0
theorem gh_to {st:St} {σ' : List (Nat × Ob)} {env' : List (Nat × V)} {n:Nat} (hn:st.n = n) (hσ:st.σ = σ') (hE:SubE st.env env'):Gh [] st ⟨σ',env',n⟩:=by
  subst hn; subst hσ; exact gh_sub hE
end Go.Proofs.YtjolbldlhjfciaaGreatDoor
