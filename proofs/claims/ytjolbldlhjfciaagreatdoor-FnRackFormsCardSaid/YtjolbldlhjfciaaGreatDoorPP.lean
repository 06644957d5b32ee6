/- Plain definitions and what holds of them, all in one; no condition. -/
import Derived.Test.YtjolbldlhjfciaaGreatDoorWe
import Derived.Lib.SlicesCompact
import Derived.Lib.Join
import Derived.Test.YtjolbldlhjfciaaGreatDoorWc
namespace Go.Proofs.YtjolbldlhjfciaaGreatDoor
section
theorem el_se_same {α:Type} [Inhabited α] {l:List α} {i:Int} {v:α} (h:0<=i/\i < (l.length:Int)):el (se l i v) i = v:=by
  have:i.toNat < l.length:=by omega
  simp [el,se,List.getD_eq_getElem?_getD,this]
theorem el_se_ne {α:Type} [Inhabited α] {l:List α} {i j:Int} {v:α} (hi:0<=i) (hj:0<=j) (h:i≠j):el (se l i v) j = el l j:=by
  have:i.toNat≠j.toNat:=by omega
  simp [el,se,List.getD_eq_getElem?_getD,this]
theorem ext_el {α:Type} [Inhabited α] {a b:List α} (hl:a.length = b.length) (h : ∀ i:Int,0<=i->i < (a.length:Int)->el a i = el b i):a = b:=by
  apply List.ext_getElem hl
  intro n h1 h2
  have:=h n (by omega) (by omega)
  simpa [el,List.getD_eq_getElem?_getD,List.getElem?_eq_getElem h1,List.getElem?_eq_getElem h2] using this
theorem el_mem {α:Type} [Inhabited α] {l:List α} {i:Int} (h:0<=i/\i < (l.length:Int)):el l i ∈ l:=by
  have:=el_get h
  exact List.mem_of_getElem? this
theorem mem_el {α:Type} [Inhabited α] {l:List α} {x:α} (h:x ∈ l) : ∃ i:Int,(0<=i/\i < (l.length:Int))/\el l i = x:=by
  obtain⟨n,hn,rfl⟩:=List.getElem_of_mem h
  exact⟨n,⟨by omega,by omega⟩,by simp [el,List.getD_eq_getElem?_getD,List.getElem?_eq_getElem hn]⟩
theorem el_map {α β:Type} [Inhabited α] [Inhabited β] {f:α->β} {l:List α} {i:Int} (h:0<=i/\i < (l.length:Int)):el (l.map f) i = f (el l i):=by
  have:=el_get h
  simp only [el,List.getD_eq_getElem?_getD,List.getElem?_map] at this ⊢
  rw [this]; rfl
theorem el_append_l {α:Type} [Inhabited α] {a b:List α} {i:Int} (h:0<=i/\i < (a.length:Int)):el (a ++ b) i = el a i:=by
  have:i.toNat < a.length:=by omega
  simp [el,List.getD_eq_getElem?_getD,List.getElem?_append_left this]
theorem el_append_r {α:Type} [Inhabited α] {a b:List α} {i:Int} (h:(a.length:Int)<=i):el (a ++ b) i = el b (i - (a.length:Int)):=by
  have h1:a.length<=i.toNat:=by omega
  have h2:(i - (a.length:Int)).toNat = i.toNat - a.length:=by omega
  unfold el
  rw [h2,List.getD_eq_getElem?_getD,List.getD_eq_getElem?_getD,List.getElem?_append_right h1]
theorem el_append_last {α:Type} [Inhabited α] {a:List α} {x:α} {i:Int} (h:i = (a.length:Int)):el (a ++ [x]) i = x:=by
  subst h; rw [el_append_r (by omega)]; simp [el]
theorem el_ran {α:Type} [Inhabited α] {n i:Int} {f:Int->α} (h:0<=i/\i < n):el (ran n f) i = f i:=by
  have h2:=get_ran f (i:=i.toNat) (by omega:((i.toNat:Nat):Int) < n)
  have h3:((i.toNat:Nat):Int) = i:=by omega
  rw [h3] at h2
  simp [el,List.getD_eq_getElem?_getD,h2]
theorem el_rep {α:Type} [Inhabited α] {n:Nat} {v:α} {i:Int} (h:0<=i/\i < (n:Int)):el (List.replicate n v) i = v:=by
  have:i.toNat < n:=by omega
  simp [el,List.getD_eq_getElem?_getD,this]
theorem el_sl {α:Type} [Inhabited α] {l:List α} {a b i:Int} (ha:0<=a) (hi:0<=i) (h:a + i < b):el (sl l a b) i = el l (a + i):=by
  have h1:a.toNat + i.toNat < b.toNat:=by omega
  have h2:(a + i).toNat = a.toNat + i.toNat:=by omega
  simp [el,sl,List.getD_eq_getElem?_getD,List.getElem?_drop,h1,h2]
theorem length_sl {α:Type} {l:List α} {a b:Int} (h:0<=a/\a<=b/\b<=(l.length:Int)):((sl l a b).length:Int) = b - a:=by
  simp [sl]; omega
theorem eq_ran {α:Type} [Inhabited α] {n:Int} {f:Int->α} {l:List α} (hl:l.length = n.toNat) (h : ∀ i,0<=i->i < n->el l i = f i):l = ran n f:=
  ext_el (by simp [hl]) fun i h0 h1=>by rw [el_ran ⟨h0,by omega⟩]; exact h i h0 (by omega)
theorem ran_el {α:Type} [Inhabited α] (l:List α):ran (l.length:Int) (el l) = l:=(eq_ran (by simp) fun _ _ _=>rfl).symm
theorem all_el {α:Type} [Inhabited α] {l:List α} {p:α->Bool} : l.all p = true↔∀ i:Int,0<=i->i < (l.length:Int)->p (el l i) = true:=by
  rw [List.all_eq_true]
  exact⟨fun h i h0 h1=>h _ (el_mem ⟨h0,h1⟩),fun h x hx=>by obtain⟨i,hi,rfl⟩:=mem_el hx; exact h i hi.1 hi.2⟩
theorem any_el {α:Type} [Inhabited α] {l:List α} {p:α->Bool} : l.any p = true↔∃ i:Int,(0<=i/\i < (l.length:Int))/\p (el l i) = true:=by
  rw [List.any_eq_true]
  exact⟨fun⟨x,hx,h⟩=>by obtain⟨i,hi,rfl⟩:=mem_el hx; exact⟨i,hi,h⟩,fun⟨i,hi,h⟩=>⟨_,el_mem hi,h⟩⟩
theorem nodup_el {α:Type} [Inhabited α] {l:List α} : l.Nodup↔∀ i j:Int,0<=i->i < j->j < (l.length:Int)->el l i≠el l j:=by
  unfold List.Nodup
  rw [List.pairwise_iff_getElem]
  constructor
  · intro h i j h0 h1 h2
    have e1:=el_get (l:=l) (i:=i) ⟨h0,by omega⟩
    have e2:=el_get (l:=l) (i:=j) ⟨by omega,h2⟩
    rw [List.getElem?_eq_getElem (by omega),Option.some.injEq] at e1 e2
    rw [<- e1,<- e2]
    exact h _ _ _ _ (by omega)
  · intro h i j hi hj hij
    have:=h i j (by omega) (by omega) (by omega)
    have e1:=el_get (l:=l) (i:=i) ⟨by omega,by omega⟩
    have e2:=el_get (l:=l) (i:=j) ⟨by omega,by omega⟩
    simp only [Int.toNat_natCast] at e1 e2
    rw [List.getElem?_eq_getElem (by omega),Option.some.injEq] at e1 e2
    rw [e1,e2]; exact this
theorem se_app {α:Type} {a b:List α} {x v:α} {i:Int} (h:i = (a.length:Int)):se (a ++ x :: b) i v = a ++ v :: b:=by
  subst h; simp [se]
@[reducible] def small {α:Type} (l:List α):Prop:=(l.length:Int)<=1000000000
@[reducible] def small2 {α:Type} (t:List (List α)):Prop:=small t/\∀ r ∈ t,small r
@[reducible] def InS (n:Int):Prop:=-1<=n/\n<=1000000000
@[reducible] def huge2 (t:List (List Int)):Prop:=t.length<=9223372036854775807/\∀ r ∈ t,r.length<=9223372036854775807
@[reducible] def okK (k:Int):Prop:=0<=k/\k<=1000000000000
@[reducible] def okKT (k:Int) (t:List (List Int)):Prop:=0<=k/\k + tot t<=1000000000000
def isPerm (p:List Int):Bool:=decide (p.Nodup/\∀ x ∈ p,0<=x/\x < (p.length:Int))
def mkI:Int->List Int->List Int
  | _,[]=>[]
  | k,_ :: l=>k :: mkI (k + 1) l
def mkII:Int->List (List Int)->List (List Int)
  | _,[]=>[]
  | k,r :: t=>mkI k r :: mkII (k + (r.length:Int)) t
def idxF {α:Type} (t:List α) (f:α->Bool):Int:=if t.any f then (t.findIdx f:Int) else -1
def badRow (n:Int) (row:List Int):Bool:=!(decide ((row.length:Int) = n) && row.all (fun x=>decide (0<=x) && decide (x<=n - 1)))
def isTab (t:List (List Int)):Bool:=decide (1<=(t.length:Int)) && decide ((t.length:Int)<=12) && !t.any (badRow (t.length:Int))
def diag (t:List (List Int)):List Int:=ran (t.length:Int) fun x=>el (el t x) x
def first3 (n:Int) (f:Int->Int->Int->Bool):List Int:=
  match (ran n id).findSome? (fun x=>(ran n id).findSome? fun y=>(ran n id).findSome? fun z=>if f x y z then some [x,y,z] else none) with
  | some l=>l
  | none=>[]
theorem isTab_len {t:List (List Int)} (h:isTab t = true):1<=(t.length:Int)/\(t.length:Int)<=12:=by
  simp only [isTab,Bool.and_eq_true,decide_eq_true_eq] at h; exact h.1
theorem isTab_row {t:List (List Int)} (h:isTab t = true) {i:Int} (hi:0<=i/\i < (t.length:Int)):((el t i).length:Int) = (t.length:Int)/\∀ j,0<=j->j < (t.length:Int)->0<=el (el t i) j/\el (el t i) j < (t.length:Int):=by
  simp only [isTab,Bool.and_eq_true,Bool.not_eq_true'] at h
  have h1:=h.2
  rw [List.any_eq_false] at h1
  have h2:=h1 _ (el_mem hi)
  simp only [badRow,Bool.not_eq_true',Bool.and_eq_true,decide_eq_true_eq,Bool.and_eq_false_iff,not_or,Bool.not_eq_false,all_el] at h2
  refine⟨h2.1,fun j h0 h3=>?_⟩
  have:=h2.2 j h0 (by omega)
  omega
theorem isTab_mk {t:List (List Int)} (h1:1<=(t.length:Int)/\(t.length:Int)<=12) (h : ∀ i,0<=i->i < (t.length:Int)->((el t i).length:Int) = (t.length:Int)/\∀ j,0<=j->j < (t.length:Int)->0<=el (el t i) j/\el (el t i) j < (t.length:Int)):isTab t = true:=by
  simp only [isTab,Bool.and_eq_true,decide_eq_true_eq,Bool.not_eq_true',List.any_eq_false]
  refine⟨h1,fun r hr=>?_⟩
  obtain⟨i,hi,rfl⟩:=mem_el hr
  obtain⟨h2,h3⟩:=h i hi.1 hi.2
  simp only [badRow,Bool.not_eq_true',Bool.and_eq_true,decide_eq_true_eq,Bool.and_eq_false_iff,not_or,Bool.not_eq_false,all_el]
  exact⟨h2,fun j h0 h4=>by have:=h3 j h0 (by omega); omega⟩
theorem isTab_small {t:List (List Int)} (h:isTab t = true):small2 t:=⟨by have:=isTab_len h; show (t.length:Int)<=1000000000; omega,fun r hr=>by
  obtain⟨i,hi,rfl⟩:=mem_el hr
  have h1:=(isTab_row h hi).1; have h2:=isTab_len h
  show ((el t i).length:Int)<=1000000000; omega⟩
@[reducible] def Upto (i:Int) (P:Int->Prop):Prop:=∀ j,0<=j->j < i->P j
theorem upto0 {P:Int->Prop} : Upto 0 P:=fun j _ _=>by omega
theorem upto1 {P:Int->Prop} {i:Int} (h:Upto i P) (hi:P i):Upto (i + 1) P:=fun j h0 h1=>by
  by_cases e:j = i
  · subst e; exact hi
  · exact h j h0 (by omega)
theorem all_t {α:Type} [Inhabited α] {l:List α} {p:α->Bool} (h:Upto (l.length:Int) fun j=>p (el l j) = true):l.all p = true:=all_el.2 h
theorem all_f {α:Type} [Inhabited α] {l:List α} {p:α->Bool} {i:Int} (hi:0<=i/\i < (l.length:Int)) (h:p (el l i) = false):l.all p = false:=by
  rw [Bool.eq_false_iff]
  intro h2
  rw [all_el.1 h2 i hi.1 hi.2] at h; cases h
theorem any_f {α:Type} [Inhabited α] {l:List α} {p:α->Bool} (h:Upto (l.length:Int) fun j=>p (el l j) = false):l.any p = false:=by
  rw [Bool.eq_false_iff]
  intro h2
  obtain⟨i,hi,h3⟩:=any_el.1 h2
  rw [h i hi.1 hi.2] at h3; cases h3
theorem any_t {α:Type} [Inhabited α] {l:List α} {p:α->Bool} {i:Int} (hi:0<=i/\i < (l.length:Int)) (h:p (el l i) = true):l.any p = true:=any_el.2 ⟨i,hi,h⟩
theorem idxF_found {α:Type} [Inhabited α] {t:List α} {f:α->Bool} {i:Int} (hi:0<=i/\i < (t.length:Int)) (h:Upto i fun j=>f (el t j) = false) (h1:f (el t i) = true):idxF t f = i:=by
  unfold idxF
  rw [if_pos (any_t hi h1)]
  have:t.findIdx f = i.toNat:=by
    rw [List.findIdx_eq (by omega)]
    refine⟨?_,fun k hk=>?_⟩
    · have:=el_get hi
      rw [List.getElem?_eq_getElem (by omega),Option.some.injEq] at this
      rw [this]; exact h1
    · have e:=el_get (l:=t) (i:=(k:Int)) ⟨by omega,by omega⟩
      simp only [Int.toNat_natCast] at e
      rw [List.getElem?_eq_getElem (by omega),Option.some.injEq] at e
      rw [e]; exact h k (by omega) (by omega)
  omega
theorem idxF_none {α:Type} [Inhabited α] {t:List α} {f:α->Bool} (h:Upto (t.length:Int) fun j=>f (el t j) = false):idxF t f = -1:=by
  unfold idxF
  rw [any_f h]; rfl
theorem idxF_nonneg {α:Type} {t:List α} {f:α->Bool} : decide (0<=idxF t f) = t.any f:=by
  unfold idxF
  cases h:t.any f <;> simp
theorem fill1 {α:Type} [Inhabited α] {o:List α} {f:Int->α} {i:Int} {v:α} (hi:0<=i/\i < (o.length:Int)) (h:Upto i fun j=>el o j = f j) (hv:v = f i):Upto (i + 1) fun j=>el (se o i v) j = f j:=
  upto1 (fun j h0 h1=>by show el (se o i v) j = f j; rw [el_se_ne hi.1 h0 (by omega)]; exact h j h0 h1) (by show el (se o i v) i = f i; rw [el_se_same hi]; exact hv)
theorem app1 {α:Type} [Inhabited α] {o:List α} {f:Int->α} {i:Int} {v:α} (hi:i = (o.length:Int)) (h:Upto i fun j=>el o j = f j) (hv:v = f i):Upto (i + 1) fun j=>el (o ++ [v]) j = f j:=
  upto1 (fun j h0 h1=>by show el (o ++ [v]) j = f j; rw [el_append_l ⟨h0,by omega⟩]; exact h j h0 h1) (by show el (o ++ [v]) i = f i; rw [el_append_last hi]; exact hv)
@[simp] theorem length_mkI : ∀ (k:Int) (l:List Int),(mkI k l).length = l.length
  | _,[]=>rfl
  | k,_ :: l=>by simp [mkI,length_mkI (k + 1) l]
@[simp] theorem length_mkII : ∀ (k:Int) (t:List (List Int)),(mkII k t).length = t.length
  | _,[]=>rfl
  | k,r :: t=>by simp [mkII,length_mkII _ t]
theorem el_cons_0 {α:Type} [Inhabited α] {x:α} {l:List α} : el (x :: l) 0 = x:=by simp [el]
theorem el_cons_s {α:Type} [Inhabited α] {x:α} {l:List α} {i:Int} (h:0 < i):el (x :: l) i = el l (i - 1):=by
  have:i.toNat = (i - 1).toNat + 1:=by omega
  unfold el; rw [this]; rfl
end
section
def idxI (l:List Int) (n:Int):Int:=idxF l (fun x=>x == n)
def permB (p:List Int):Bool:=decide (1<=(p.length:Int)) && decide ((p.length:Int)<=12) && isPerm p
theorem nodup_perm {α:Type} [DecidableEq α] : ∀ (l p:List α),l.Nodup->(∀ x ∈ l,x ∈ p)->l.length = p.length->p.Perm l
  | [],p,_,_,h=>by
    have:p = []:=List.eq_nil_of_length_eq_zero h.symm
    subst this; exact List.Perm.refl _
  | a :: l,p,hn,hs,h=>by
    have ha:=hs a List.mem_cons_self
    have hn':=List.nodup_cons.1 hn
    have ih:=nodup_perm l (p.erase a) hn'.2 (fun x hx=>by
      have hne:x≠a:=fun e=>hn'.1 (e ▸ hx)
      exact (List.mem_erase_of_ne hne).2 (hs x (List.mem_cons_of_mem _ hx))) (by rw [List.length_erase_of_mem ha]; simp at h; omega)
    exact (List.perm_cons_erase ha).trans (ih.cons a)
theorem mem_ran {n x:Int} : x ∈ ran n id↔0<=x/\x < n:=by
  unfold ran
  simp only [List.mem_map,List.mem_range,id]
  exact⟨fun⟨k,hk,e⟩=>by omega,fun h=>⟨x.toNat,by omega,by omega⟩⟩
theorem nodup_ran (n:Int):(ran n id).Nodup:=nodup_el.2 fun i j h0 h1 h2=>by
  simp at h2
  rw [el_ran ⟨h0,by omega⟩,el_ran ⟨by omega,by omega⟩]; simp [id]; omega
theorem isPerm_iff {p:List Int} : isPerm p = true↔p.Nodup/\∀ x ∈ p,0<=x/\x < (p.length:Int):=by simp [isPerm]
theorem isPerm_of_all {p:List Int} (h : ∀ x,0<=x->x < (p.length:Int)->x ∈ p):isPerm p = true:=by
  have:=nodup_perm (ran (p.length:Int) id) p (nodup_ran _) (fun x hx=>by have:=mem_ran.1 hx; exact h x this.1 this.2) (by simp)
  exact isPerm_iff.2 ⟨this.nodup_iff.2 (nodup_ran _),fun x hx=>mem_ran.1 (this.mem_iff.1 hx)⟩
theorem isPerm_all {p:List Int} (h:isPerm p = true) {x:Int} (hx:0<=x/\x < (p.length:Int)):x ∈ p:=by
  obtain⟨h1,h2⟩:=isPerm_iff.1 h
  have:=nodup_perm p (ran (p.length:Int) id) h1 (fun x hx=>mem_ran.2 (h2 x hx)) (by simp)
  exact this.mem_iff.1 (mem_ran.2 hx)
theorem idxI_has {l:List Int} {n:Int} : decide (0<=idxI l n) = l.contains n:=by
  unfold idxI
  rw [idxF_nonneg,Bool.eq_iff_iff,List.contains_iff_mem,List.any_eq_true]
  simp
theorem fs_none {α:Type} {n:Int} {g:Int->Option α} (h : ∀ i,0<=i->i < n->g i = none):(ran n id).findSome? g = none:=by
  rw [List.findSome?_eq_none_iff]
  intro x hx
  have:=mem_ran.1 hx
  exact h x this.1 this.2
theorem fs_some {α:Type} {n i:Int} {g:Int->Option α} {v:α} (hi:0<=i/\i < n) (h:g i = some v) (h0:Upto i fun j=>g j = none):(ran n id).findSome? g = some v:=by
  have e:ran n id = ran i id ++ (ran n id).drop i.toNat:=by
    rw [<- List.take_append_drop i.toNat (ran n id)]
    congr 1
    · refine (eq_ran (f:=id) (by simp; omega) fun j h1 h2=>?_)
      have:=el_sl (l:=ran n id) (a:=0) (b:=i) (i:=j) (by omega) h1 (by omega)
      simp only [sl,Int.toNat_zero,List.drop_zero,Int.zero_add] at this
      rw [this,el_ran ⟨h1,by omega⟩]
    · simp
  have e2:(ran n id).drop i.toNat = i :: (ran n id).drop (i.toNat + 1):=by
    have:=el_get (l:=ran n id) (i:=i) ⟨hi.1,by simp; omega⟩
    rw [el_ran hi] at this
    rw [List.drop_eq_getElem_cons (by simp; omega)]
    rw [List.getElem?_eq_getElem (by simp; omega),Option.some.injEq] at this
    rw [this]; rfl
  rw [e,List.findSome?_append,fs_none h0,e2,List.findSome?_cons,h]; rfl
theorem first3_found {n:Int} {f:Int->Int->Int->Bool} {x y z:Int} (hx:0<=x/\x < n) (hy:0<=y/\y < n) (hz:0<=z/\z < n) (h:f x y z = true)
    (h1:Upto x fun a=>∀ b,0<=b->b < n->∀ c,0<=c->c < n->f a b c = false) (h2:Upto y fun b=>∀ c,0<=c->c < n->f x b c = false) (h3:Upto z fun c=>f x y c = false):first3 n f = [x,y,z]:=by
  unfold first3
  rw [fs_some hx (v:=[x,y,z]) (fs_some hy (fs_some hz (by simp [h]) fun c a b=>by simp [h3 c a b]) fun b a c=>fs_none fun d e g=>by simp [h2 b a c d e g]) fun a b c=>fs_none fun d e g=>fs_none fun k l m=>by simp [h1 a b c d e g k l m]]
theorem first3_none {n:Int} {f:Int->Int->Int->Bool} (h : ∀ a,0<=a->a < n->∀ b,0<=b->b < n->∀ c,0<=c->c < n->f a b c = false):first3 n f = []:=by
  unfold first3
  rw [fs_none fun a b c=>fs_none fun d e g=>fs_none fun k l m=>by simp [h a b c d e g k l m]]
def gcdI (a b:Int):Int:=((Int.gcd a b:Nat):Int)
def cycB (t:List (List Int)) (x y z:Int):Bool:=!decide (el (el t (el (el t x) y)) (el (el t x) z) = el (el t (el (el t y) x)) (el (el t y) z))
def cycF (t:List (List Int)):List Int:=first3 (t.length:Int) (cycB t)
@[reducible] def inR (n:Int):Prop:=1<=n/\n<=12
theorem mulA {a i:Int} (ha:0<=a/\a<=1000) (hi:0<=i/\i<=1000):0<=a * i/\a * i<=1000000:=by
  have:=mulB (a:=a) (i:=i) (A:=1000) (B:=1000) ⟨ha.1,ha.2,hi.1,hi.2⟩
  omega
theorem permB_isPerm {p:List Int} (h:permB p = true):isPerm p = true:=by
  simp only [permB,Bool.and_eq_true] at h; exact h.2
theorem permB_el {p:List Int} (h:permB p = true) {i:Int} (hi:0<=i/\i < (p.length:Int)):0<=el p i/\el p i < (p.length:Int):=(isPerm_iff.1 (permB_isPerm h)).2 _ (el_mem hi)
end
section
def unitI (n:Int):List Int:=ran n id
def backI (p:List Int):List Int:=ran (p.length:Int) fun x=>idxI p x
def rackB (t:List (List Int)) (x y z:Int):Bool:=!decide (el (el t x) (el (el t y) z) = el (el t (el (el t x) y)) (el (el t x) z))
def rackF (t:List (List Int)):List Int:=first3 (t.length:Int) (rackB t)
def isRk (t:List (List Int)):Bool:=isTab t && t.all isPerm && (rackF t).isEmpty
def isCyc (t:List (List Int)):Bool:=isTab t && t.all isPerm && isPerm (diag t) && (cycF t).isEmpty
theorem isRk_tab {t:List (List Int)} (h:isRk t = true):isTab t = true:=by simp only [isRk,Bool.and_eq_true] at h; exact h.1.1
theorem isPerm_el {p:List Int} (h:isPerm p = true) {i:Int} (hi:0<=i/\i < (p.length:Int)):0<=el p i/\el p i < (p.length:Int):=(isPerm_iff.1 h).2 _ (el_mem hi)
theorem isPerm_inj {p:List Int} (h:isPerm p = true) {i j:Int} (hi:0<=i/\i < (p.length:Int)) (hj:0<=j/\j < (p.length:Int)) (e:el p i = el p j):i = j:=by
  have hn:=nodup_el.1 (isPerm_iff.1 h).1
  rcases Int.lt_trichotomy i j with h1 | h1 | h1
  · exact absurd e (hn i j hi.1 h1 hj.2)
  · exact h1
  · exact absurd e.symm (hn j i hj.1 h1 hi.2)
theorem isPerm_surj {p:List Int} (h:isPerm p = true) {x:Int} (hx:0<=x/\x < (p.length:Int)) : ∃ i,(0<=i/\i < (p.length:Int))/\el p i = x:=mem_el (isPerm_all h hx)
theorem idxI_el {p:List Int} (h:isPerm p = true) {i:Int} (hi:0<=i/\i < (p.length:Int)):idxI p (el p i) = i:=
  idxF_found hi (fun j h0 h1=>by
    show (el p j == el p i) = false
    rw [beq_eq_false_iff_ne]
    intro e
    have:=isPerm_inj h ⟨h0,by omega⟩ hi e
    omega) (by simp)
theorem idxI_spec {l:List Int} {x:Int} (h:x ∈ l):(0<=idxI l x/\idxI l x < (l.length:Int))/\el l (idxI l x) = x:=by
  have hc:l.any (fun y=>y == x) = true:=by simp [h]
  have hlt:l.findIdx (fun y=>y == x) < l.length:=List.findIdx_lt_length_of_exists ⟨x,h,by simp⟩
  have e:idxI l x = (l.findIdx (fun y=>y == x):Int):=by unfold idxI idxF; rw [if_pos hc]
  rw [e]
  refine⟨⟨by omega,by omega⟩,?_⟩
  have:=List.findIdx_getElem (w:=hlt)
  simp only [beq_iff_eq] at this
  simp [el,List.getD_eq_getElem?_getD,List.getElem?_eq_getElem hlt,this]
@[simp] theorem length_backI (p:List Int):(backI p).length = p.length:=by simp [backI]
theorem el_backI {p:List Int} (h:isPerm p = true) {i:Int} (hi:0<=i/\i < (p.length:Int)):el (backI p) (el p i) = i:=by
  have:=isPerm_el h hi
  rw [backI,el_ran this,idxI_el h hi]
theorem el_backI' {p:List Int} (h:isPerm p = true) {x:Int} (hx:0<=x/\x < (p.length:Int)):(0<=el (backI p) x/\el (backI p) x < (p.length:Int))/\el p (el (backI p) x) = x:=by
  rw [backI,el_ran hx]
  exact idxI_spec (isPerm_all h hx)
theorem backI_uniq {p q:List Int} (h:isPerm p = true) (hl:q.length = p.length) (hq : ∀ i,0<=i->i < (p.length:Int)->el q (el p i) = i):q = backI p:=
  ext_el (by simp [hl]) fun x h0 h1=>by
    obtain⟨i,hi,rfl⟩:=isPerm_surj h (x:=x) ⟨h0,by omega⟩
    rw [hq i hi.1 hi.2,el_backI h hi]
theorem isPerm_backI {p:List Int} (h:isPerm p = true):isPerm (backI p) = true:=by
  refine isPerm_iff.2 ⟨nodup_el.2 fun i j h0 h1 h2 e=>?_,fun x hx=>?_⟩
  · simp at h2
    have a:=(el_backI' h (x:=i) ⟨h0,by omega⟩).2
    have b:=(el_backI' h (x:=j) ⟨by omega,by omega⟩).2
    rw [e] at a; omega
  · obtain⟨i,hi,rfl⟩:=mem_el hx
    simp at hi ⊢
    exact (el_backI' h hi).1
@[simp] theorem length_unitI (n:Int):(unitI n).length = n.toNat:=by simp [unitI]
theorem el_unitI {n i:Int} (h:0<=i/\i < n):el (unitI n) i = i:=by simp [unitI,el_ran h]
theorem isPerm_unitI (n:Int):isPerm (unitI n) = true:=by
  refine isPerm_iff.2 ⟨nodup_ran n,fun x hx=>?_⟩
  have:=mem_ran.1 hx
  simp; omega
theorem isTab_perm {t:List (List Int)} (h:isTab t = true):t.all permB = t.all isPerm:=by
  have key : ∀ r ∈ t,permB r = isPerm r:=fun r hr=>by
    obtain⟨i,hi,rfl⟩:=mem_el hr
    have a:=(isTab_row h hi).1
    have b:=isTab_len h
    unfold permB
    have e1:decide (1<=((el t i).length:Int)) = true:=decide_eq_true (by omega)
    have e2:decide (((el t i).length:Int)<=12) = true:=decide_eq_true (by omega)
    rw [e1,e2]; rfl
  rw [Bool.eq_iff_iff,List.all_eq_true,List.all_eq_true]
  exact⟨fun h r hr=>by rw [<- key r hr]; exact h r hr,fun h r hr=>by rw [key r hr]; exact h r hr⟩
@[simp] theorem length_diag (t:List (List Int)):(diag t).length = t.length:=by simp [diag]
theorem rk_el {t:List (List Int)} (h:isTab t = true) {x y:Int} (hx:0<=x/\x < (t.length:Int)) (hy:0<=y/\y < (t.length:Int)):0<=el (el t x) y/\el (el t x) y < (t.length:Int):=(isTab_row h hx).2 y hy.1 hy.2
theorem rk_len {t:List (List Int)} (h:isTab t = true) {x:Int} (hx:0<=x/\x < (t.length:Int)):((el t x).length:Int) = (t.length:Int):=(isTab_row h hx).1
end
section
noncomputable def dec (P:Prop):Bool:=@decide P (Classical.propDecidable P)
theorem dec_t {P:Prop} (h:P):dec P = true:=@decide_eq_true P (Classical.propDecidable P) h
theorem dec_f {P:Prop} (h : ¬ P):dec P = false:=@decide_eq_false P (Classical.propDecidable P) h
theorem dec_iff {P:Prop} : dec P = true↔P:=@decide_eq_true_iff P (Classical.propDecidable P)
theorem dec_iff_f {P:Prop} : dec P = false↔¬ P:=@decide_eq_false_iff_not P (Classical.propDecidable P)
theorem dec_congr {P Q:Prop} (h:P↔Q):dec P = dec Q:=by rw [propext h]
noncomputable def the {α:Type} [Inhabited α] (P:α->Prop):α:=Classical.epsilon P
def conP (r s:List (List Int)) (f:List Int):Prop:=∀ x y,0<=x->x < (f.length:Int)->0<=y->y < (f.length:Int)->el (el r x) y < (f.length:Int)->el f (el (el r x) y) = el (el s (el f x)) (el f y)
def conA (a b:List (List (List Int))) (f:List Int):Prop:=∀ k,0<=k->k < (a.length:Int)->conP (el a k) (el b k) f
def fitD (a b:List (List (List Int))) (f:List Int):Prop:=small a/\small f/\b.length = a.length/\∀ k,0<=k->k < (a.length:Int)->isTab (el a k) = true/\isTab (el b k) = true/\(f.length:Int)<=((el a k).length:Int)/\(∀ x ∈ f,0<=x/\x < ((el b k).length:Int))/\
  ∀ x y,0<=x->x < (f.length:Int) - 1->0<=y->y < (f.length:Int) - 1->el (el (el a k) x) y < (f.length:Int) - 1->el f (el (el (el a k) x) y) = el (el (el b k) (el f x)) (el f y)
theorem conP_app {r s:List (List Int)} {f:List Int} {v:Int} (h:conP r s f) {x y:Int} (x0:0<=x) (x1:x < (f.length:Int)) (y0:0<=y) (y1:y < (f.length:Int)) (z0:0<=el (el r x) y) (z1:el (el r x) y < (f.length:Int)) :
    el (f ++ [v]) (el (el r x) y) = el (el s (el (f ++ [v]) x)) (el (f ++ [v]) y):=by
  rw [el_append_l ⟨z0,z1⟩,el_append_l ⟨x0,x1⟩,el_append_l ⟨y0,y1⟩]
  exact h x y x0 x1 y0 y1 z1
end
section
def permsN (n:Int) (list:List (List Int)):Prop:=∀ p ∈ list,(p.length:Int) = n/\isPerm p = true
theorem nodup_len {α:Type} [DecidableEq α] : ∀ (l p:List α),l.Nodup->(∀ x ∈ l,x ∈ p)->l.length<=p.length
  | [],p,_,_=>Nat.zero_le _
  | a :: l,p,hn,hs=>by
    have ha:=hs a List.mem_cons_self
    have hn':=List.nodup_cons.1 hn
    have ih:=nodup_len l (p.erase a) hn'.2 (fun x hx=>by
      have hne:x≠a:=fun e=>hn'.1 (e ▸ hx)
      exact (List.mem_erase_of_ne hne).2 (hs x (List.mem_cons_of_mem _ hx)))
    rw [List.length_erase_of_mem ha] at ih
    have:=List.length_pos_of_mem ha
    simp; omega
theorem nodup_len_ran {l:List Int} {n:Int} (hn:0<=n) (h:l.Nodup) (hr : ∀ x ∈ l,0<=x/\x < n):(l.length:Int)<=n:=by
  have:=nodup_len l (ran n id) h fun x hx=>mem_ran.2 (hr x hx)
  simp at this; omega
end
section
def bitP (m x:Int):Prop:=(m / (2:Int) ^ x.toNat) % 2 = 1
end
section
theorem el_tab {n:Int} {f:Int->Int->Int} {x y:Int} (hx:0<=x/\x < n) (hy:0<=y/\y < n):el (el (tab n f) x) y = f x y:=by
  unfold tab; rw [el_ran hx,el_ran hy]
theorem len_tab {n:Int} {f:Int->Int->Int} (hn:0<=n):((tab n f).length:Int) = n:=by simp; omega
theorem tab_rowlen {n:Int} {f:Int->Int->Int} {x:Int} (hx:0<=x/\x < n):((el (tab n f) x).length:Int) = n:=by
  unfold tab; rw [el_ran hx]; simp; omega
theorem isTab_tab {n:Int} {f:Int->Int->Int} (hn:1<=n/\n<=12) (h : ∀ x y,0<=x->x < n->0<=y->y < n->0<=f x y/\f x y < n):isTab (tab n f) = true:=by
  have hl:((tab n f).length:Int) = n:=len_tab (by omega)
  refine isTab_mk (by omega) fun i i0 i1=>⟨by rw [tab_rowlen ⟨i0,by omega⟩,hl],fun j j0 j1=>?_⟩
  rw [el_tab ⟨i0,by omega⟩ ⟨j0,by omega⟩,hl]
  exact h i j i0 (by omega) j0 (by omega)
theorem tab_el {t:List (List Int)} (h:isTab t = true):t = tab (t.length:Int) fun x y=>el (el t x) y:=by
  refine eq_ran (by omega) fun i i0 i1=>?_
  have:=rk_len h ⟨i0,i1⟩
  exact eq_ran (by omega) fun j _ _=>rfl
def idxL (lists:List (List Int)) (list:List Int):Int:=idxF lists (fun own=>decide (own = list))
def conjI (x y:List Int):List Int:=((backI x).map (el y)).map (el x)
def GoodL (list:List (List Int)):Prop:=1<=(list.length:Int)/\∀ i,0<=i->i < (list.length:Int)->permB (el list i) = true/\((el list i).length:Int) = ((el list 0).length:Int)/\∀ j,0<=j->j < i->el list j≠el list i
def cjV (list:List (List Int)) (x y:Int):Int:=idxL list (conjI (el list x) (el list y))
def cjT (list:List (List Int)):List (List Int):=tab (list.length:Int) (cjV list)
noncomputable def CjqE (list:List (List Int)):Int:=if dec (GoodL list) then (if (12:Int) < (list.length:Int) then 3 else if isTab (cjT list) then 0 else 5) else 1
end
section
inductive Eqv (R:Int->Int->Prop):Int->Int->Prop
  | refl (a:Int):Eqv R a a
  | step {a b:Int} (h:R a b):Eqv R a b
  | symm {a b:Int} (h:Eqv R a b):Eqv R b a
  | trans {a b c:Int} (h:Eqv R a b) (k:Eqv R b c):Eqv R a c
theorem Eqv.mono {R S:Int->Int->Prop} (h : ∀ a b,R a b->S a b) {a b:Int} (k:Eqv R a b):Eqv S a b:=by
  induction k with
  | refl a=>exact .refl a
  | step k=>exact .step (h _ _ k)
  | symm _ ih=>exact .symm ih
  | trans _ _ ih1 ih2=>exact .trans ih1 ih2
end
section
def digs (l:List Int):Prop:=∀ i,0<=i->i < (l.length:Int)->0<=el l i/\el l i < 12
def dgt (x:Int):UInt8:=UInt8.ofNat (if x < 10 then 48 + x else 97 + x - 10).toNat
def digI (l:List Int):List UInt8:=l.map dgt
def joinI (xs:List (List UInt8)) (s:List UInt8):List UInt8:=Lib.join xs s
def txtI (t:List (List Int)):List UInt8:=joinI (t.map digI) [47]
def JoinPre (xs:List (List UInt8)) (s:List UInt8):Prop:=(joinI xs s).length<=140737488355328/\xs.length<=1000000000
@[simp] theorem digI_len (l:List Int):(digI l).length = l.length:=by simp [digI]
theorem digs_row {t:List (List Int)} (ht:isTab t = true) {z:Int} (hz:0<=z/\z < (t.length:Int)):small (el t z)/\digs (el t z):=by
  have hl:=rk_len ht hz
  have hn:=isTab_len ht
  refine⟨by show ((el t z).length:Int)<=1000000000; omega,fun i i0 i1=>?_⟩
  have:0<=el (el t z) i/\el (el t z) i < (t.length:Int):=rk_el ht hz ⟨i0,by omega⟩
  omega
theorem joinI_snoc {xs:List (List UInt8)} {s y:List UInt8} (h:xs≠[]):joinI (xs ++ [y]) s = joinI xs s ++ s ++ y:=by
  cases xs with
  | nil=>exact absurd rfl h
  | cons x r=>
    unfold joinI
    rw [List.cons_append,Lib.join_cons,Lib.join_cons]
    simp [Lib.joinTail,List.append_assoc]
theorem joinI_one (y s:List UInt8):joinI [y] s = y:=Lib.join_one y s
theorem take_el {α:Type} [Inhabited α] {l:List α} {i:Int} (h:0<=i/\i < (l.length:Int)):l.take (i + 1).toNat = l.take i.toNat ++ [el l i]:=by
  have e:(i + 1).toNat = i.toNat + 1:=by omega
  rw [e,List.take_add_one,el_get h]; rfl
theorem txt_len : ∀ (t:List (List Int)),(∀ r ∈ t,r.length<=12)->(txtI t).length<=13 * t.length
  | [],_=>by simp [txtI,joinI,Lib.join_nil]
  | x :: r,h=>by
    unfold txtI joinI
    rw [List.map_cons,Lib.join_cons,List.length_append,Lib.joinTail_length]
    have h1:=h x (by simp)
    have h2:Lib.lens (r.map digI)<=12 * r.length:=by
      have : ∀ (r:List (List Int)),(∀ q ∈ r,q.length<=12)->Lib.lens (r.map digI)<=12 * r.length:=by
        intro r
        induction r with
        | nil=>intro _; simp [Lib.lens]
        | cons q r ih=>
          intro hq
          have a:=hq q (by simp)
          have b:=ih fun q' hq'=>hq q' (by simp [hq'])
          simp only [Lib.lens,List.map_cons,List.sum_cons,List.length_cons,digI_len] at b ⊢
          omega
      exact this r fun q hq=>h q (by simp [hq])
    simp only [digI_len,List.length_map,List.length_cons,List.length_nil]
    omega
theorem row_le {t:List (List Int)} (ht:isTab t = true) : ∀ r ∈ t,r.length<=12:=fun r hr=>by
  obtain⟨i,hi,rfl⟩:=mem_el hr
  have:=rk_len ht hi
  have:=isTab_len ht
  omega
theorem digI_snoc {l:List Int} {i:Int} (h:0<=i/\i < (l.length:Int)):digI (l.take (i + 1).toNat) = digI (l.take i.toNat) ++ digI [el l i]:=by rw [take_el h]; simp [digI]
theorem txtI_snoc {t:List (List Int)} {i:Int} (h:0 < i/\i < (t.length:Int)):txtI (t.take (i + 1).toNat) = (txtI (t.take i.toNat) ++ [47]) ++ digI (el t i):=by
  unfold txtI
  rw [take_el ⟨by omega,h.2⟩,List.map_append,List.map_cons,List.map_nil,joinI_snoc]
  intro hn
  have:=congrArg List.length hn
  rw [List.length_map,List.length_take,List.length_nil] at this
  omega
theorem txtI_one {t:List (List Int)} (h:0 < (t.length:Int)):txtI (t.take (0 + 1:Int).toNat) = digI (el t 0):=by
  unfold txtI
  rw [take_el ⟨by omega,h⟩]
  simp [joinI_one]
end
section
end
section
def srtI (l:List Int):List Int:=l.mergeSort fun x y=>decide (x<=y)
inductive Sc (t:List (List Int)) (l:List Int):Int->Prop
  | base {a:Int} : a ∈ l->Sc t l a
  | step {a b:Int} : Sc t l a->Sc t l b->Sc t l (el (el t a) b)
theorem ran_lt (n:Int):(ran n id).Pairwise (· < ·):=by
  unfold ran
  rw [List.pairwise_map]
  exact (List.pairwise_lt_range).imp fun h=>by simp; omega
theorem srt_len (l:List Int):(srtI l).length = l.length:=(List.mergeSort_perm l _).length_eq
theorem srt_le (l:List Int):(srtI l).Pairwise (·<=·):=by
  have:=List.pairwise_mergeSort (le:=fun x y:Int=>decide (x<=y)) (fun a b c h1 h2=>by simp only [decide_eq_true_eq] at *; omega) (fun a b=>by simp only [Bool.or_eq_true,decide_eq_true_eq]; omega) l
  exact this.imp fun h=>by simpa using h
theorem bit_nat {m x:Int} (hm:0<=m):bitP m x↔m.toNat.testBit x.toNat = true:=by
  unfold bitP
  obtain⟨k,rfl⟩:=Int.eq_ofNat_of_zero_le hm
  rw [Nat.testBit_eq_decide_div_mod_eq,decide_eq_true_eq,Int.toNat_natCast]
  have e:((k:Int) / (2:Int) ^ x.toNat) % 2 = (((k / 2 ^ x.toNat) % 2:Nat):Int):=by simp
  rw [e]; omega
theorem pow_cast (k:Nat):(1 * (2:Int) ^ k).toNat = 2 ^ k:=by
  have:(1 * (2:Int) ^ k) = ((2 ^ k:Nat):Int):=by simp
  rw [this,Int.toNat_natCast]
theorem bit_or {m k x:Int} (hm:0<=m) (hk:0<=k) (hx:0<=x):bitP (((m.toNat ||| (1 * (2:Int) ^ k.toNat).toNat:Nat):Int)) x↔bitP m x\/x = k:=by
  rw [bit_nat (by omega),bit_nat hm,Int.toNat_natCast,pow_cast,Nat.testBit_or,Nat.testBit_two_pow,Bool.or_eq_true,decide_eq_true_eq]
  constructor
  · rintro (h | h)
    · exact .inl h
    · exact .inr (by omega)
  · rintro (h | h)
    · exact .inl h
    · exact .inr (by omega)
theorem or_lt2 {m k n:Int} (hm:0<=m/\m < (2:Int) ^ n.toNat) (hk:0<=k/\k < n):0<=(((m.toNat ||| (1 * (2:Int) ^ k.toNat).toNat:Nat):Int))/\(((m.toNat ||| (1 * (2:Int) ^ k.toNat).toNat:Nat):Int)) < (2:Int) ^ n.toNat:=by
  refine⟨by omega,?_⟩
  rw [pow_cast]
  have e:(2:Int) ^ n.toNat = ((2 ^ n.toNat:Nat):Int):=by simp
  rw [e] at hm ⊢
  have h1:m.toNat < 2 ^ n.toNat:=by omega
  have h2:2 ^ k.toNat < 2 ^ n.toNat:=Nat.pow_lt_pow_right (by omega) (by omega)
  exact_mod_cast Nat.or_lt_two_pow h1 h2
end
section
def bytes (l:List Int):Prop:=∀ i,0<=i->i < (l.length:Int)->0<=el l i/\el l i<=255
def okS (c:List Int) (a h:Int):Prop:=(small c/\bytes c)/\(0<=a/\a<=(c.length:Int))/\0<=h/\h<=18446744073709551615
def nxP (n r:Int):Prop:=(n < 1->r = 0)/\(¬ n < 1->0<=r/\r < n)
theorem and_bd (x:Nat):0<=((x &&& (16777215:Int).toNat:Nat):Int)/\((x &&& (16777215:Int).toNat:Nat):Int)<=16777215:=by
  have:x &&& (16777215:Int).toNat<=(16777215:Int).toNat:=Nat.and_le_right
  omega
theorem shr_bd {u:Int} (h:0<=u/\u<=18446744073709551615) (k:Nat):0<=u / (2:Int) ^ k/\u / (2:Int) ^ k<=18446744073709551615:=by
  have a:0<=u / (2:Int) ^ k:=Int.ediv_nonneg h.1 (Int.pow_nonneg (by omega))
  have b:u / (2:Int) ^ k<=u:=Int.ediv_le_self _ h.1
  omega
def drT (most:Int) (t:List (List Int)):Prop:=(t.length:Int)<=most/\∀ r ∈ t,(r.length:Int)<=12/\∀ z ∈ r,0<=z/\z<=12
theorem isTab_se {o:List (List Int)} (h:isTab o = true) {i j v:Int} (hi:0<=i/\i < (o.length:Int)) (hj:0<=j/\j < (o.length:Int)) (hv:0<=v/\v < (o.length:Int)):isTab (se o i (se (el o i) j v)) = true:=by
  have hl:=isTab_len h
  have hlen:((se o i (se (el o i) j v)).length:Int) = (o.length:Int):=by simp
  refine isTab_mk (by omega) fun x x0 x1=>?_
  rw [hlen] at x1 ⊢
  by_cases hx:x = i
  · subst hx
    rw [el_se_same hi]
    refine⟨by simpa using rk_len h hi,fun y y0 y1=>?_⟩
    have lr:=rk_len h hi
    by_cases hy:y = j
    · subst hy; rw [el_se_same (by omega)]; exact hv
    · rw [el_se_ne hj.1 y0 (Ne.symm hy)]; exact rk_el h hi ⟨y0,y1⟩
  · rw [el_se_ne hi.1 x0 (Ne.symm hx)]
    exact⟨rk_len h ⟨x0,x1⟩,fun y y0 y1=>rk_el h ⟨x0,x1⟩ ⟨y0,y1⟩⟩
end
section
def growF:Nat->Int->List Int->List (List Int)
  | 0,_,s=>[s]
  | k + 1,n,s=>(unitI n).flatMap fun x=>if s.contains x then [] else growF k n (s ++ [x])
def growL (n:Int) (s:List Int):List (List Int):=growF (n - (s.length:Int)).toNat n s
theorem growL_end {n:Int} {s:List Int} (h:(s.length:Int) = n):growL n s = [s]:=by
  unfold growL; rw [show (n - (s.length:Int)).toNat = 0 by omega]; rfl
def growT (n:Int) (s:List Int) (x:Int):List (List Int):=(unitI x).flatMap fun x=>if s.contains x then [] else growL n (s ++ [x])
theorem growL_step {n:Int} {s:List Int} (h:(s.length:Int) < n):growL n s = growT n s n:=by
  unfold growL growT
  obtain⟨k,hk⟩ : ∃ k,(n - (s.length:Int)).toNat = k + 1:=⟨(n - (s.length:Int)).toNat - 1,by omega⟩
  rw [hk]
  show ((unitI n).flatMap fun x=>if s.contains x then [] else growF k n (s ++ [x])) = _
  congr 1; funext x
  unfold growL
  rw [show (n - ((s ++ [x]).length:Int)).toNat = k by simp; omega]
theorem growT_succ {n:Int} {s:List Int} {x:Int} (h:0<=x):growT n s (x + 1) = growT n s x ++ (if s.contains x then [] else growL n (s ++ [x])):=by
  unfold growT unitI
  rw [ran_succ _ h]
  simp
theorem growT_zero {n:Int} {s:List Int} : growT n s 0 = []:=rfl
theorem growT_len {n:Int} {s:List Int} {x y:Int} (h:0<=x/\x<=y):(growT n s x).length<=(growT n s y).length:=by
  obtain⟨k,rfl⟩ : ∃ k:Nat,y = x + k:=⟨(y - x).toNat,by omega⟩
  induction k with
  | zero=>simp
  | succ k ih=>
    have:=ih ⟨h.1,by omega⟩
    rw [show x + ((k + 1:Nat):Int) = (x + (k:Int)) + 1 by omega,growT_succ (by omega)]
    simp; omega
theorem growF_len (n:Int) : ∀ (k:Nat) (s:List Int),(growF k n s).length<=n.toNat ^ k
  | 0,s=>by simp [growF]
  | k + 1,s=>by
    have key : ∀ l:List Int,(l.flatMap fun x=>if s.contains x then [] else growF k n (s ++ [x])).length<=l.length * n.toNat ^ k:=by
      intro l
      induction l with
      | nil=>simp
      | cons a l ih=>
        rw [List.flatMap_cons,List.length_append,List.length_cons,Nat.succ_mul]
        have h1:(if s.contains a then ([] : List (List Int)) else growF k n (s ++ [a])).length<=n.toNat ^ k:=by
          split
          · simp
          · exact growF_len n k _
        omega
    have:=key (unitI n)
    rw [length_unitI] at this
    show ((unitI n).flatMap fun x=>if s.contains x then [] else growF k n (s ++ [x])).length<=_
    rw [Nat.pow_succ,Nat.mul_comm]; exact this
theorem growL_len8 {n:Int} (h:0<=n/\n<=8):((growL n []).length:Int)<=16777216:=by
  have h1:=growF_len n (n - (([] : List Int).length:Int)).toNat []
  have h2:n.toNat ^ (n - (([] : List Int).length:Int)).toNat<=8 ^ 8:=
    Nat.le_trans (Nat.pow_le_pow_left (show n.toNat<=8 by omega) _) (Nat.pow_le_pow_right (by omega) (by simp; omega))
  have h3:(8:Nat) ^ 8 = 16777216:=by decide
  unfold growL
  omega
def cj3 (A:List (List Int)):Bool:=decide (1<=A.length) && decide (A.length<=6) && A.all (fun p=>decide (p.length = 3) && isPerm p && A.all fun q=>A.contains (((backI p).map (el q)).map (el p)))
theorem isTab_rows {o:List (List Int)} {n:Int} (hn:1<=n/\n<=12) (hl:(o.length:Int) = n) (h : ∀ r ∈ o,(r.length:Int) = n/\∀ z ∈ r,0<=z/\z < n):isTab o = true:=
  isTab_mk (by omega) fun i i0 i1=>by
    have hr:=h _ (el_mem ⟨i0,i1⟩)
    exact⟨by omega,fun j j0 j1=>by have:=hr.2 _ (el_mem (i:=j) ⟨j0,by omega⟩); omega⟩
theorem mem_app {α:Type} {l:List α} {x:α} {P:α->Prop} (h : ∀ z ∈ l,P z) (hx:P x) : ∀ z ∈ l ++ [x],P z:=fun z hz=>by
  rcases List.mem_append.1 hz with h1 | h1
  · exact h z h1
  · rw [List.mem_singleton.1 h1]; exact hx
end
section
section
variable {a b:List (List Int)}
end
end
section
def renT (t:List (List Int)) (p:List Int):List (List Int):=tab (t.length:Int) fun u v=>el p (el (el t (idxI p u)) (idxI p v))
def imgI (t:List (List Int)) (p:List Int):List (List Int):=if (p.length:Int) = (t.length:Int)/\permB p = true then renT t p else []
structure RnI (t:List (List Int)) (p:List Int) (x y:Int) (o:List (List Int)):Prop where
  len:(o.length:Int) = (t.length:Int)
  row : ∀ u,0<=u->u < (t.length:Int)->((el o u).length:Int) = (t.length:Int)
  val : ∀ u v,0<=u->u < (t.length:Int)->0<=v->v < (t.length:Int)->(u < x\/(u = x/\v < y))->el (el o (el p u)) (el p v) = el p (el (el t u) v)
section
variable {t:List (List Int)} {p:List Int} {x y:Int} {o:List (List Int)}
theorem rnI_step (hp:isPerm p = true) (hl:(p.length:Int) = (t.length:Int)) (h:RnI t p x y o) (hx:0<=x/\x < (t.length:Int)) (hy:0<=y/\y < (t.length:Int)) :
    RnI t p x (y + 1) (se o (el p x) (se (el o (el p x)) (el p y) (el p (el (el t x) y)))):=by
  have px:=isPerm_el hp (i:=x) ⟨hx.1,by omega⟩
  have py:=isPerm_el hp (i:=y) ⟨hy.1,by omega⟩
  have hol:=h.len
  have hrow:=h.row (el p x) px.1 (by omega)
  refine⟨by simpa using h.len,fun u u0 u1=>?_,fun u v u0 u1 v0 v1 hc=>?_⟩
  · by_cases e:u = el p x
    · subst e; rw [el_se_same (by omega)]; simpa using hrow
    · rw [el_se_ne px.1 u0 (Ne.symm e)]; exact h.row u u0 u1
  · have pu:=isPerm_el hp (i:=u) ⟨u0,by omega⟩
    have pv:=isPerm_el hp (i:=v) ⟨v0,by omega⟩
    by_cases e:u = x
    · subst e
      rw [el_se_same (by omega)]
      by_cases e2:v = y
      · subst e2; rw [el_se_same (by omega)]
      · rw [el_se_ne py.1 pv.1 (fun e3=>e2 (isPerm_inj hp ⟨v0,by omega⟩ ⟨hy.1,by omega⟩ e3.symm))]
        exact h.val u v u0 u1 v0 v1 (.inr ⟨rfl,by omega⟩)
    · rw [el_se_ne px.1 pu.1 (fun e3=>e (isPerm_inj hp ⟨u0,by omega⟩ ⟨hx.1,by omega⟩ e3.symm))]
      exact h.val u v u0 u1 v0 v1 (.inl (by omega))
theorem rnI_row (h:RnI t p x (t.length:Int) o):RnI t p (x + 1) 0 o:=
  ⟨h.len,h.row,fun u v u0 u1 v0 v1 hc=>h.val u v u0 u1 v0 v1 (by omega)⟩
theorem rnI_end (hp:isPerm p = true) (hl:(p.length:Int) = (t.length:Int)) (h:RnI t p (t.length:Int) 0 o):o = renT t p:=by
  refine ext_el (by have:=h.len; simp [renT,tab]; omega) fun i i0 i1=>?_
  have hol:=h.len
  have ei:el (renT t p) i = ran (t.length:Int) fun v=>el p (el (el t (idxI p i)) (idxI p v)):=by unfold renT tab; rw [el_ran ⟨i0,by omega⟩]
  rw [ei]
  refine eq_ran (by have:=h.row i i0 (by omega); omega) fun j j0 j1=>?_
  have a:=idxI_spec (isPerm_all hp (x:=i) ⟨i0,by omega⟩)
  have b:=idxI_spec (isPerm_all hp (x:=j) ⟨j0,by omega⟩)
  have:=h.val (idxI p i) (idxI p j) a.1.1 (by omega) b.1.1 (by omega) (.inl (by omega))
  rw [a.2,b.2] at this; exact this
theorem renT_el (hp:isPerm p = true) (hl:(p.length:Int) = (t.length:Int)) (hx:0<=x/\x < (t.length:Int)) (hy:0<=y/\y < (t.length:Int)):el (el (renT t p) (el p x)) (el p y) = el p (el (el t x) y):=by
  have px:=isPerm_el hp (i:=x) ⟨hx.1,by omega⟩
  have py:=isPerm_el hp (i:=y) ⟨hy.1,by omega⟩
  unfold renT
  rw [el_tab ⟨px.1,by omega⟩ ⟨py.1,by omega⟩,idxI_el hp ⟨hx.1,by omega⟩,idxI_el hp ⟨hy.1,by omega⟩]
theorem isTab_ren (ht:isTab t = true) (hp:isPerm p = true) (hl:(p.length:Int) = (t.length:Int)):isTab (renT t p) = true:=
  isTab_tab (isTab_len ht) fun u v u0 u1 v0 v1=>by
    have a:=(idxI_spec (isPerm_all hp (x:=u) ⟨u0,by omega⟩)).1
    have b:=(idxI_spec (isPerm_all hp (x:=v) ⟨v0,by omega⟩)).1
    have c:=rk_el ht (x:=idxI p u) (y:=idxI p v) ⟨a.1,by omega⟩ ⟨b.1,by omega⟩
    have:=isPerm_el hp (i:=el (el t (idxI p u)) (idxI p v)) ⟨c.1,by omega⟩
    omega
theorem renT_auto (ht:isTab t = true) (hp:isPerm p = true) (hl:(p.length:Int) = (t.length:Int)) (h : ∀ u v:Int,(0<=u/\u < (t.length:Int))->(0<=v/\v < (t.length:Int))->el p (el (el t u) v) = el (el t (el p u)) (el p v)):renT t p = t:=by
  have:renT t p = tab (t.length:Int) fun u v=>el (el t u) v:=by
    unfold renT tab
    refine ran_congr fun u u0 u1=>ran_congr fun v v0 v1=>?_
    have a:=idxI_spec (isPerm_all hp (x:=u) ⟨u0,by omega⟩)
    have b:=idxI_spec (isPerm_all hp (x:=v) ⟨v0,by omega⟩)
    show el p (el (el t (idxI p u)) (idxI p v)) = el (el t u) v
    rw [h _ _ ⟨a.1.1,by omega⟩ ⟨b.1.1,by omega⟩,a.2,b.2]
  rw [this,<- tab_el ht]
end
section
variable {r:List (List Int)} (h:isRk r = true)
include h
end
end
section
/-! Least congruences. -/
section
variable {r:List (List Int)} (h:isRk r = true) {x y:Int} (hx:0<=x/\x < (r.length:Int)) (hy:0<=y/\y < (r.length:Int))
include h hx hy
end
/-! Least subracks. -/
section
variable {r:List (List Int)} (h:isRk r = true) {l:List Int} (hl : ∀ x ∈ l,0<=x/\x < (r.length:Int))
include h hl
end
end
section
theorem swap_perm {l:List Int} (h:isPerm l = true) {i j:Int} (hi:0<=i/\i < (l.length:Int)) (hj:0<=j/\j < (l.length:Int)):isPerm (se (se l i (el l j)) j (el l i)) = true:=by
  have ln:((se (se l i (el l j)) j (el l i)).length:Int) = (l.length:Int):=by simp
  refine isPerm_of_all fun x x0 x1=>?_
  obtain⟨k,hk,rfl⟩:=isPerm_surj h (x:=x) ⟨x0,by omega⟩
  by_cases e1:k = i
  · subst e1
    have:el (se (se l k (el l j)) j (el l k)) j = el l k:=el_se_same ⟨hj.1,by simp; omega⟩
    have hm:=el_mem (l:=se (se l k (el l j)) j (el l k)) (i:=j) ⟨hj.1,by omega⟩; rw [this] at hm; exact hm
  · by_cases e2:k = j
    · subst e2
      have:el (se (se l i (el l k)) k (el l i)) i = el l k:=by rw [el_se_ne hk.1 hi.1 e1,el_se_same hi]
      have hm:=el_mem (l:=se (se l i (el l k)) k (el l i)) (i:=i) ⟨hi.1,by omega⟩; rw [this] at hm; exact hm
    · have:el (se (se l i (el l j)) j (el l i)) k = el l k:=by rw [el_se_ne hj.1 hk.1 (Ne.symm e2),el_se_ne hi.1 hk.1 (Ne.symm e1)]
      have hm:=el_mem (l:=se (se l i (el l j)) j (el l i)) (i:=k) ⟨hk.1,by omega⟩; rw [this] at hm; exact hm
section
variable {c:List (List Int)} (h:isCyc c = true)
include h
end
end
section
def cmp1 (x y:Int):Int:=if x < y then -1 else if y < x then 1 else 0
def cmpG {α:Type} (f:α->α->Int):List α->List α->Int
  | [],[]=>0
  | [],_ :: _=>-1
  | _ :: _,[]=>1
  | x :: xs,y :: ys=>if f x y = 0 then cmpG f xs ys else f x y
def cmpT (s t:List (List Int)):Int:=cmpG (cmpG cmp1) s t
theorem cmp1_zero {x y:Int} : cmp1 x y = 0↔x = y:=by unfold cmp1; split <;> (try split) <;> omega
theorem cmpG_zero {α:Type} {f:α->α->Int} (h : ∀ x y,f x y = 0↔x = y) : ∀ a b:List α,cmpG f a b = 0↔a = b
  | [],[]=>by simp [cmpG]
  | [],_ :: _=>by simp [cmpG]
  | _ :: _,[]=>by simp [cmpG]
  | x :: xs,y :: ys=>by
    simp only [cmpG,List.cons.injEq]
    split
    · rename_i e; rw [cmpG_zero h xs ys,(h x y).1 e]; simp
    · rename_i e; exact⟨fun g=>absurd g e,fun g=>absurd ((h x y).2 g.1) e⟩
theorem cmpG_run {α:Type} [Inhabited α] {f:α->α->Int} : ∀ (i:Nat) (a b:List α),(∀ j:Int,0<=j->j < (i:Int)->f (el a j) (el b j) = 0)->i<=a.length->i<=b.length->cmpG f a b = cmpG f (a.drop i) (b.drop i)
  | 0,_,_,_,_,_=>rfl
  | i + 1,[],_,_,h,_=>by simp at h
  | i + 1,_ :: _,[],_,_,h=>by simp at h
  | i + 1,x :: xs,y :: ys,h,h1,h2=>by
    have h0:f x y = 0:=h 0 (by omega) (by omega)
    show cmpG f (x :: xs) (y :: ys) = cmpG f (xs.drop i) (ys.drop i)
    rw [<- cmpG_run i xs ys (fun j j0 j1=>by
      have:=h (j + 1) (by omega) (by omega)
      simpa [el,show (j + 1).toNat = j.toNat + 1 by omega] using this) (by simpa using h1) (by simpa using h2)]
    simp [cmpG,h0]
theorem drop_el {α:Type} [Inhabited α] {l:List α} {i:Int} (h:0<=i/\i < (l.length:Int)):l.drop i.toNat = el l i :: l.drop (i.toNat + 1):=by
  have hi:i.toNat < l.length:=by omega
  rw [List.drop_eq_getElem_cons hi]
  simp [el,List.getD_eq_getElem?_getD,List.getElem?_eq_getElem hi]
section
variable {α:Type} [Inhabited α] {f:α->α->Int} {a b:List α} {i:Int}
theorem cmpG_ne (hu:Upto i fun j=>f (el a j) (el b j) = 0) (ha:0<=i/\i < (a.length:Int)) (hb:i < (b.length:Int)) (h : ¬ f (el a i) (el b i) = 0):cmpG f a b = f (el a i) (el b i):=by
  rw [cmpG_run i.toNat a b (fun j j0 j1=>hu j j0 (by omega)) (by omega) (by omega),drop_el ha,drop_el ⟨ha.1,hb⟩]
  simp [cmpG,h]
theorem cmpG_long (hu:Upto i fun j=>f (el a j) (el b j) = 0) (ha:0<=i/\i < (a.length:Int)) (hb:i = (b.length:Int)):cmpG f a b = 1:=by
  rw [cmpG_run i.toNat a b (fun j j0 j1=>hu j j0 (by omega)) (by omega) (by omega),drop_el ha,show b.drop i.toNat = [] from List.drop_eq_nil_of_le (by omega)]
  rfl
theorem cmpG_short (hu:Upto i fun j=>f (el a j) (el b j) = 0) (ha:0<=i/\i = (a.length:Int)) (hb:i < (b.length:Int)):cmpG f a b = -1:=by
  rw [cmpG_run i.toNat a b (fun j j0 j1=>hu j j0 (by omega)) (by omega) (by omega),drop_el (l:=b) ⟨ha.1,hb⟩,show a.drop i.toNat = [] from List.drop_eq_nil_of_le (by omega)]
  rfl
theorem cmpG_same (hu:Upto i fun j=>f (el a j) (el b j) = 0) (ha:0<=i/\i = (a.length:Int)) (hb:i = (b.length:Int)):cmpG f a b = 0:=by
  rw [cmpG_run i.toNat a b (fun j j0 j1=>hu j j0 (by omega)) (by omega) (by omega),show a.drop i.toNat = [] from List.drop_eq_nil_of_le (by omega),show b.drop i.toNat = [] from List.drop_eq_nil_of_le (by omega)]
  rfl
end
theorem growF_mem {n:Int} : ∀ (k:Nat) (s e:List Int),s.Nodup->(∀ x ∈ s,0<=x/\x < n)->e ∈ growF k n s->e.length = s.length + k/\e.Nodup/\∀ x ∈ e,0<=x/\x < n
  | 0,s,e,h1,h2,h=>by
    simp only [growF,List.mem_singleton] at h
    subst h; exact⟨rfl,h1,h2⟩
  | k + 1,s,e,h1,h2,h=>by
    simp only [growF,List.mem_flatMap] at h
    obtain⟨x,hx,h⟩:=h
    have hx2:=mem_ran.1 (show x ∈ ran n id from hx)
    split at h
    · cases h
    · rename_i hc
      have hc' : ¬ x ∈ s:=fun g=>hc (List.contains_iff_mem.2 g)
      have:=growF_mem k (s ++ [x]) e (List.nodup_append.2 ⟨h1,by simp,fun a ha b hb=>by simp at hb; subst hb; intro g; subst g; exact hc' ha⟩) (mem_app h2 hx2) h
      refine⟨by have:=this.1; simp at this; omega,this.2⟩
theorem growL_perm {n:Int} (hn:0<=n) {e:List Int} (h:e ∈ growL n []):(e.length:Int) = n/\isPerm e = true:=by
  obtain⟨h1,h2,h3⟩:=growF_mem _ [] e List.nodup_nil (by simp) h
  have hl:(e.length:Int) = n:=by simp at h1; omega
  exact⟨hl,isPerm_iff.2 ⟨h2,fun x hx=>by have:=h3 x hx; omega⟩⟩
def lesT (t best:List (List Int)) (p:List Int):List (List Int):=if cmpT (renT t p) best < 0 then renT t p else best
def LeaE (t:List (List Int)):Int:=if isTab t then (if 7 < (t.length:Int) then 3 else 0) else 1
def LeaT (t:List (List Int)):List (List Int):=if LeaE t = 0 then (growL (t.length:Int) []).foldl (lesT t) t else []
theorem lesT_tab {t best:List (List Int)} {p:List Int} (ht:isTab t = true) (hp:isPerm p = true) (hl:(p.length:Int) = (t.length:Int)) (hb:isTab best = true):isTab (lesT t best p) = true:=by
  unfold lesT; split
  · exact isTab_ren ht hp hl
  · exact hb
theorem foldl_take {α β:Type} {g:β->α->β} {l:List α} {k:Nat} {b:β} {e:α} (h:l[k]? = some e):(l.take (k + 1)).foldl g b = g ((l.take k).foldl g b) e:=by
  rw [List.take_add_one,h]; simp
end
section
def lexL (a b:List Int):Prop:=∃ j,(0<=j/\j < (a.length:Int))/\Upto j (fun m=>el a m = el b m)/\el a j < el b j
theorem lexL_trans {a b c:List Int} (hl:a.length = b.length) (h1:lexL a b) (h2:lexL b c):lexL a c:=by
  obtain⟨j,hj,hu,hlt⟩:=h1
  obtain⟨k,hk,hv,hlt2⟩:=h2
  rcases Int.lt_trichotomy j k with h | h | h
  · exact⟨j,hj,fun m m0 m1=>(hu m m0 m1).trans (hv m m0 (by omega)),by rw [<- hv j hj.1 h]; exact hlt⟩
  · subst h; exact⟨j,hj,fun m m0 m1=>(hu m m0 m1).trans (hv m m0 m1),by omega⟩
  · exact⟨k,⟨hk.1,by omega⟩,fun m m0 m1=>(hu m m0 (by omega)).trans (hv m m0 m1),by rw [hu k hk.1 h]; exact hlt2⟩
theorem lexL_irrefl {a:List Int} : ¬ lexL a a:=fun⟨_,_,_,h⟩=>by omega
structure NxI (p:List Int) (i k:Int):Prop where
  hi:0<=i/\i + 1 < (p.length:Int)
  up:el p i < el p (i + 1)
  dn : ∀ j,i < j->j + 1 < (p.length:Int)->el p (j + 1) < el p j
  hk:i < k/\k < (p.length:Int)
  kup:el p i < el p k
  kdn : ∀ j,k < j->j < (p.length:Int)->el p j < el p i
def nxtL (p:List Int) (i k:Int):List Int:=(se (se p i (el p k)) k (el p i)).take (i + 1).toNat ++ ((se (se p i (el p k)) k (el p i)).drop (i + 1).toNat).reverse
section
variable {p:List Int} {i k:Int}
theorem dn_all {p:List Int} {i:Int} (dn : ∀ j,i < j->j + 1 < (p.length:Int)->el p (j + 1) < el p j) {a b:Int} (ha:i < a) (hab:a < b) (hb:b < (p.length:Int)):el p b < el p a:=by
  obtain⟨n,rfl⟩ : ∃ n:Nat,b = a + 1 + n:=⟨(b - a - 1).toNat,by omega⟩
  induction n with
  | zero=>simpa using dn a ha (by omega)
  | succ n ih=>
    have h1:=ih (by omega) (by omega)
    have h2:=dn (a + 1 + n) (by omega) (by omega)
    rw [show a + 1 + ((n + 1:Nat):Int) = a + 1 + (n:Int) + 1 by omega]
    omega
theorem nxtL_len:(nxtL p i k).length = p.length:=by simp [nxtL]; omega
theorem sw_el (h:NxI p i k) {j:Int} (hj:0<=j/\j < (p.length:Int)):el (se (se p i (el p k)) k (el p i)) j = if j = k then el p i else if j = i then el p k else el p j:=by
  have h1:=h.hi; have h2:=h.hk
  by_cases e:j = k
  · subst e; rw [if_pos rfl,el_se_same ⟨by omega,by simp; omega⟩]
  · rw [if_neg e,el_se_ne (by omega) hj.1 (Ne.symm e)]
    by_cases e2:j = i
    · subst e2; rw [if_pos rfl,el_se_same ⟨by omega,by omega⟩]
    · rw [if_neg e2,el_se_ne (by omega) hj.1 (Ne.symm e2)]
theorem el_take' {l:List Int} {j m:Int} (hj:0<=j/\j < m):el (l.take m.toNat) j = el l j:=by
  unfold el
  simp only [List.getD_eq_getElem?_getD,List.getElem?_take]
  rw [if_pos (by omega)]
theorem nxt_el (h:NxI p i k) {j:Int} (hj:0<=j/\j < (p.length:Int)):el (nxtL p i k) j = if j<=i then el (se (se p i (el p k)) k (el p i)) j else el (se (se p i (el p k)) k (el p i)) ((p.length:Int) - (j - i)):=by
  have h1:=h.hi
  have hl:(se (se p i (el p k)) k (el p i)).length = p.length:=by simp
  generalize hS:se (se p i (el p k)) k (el p i) = S at *
  unfold nxtL
  rw [hS]
  have ht:((S.take (i + 1).toNat).length:Int) = i + 1:=by simp; omega
  split
  · rw [el_append_l ⟨hj.1,by omega⟩,el_take' ⟨hj.1,by omega⟩]
  · rw [el_append_r (by omega),ht]
    have hd:(S.drop (i + 1).toNat).length = p.length - (i + 1).toNat:=by simp [hl]
    unfold el
    simp only [List.getD_eq_getElem?_getD]
    rw [List.getElem?_reverse (by rw [hd]; omega),hd,List.getElem?_drop]
    congr 2
    omega
theorem nxt_lo (h:NxI p i k) {j:Int} (hj:0<=j/\j < i):el (nxtL p i k) j = el p j:=by
  have h1:=h.hi; have h2:=h.hk
  rw [nxt_el h ⟨hj.1,by omega⟩,if_pos (by omega),sw_el h ⟨hj.1,by omega⟩,if_neg (by omega),if_neg (by omega)]
theorem nxt_at (h:NxI p i k):el (nxtL p i k) i = el p k:=by
  have h1:=h.hi; have h2:=h.hk
  rw [nxt_el h ⟨h1.1,by omega⟩,if_pos (by omega),sw_el h ⟨h1.1,by omega⟩,if_neg (by omega),if_pos rfl]
theorem nxt_up (h:NxI p i k) {a b:Int} (ha:i < a) (hab:a < b) (hb:b < (p.length:Int)):el (nxtL p i k) a < el (nxtL p i k) b:=by
  have h1:=h.hi; have h2:=h.hk
  rw [nxt_el h ⟨by omega,by omega⟩,nxt_el h ⟨by omega,hb⟩,if_neg (by omega),if_neg (by omega),sw_el h ⟨by omega,by omega⟩,sw_el h ⟨by omega,by omega⟩]
  generalize hu:(p.length:Int) - (a - i) = u
  generalize hv:(p.length:Int) - (b - i) = v
  have huv:v < u:=by omega
  rw [if_neg (show ¬ u = i by omega),if_neg (show ¬ v = i by omega)]
  split
  · rename_i e
    rw [if_neg (by omega)]
    have:=dn_all h.dn (a:=v) (b:=k) (by omega) (by omega) (by omega)
    have:=h.kup; omega
  · split
    · exact h.kdn u (by omega) (by omega)
    · exact dn_all h.dn (by omega) huv (by omega)
theorem nxt_perm (hp:isPerm p = true) (h:NxI p i k):isPerm (nxtL p i k) = true:=by
  have h1:=h.hi; have h2:=h.hk
  have hs:=swap_perm hp (i:=i) (j:=k) ⟨h1.1,by omega⟩ ⟨by omega,h2.2⟩
  have hP:List.Perm (nxtL p i k) (se (se p i (el p k)) k (el p i)):=by
    unfold nxtL
    have:=(List.reverse_perm ((se (se p i (el p k)) k (el p i)).drop (i + 1).toNat)).append_left ((se (se p i (el p k)) k (el p i)).take (i + 1).toNat)
    rwa [List.take_append_drop] at this
  obtain⟨n1,n2⟩:=isPerm_iff.1 hs
  exact isPerm_iff.2 ⟨hP.nodup_iff.2 n1,fun x hx=>by rw [hP.length_eq]; exact n2 x (hP.mem_iff.1 hx)⟩
theorem nxt_lt (h:NxI p i k):lexL p (nxtL p i k):=⟨i,⟨h.hi.1,by have:=h.hi; omega⟩,fun m m0 m1=>(nxt_lo h ⟨m0,m1⟩).symm,by rw [nxt_at h]; exact h.kup⟩
theorem perm_behind {a b:List Int} (ha:isPerm a = true) (hb:isPerm b = true) (hl:a.length = b.length) {j:Int} (hj:0<=j/\j < (a.length:Int)) (hu:Upto j fun m=>el a m = el b m) : ∃ m,(j<=m/\m < (a.length:Int))/\el b j = el a m:=by
  have hx:=isPerm_el hb (i:=j) ⟨hj.1,by omega⟩
  obtain⟨m,hm,e⟩:=isPerm_surj ha (x:=el b j) ⟨hx.1,by omega⟩
  refine⟨m,⟨?_,hm.2⟩,e.symm⟩
  rcases Int.lt_or_le m j with g | g
  · have:=hu m hm.1 g
    have e2:el b m = el b j:=by rw [<- this]; exact e
    have:=isPerm_inj hb ⟨hm.1,by omega⟩ ⟨hj.1,by omega⟩ e2
    omega
  · exact g
theorem nxt_least (hp:isPerm p = true) (h:NxI p i k) {q:List Int} (hq:isPerm q = true) (hl:q.length = p.length) (h1:lexL p q) : ¬ lexL q (nxtL p i k):=by
  have hi:=h.hi; have hk:=h.hk
  obtain⟨j,hj,hu,hlt⟩:=h1
  rintro⟨j',hj',hu',hlt'⟩
  have hj'2:j' < (p.length:Int):=by omega
  obtain⟨m,hm,em⟩:=perm_behind hp hq hl.symm hj hu
  have hmj:j≠m:=fun e=>by rw [<- e] at em; omega
  rcases Int.lt_trichotomy j i with g | g | g
  · rcases Int.lt_trichotomy j' j with g' | g' | g'
    · have:=hu j' hj'.1 g'; rw [nxt_lo h ⟨hj'.1,by omega⟩] at hlt'; omega
    · subst g'; rw [nxt_lo h ⟨hj'.1,g⟩] at hlt'; omega
    · have e3:el q j = el (nxtL p i k) j:=hu' j hj.1 g'
      rw [nxt_lo h ⟨hj.1,g⟩] at e3; omega
  · subst g
    have hmk:m<=k:=by
      rcases Int.lt_or_le k m with c | c
      · have:=h.kdn m c hm.2; omega
      · exact c
    have hge:el p k<=el q j:=by
      rw [em]
      rcases Int.lt_or_le m k with c | c
      · have:=dn_all h.dn (a:=m) (b:=k) (by omega) c hk.2; omega
      · rw [show m = k by omega]; omega
    rcases Int.lt_trichotomy j' j with g' | g' | g'
    · have:=hu j' hj'.1 g'; rw [nxt_lo h ⟨hj'.1,g'⟩] at hlt'; omega
    · subst g'; rw [nxt_at h] at hlt'; omega
    · obtain⟨m',hm',em'⟩:=perm_behind (nxt_perm hp h) hq (by rw [nxtL_len,hl]) (j:=j') ⟨hj'.1,by rw [nxtL_len]; omega⟩ fun z z0 z1=>(hu' z z0 z1).symm
      rw [nxtL_len] at hm'
      have hne:j'≠m':=fun e=>by rw [<- e] at em'; omega
      have:=nxt_up h (a:=j') (b:=m') g' (by omega) hm'.2
      omega
  · have:=dn_all h.dn (a:=j) (b:=m) g (by omega) hm.2
    omega
theorem last_perm (hp:isPerm p = true) (dn : ∀ j,-1 < j->j + 1 < (p.length:Int)->el p (j + 1) < el p j) {q:List Int} (hq:isPerm q = true) (hl:q.length = p.length) : ¬ lexL p q:=by
  rintro⟨j,hj,hu,hlt⟩
  obtain⟨m,hm,em⟩:=perm_behind hp hq hl.symm hj hu
  have hmj:j≠m:=fun e=>by rw [<- e] at em; omega
  have:=dn_all dn (a:=j) (b:=m) (by omega) (by omega) hm.2
  omega
end
theorem growF_pre {n:Int} : ∀ (k:Nat) (s e:List Int),e ∈ growF k n s->∃ u,e = s ++ u
  | 0,s,e,h=>by simp only [growF,List.mem_singleton] at h; exact⟨[],by simp [h]⟩
  | k + 1,s,e,h=>by
    simp only [growF,List.mem_flatMap] at h
    obtain⟨x,_,h⟩:=h
    split at h
    · cases h
    · obtain⟨u,rfl⟩:=growF_pre k _ e h; exact⟨[x] ++ u,by simp⟩
theorem growF_sort {n:Int} : ∀ (k:Nat) (s:List Int),(growF k n s).Pairwise lexL
  | 0,s=>by simp [growF]
  | k + 1,s=>by
    simp only [growF]
    rw [List.pairwise_flatMap]
    refine⟨fun x _=>?_,?_⟩
    · split
      · exact List.Pairwise.nil
      · exact growF_sort k _
    · refine (ran_lt n).imp ?_
      intro x y hxy a ha b hb
      split at ha
      · cases ha
      · split at hb
        · cases hb
        · obtain⟨u,rfl⟩:=growF_pre k _ a ha
          obtain⟨v,rfl⟩:=growF_pre k _ b hb
          have e1:el (s ++ [x] ++ u) (s.length:Int) = x:=by simp [el]
          have e2:el (s ++ [y] ++ v) (s.length:Int) = y:=by simp [el]
          refine⟨(s.length:Int),⟨by omega,by simp; omega⟩,fun m m0 m1=>?_,by rw [e1,e2]; exact hxy⟩
          show el (s ++ [x] ++ u) m = el (s ++ [y] ++ v) m
          rw [List.append_assoc,List.append_assoc,el_append_l ⟨m0,m1⟩,el_append_l ⟨m0,m1⟩]
theorem growF_all {n:Int} : ∀ (k:Nat) (s u:List Int),(s ++ u).Nodup->(∀ x ∈ u,0<=x/\x < n)->u.length = k->s ++ u ∈ growF k n s
  | 0,s,u,_,_,h=>by have:=List.eq_nil_of_length_eq_zero h; subst this; simp [growF]
  | k + 1,s,[],_,_,h=>by simp at h
  | k + 1,s,x :: u,hn,hr,h=>by
    simp only [growF,List.mem_flatMap]
    refine⟨x,mem_ran.2 (hr x (by simp)),?_⟩
    have hx : ¬ x ∈ s:=fun g=>(List.nodup_append.1 hn).2.2 x g x (by simp) rfl
    rw [if_neg (by rw [List.contains_iff_mem]; exact hx)]
    have:=growF_all k (s ++ [x]) u (by simpa using hn) (fun y hy=>hr y (by simp [hy])) (by simpa using h)
    simpa using this
section
variable {n:Int}
theorem growL_all (hn:0<=n) {q:List Int} (hq:isPerm q = true) (hl:(q.length:Int) = n):q ∈ growL n []:=by
  obtain⟨h1,h2⟩:=isPerm_iff.1 hq
  exact growF_all _ [] q h1 (fun x hx=>by have:=h2 x hx; omega) (by simp; omega)
theorem growL_sort:(growL n []).Pairwise lexL:=growF_sort _ _
theorem sort_at {L:List (List Int)} (hs:L.Pairwise lexL) {a b:Nat} {x y:List Int} (hx:L[a]? = some x) (hy:L[b]? = some y) (h:a < b):lexL x y:=by
  obtain⟨ha,ea⟩:=List.getElem?_eq_some_iff.1 hx
  obtain⟨hb,eb⟩:=List.getElem?_eq_some_iff.1 hy
  have:=List.pairwise_iff_getElem.1 hs a b ha hb h
  rwa [ea,eb] at this
theorem growL_next (hn:0<=n) {m:Nat} {p:List Int} (hp:(growL n [])[m]? = some p) {i k:Int} (h:NxI p i k):(growL n [])[m + 1]? = some (nxtL p i k):=by
  obtain⟨pl,pP⟩:=growL_perm hn (List.mem_of_getElem? hp)
  have rP:=nxt_perm pP h
  have rl:((nxtL p i k).length:Int) = n:=by rw [nxtL_len]; exact pl
  obtain⟨j,hj⟩:=List.mem_iff_getElem?.1 (growL_all hn rP rl)
  have hlt:=nxt_lt h
  rcases Nat.lt_trichotomy j m with g | g | g
  · exact absurd (lexL_trans (by rw [nxtL_len]) hlt (sort_at growL_sort hj hp g)) lexL_irrefl
  · subst g; rw [hp] at hj; have e:=Option.some.inj hj; rw [<- e] at hlt; exact absurd hlt lexL_irrefl
  · rcases Nat.lt_or_ge (m + 1) j with g2 | g2
    · obtain⟨q,hq⟩ : ∃ q,(growL n [])[m + 1]? = some q:=⟨_,List.getElem?_eq_getElem (by have:=(List.getElem?_eq_some_iff.1 hj).1; omega)⟩
      obtain⟨ql,qP⟩:=growL_perm hn (List.mem_of_getElem? hq)
      exact absurd (sort_at growL_sort hq hj g2) (nxt_least pP h qP (by omega) (sort_at growL_sort hp hq (by omega)))
    · rw [show m + 1 = j by omega]; exact hj
theorem growL_last (hn:0<=n) {m:Nat} {p:List Int} (hp:(growL n [])[m]? = some p) (dn : ∀ j,-1 < j->j + 1 < (p.length:Int)->el p (j + 1) < el p j):m + 1 = (growL n []).length:=by
  obtain⟨pl,pP⟩:=growL_perm hn (List.mem_of_getElem? hp)
  have hm:=(List.getElem?_eq_some_iff.1 hp).1
  rcases Nat.lt_or_ge (m + 1) (growL n []).length with g | g
  · obtain⟨q,hq⟩ : ∃ q,(growL n [])[m + 1]? = some q:=⟨_,List.getElem?_eq_getElem g⟩
    obtain⟨ql,qP⟩:=growL_perm hn (List.mem_of_getElem? hq)
    exact absurd (sort_at growL_sort hp hq (by omega)) (last_perm pP dn qP (by omega))
  · omega
theorem growL_first (hn:0<=n):(growL n [])[0]? = some (unitI n):=by
  have ul:((unitI n).length:Int) = n:=by simp; omega
  obtain⟨j,hj⟩:=List.mem_iff_getElem?.1 (growL_all hn (isPerm_unitI n) ul)
  rcases Nat.eq_zero_or_pos j with g | g
  · rw [<- g]; exact hj
  · obtain⟨q,hq⟩ : ∃ q,(growL n [])[0]? = some q:=⟨_,List.getElem?_eq_getElem (by have:=(List.getElem?_eq_some_iff.1 hj).1; omega)⟩
    obtain⟨ql,qP⟩:=growL_perm hn (List.mem_of_getElem? hq)
    obtain⟨m,hm,hu,hlt⟩:=sort_at growL_sort hq hj g
    rw [el_unitI ⟨hm.1,by omega⟩] at hlt
    have h0:=isPerm_el qP hm
    have h1:el q (el q m) = el q m:=by
      have e:el q (el q m) = el (unitI n) (el q m):=hu (el q m) h0.1 hlt
      rw [el_unitI ⟨h0.1,by omega⟩] at e; exact e
    have:=isPerm_inj qP h0 hm h1
    omega
end
end
section
theorem img_ren {t r:List (List Int)} {p:List Int} (ht:isTab t = true) (hP:isPerm p = true) (hl:(p.length:Int) = (t.length:Int)) (h1:isTab r = true) (h2:r.length = t.length)
    (h3 : ∀ u v:Int,(0<=u/\u < (t.length:Int))->(0<=v/\v < (t.length:Int))->el (el r (el p u)) (el p v) = el p (el (el t u) v)):r = renT t p:=by
  have hr:=isTab_ren ht hP hl
  have hn:=isTab_len ht
  have lr:((renT t p).length:Int) = (t.length:Int):=len_tab (by omega)
  rw [tab_el h1,tab_el hr,show (r.length:Int) = (t.length:Int) by omega,lr]
  refine tab_congr fun x y x0 x1 y0 y1=>?_
  obtain⟨u,hu,rfl⟩:=isPerm_surj hP (x:=x) ⟨x0,by omega⟩
  obtain⟨v,hv,rfl⟩:=isPerm_surj hP (x:=y) ⟨y0,by omega⟩
  rw [h3 u v ⟨hu.1,by omega⟩ ⟨hv.1,by omega⟩,renT_el hP hl ⟨hu.1,by omega⟩ ⟨hv.1,by omega⟩]
end
section
theorem upto_cons {α:Type} [Inhabited α] {x y:α} {a b:List α} {j:Int} (hj:0<=j):Upto (j + 1) (fun m=>el (x :: a) m = el (y :: b) m)↔x = y/\Upto j (fun m=>el a m = el b m):=by
  constructor
  · intro h
    refine⟨by have:=h 0 (by omega) (by omega); simpa [el_cons_0] using this,fun m m0 m1=>?_⟩
    have:el (x :: a) (m + 1) = el (y :: b) (m + 1):=h (m + 1) (by omega) (by omega)
    rw [el_cons_s (by omega),el_cons_s (by omega),Int.add_sub_cancel] at this
    exact this
  · rintro⟨rfl,h⟩ m m0 m1
    show el (x :: a) m = el (x :: b) m
    by_cases e:m = 0
    · subst e; rw [el_cons_0,el_cons_0]
    · rw [el_cons_s (by omega),el_cons_s (by omega)]; exact h _ (by omega) (by omega)
theorem lex_cons {x y:Int} {a b:List Int} : lexL (x :: a) (y :: b)↔x < y\/(x = y/\lexL a b):=by
  constructor
  · rintro⟨j,hj,hu,hlt⟩
    by_cases e:j = 0
    · subst e; left; simpa [el_cons_0] using hlt
    · right
      obtain⟨i,rfl⟩ : ∃ i,j = i + 1:=⟨j - 1,by omega⟩
      obtain⟨h1,h2⟩:=(upto_cons (by omega)).1 hu
      rw [el_cons_s (by omega),el_cons_s (by omega),Int.add_sub_cancel] at hlt
      exact⟨h1,i,⟨by omega,by have:=hj.2; simp at this; omega⟩,h2,hlt⟩
  · rintro (h | ⟨rfl,j,hj,hu,hlt⟩)
    · exact⟨0,⟨by omega,by simp⟩,fun m _ _=>by omega,by rw [el_cons_0,el_cons_0]; exact h⟩
    · exact⟨j + 1,⟨by omega,by simp; omega⟩,(upto_cons hj.1).2 ⟨rfl,hu⟩,by rw [el_cons_s (by omega),el_cons_s (by omega),Int.add_sub_cancel]; exact hlt⟩
theorem lexL_total : ∀ {a b:List Int},a.length = b.length->a≠b->lexL a b\/lexL b a
  | [],[],_,h=>absurd rfl h
  | [],_ :: _,h,_=>by cases h
  | _ :: _,[],h,_=>by cases h
  | x :: a,y :: b,hl,h=>by
    rcases Int.lt_trichotomy x y with g | rfl | g
    · exact .inl (lex_cons.2 (.inl g))
    · rcases lexL_total (a:=a) (b:=b) (by simpa using hl) (fun e=>h (by rw [e])) with k | k
      · exact .inl (lex_cons.2 (.inr ⟨rfl,k⟩))
      · exact .inr (lex_cons.2 (.inr ⟨rfl,k⟩))
    · exact .inr (lex_cons.2 (.inl g))
theorem cmp_lex : ∀ {a b:List Int},a.length = b.length->(cmpG cmp1 a b < 0↔lexL a b)
  | [],[],_=>by simp only [cmpG]; exact⟨fun h=>by omega,fun h=>absurd h lexL_irrefl⟩
  | [],_ :: _,h=>by cases h
  | _ :: _,[],h=>by cases h
  | x :: a,y :: b,hl=>by
    rw [lex_cons,<- cmp_lex (a:=a) (b:=b) (by simpa using hl)]
    simp only [cmpG,cmp1_zero]
    split
    · rename_i h; subst h; exact⟨fun h=>.inr ⟨rfl,h⟩,fun h=>h.elim (fun h=>by omega) fun h=>h.2⟩
    · rename_i h
      unfold cmp1
      split
      · exact⟨fun _=>.inl (by assumption),fun _=>by omega⟩
      · split
        · exact⟨fun _=>by omega,fun k=>k.elim (fun _=>by omega) fun k=>absurd k.1 h⟩
        · exact⟨fun _=>by omega,fun k=>k.elim (fun _=>by omega) fun k=>absurd k.1 h⟩
def LexS (n:Nat) (l:List (List Int)):Prop:=l.Pairwise lexL/\∀ x ∈ l,x.length = n
theorem LexS.tail {n:Nat} {a:List Int} {l:List (List Int)} (h:LexS n (a :: l)):LexS n l:=⟨(List.pairwise_cons.1 h.1).2,fun x hx=>h.2 x (List.mem_cons_of_mem _ hx)⟩
theorem LexS.nodup {n:Nat} {l:List (List Int)} (h:LexS n l):l.Nodup:=h.1.imp fun h e=>by subst e; exact lexL_irrefl h
theorem lexS_uniq {n:Nat} : ∀ {a b:List (List Int)},LexS n a->LexS n b->(∀ x,x ∈ a↔x ∈ b)->a = b
  | [],[],_,_,_=>rfl
  | [],y :: b,_,_,h=>by have:=(h y).2 List.mem_cons_self; cases this
  | x :: a,[],_,_,h=>by have:=(h x).1 List.mem_cons_self; cases this
  | x :: a,y :: b,ha,hb,h=>by
    have pa:=List.pairwise_cons.1 ha.1
    have pb:=List.pairwise_cons.1 hb.1
    have e:x = y:=by
      rcases List.mem_cons.1 ((h x).1 List.mem_cons_self) with e | h1
      · exact e
      · rcases List.mem_cons.1 ((h y).2 List.mem_cons_self) with e | h2
        · exact e.symm
        · exact absurd (lexL_trans (by rw [ha.2 x List.mem_cons_self,hb.2 y List.mem_cons_self]) (pa.1 y h2) (pb.1 x h1)) lexL_irrefl
    subst e
    rw [lexS_uniq ha.tail hb.tail fun z=>?_]
    constructor
    · intro hz
      rcases List.mem_cons.1 ((h z).1 (List.mem_cons_of_mem _ hz)) with e | h1
      · subst e; exact absurd (pa.1 z hz) lexL_irrefl
      · exact h1
    · intro hz
      rcases List.mem_cons.1 ((h z).2 (List.mem_cons_of_mem _ hz)) with e | h1
      · subst e; exact absurd (pb.1 z hz) lexL_irrefl
      · exact h1
theorem el_takeG {α:Type} [Inhabited α] {l:List α} {j m:Int} (hj:0<=j/\j < m):el (l.take m.toNat) j = el l j:=by
  unfold el
  simp only [List.getD_eq_getElem?_getD,List.getElem?_take]
  rw [if_pos (by omega)]
theorem lexS_put {n:Nat} {s:List (List Int)} {x:List Int} {k:Int} (hs:LexS n s) (hx:x.length = n) (hk:0<=k/\k<=(s.length:Int)) (h1:0 < k->lexL (el s (k - 1)) x) (h2:k < (s.length:Int)->lexL x (el s k)) :
    LexS n (sl s 0 k ++ x :: sl s k (s.length:Int))/\∀ z,z ∈ sl s 0 k ++ x :: sl s k (s.length:Int)↔z = x\/z ∈ s:=by
  have e:s = s.take k.toNat ++ s.drop k.toNat:=(List.take_append_drop _ _).symm
  have e1:sl s 0 k = s.take k.toNat:=by simp [sl]
  have e2:sl s k (s.length:Int) = s.drop k.toNat:=by simp [sl]
  rw [e1,e2]
  have hp:=hs.1
  rw [e] at hp
  obtain⟨p1,p2,p3⟩:=List.pairwise_append.1 hp
  have hlen : ∀ z ∈ s,z.length = x.length:=fun z hz=>by rw [hs.2 z hz,hx]
  have lo : ∀ z ∈ s.take k.toNat,lexL z x:=fun z hz=>by
    obtain⟨i,hi,rfl⟩:=mem_el hz
    have hi2:i < k:=by have:=hi.2; simp at this; omega
    rw [el_takeG ⟨hi.1,hi2⟩]
    have hkp:=h1 (by omega)
    by_cases hik:i = k - 1
    · subst hik; exact hkp
    · have:=sort_at (a:=i.toNat) (b:=(k - 1).toNat) (x:=el s i) (y:=el s (k - 1)) hs.1 (by unfold el; rw [List.getD_eq_getElem?_getD,List.getElem?_eq_getElem (by omega)]; rfl) (by unfold el; rw [List.getD_eq_getElem?_getD,List.getElem?_eq_getElem (by omega)]; rfl) (by omega)
      exact lexL_trans (by rw [hs.2 _ (el_mem ⟨hi.1,by omega⟩),hs.2 _ (el_mem ⟨by omega,by omega⟩)]) this hkp
  have hi : ∀ z ∈ s.drop k.toNat,lexL x z:=fun z hz=>by
    by_cases hkl:k < (s.length:Int)
    · rw [drop_el ⟨hk.1,hkl⟩] at hz p2
      rcases List.mem_cons.1 hz with rfl | hz
      · exact h2 hkl
      · exact lexL_trans (by rw [hx,hs.2 _ (el_mem ⟨hk.1,hkl⟩)]) (h2 hkl) ((List.pairwise_cons.1 p2).1 z hz)
    · rw [List.drop_of_length_le (by omega)] at hz; cases hz
  have hmem : ∀ z,z ∈ s.take k.toNat ++ x :: s.drop k.toNat↔z = x\/z ∈ s:=fun z=>by
    rw [show (z ∈ s) = (z ∈ s.take k.toNat ++ s.drop k.toNat) by rw [<- e]]
    simp only [List.mem_append,List.mem_cons]
    constructor
    · rintro (h | h | h) <;> simp [h]
    · rintro (h | h | h) <;> simp [h]
  refine⟨⟨List.pairwise_append.2 ⟨p1,List.pairwise_cons.2 ⟨hi,p2⟩,fun a ha b hb=>?_⟩,fun z hz=>?_⟩,hmem⟩
  · rcases List.mem_cons.1 hb with rfl | hb
    · exact lo a ha
    · exact p3 a ha b hb
  · rcases (hmem z).1 hz with rfl | hz
    · exact hx
    · exact hs.2 z hz
theorem idxL_mem {l:List (List Int)} {v:List Int} (h:v ∈ l):0<=idxL l v/\idxL l v < (l.length:Int):=by
  unfold idxL idxF
  have hany:l.any (fun own=>decide (own = v)) = true:=List.any_eq_true.2 ⟨v,h,decide_eq_true rfl⟩
  rw [if_pos hany]
  have:=List.findIdx_lt_length_of_exists (p:=fun own=>decide (own = v)) ⟨v,h,decide_eq_true rfl⟩
  omega
def thnI (p q:List Int):List Int:=p.map (el q)
theorem thn_len (p q:List Int):(thnI p q).length = p.length:=by simp [thnI]
theorem thn_el {p q:List Int} {i:Int} (hi:0<=i/\i < (p.length:Int)):el (thnI p q) i = el q (el p i):=el_map hi
theorem perm_mk {p:List Int} (h : ∀ i,0<=i->i < (p.length:Int)->0<=el p i/\el p i < (p.length:Int)) (hi : ∀ i j,0<=i->i < j->j < (p.length:Int)->el p i≠el p j):isPerm p = true:=
  isPerm_iff.2 ⟨nodup_el.2 hi,fun x hx=>by obtain⟨i,hi,rfl⟩:=mem_el hx; exact h i hi.1 hi.2⟩
theorem thn_perm {p q:List Int} (hp:isPerm p = true) (hq:isPerm q = true) (hl:p.length = q.length):isPerm (thnI p q) = true:=by
  have e:=thn_len p q
  refine perm_mk (fun i i0 i1=>?_) fun i j i0 ij j1=>?_
  · rw [e] at i1 ⊢
    rw [thn_el ⟨i0,i1⟩]
    have h1:=isPerm_el hp ⟨i0,i1⟩
    have h2:=isPerm_el hq (i:=el p i) ⟨h1.1,by omega⟩
    omega
  · rw [e] at j1
    rw [thn_el ⟨i0,by omega⟩,thn_el ⟨by omega,j1⟩]
    intro h
    have a1:=isPerm_el hp (i:=i) ⟨i0,by omega⟩
    have a2:=isPerm_el hp (i:=j) ⟨by omega,j1⟩
    have:=isPerm_inj hq ⟨a1.1,by omega⟩ ⟨a2.1,by omega⟩ h
    have:=isPerm_inj hp ⟨i0,by omega⟩ ⟨by omega,j1⟩ this
    omega
section
variable {x y:List Int}
end
theorem grow_iff {n:Int} (hn:0<=n) {q:List Int} : q ∈ growL n []↔(q.length:Int) = n/\isPerm q = true:=⟨growL_perm hn,fun h=>growL_all hn h.2 h.1⟩
section
variable {p:List Int} (hp:permB p = true)
include hp
end
end
section
theorem unit_perm {n:Int} (_hn:0<=n):isPerm (unitI n) = true:=isPerm_iff.2 ⟨nodup_ran n,fun x hx=>by
  have:=mem_ran.1 hx
  have hl:((unitI n).length:Int) = n:=by simp [unitI]; omega
  omega⟩
theorem unit_len {n:Int} (_hn:0<=n):((unitI n).length:Int) = n:=by simp [unitI]; omega
section
variable {n:Int} {list:List (List Int)} (hn:1<=n/\n<=12) (hP:permsN n list)
include hn hP
end
section
variable {n:Int} {list q:List (List Int)} {i k:Int}
end
end
section
structure OkM (a b:List (List (List Int))) (f:List Int) (u:List Bool) (s:List Int):Prop where
  la:a.length = b.length
  ha : ∀ k,0<=k->k < (a.length:Int)->isTab (el a k) = true/\(el a k).length = f.length
  hb : ∀ k,0<=k->k < (b.length:Int)->isTab (el b k) = true/\(el b k).length = f.length
  sm:(a.length:Int)<=1000
  lu:u.length = f.length
  n12:1<=(f.length:Int)/\(f.length:Int)<=12
  nd:s.Nodup
  mem : ∀ x,x ∈ s↔(0<=x/\x < (f.length:Int))/\0<=el f x
  val : ∀ x,0<=x->x < (f.length:Int)->el f x = -1\/(0<=el f x/\el f x < (f.length:Int))
  use : ∀ v,0<=v->v < (f.length:Int)->(el u v = true↔∃ x,x ∈ s/\el f x = v)
  inj : ∀ x ∈ s,∀ y ∈ s,el f x = el f y->x = y
def el3 (a:List (List (List Int))) (k x y:Int):Int:=el (el (el a k) x) y
def IsoP (a b:List (List (List Int))) (p:List Int):Prop:=isPerm p = true/\∀ k,0<=k->k < (a.length:Int)->∀ x y,(0<=x/\x < (p.length:Int))->(0<=y/\y < (p.length:Int))->el p (el3 a k x y) = el3 b k (el p x) (el p y)
def ExtI (f p:List Int):Prop:=∀ x,0<=x->x < (f.length:Int)->0<=el f x->el p x = el f x
def Ck1 (a b:List (List (List Int))) (f:List Int) (k x y:Int):Prop:=el f (el3 a k x y) = el3 b k (el f x) (el f y)
def Ck (a b:List (List (List Int))) (f:List Int) (x y:Int):Prop:=∀ k,0<=k->k < (a.length:Int)->Ck1 a b f k x y/\Ck1 a b f k y x
def Dn (a b:List (List (List Int))) (f s:List Int) (c:Int):Prop:=∀ j i,c<=j->j < (s.length:Int)->0<=i->i<=j->Ck a b f (el s j) (el s i)
def AsgP (a b:List (List (List Int))) (f:List Int) (_u:List Bool) (s:List Int) (x v:Int) (r:Bool) (f' : List Int) (u' : List Bool) (s' : List Int):Prop:=
  OkM a b f' u' s'/\f'.length = f.length/\(∃ t,s' = s ++ t)/\(∀ y ∈ s,el f' y = el f y)/\(r = true->el f' x = v/\Dn a b f' s' (s.length:Int))/\
  ∀ p,p.length = f.length->IsoP a b p->ExtI f p->el p x = v->r = true/\ExtI f' p
section
variable {a b:List (List (List Int))} {f f' : List Int} {u u' : List Bool} {s s' : List Int}
theorem OkM.a_in (h:OkM a b f u s) {k x y:Int} (hk:0<=k/\k < (a.length:Int)) (hx:0<=x/\x < (f.length:Int)) (hy:0<=y/\y < (f.length:Int)) :
    (x < ((el a k).length:Int))/\(y < ((el (el a k) x).length:Int))/\0<=el3 a k x y/\el3 a k x y < (f.length:Int):=by
  obtain⟨h1,h2⟩:=h.ha k hk.1 hk.2
  have:=isTab_row h1 (i:=x) ⟨hx.1,by omega⟩
  have h3:=this.2 y hy.1 (by omega)
  exact⟨by omega,by omega,h3.1,by have:=h3.2; show el (el (el a k) x) y < _; omega⟩
theorem OkM.b_in (h:OkM a b f u s) {k x y:Int} (hk:0<=k/\k < (a.length:Int)) (hx:0<=x/\x < (f.length:Int)) (hy:0<=y/\y < (f.length:Int)) :
    (k < (b.length:Int))/\(x < ((el b k).length:Int))/\(y < ((el (el b k) x).length:Int))/\0<=el3 b k x y/\el3 b k x y < (f.length:Int):=by
  have hl:=h.la
  obtain⟨h1,h2⟩:=h.hb k hk.1 (by omega)
  have:=isTab_row h1 (i:=x) ⟨hx.1,by omega⟩
  have h3:=this.2 y hy.1 (by omega)
  exact⟨by omega,by omega,by omega,h3.1,by have:=h3.2; show el (el (el b k) x) y < _; omega⟩
theorem OkM.in_s (h:OkM a b f u s) {x:Int} (hx:x ∈ s):(0<=x/\x < (f.length:Int))/\0<=el f x/\el f x < (f.length:Int):=by
  have h1:=(h.mem x).1 hx
  have:=h.val x h1.1.1 h1.1.2
  exact⟨h1.1,h1.2,by omega⟩
theorem OkM.len (h:OkM a b f u s):(s.length:Int)<=(f.length:Int):=nodup_len_ran (by omega) h.nd fun x hx=>(h.in_s hx).1
theorem OkM.room (h:OkM a b f u s) {x:Int} (hx:0<=x/\x < (f.length:Int)) (hn : ¬ 0<=el f x):(s.length:Int) + 1<=(f.length:Int):=by
  have hx2:x ∉ s:=fun hm=>hn ((h.mem x).1 hm).2
  have:((x :: s).length:Int)<=(f.length:Int):=nodup_len_ran (by omega) (List.nodup_cons.2 ⟨hx2,h.nd⟩) fun z hz=>by
    rcases List.mem_cons.1 hz with rfl | hz
    · exact hx
    · exact (h.in_s hz).1
  simp at this; omega
theorem OkM.add (h:OkM a b f u s) {x v:Int} (hx:0<=x/\x < (f.length:Int)) (hn : ¬ 0<=el f x) (hv:0<=v/\v < (f.length:Int)) (hu:el u v = false):OkM a b (se f x v) (se u v true) (s ++ [x]):=by
  have hl:(se f x v).length = f.length:=by simp
  have hx2:x ∉ s:=fun hm=>hn ((h.mem x).1 hm).2
  have same : ∀ y,0<=y->y≠x->el (se f x v) y = el f y:=fun y y0 hy=>el_se_ne hx.1 y0 (Ne.symm hy)
  have here:el (se f x v) x = v:=el_se_same hx
  have old : ∀ y ∈ s,el (se f x v) y = el f y:=fun y hy=>same y (h.in_s hy).1.1 fun e=>hx2 (e ▸ hy)
  refine⟨h.la,fun k a b=>by rw [hl]; exact h.ha k a b,fun k a b=>by rw [hl]; exact h.hb k a b,h.sm,by simp [h.lu],by rw [hl]; exact h.n12,List.nodup_append.2 ⟨h.nd,by simp,fun y hy z hz e=>by rw [List.mem_singleton.1 hz] at e; exact hx2 (e ▸ hy)⟩,fun y=>?_,fun y y0 y1=>?_,fun w w0 w1=>?_,fun y hy z hz e=>?_⟩
  · rw [hl,List.mem_append,List.mem_singleton,h.mem]
    by_cases e:y = x
    · subst e; rw [here]; exact⟨fun _=>⟨hx,hv.1⟩,fun _=>.inr rfl⟩
    · constructor
      · rintro (k | k)
        · exact⟨k.1,by rw [same y k.1.1 e]; exact k.2⟩
        · exact absurd k e
      · rintro⟨k1,k2⟩; exact .inl ⟨k1,by rwa [same y k1.1 e] at k2⟩
  · rw [hl] at y1 ⊢
    by_cases e:y = x
    · subst e; rw [here]; exact .inr hv
    · rw [same y y0 e]; exact h.val y y0 y1
  · rw [hl] at w1
    by_cases e:w = v
    · subst e; rw [el_se_same ⟨w0,by rw [h.lu]; exact w1⟩]; exact⟨fun _=>⟨x,by simp,here⟩,fun _=>rfl⟩
    · rw [el_se_ne hv.1 w0 (Ne.symm e),h.use w w0 w1]
      constructor
      · rintro⟨y,hy,e2⟩; exact⟨y,List.mem_append_left _ hy,by rw [old y hy]; exact e2⟩
      · rintro⟨y,hy,e2⟩
        rcases List.mem_append.1 hy with hy | hy
        · exact⟨y,hy,by rw [<- old y hy]; exact e2⟩
        · rw [List.mem_singleton.1 hy,here] at e2; exact absurd e2.symm e
  · have nov : ∀ y ∈ s,el f y≠v:=fun y hy e=>by
      have:=(h.use v hv.1 hv.2).2 ⟨y,hy,e⟩
      rw [hu] at this; cases this
    rcases List.mem_append.1 hy with hy | hy <;> rcases List.mem_append.1 hz with hz | hz
    · rw [old y hy,old z hz] at e; exact h.inj y hy z hz e
    · rw [List.mem_singleton.1 hz,here,old y hy] at e; exact absurd e (nov y hy)
    · rw [List.mem_singleton.1 hy,here,old z hz] at e; exact absurd e.symm (nov z hz)
    · rw [List.mem_singleton.1 hy,List.mem_singleton.1 hz]
theorem OkM.del {A B:List Int} {z:Int} (h:OkM a b f u (A ++ z :: B)):OkM a b (se f z (-1)) (se u (el f z) false) (A ++ B)/\∀ y ∈ A ++ B,el (se f z (-1)) y = el f y:=by
  have hl:(se f z (-1)).length = f.length:=by simp
  have hz:=h.in_s (x:=z) (by simp)
  have nd:=h.nd
  have hzn:z ∉ A ++ B:=fun hm=>by
    obtain⟨n1,n2,n3⟩:=List.nodup_append.1 nd
    rcases List.mem_append.1 hm with hm | hm
    · exact n3 z hm z (by simp) rfl
    · exact (List.nodup_cons.1 n2).1 hm
  have sub : ∀ y,y ∈ A ++ z :: B↔y = z\/y ∈ A ++ B:=fun y=>by
    simp only [List.mem_append,List.mem_cons]
    constructor
    · rintro (k | k | k) <;> simp [k]
    · rintro (k | k | k) <;> simp [k]
  have same : ∀ y,0<=y->y≠z->el (se f z (-1)) y = el f y:=fun y y0 hy=>el_se_ne hz.1.1 y0 (Ne.symm hy)
  have here:el (se f z (-1)) z = -1:=el_se_same hz.1
  have old : ∀ y ∈ A ++ B,el (se f z (-1)) y = el f y:=fun y hy=>same y (h.in_s ((sub y).2 (.inr hy))).1.1 fun e=>hzn (e ▸ hy)
  refine⟨⟨h.la,fun k a b=>by rw [hl]; exact h.ha k a b,fun k a b=>by rw [hl]; exact h.hb k a b,h.sm,by simp [h.lu],by rw [hl]; exact h.n12,?_,fun y=>?_,fun y y0 y1=>?_,fun w w0 w1=>?_,fun y hy y' hy' e=>?_⟩,old⟩
  · obtain⟨n1,n2,n3⟩:=List.nodup_append.1 nd
    exact List.nodup_append.2 ⟨n1,(List.nodup_cons.1 n2).2,fun p hp q hq=>n3 p hp q (List.mem_cons_of_mem _ hq)⟩
  · rw [hl]
    by_cases e:y = z
    · subst e; rw [here]; exact⟨fun k=>absurd k hzn,fun k=>by omega⟩
    · have:y ∈ A ++ B↔y ∈ A ++ z :: B:=⟨fun k=>(sub y).2 (.inr k),fun k=>((sub y).1 k).resolve_left e⟩
      rw [this,h.mem]
      constructor
      · rintro⟨k1,k2⟩; exact⟨k1,by rw [same y k1.1 e]; exact k2⟩
      · rintro⟨k1,k2⟩; exact⟨k1,by rwa [same y k1.1 e] at k2⟩
  · rw [hl] at y1 ⊢
    by_cases e:y = z
    · subst e; rw [here]; exact .inl rfl
    · rw [same y y0 e]; exact h.val y y0 y1
  · rw [hl] at w1
    by_cases e:w = el f z
    · subst e
      rw [el_se_same ⟨w0,by rw [h.lu]; exact w1⟩]
      refine⟨fun k=>absurd k (by simp),fun⟨y,hy,e2⟩=>?_⟩
      rw [old y hy] at e2
      have:=h.inj y ((sub y).2 (.inr hy)) z (by simp) e2
      exact absurd (this ▸ hy) hzn
    · rw [el_se_ne hz.2.1 w0 (Ne.symm e),h.use w w0 w1]
      constructor
      · rintro⟨y,hy,e2⟩
        rcases (sub y).1 hy with rfl | hy
        · exact absurd e2.symm e
        · exact⟨y,hy,by rw [old y hy]; exact e2⟩
      · rintro⟨y,hy,e2⟩; exact⟨y,(sub y).2 (.inr hy),by rw [<- old y hy]; exact e2⟩
  · rw [old y hy,old y' hy'] at e
    exact h.inj y ((sub y).2 (.inr hy)) y' ((sub y').2 (.inr hy')) e
theorem ck1_mono (h:OkM a b f u s) (_h' : OkM a b f' u' s') (_hl:f'.length = f.length) (hag : ∀ y ∈ s,el f' y = el f y) {k x y:Int} (hk:0<=k/\k < (a.length:Int)) (hx:x ∈ s) (hy:y ∈ s) (hc:Ck1 a b f k x y):Ck1 a b f' k x y:=by
  have gx:=h.in_s hx
  have gy:=h.in_s hy
  have h1:=h.a_in hk gx.1 gy.1
  have h2:=h.b_in hk gx.2 gy.2
  unfold Ck1 at hc ⊢
  have hm:el3 a k x y ∈ s:=(h.mem _).2 ⟨h1.2.2,by rw [hc]; exact h2.2.2.2.1⟩
  rw [hag x hx,hag y hy,hag _ hm,hc]
theorem ck_mono (h:OkM a b f u s) (h' : OkM a b f' u' s') (hl:f'.length = f.length) (hag : ∀ y ∈ s,el f' y = el f y) {x y:Int} (hx:x ∈ s) (hy:y ∈ s) (hc:Ck a b f x y):Ck a b f' x y:=fun k k0 k1=>
  ⟨ck1_mono h h' hl hag ⟨k0,k1⟩ hx hy (hc k k0 k1).1,ck1_mono h h' hl hag ⟨k0,k1⟩ hy hx (hc k k0 k1).2⟩
theorem dn_mono (h:OkM a b f u s) (h' : OkM a b f' u' s') (hl:f'.length = f.length) (hag : ∀ y ∈ s,el f' y = el f y) (hp : ∃ t,s' = s ++ t) {c:Int} (hc0:0<=c) (hd:Dn a b f s c) (hd' : Dn a b f' s' (s.length:Int)):Dn a b f' s' c:=fun j i h1 h2 h3 h4=>by
  obtain⟨t,rfl⟩:=hp
  by_cases hj:j < (s.length:Int)
  · rw [el_append_l ⟨by omega,hj⟩,el_append_l ⟨h3,by omega⟩]
    exact ck_mono h h' hl hag (el_mem ⟨by omega,hj⟩) (el_mem ⟨h3,by omega⟩) (hd j i h1 hj h3 h4)
  · exact hd' j i (by omega) h2 h3 h4
theorem okM_uniq (h:OkM a b f u s) (h' : OkM a b f' u' s) (hl:f'.length = f.length) (hag : ∀ y ∈ s,el f' y = el f y):f' = f/\u' = u:=by
  have e:f' = f:=ext_el hl fun i i0 i1=>by
    by_cases hi:i ∈ s
    · exact hag i hi
    · have g1:=h.val i i0 (by omega)
      have g2:=h'.val i i0 i1
      have k1:=mt (h.mem i).2 hi
      have k2:=mt (h'.mem i).2 hi
      have : ¬ 0<=el f i:=fun k=>k1 ⟨⟨i0,by omega⟩,k⟩
      have : ¬ 0<=el f' i:=fun k=>k2 ⟨⟨i0,i1⟩,k⟩
      omega
  subst e
  refine⟨rfl,ext_el (by rw [h'.lu,h.lu]) fun i i0 i1=>?_⟩
  have:=(h'.use i i0 (by rw [<- h'.lu]; exact i1)).trans (h.use i i0 (by rw [<- h'.lu]; exact i1)).symm
  rwa [Bool.eq_iff_iff]
end
end
section
noncomputable def extL (a b:List (List (List Int))) (f:List Int):List (List Int):=(growL (f.length:Int) []).filter fun p=>dec (IsoP a b p/\ExtI f p)
noncomputable def isoL (a b:List (List (List Int))):List (List Int):=if (el a 0).length = (el b 0).length then (growL ((el a 0).length:Int) []).filter fun p=>dec (IsoP a b p) else []
def TabsP (t:List (List (List Int))):Prop:=1<=(t.length:Int)/\(t.length:Int)<=1000/\∀ k,0<=k->k < (t.length:Int)->isTab (el t k) = true/\(el t k).length = (el t 0).length
def SubL (L E:List (List Int)) (k:Nat):Prop:=∀ (i:Nat) (e:List Int),E[i]? = some e->L[k + i]? = some e
def ExPre (L:List (List Int)) (z:Option Nat) (a b:List (List (List Int))) (f:List Int) (u:List Bool) (s:List Int):Prop:=∃ k,z = some k/\OkM a b f u s/\Dn a b f s 0/\SubL L (extL a b f) k
def ExPost (z:Option Nat) (a b:List (List (List Int))) (f:List Int) (r:Bool) (z' : Option Nat):Prop:=∃ k,z = some k/\((r = true/\z' = some (k + (extL a b f).length))\/(r = false/\z' = none))
section
variable {a b:List (List (List Int))} {f:List Int}
theorem mem_ext {p:List Int} : p ∈ extL a b f↔p.length = f.length/\IsoP a b p/\ExtI f p:=by
  unfold extL
  rw [List.mem_filter,dec_iff,grow_iff (by omega)]
  exact⟨fun h=>⟨by have:=h.1.1; omega,h.2⟩,fun h=>⟨⟨by have:=h.1; omega,h.2.1.1⟩,h.2⟩⟩
theorem ext_lex:LexS f.length (extL a b f):=⟨List.Pairwise.filter _ growL_sort,fun _ hp=>(mem_ext.1 hp).1⟩
theorem LexS.filter {n:Nat} {l:List (List Int)} (h:LexS n l) (q:List Int->Bool):LexS n (l.filter q):=⟨List.Pairwise.filter _ h.1,fun x hx=>h.2 x (List.mem_filter.1 hx).1⟩
theorem ext_whole {u:List Bool} {s:List Int} (h:OkM a b f u s) (hd:Dn a b f s 0) (hall : ∀ x,0<=x->x < (f.length:Int)->0<=el f x):extL a b f = [f]:=by
  have hs : ∀ x,0<=x->x < (f.length:Int)->x ∈ s:=fun x x0 x1=>(h.mem x).2 ⟨⟨x0,x1⟩,hall x x0 x1⟩
  have hp:isPerm f = true:=perm_mk (fun i i0 i1=>⟨hall i i0 i1,(h.in_s (hs i i0 i1)).2.2⟩) fun i j i0 ij j1 e=>by
    have:=h.inj i (hs i i0 (by omega)) j (hs j (by omega) j1) e; omega
  have hi:IsoP a b f:=⟨hp,fun k k0 k1 x y hx hy=>by
    obtain⟨j,hj,ej⟩:=mem_el (hs x hx.1 hx.2)
    obtain⟨i,hi,ei⟩:=mem_el (hs y hy.1 hy.2)
    rcases Int.lt_or_le i j with g | g
    · have:=(hd j i (by omega) hj.2 hi.1 (by omega) k k0 k1).1
      rw [ej,ei] at this; exact this
    · have:=(hd i j (by omega) hi.2 hj.1 g k k0 k1).2
      rw [ej,ei] at this; exact this⟩
  refine lexS_uniq ext_lex (b:=[f]) ⟨List.pairwise_singleton _ _,fun x hx=>by rw [List.mem_singleton.1 hx]⟩ fun p=>?_
  rw [mem_ext,List.mem_singleton]
  constructor
  · rintro⟨h1,_,h3⟩; exact ext_el h1 fun i i0 i1=>h3 i i0 (by omega) (hall i i0 (by omega))
  · rintro rfl; exact⟨rfl,hi,fun _ _ _ _=>rfl⟩
noncomputable def exA (a b:List (List (List Int))) (f:List Int) (x v:Int):List (List Int):=(extL a b f).filter fun p=>decide (el p x < v)
noncomputable def exB (a b:List (List (List Int))) (f:List Int) (x v:Int):List (List Int):=(extL a b f).filter fun p=>decide (el p x = v)
theorem mem_exA {x v:Int} {p:List Int} : p ∈ exA a b f x v↔p ∈ extL a b f/\el p x < v:=by unfold exA; rw [List.mem_filter,decide_eq_true_eq]
theorem mem_exB {x v:Int} {p:List Int} : p ∈ exB a b f x v↔p ∈ extL a b f/\el p x = v:=by unfold exB; rw [List.mem_filter,decide_eq_true_eq]
theorem ext_lt {x:Int} (hx:0<=x/\x < (f.length:Int)) (hb : ∀ y,0<=y->y < x->0<=el f y) {p q:List Int} (hp:p ∈ extL a b f) (hq:q ∈ extL a b f) (h:el p x < el q x):lexL p q:=by
  obtain⟨p1,_,p3⟩:=mem_ext.1 hp
  obtain⟨q1,_,q3⟩:=mem_ext.1 hq
  exact⟨x,⟨hx.1,by omega⟩,fun y y0 y1=>by show el p y = el q y; rw [p3 y y0 (by omega) (hb y y0 y1),q3 y y0 (by omega) (hb y y0 y1)],h⟩
theorem exA_succ {x v:Int} (hx:0<=x/\x < (f.length:Int)) (hb : ∀ y,0<=y->y < x->0<=el f y):exA a b f x (v + 1) = exA a b f x v ++ exB a b f x v:=by
  refine lexS_uniq (ext_lex.filter _) ⟨List.pairwise_append.2 ⟨(ext_lex.filter _).1,(ext_lex.filter _).1,fun p hp q hq=>?_⟩,fun z hz=>?_⟩ fun p=>?_
  · have h1:=mem_exA.1 hp
    have h2:=mem_exB.1 hq
    exact ext_lt hx hb h1.1 h2.1 (by omega)
  · rcases List.mem_append.1 hz with hz | hz
    · exact (mem_ext.1 (mem_exA.1 hz).1).1
    · exact (mem_ext.1 (mem_exB.1 hz).1).1
  · show p ∈ exA a b f x (v + 1)↔_
    rw [List.mem_append,mem_exA,mem_exA,mem_exB]
    constructor
    · rintro⟨h1,h2⟩
      by_cases e:el p x = v
      · exact .inr ⟨h1,e⟩
      · exact .inl ⟨h1,by omega⟩
    · rintro (⟨h1,h2⟩ | ⟨h1,h2⟩) <;> exact⟨h1,by omega⟩
theorem exA_pre {x v:Int} (hx:0<=x/\x < (f.length:Int)) (hb : ∀ y,0<=y->y < x->0<=el f y) : ∃ R,extL a b f = exA a b f x v ++ R:=by
  refine⟨(extL a b f).filter fun p=>decide (v<=el p x),lexS_uniq ext_lex ⟨List.pairwise_append.2 ⟨(ext_lex.filter _).1,(ext_lex.filter _).1,fun p hp q hq=>?_⟩,fun z hz=>?_⟩ fun p=>?_⟩
  · have h1:=mem_exA.1 hp
    have h2:=List.mem_filter.1 hq
    exact ext_lt hx hb h1.1 h2.1 (by have:=of_decide_eq_true h2.2; omega)
  · rcases List.mem_append.1 hz with hz | hz
    · exact (mem_ext.1 (mem_exA.1 hz).1).1
    · exact (mem_ext.1 (List.mem_filter.1 hz).1).1
  · rw [List.mem_append,mem_exA,List.mem_filter,decide_eq_true_eq]
    constructor
    · intro h
      by_cases e:el p x < v
      · exact .inl ⟨h,e⟩
      · exact .inr ⟨h,by omega⟩
    · rintro (⟨h,_⟩ | ⟨h,_⟩) <;> exact h
theorem exA_zero {x:Int} (hx:0<=x/\x < (f.length:Int)):exA a b f x 0 = []:=by
  refine List.eq_nil_iff_forall_not_mem.2 fun p hp=>?_
  obtain⟨h1,h2⟩:=mem_exA.1 hp
  obtain⟨p1,p2,_⟩:=mem_ext.1 h1
  have:=isPerm_el p2.1 (i:=x) ⟨hx.1,by omega⟩
  omega
theorem exA_all {x:Int} (hx:0<=x/\x < (f.length:Int)):exA a b f x (f.length:Int) = extL a b f:=by
  unfold exA
  refine List.filter_eq_self.2 fun p hp=>decide_eq_true ?_
  obtain⟨p1,p2,_⟩:=mem_ext.1 hp
  have:=isPerm_el p2.1 (i:=x) ⟨hx.1,by omega⟩
  omega
theorem exB_asg {u u' : List Bool} {s s' f' : List Int} {x v:Int} (hx:0<=x/\x < (f.length:Int)) (hv0:0<=v) (h:OkM a b f u s) (hr:AsgP a b f u s x v true f' u' s'):extL a b f' = exB a b f x v:=by
  obtain⟨g1,g2,_,g4,g5,g6⟩:=hr
  have hlx:LexS f.length (extL a b f'):=by have:=ext_lex (a:=a) (b:=b) (f:=f'); rwa [g2] at this
  refine lexS_uniq hlx (ext_lex.filter _) fun p=>?_
  show _↔p ∈ exB a b f x v
  rw [mem_exB,mem_ext,mem_ext]
  constructor
  · rintro⟨h1,h2,h3⟩
    refine⟨⟨by omega,h2,fun y y0 y1 y2=>?_⟩,?_⟩
    · have hy:y ∈ s:=(h.mem y).2 ⟨⟨y0,y1⟩,y2⟩
      have:=g4 y hy
      rw [h3 y y0 (by omega) (by omega),this]
    · have hv:=(g5 rfl).1
      rw [h3 x hx.1 (by omega) (by omega)]; exact hv
  · rintro⟨⟨h1,h2,h3⟩,h4⟩
    exact⟨by omega,h2,(g6 p h1 h2 h3 h4).2⟩
end
end
section
def mkO (t:List (List (List Int))) (k x y:Int):Int:=(if el3 t k x y = y then 1 else 0) + (if el3 t k y x = y then 2 else 0) + (if el3 t k x y = x then 4 else 0) + (if el3 t k y x = x then 8 else 0)
def mkA (t:List (List (List Int))) (c:List Int) (k x y:Int):Int:=((el c y * 64 + el c (el3 t k x y)) * 64 + el c (el3 t k y x)) * 16 + mkO t k x y
def mkC (t:List (List (List Int))) (n k x y:Int):Int:=(((ran n id).filter fun z=>decide (el3 t k y z = x)).length:Int)
def mkB (t:List (List (List Int))) (c:List Int) (k x y:Int):Int:=1099511627776 + el c y * 64 + mkC t (c.length:Int) k x y
def mkK (t:List (List (List Int))) (c:List Int) (x k:Int):List Int:=srtI (ran (c.length:Int) (mkA t c k x) ++ ran (c.length:Int) (mkB t c k x))
def mrkI (t:List (List (List Int))) (c:List Int) (x:Int):List Int:=[el c x] ++ (ran (t.length:Int) (mkK t c x)).flatten
def ColD (n:Int) (c:List Int):Prop:=(c.length:Int) = n/\∀ i,0<=i->i < n->0<=el c i/\el c i<=100
def MkD (t:List (List (List Int))) (c:List Int) (x:Int):Prop:=TabsP t/\ColD ((el t 0).length:Int) c/\0<=x/\x < (c.length:Int)
theorem le_uniq : ∀ {a b:List Int},a.Pairwise (·<=·)->b.Pairwise (·<=·)->a.Perm b->a = b
  | [],b,_,_,h=>h.nil_eq
  | x :: a,[],_,_,h=>by have:=h.length_eq; simp at this
  | x :: a,y :: b,ha,hb,h=>by
    have pa:=List.pairwise_cons.1 ha
    have pb:=List.pairwise_cons.1 hb
    have e:x = y:=by
      have h1:y ∈ x :: a:=h.mem_iff.2 List.mem_cons_self
      have h2:x ∈ y :: b:=h.mem_iff.1 List.mem_cons_self
      rcases List.mem_cons.1 h1 with e | h1
      · exact e.symm
      · rcases List.mem_cons.1 h2 with e | h2
        · exact e
        · have:=pa.1 y h1; have:=pb.1 x h2; omega
    subst e
    rw [le_uniq pa.2 pb.2 (List.Perm.cons_inv h)]
theorem adj_le : ∀ {l:List Int},(∀ i:Int,0<=i->i + 1 < (l.length:Int)->el l i<=el l (i + 1))->l.Pairwise (·<=·)
  | [],_=>List.Pairwise.nil
  | a :: l,h=>by
    have ih:=adj_le (l:=l) fun i i0 i1=>by
      have:=h (i + 1) (by omega) (by simp; omega)
      rw [el_cons_s (by omega),el_cons_s (by omega),Int.add_sub_cancel,show i + 1 + 1 - 1 = i + 1 by omega] at this
      exact this
    refine List.pairwise_cons.2 ⟨fun z hz=>?_,ih⟩
    cases l with
    | nil=>cases hz
    | cons b r=>
      have h0:=h 0 (by omega) (by simp; omega)
      rw [el_cons_0,el_cons_s (by omega),show (0:Int) + 1 - 1 = 0 by omega,el_cons_0] at h0
      rcases List.mem_cons.1 hz with rfl | hz
      · exact h0
      · exact Int.le_trans h0 ((List.pairwise_cons.1 ih).1 z hz)
theorem srt_uniq {l o:List Int} (h1:o.Perm l) (h2:o.Pairwise (·<=·)):o = srtI l:=le_uniq h2 (srt_le l) (h1.trans (List.mergeSort_perm l _).symm)
theorem srt_perm {a b:List Int} (h:a.Perm b):srtI a = srtI b:=le_uniq (srt_le a) (srt_le b) (((List.mergeSort_perm a _).trans h).trans (List.mergeSort_perm b _).symm)
theorem len_ran {α:Type} {n:Int} {f:Int->α} (h:0<=n):((ran n f).length:Int) = n:=by unfold ran; simp; omega
theorem ran_perm {α:Type} {p:List Int} (hp:isPerm p = true) (f:Int->α):(ran (p.length:Int) fun x=>f (el p x)).Perm (ran (p.length:Int) f):=by
  have h1:p.Perm (ran (p.length:Int) id):=(nodup_perm p (ran (p.length:Int) id) (isPerm_iff.1 hp).1 (fun x hx=>mem_ran.2 ((isPerm_iff.1 hp).2 x hx)) (by simp [ran])).symm
  have e1:(ran (p.length:Int) fun x=>f (el p x)) = p.map f:=by
    have:=ran_el p
    calc (ran (p.length:Int) fun x=>f (el p x)) = (ran (p.length:Int) (el p)).map f:=by unfold ran; rw [List.map_map]; rfl
      _ = p.map f:=by rw [this]
  have e2:ran (p.length:Int) f = (ran (p.length:Int) id).map f:=by unfold ran; rw [List.map_map]; rfl
  rw [e1,e2]
  exact h1.map f
theorem cnt_perm {p:List Int} (hp:isPerm p = true) (q:Int->Bool):((ran (p.length:Int) id).filter fun x=>q (el p x)).length = ((ran (p.length:Int) id).filter q).length:=by
  have h:=(ran_perm hp id).filter q
  have e:(ran (p.length:Int) fun x=>id (el p x)) = (ran (p.length:Int) id).map (el p):=by unfold ran; rw [List.map_map]; rfl
  rw [e,List.filter_map] at h
  have:=h.length_eq
  rw [List.length_map] at this
  exact this
section
variable {a b:List (List (List Int))} {p c d:List Int}
theorem mrk_iso (hI:IsoP a b p) (hab:a.length = b.length) (hta : ∀ k,0<=k->k < (a.length:Int)->∀ x y,(0<=x/\x < (p.length:Int))->(0<=y/\y < (p.length:Int))->0<=el3 a k x y/\el3 a k x y < (p.length:Int))
    (hc:c.length = p.length) (hd:d.length = p.length) (hcd : ∀ x,0<=x->x < (p.length:Int)->el c x = el d (el p x)) {x:Int} (hx:0<=x/\x < (p.length:Int)):mrkI a c x = mrkI b d (el p x):=by
  have hp:=hI.1
  have inj : ∀ {u v:Int},(0<=u/\u < (p.length:Int))->(0<=v/\v < (p.length:Int))->(el p u = el p v↔u = v):=fun hu hv=>⟨fun h=>isPerm_inj hp hu hv h,fun h=>by rw [h]⟩
  have hA : ∀ k,0<=k->k < (a.length:Int)->∀ y,(0<=y/\y < (p.length:Int))->mkA a c k x y = mkA b d k (el p x) (el p y):=fun k k0 k1 y hy=>by
    have h1:=hI.2 k k0 k1 x y hx hy
    have h2:=hI.2 k k0 k1 y x hy hx
    have g1:=hta k k0 k1 x y hx hy
    have g2:=hta k k0 k1 y x hy hx
    unfold mkA mkO
    rw [<- h1,<- h2,hcd y hy.1 hy.2,hcd _ g1.1 g1.2,hcd _ g2.1 g2.2]
    simp only [inj g1 hy,inj g2 hy,inj g1 hx,inj g2 hx]
  have hC : ∀ k,0<=k->k < (a.length:Int)->∀ y,(0<=y/\y < (p.length:Int))->mkB a c k x y = mkB b d k (el p x) (el p y):=fun k k0 k1 y hy=>by
    unfold mkB mkC
    rw [hcd y hy.1 hy.2,hc,hd]
    congr 2
    rw [<- cnt_perm hp fun z=>decide (el3 b k (el p y) z = el p x)]
    congr 1
    refine List.filter_congr fun z hz=>?_
    have hz:=mem_ran.1 hz
    have g:=hta k k0 k1 y z hy hz
    have h1:=hI.2 k k0 k1 y z hy hz
    rw [<- h1]
    exact decide_eq_decide.2 (inj g hx).symm
  unfold mrkI
  rw [hcd x hx.1 hx.2,hab]
  congr 2
  unfold ran
  refine List.map_congr_left fun k hk=>?_
  have hk':=List.mem_range.1 hk
  unfold mkK
  rw [hc,hd]
  refine srt_perm ?_
  have cong : ∀ (f g:Int->Int),(∀ y,(0<=y/\y < (p.length:Int))->f y = g (el p y))->(ran (p.length:Int) f).Perm (ran (p.length:Int) g):=fun f g h=>by
    have e:ran (p.length:Int) f = ran (p.length:Int) fun y=>g (el p y):=by
      unfold ran
      exact List.map_congr_left fun y hy=>h _ ⟨by omega,by have:=List.mem_range.1 hy; omega⟩
    rw [e]; exact ran_perm hp g
  exact (cong _ _ (hA k (by omega) (by omega))).append (cong _ _ (hC k (by omega) (by omega)))
end
def Keep (p c d:List Int):Prop:=∀ x,0<=x->x < (p.length:Int)->el c x = el d (el p x)
def RfD (a b:List (List (List Int))) (c d:List Int):Prop:=TabsP a/\TabsP b/\a.length = b.length/\(el a 0).length = (el b 0).length/\ColD ((el a 0).length:Int) c/\ColD ((el a 0).length:Int) d
def RfP (a b:List (List (List Int))) (c d:List Int) (r0 r1:List Int) (r2:Bool):Prop:=
  (r2 = true->ColD ((el a 0).length:Int) r0/\ColD ((el a 0).length:Int) r1)/\∀ p,(p.length:Int) = ((el a 0).length:Int)->IsoP a b p->Keep p c d->r2 = true/\Keep p r0 r1
def padM (f c:List Int):List Int:=f ++ List.replicate (c.length - f.length) (-1)
def SkD (a b:List (List (List Int))) (f c d:List Int) (most:Int) (out:List (List Int)):Prop:=
  RfD a b c d/\((f.length:Int)<=(c.length:Int)/\f.Nodup/\∀ x ∈ f,0<=x/\x < (c.length:Int))/\conA a b f/\((out.length:Int) < most/\most<=1000000)/\∀ p,p.length = c.length->IsoP a b p->ExtI (padM f c) p->Keep p c d
end
section
noncomputable def RisE (r s:List (List Int)):Int:=if isRk r = true/\isRk s = true then (if isoL [r] [s] = [] then 4 else 0) else 1
noncomputable def RisT (r s:List (List Int)):List Int:=if RisE r s = 0 then el (isoL [r] [s]) 0 else []
theorem iso1 {r s:List (List Int)} {p:List Int} : IsoP [r] [s] p↔isPerm p = true/\∀ x y,(0<=x/\x < (p.length:Int))->(0<=y/\y < (p.length:Int))->el p (el (el r x) y) = el (el s (el p x)) (el p y):=
  ⟨fun h=>⟨h.1,fun x y hx hy=>h.2 0 (by omega) (by simp) x y hx hy⟩,fun h=>⟨h.1,fun k k0 k1 x y hx hy=>by
    have hk:k = 0:=by simp at k1; omega
    subst hk; exact h.2 x y hx hy⟩⟩
theorem isoL_mem {a b:List (List (List Int))} {p:List Int} (h:p ∈ isoL a b):p.length = (el a 0).length/\IsoP a b p:=by
  unfold isoL at h
  split at h
  · rw [List.mem_filter,dec_iff,grow_iff (by omega)] at h
    exact⟨by have:=h.1.1; omega,h.2⟩
  · cases h
theorem isoL_el {a b:List (List (List Int))} (h:isoL a b≠[]):(el (isoL a b) 0).length = (el a 0).length:=
  (isoL_mem (el_mem ⟨by omega,by have:=List.length_pos_iff.2 h; omega⟩)).1
end
section
theorem thn_back {a b:List Int} (ha:isPerm a = true) (hl:a.length = b.length):thnI a (thnI (backI a) b) = b:=
  ext_el (by rw [thn_len]; exact hl) fun i i0 i1=>by
    rw [thn_len] at i1
    have h1:=isPerm_el ha ⟨i0,i1⟩
    rw [thn_el ⟨i0,i1⟩,thn_el ⟨h1.1,by rw [length_backI]; exact h1.2⟩,el_backI ha ⟨i0,i1⟩]
section
variable {l:List (List Int)} (h:CjqE l = 0)
include h
end
end
section
section
variable {n:Int} {list:List (List Int)} (hn:1<=n/\n<=12) (hP:permsN n list)
include hn hP
end
section
variable {r:List (List Int)} (h:isRk r = true)
include h
end
end
section
section
variable {r s b:List (List Int)} (hr:isTab r = true) (hs:isTab s = true) (hb:isTab b = true)
include hs hb
omit hs in
include hr
end
section
variable {r:List (List Int)} (ht:isTab r = true)
include ht
theorem ren_iff {p:List Int} (hp:isPerm p = true) (hl:p.length = r.length):renT r p = r↔IsoP [r] [r] p:=by
  rw [iso1]
  constructor
  · intro h
    refine⟨hp,fun x y hx hy=>?_⟩
    have:=renT_el (t:=r) hp (by omega) (x:=x) (y:=y) ⟨hx.1,by omega⟩ ⟨hy.1,by omega⟩
    rw [h] at this; exact this.symm
  · rintro⟨_,h⟩
    exact renT_auto ht hp (by omega) fun u v hu hv=>h u v ⟨hu.1,by omega⟩ ⟨hv.1,by omega⟩
theorem ren_thn {p q:List Int} (hp:isPerm p = true) (hq:isPerm q = true) (h1:p.length = r.length) (h2:q.length = r.length):renT (renT r p) q = renT r (thnI p q):=by
  have t1:=isTab_ren ht hp (by omega)
  have l1:((renT r p).length:Int) = (r.length:Int):=len_tab (by omega)
  have l2:((renT (renT r p) q).length:Int) = ((renT r p).length:Int):=len_tab (by omega)
  refine img_ren ht (thn_perm hp hq (by omega)) (by rw [thn_len]; omega) (isTab_ren t1 hq (by omega)) (by omega) fun u v hu hv=>?_
  have b1:=isPerm_el hp (i:=u) ⟨hu.1,by omega⟩
  have b2:=isPerm_el hp (i:=v) ⟨hv.1,by omega⟩
  have hz:=(isTab_row ht hu).2 v hv.1 hv.2
  rw [thn_el ⟨hu.1,by omega⟩,thn_el ⟨hv.1,by omega⟩,thn_el ⟨hz.1,by omega⟩,renT_el hq (by omega) ⟨b1.1,by omega⟩ ⟨b2.1,by omega⟩,renT_el hp (by omega) hu hv]
end
end
section
def splS (s:List UInt8) (c:Int):List (List UInt8):=s.foldr (fun b r=>if (b.toNat:Int) = c then [] :: r else match r with | []=>[[b]] | x :: r=>(b :: x) :: r) [[]]
def digV (b:Int):Int:=if 48<=b/\b<=57 then b - 48 else if 97<=b/\b<=98 then b - 87 else -1
def rdgB (s:List UInt8):Bool:=s.all fun b=>decide (0<=digV (b.toNat:Int))
def rdgV (s:List UInt8):List Int:=s.map fun b=>digV (b.toNat:Int)
def rdgT (s:List UInt8):List Int:=if rdgB s then rdgV s else []
def rtbV (s:List UInt8):List (List Int):=(splS s 47).map rdgV
def rtbB (s:List UInt8):Bool:=(splS s 47).all rdgB && isTab (rtbV s)
def rtbT (s:List UInt8):List (List Int):=if rtbB s then rtbV s else []
def rdiT (s:List UInt8):List (List Int):=if (s.length:Int)<=156/\(splS s 47).all rdgB = true then rtbV s else []
def prkE (s:List UInt8):Int:=if rtbB s = true/\isRk (rtbV s) = true then 0 else 6
def prkT (s:List UInt8):List (List Int):=if prkE s = 0 then rtbV s else []
theorem splS_nil (c:Int):splS [] c = [[]]:=rfl
theorem splS_sep {b:UInt8} {s:List UInt8} {c:Int} (h:(b.toNat:Int) = c):splS (b :: s) c = [] :: splS s c:=by simp [splS,h]
theorem splS_ne (s:List UInt8) (c:Int) : ∃ x r,splS s c = x :: r:=by
  cases s with
  | nil=>exact⟨_,_,rfl⟩
  | cons b s=>
    by_cases h:(b.toNat:Int) = c
    · exact⟨_,_,splS_sep h⟩
    · unfold splS
      rw [List.foldr_cons,if_neg h]
      split <;> exact⟨_,_,rfl⟩
theorem splS_oth {b:UInt8} {s:List UInt8} {c:Int} {x:List UInt8} {r:List (List UInt8)} (h : ¬ (b.toNat:Int) = c) (e:splS s c = x :: r):splS (b :: s) c = (b :: x) :: r:=by
  unfold splS at e ⊢
  rw [List.foldr_cons,if_neg h,e]
theorem splS_app {c:Int} {t:List UInt8} {y:List UInt8} {R:List (List UInt8)} (ht:splS t c = y :: R) : ∀ {s:List UInt8} {P:List (List UInt8)} {x:List UInt8},splS s c = P ++ [x]->splS (s ++ t) c = P ++ (x ++ y) :: R
  | [],P,x,h=>by
    rw [splS_nil] at h
    cases P with
    | nil=>simp only [List.nil_append,List.cons.injEq,and_true] at h; subst h; simpa using ht
    | cons p P=>simp at h
  | b :: s,P,x,h=>by
    by_cases hb:(b.toNat:Int) = c
    · rw [splS_sep hb] at h
      cases P with
      | nil=>
        obtain⟨u,v,e⟩:=splS_ne s c
        rw [e] at h; simp at h
      | cons p P=>
        simp only [List.cons_append,List.cons.injEq] at h
        obtain⟨rfl,h⟩:=h
        rw [List.cons_append,splS_sep hb,splS_app ht h]; rfl
    · obtain⟨u,v,e⟩:=splS_ne s c
      rw [splS_oth hb e] at h
      cases P with
      | nil=>
        simp only [List.nil_append,List.cons.injEq] at h
        obtain⟨rfl,rfl⟩:=h
        have:=splS_app ht (P:=[]) (x:=u) (by rw [e]; rfl)
        rw [List.cons_append,splS_oth hb this]; rfl
      | cons p P=>
        simp only [List.cons_append,List.cons.injEq] at h
        obtain⟨rfl,rfl⟩:=h
        have:=splS_app ht (P:=u :: P) (x:=x) (by rw [e]; rfl)
        rw [List.cons_append,splS_oth hb this]; rfl
theorem splS_none {c:Int} : ∀ {s:List UInt8},(∀ b ∈ s,¬ (b.toNat:Int) = c)->splS s c = [s]
  | [],_=>rfl
  | b :: s,h=>by rw [splS_oth (h b (by simp)) (splS_none fun x hx=>h x (by simp [hx]))]
theorem splS_snoc_sep {c:Int} {s:List UInt8} {P:List (List UInt8)} {x:List UInt8} {b:UInt8} (h:splS s c = P ++ [x]) (hb:(b.toNat:Int) = c):splS (s ++ [b]) c = (P ++ [x]) ++ [[]]:=by
  rw [splS_app (t:=[b]) (y:=[]) (R:=[[]]) (splS_sep hb) h]; simp
theorem splS_snoc {c:Int} {s:List UInt8} {P:List (List UInt8)} {x:List UInt8} {b:UInt8} (h:splS s c = P ++ [x]) (hb : ¬ (b.toNat:Int) = c):splS (s ++ [b]) c = P ++ [x ++ [b]]:=by
  rw [splS_app (t:=[b]) (y:=[b]) (R:=[]) (splS_oth hb (splS_nil c)) h]
theorem splS_cut {c:Int} {p r:List UInt8} {b:UInt8} (hp : ∀ x ∈ p,¬ (x.toNat:Int) = c) (hb:(b.toNat:Int) = c):splS (p ++ b :: r) c = p :: splS r c:=by
  rw [splS_app (y:=[]) (R:=splS r c) (splS_sep hb) (P:=[]) (x:=p) (by rw [splS_none hp]; rfl)]; simp
theorem splS_len {c:Int} : ∀ s:List UInt8,(splS s c).length = (s.filter fun b=>decide ((b.toNat:Int) = c)).length + 1
  | []=>rfl
  | b :: s=>by
    by_cases h:(b.toNat:Int) = c
    · rw [splS_sep h,List.filter_cons_of_pos (by simpa using h),List.length_cons,splS_len s,List.length_cons]
    · obtain⟨u,v,e⟩:=splS_ne s c
      have:=splS_len (c:=c) s
      rw [splS_oth h e,List.filter_cons_of_neg (by simpa using h),List.length_cons,<- this,e,List.length_cons]
theorem splS_le (s:List UInt8) (c:Int):(splS s c).length<=s.length + 1:=by
  rw [splS_len]; exact Nat.succ_le_succ (List.length_filter_le _ _)
theorem idxF_cons {α:Type} {b:α} {s:List α} {f:α->Bool} : idxF (b :: s) f = if f b then 0 else if idxF s f = -1 then -1 else idxF s f + 1:=by
  unfold idxF
  rw [List.any_cons,List.findIdx_cons]
  cases f b with
  | true=>simp
  | false=>
    cases s.any f with
    | true=>simp <;> omega
    | false=>simp
theorem idx_cut {α:Type} {f:α->Bool} : ∀ {v:List α},¬ idxF v f < 0->∃ p b r,v = p ++ b :: r/\(∀ x ∈ p,f x = false)/\f b = true/\idxF v f = (p.length:Int)
  | [],h=>absurd (show idxF [] f < 0 by simp [idxF]) h
  | b :: v,h=>by
    rw [idxF_cons] at h ⊢
    cases hb:f b with
    | true=>exact⟨[],b,v,rfl,by simp,hb,by simp⟩
    | false=>
      rw [hb] at h
      simp only [Bool.false_eq_true,if_false] at h ⊢
      have hv : ¬ idxF v f < 0:=by
        intro g
        unfold idxF at g h
        split at g
        · omega
        · rename_i q; simp [q] at h
      obtain⟨p,c,r,rfl,h1,h2,h3⟩:=idx_cut hv
      refine⟨b :: p,c,r,rfl,fun x hx=>(List.mem_cons.1 hx).elim (fun e=>by rw [e]; exact hb) (h1 x),h2,?_⟩
      rw [h3,if_neg (by omega)]; simp
theorem idx_no {α:Type} {f:α->Bool} {v:List α} (h:idxF v f < 0) : ∀ x ∈ v,f x = false:=by
  intro x hx
  unfold idxF at h
  split at h
  · omega
  · rename_i q
    cases hf:f x with
    | false=>rfl
    | true=>exact absurd (List.any_eq_true.2 ⟨x,hx,hf⟩) q
theorem byt_el (s:List UInt8) (z:Int):byt s z = ((el s z).toNat:Int):=rfl
theorem byt_in (s:List UInt8) (z:Int):0<=byt s z/\byt s z<=255:=by
  rw [byt_el]; have:=(el s z).toNat_lt; omega
theorem idx_dig {c:Int} (h:0<=c/\c<=255):idxF ([48,49,50,51,52,53,54,55,56,57,97,98] : List UInt8) (fun b_=>decide ((b_.toNat:Int) = c)) = digV c:=by
  have k : ∀ k:Fin 256,idxF ([48,49,50,51,52,53,54,55,56,57,97,98] : List UInt8) (fun b_=>decide ((b_.toNat:Int) = (k.val:Int))) = digV (k.val:Int):=by decide +kernel
  have:=k ⟨c.toNat,by omega⟩
  simpa only [Int.toNat_of_nonneg h.1] using this
theorem rdgB_iff {s:List UInt8} : rdgB s = true↔∀ j,0<=j->j < (s.length:Int)->0<=digV (byt s j):=by
  unfold rdgB
  rw [List.all_eq_true]
  exact⟨fun h j j0 j1=>of_decide_eq_true (h _ (el_mem ⟨j0,j1⟩)),fun h b hb=>by
    obtain⟨j,hj,rfl⟩:=mem_el hb
    exact decide_eq_true (h j hj.1 hj.2)⟩
theorem rdgB_no {s:List UInt8} {j:Int} (hj:0<=j/\j < (s.length:Int)) (h : ¬ 0<=digV (byt s j)):rdgB s = false:=by
  cases hb:rdgB s with
  | false=>rfl
  | true=>exact absurd (rdgB_iff.1 hb j hj.1 hj.2) h
theorem rdgV_el {s:List UInt8} {j:Int} (hj:0<=j/\j < (s.length:Int)):el (rdgV s) j = digV (byt s j):=by
  unfold rdgV; rw [el_map hj]; rfl
@[simp] theorem rdgV_len (s:List UInt8):(rdgV s).length = s.length:=by simp [rdgV]
theorem splS_part {c:Int} : ∀ {s:List UInt8},∀ x ∈ splS s c,x.length<=s.length
  | [],x,hx=>by rw [splS_nil] at hx; simp at hx; subst hx; simp
  | b :: s,x,hx=>by
    by_cases h:(b.toNat:Int) = c
    · rw [splS_sep h] at hx
      rcases List.mem_cons.1 hx with rfl | hx
      · simp
      · have:=splS_part x hx; simp only [List.length_cons]; omega
    · obtain⟨u,v,e⟩:=splS_ne s c
      rw [splS_oth h e] at hx
      rcases List.mem_cons.1 hx with rfl | hx
      · have:=splS_part (s:=s) u (by rw [e]; simp); simp only [List.length_cons]; omega
      · have:=splS_part (s:=s) x (by rw [e]; simp [hx]); simp only [List.length_cons]; omega
def shortS (s:List UInt8):Prop:=(s.length:Int)<=2000000
theorem join_splS : ∀ s:List UInt8,joinI (splS s 47) [47] = s
  | []=>rfl
  | b :: s=>by
    obtain⟨u,v,e⟩:=splS_ne s 47
    have ih:=join_splS s
    rw [e] at ih
    unfold joinI at ih ⊢
    rw [Lib.join_cons] at ih
    by_cases h:(b.toNat:Int) = 47
    · have hb:b = 47:=by apply UInt8.toNat_inj.1; show b.toNat = 47; omega
      rw [splS_sep h,e,Lib.join_cons,Lib.joinTail,List.map_cons,List.flatten_cons,<- ih,hb]; simp [Lib.joinTail]
    · rw [splS_oth h e,Lib.join_cons,List.cons_append,ih]
theorem splS_join : ∀ {xs:List (List UInt8)},xs≠[]->(∀ x ∈ xs,∀ b ∈ x,¬ (b.toNat:Int) = 47)->splS (joinI xs [47]) 47 = xs
  | [],h,_=>absurd rfl h
  | [x],_,h=>by rw [joinI_one]; exact splS_none (h x (by simp))
  | x :: y :: r,_,h=>by
    have e:joinI (x :: y :: r) [47] = x ++ 47 :: joinI (y :: r) [47]:=by
      unfold joinI
      rw [Lib.join_cons,Lib.join_cons,Lib.joinTail,List.map_cons,List.flatten_cons]; simp [Lib.joinTail]
    rw [e,splS_cut (h x (by simp)) (by rfl),splS_join (by simp) fun z hz=>h z (by simp [hz])]
theorem joinI_len : ∀ {xs:List (List UInt8)},xs≠[]->(joinI xs [47]).length + 1 = xs.length + Lib.lens xs
  | [],h=>absurd rfl h
  | x :: r,_=>by
    have:=Lib.join_length x r [47]
    unfold joinI
    rw [this]; simp only [List.length_cons,List.length_nil]; omega
theorem digV_dgt : ∀ x:Int,0<=x->x < 12->((dgt x).toNat:Int)≠47/\digV ((dgt x).toNat:Int) = x:=by
  have h : ∀ k:Fin 12,((dgt (k.val:Int)).toNat:Int)≠47/\digV ((dgt (k.val:Int)).toNat:Int) = (k.val:Int):=by decide
  intro x h0 h1
  have e:((x.toNat:Nat):Int) = x:=by omega
  have:=h ⟨x.toNat,by omega⟩
  simpa only [e] using this
theorem dgt_digV (b:UInt8) (h:0<=digV (b.toNat:Int)):dgt (digV (b.toNat:Int)) = b/\digV (b.toNat:Int) < 12:=by
  have hb:=b.toNat_lt
  unfold digV at h ⊢
  split
  · rename_i g
    refine⟨?_,by omega⟩
    unfold dgt
    rw [if_pos (by omega)]
    apply UInt8.toNat_inj.1
    rw [show ((48:Int) + ((b.toNat:Int) - 48)).toNat = b.toNat by omega]
    simp
  · split
    · rename_i g
      refine⟨?_,by omega⟩
      unfold dgt
      rw [if_neg (by omega)]
      apply UInt8.toNat_inj.1
      rw [show ((97:Int) + ((b.toNat:Int) - 87) - 10).toNat = b.toNat by omega]
      simp
    · rename_i g1 g2; simp [g1,g2] at h
theorem digI_rdgV {s:List UInt8} (h:rdgB s = true):digI (rdgV s) = s:=by
  unfold digI rdgV
  rw [List.map_map]
  refine (List.map_congr_left fun b hb=>?_).trans (List.map_id s)
  have:=List.all_eq_true.1 h b hb
  exact (dgt_digV b (of_decide_eq_true this)).1
theorem rdg_digI {l:List Int} (h:digs l):rdgB (digI l) = true/\rdgV (digI l) = l:=by
  have hm : ∀ x ∈ l,0<=x/\x < 12:=fun x hx=>by
    obtain⟨i,hi,rfl⟩:=mem_el hx
    exact h i hi.1 hi.2
  constructor
  · unfold rdgB digI
    rw [List.all_eq_true]
    intro b hb
    obtain⟨x,hx,rfl⟩:=List.mem_map.1 hb
    have:=hm x hx
    exact decide_eq_true (by rw [(digV_dgt x this.1 this.2).2]; exact this.1)
  · unfold rdgV digI
    rw [List.map_map]
    exact (List.map_congr_left fun x hx=>(digV_dgt x (hm x hx).1 (hm x hx).2).2).trans (List.map_id l)
theorem rtb_txt {t:List (List Int)} (ht:isTab t = true):rtbB (txtI t) = true/\rtbT (txtI t) = t:=by
  have hn:=isTab_len ht
  have hrow : ∀ r ∈ t,digs r:=fun r hr=>by
    obtain⟨i,hi,rfl⟩:=mem_el hr
    exact (digs_row ht hi).2
  have e:splS (txtI t) 47 = t.map digI:=by
    unfold txtI
    refine splS_join (by intro h; have:=congrArg List.length h; simp at this; subst this; simp at hn) fun x hx b hb=>?_
    obtain⟨r,hr,rfl⟩:=List.mem_map.1 hx
    obtain⟨z,hz,rfl⟩:=List.mem_map.1 hb
    obtain⟨i,hi,rfl⟩:=mem_el hz
    have:=hrow r hr i hi.1 hi.2
    exact (digV_dgt _ this.1 this.2).1
  have v:rtbV (txtI t) = t:=by
    unfold rtbV
    rw [e,List.map_map]
    exact (List.map_congr_left fun r hr=>(rdg_digI (hrow r hr)).2).trans (List.map_id t)
  have b:rtbB (txtI t) = true:=by
    unfold rtbB
    rw [v,ht,Bool.and_true,e,List.all_eq_true]
    intro x hx
    obtain⟨r,hr,rfl⟩:=List.mem_map.1 hx
    exact (rdg_digI (hrow r hr)).1
  exact⟨b,by unfold rtbT; rw [if_pos b,v]⟩
theorem txt_rtb {s:List UInt8} (h:rtbB s = true):txtI (rtbT s) = s:=by
  have h':=h
  unfold rtbB at h'
  rw [Bool.and_eq_true,List.all_eq_true] at h'
  unfold rtbT
  rw [if_pos h]
  unfold txtI rtbV
  have e:(splS s 47).map (digI ∘ rdgV) = splS s 47:=(List.map_congr_left fun x hx=>digI_rdgV (h'.1 x hx)).trans (List.map_id _)
  rw [List.map_map,e,join_splS]
theorem rtb_tab {s:List UInt8} (h:rtbB s = true):isTab (rtbT s) = true:=by
  have h':=h
  unfold rtbB at h'
  rw [Bool.and_eq_true] at h'
  unfold rtbT
  rw [if_pos h]; exact h'.2
theorem rtb_short {s:List UInt8} (h:rtbB s = true):(s.length:Int)<=156:=by
  have e:=txt_rtb h
  have ht:=rtb_tab h
  have:=txt_len (rtbT s) (row_le ht)
  have hn:=isTab_len ht
  rw [e] at this
  have l:=joinI_len (xs:=splS s 47) (by obtain⟨u,v,e⟩:=splS_ne s 47; rw [e]; simp)
  rw [join_splS] at l
  have v:rtbT s = rtbV s:=by unfold rtbT; rw [if_pos h]
  have q:(splS s 47).length = (rtbT s).length:=by rw [v]; unfold rtbV; simp
  have w:Lib.lens (splS s 47)<=12 * (splS s 47).length:=by
    have hr:=row_le ht
    rw [v] at hr
    unfold rtbV at hr
    have : ∀ (r:List (List UInt8)),(∀ q ∈ r,q.length<=12)->Lib.lens r<=12 * r.length:=by
      intro r
      induction r with
      | nil=>intro _; simp [Lib.lens]
      | cons q r ih=>
        intro hq
        have a:=hq q (by simp)
        have b:=ih fun q' hq'=>hq q' (by simp [hq'])
        simp only [Lib.lens,List.map_cons,List.sum_cons,List.length_cons] at b ⊢
        omega
    exact this _ fun q hq=>by have:=hr (rdgV q) (List.mem_map.2 ⟨q,hq,rfl⟩); unfold rdgV at this; simpa using this
  omega
end
section
structure Ord3 {α:Type} (f:α->α->Int):Prop where
  z : ∀ x y,f x y = 0↔x = y
  s : ∀ x y,f x y < 0↔0 < f y x
  t : ∀ x y w,f x y < 0->f y w < 0->f x w < 0
theorem ord_cmp1:Ord3 cmp1:=by
  refine⟨fun x y=>cmp1_zero,fun x y=>?_,fun x y w=>?_⟩
  · unfold cmp1; repeat' split
    all_goals omega
  · unfold cmp1; repeat' split
    all_goals omega
theorem ord_cmpG {α:Type} {f:α->α->Int} (h:Ord3 f):Ord3 (cmpG f):=by
  refine⟨cmpG_zero h.z,fun a=>?_,fun a=>?_⟩
  · induction a with
    | nil=>intro b; cases b <;> simp [cmpG]
    | cons x xs ih=>
      intro b
      cases b with
      | nil=>simp [cmpG]
      | cons y ys=>
        simp only [cmpG]
        by_cases e:f x y = 0
        · have e2:f y x = 0:=(h.z y x).2 ((h.z x y).1 e).symm
          rw [if_pos e,if_pos e2]; exact ih ys
        · have e2 : ¬ f y x = 0:=fun g=>e ((h.z x y).2 ((h.z y x).1 g).symm)
          rw [if_neg e,if_neg e2]; exact h.s x y
  · induction a with
    | nil=>
      intro b c
      cases b <;> cases c <;> simp [cmpG]
    | cons x xs ih=>
      intro b c
      cases b with
      | nil=>cases c <;> simp [cmpG]
      | cons y ys=>
        cases c with
        | nil=>simp [cmpG]
        | cons w ws=>
          simp only [cmpG]
          by_cases e:f x y = 0
          · obtain rfl:=(h.z x y).1 e
            rw [if_pos e]
            by_cases e2:f x w = 0
            · rw [if_pos e2,if_pos e2]; exact ih ys ws
            · rw [if_neg e2,if_neg e2]; exact fun _ g=>g
          · rw [if_neg e]
            by_cases e2:f y w = 0
            · obtain rfl:=(h.z y w).1 e2
              rw [if_pos e2,if_neg e]; exact fun g _=>g
            · rw [if_neg e2]
              intro g1 g2
              have g:=h.t x y w g1 g2
              rw [if_neg (by omega)]; exact g
theorem ord_cmpT:Ord3 cmpT:=ord_cmpG (ord_cmpG ord_cmp1)
theorem les_fold {t:List (List Int)} : ∀ (L:List (List Int)) (b:List (List Int)),(L.foldl (lesT t) b = b\/∃ p ∈ L,L.foldl (lesT t) b = renT t p)/\¬ cmpT b (L.foldl (lesT t) b) < 0/\∀ p ∈ L,¬ cmpT (renT t p) (L.foldl (lesT t) b) < 0
  | [],b=>⟨.inl rfl,by rw [List.foldl_nil,(ord_cmpT.z b b).2 rfl]; decide,fun p hp=>by cases hp⟩
  | q :: L,b=>by
    have O:=ord_cmpT
    obtain⟨h1,h2,h3⟩:=les_fold (t:=t) L (lesT t b q)
    rw [List.foldl_cons]
    have refl : ∀ x,¬ cmpT x x < 0:=fun x=>by rw [(O.z x x).2 rfl]; decide
    have le_tr : ∀ x y w,¬ cmpT y x < 0->¬ cmpT w y < 0->¬ cmpT w x < 0:=fun x y w a c g=>by
      -- w < x; y ≥ x; w ≥ y
      by_cases e:cmpT y w = 0
      · obtain rfl:=(O.z y w).1 e; exact a g
      · have g2:cmpT y w < 0:=by
          rcases Int.lt_trichotomy (cmpT y w) 0 with k | k | k
          · exact k
          · exact absurd k e
          · exact absurd ((O.s w y).2 k) c
        exact a (O.t y w x g2 g)
    have hb : ¬ cmpT b (lesT t b q) < 0/\¬ cmpT (renT t q) (lesT t b q) < 0:=by
      unfold lesT
      split
      · rename_i g
        exact⟨fun k=>by have:=O.t _ _ _ g k; exact refl _ this,refl _⟩
      · rename_i g
        exact⟨refl _,g⟩
    refine⟨?_,le_tr _ _ _ h2 hb.1,fun p hp=>?_⟩
    · rcases h1 with h1 | ⟨p,hp,h1⟩
      · rw [h1]
        unfold lesT
        split
        · exact .inr ⟨q,by simp,rfl⟩
        · exact .inl rfl
      · exact .inr ⟨p,by simp [hp],h1⟩
    · rcases List.mem_cons.1 hp with rfl | hp
      · exact le_tr _ _ _ h2 hb.2
      · exact h3 p hp
section
variable {r s:List (List Int)}
theorem ren_unit (hr:isTab r = true):renT r (unitI (r.length:Int)) = r:=by
  have hu:((unitI (r.length:Int)).length:Int) = (r.length:Int):=unit_len (by omega)
  refine (ren_iff hr (unit_perm (by omega)) (by omega)).2 (iso1.2 ⟨unit_perm (by omega),fun x y hx hy=>?_⟩)
  rw [hu] at hx hy
  rw [el_unitI ((isTab_row hr hx).2 y hy.1 hy.2),el_unitI hx,el_unitI hy]
theorem lea_spec (hr:isTab r = true) (h:LeaE r = 0):(∃ p:List Int,p.length = r.length/\isPerm p = true/\LeaT r = renT r p)/\∀ p:List Int,p.length = r.length->isPerm p = true->¬ cmpT (renT r p) (LeaT r) < 0:=by
  obtain⟨h1,_,h3⟩:=les_fold (t:=r) (growL (r.length:Int) []) r
  have hu:((unitI (r.length:Int)).length:Int) = (r.length:Int):=unit_len (by omega)
  unfold LeaT
  rw [if_pos h]
  refine⟨?_,fun p p1 p2=>h3 p ((grow_iff (by omega)).2 ⟨by omega,p2⟩)⟩
  rcases h1 with h1 | ⟨p,hp,h1⟩
  · exact⟨unitI (r.length:Int),by omega,unit_perm (by omega),by rw [h1,ren_unit hr]⟩
  · have:=(grow_iff (by omega)).1 hp
    exact⟨p,by omega,this.2,h1⟩
theorem ren_back (hr:isTab r = true) {p:List Int} (hp:isPerm p = true) (hl:p.length = r.length) : ∃ q:List Int,q.length = r.length/\isPerm q = true/\renT (renT r p) q = r:=by
  have hu:((unitI (r.length:Int)).length:Int) = (r.length:Int):=unit_len (by omega)
  have up:isPerm (unitI (r.length:Int)) = true:=unit_perm (by omega)
  have gB:isPerm (backI p) = true:=isPerm_backI hp
  have gl:(thnI (backI p) (unitI (r.length:Int))).length = r.length:=by rw [thn_len,length_backI]; exact hl
  have gP:isPerm (thnI (backI p) (unitI (r.length:Int))) = true:=thn_perm gB up (by rw [length_backI]; omega)
  exact⟨_,gl,gP,by rw [ren_thn hr hp gP hl gl,thn_back hp (by omega),ren_unit hr]⟩
theorem len_ren {p:List Int} : (renT r p).length = r.length:=by
  have:((renT r p).length:Int) = (r.length:Int):=len_tab (by omega)
  omega
theorem lea_same (hr:isTab r = true) (hE:LeaE r = 0) {p:List Int} (hp:isPerm p = true) (hl:p.length = r.length) (hs:renT r p = s) (hF:LeaE s = 0):LeaT r = LeaT s:=by
  subst hs
  have hs:=isTab_ren hr hp (by omega)
  obtain⟨⟨a,a1,a2,a3⟩,m1⟩:=lea_spec hr hE
  obtain⟨⟨b,b1,b2,b3⟩,m2⟩:=lea_spec hs hF
  rw [len_ren] at b1
  obtain⟨q,q1,q2,q3⟩:=ren_back hr hp hl
  have O:=ord_cmpT
  -- the form of the image is an image of r
  have e1:LeaT (renT r p) = renT r (thnI p b):=by rw [b3,ren_thn hr hp b2 hl b1]
  have e2:LeaT r = renT (renT r p) (thnI q a):=by
    rw [<- ren_thn hs q2 a2 (by rw [len_ren]; exact q1) (by rw [len_ren]; exact a1),q3,a3]
  have k1 : ¬ cmpT (LeaT (renT r p)) (LeaT r) < 0:=by
    rw [e1]
    exact m1 _ (by rw [thn_len]; exact hl) (thn_perm hp b2 (by omega))
  have k2 : ¬ cmpT (LeaT r) (LeaT (renT r p)) < 0:=by
    have:=m2 (thnI q a) (by rw [thn_len,len_ren]; exact q1) (thn_perm q2 a2 (by omega))
    rwa [<- e2] at this
  have k3 : ¬ 0 < cmpT (LeaT r) (LeaT (renT r p)):=fun g=>k1 ((O.s _ _).2 g)
  exact (O.z _ _).1 (by omega)
theorem lea_len (hr:isTab r = true) (hE:LeaE r = 0):(LeaT r).length = r.length:=by
  obtain⟨⟨a,_,_,a3⟩,_⟩:=lea_spec hr hE
  rw [a3,len_ren]
theorem lea_iso (hr:isTab r = true) (hs:isTab s = true) (hE:LeaE r = 0) (hF:LeaE s = 0) (h:LeaT r = LeaT s) : ∃ p:List Int,p.length = r.length/\isPerm p = true/\renT r p = s:=by
  obtain⟨⟨a,a1,a2,a3⟩,_⟩:=lea_spec hr hE
  obtain⟨⟨b,b1,b2,b3⟩,_⟩:=lea_spec hs hF
  obtain⟨q,q1,q2,q3⟩:=ren_back hs b2 b1
  have hl:r.length = s.length:=by rw [<- lea_len hr hE,<- lea_len hs hF,h]
  refine⟨thnI a q,by rw [thn_len]; exact a1,thn_perm a2 q2 (by omega),?_⟩
  rw [<- ren_thn hr a2 q2 a1 (by omega),<- a3,h,b3,q3]
theorem mem_iso (hr:isTab r = true) (hs:isTab s = true) {p:List Int} : p ∈ isoL [r] [s]↔p.length = r.length/\isPerm p = true/\renT r p = s:=by
  have e:el [r] 0 = r:=rfl
  have e' : el [s] 0 = s:=rfl
  unfold isoL
  rw [e,e']
  constructor
  · intro h
    split at h
    · rename_i hl
      rw [List.mem_filter,dec_iff,grow_iff (by omega),iso1] at h
      obtain⟨⟨h1,h2⟩,_,h3⟩:=h
      refine⟨by omega,h2,?_⟩
      exact (img_ren hr h2 h1 hs hl.symm fun u v hu hv=>(h3 u v ⟨hu.1,by omega⟩ ⟨hv.1,by omega⟩).symm).symm
    · cases h
  · rintro⟨h1,h2,rfl⟩
    rw [if_pos len_ren.symm,List.mem_filter,dec_iff,grow_iff (by omega),iso1]
    exact⟨⟨by omega,h2⟩,h2,fun x y hx hy=>(renT_el h2 (by omega) ⟨hx.1,by omega⟩ ⟨hy.1,by omega⟩).symm⟩
theorem lea_iff (hr:isTab r = true) (hs:isTab s = true) (hE:LeaE r = 0) (hF:LeaE s = 0):LeaT r = LeaT s↔isoL [r] [s]≠[]:=by
  constructor
  · intro h g
    obtain⟨p,p1,p2,p3⟩:=lea_iso hr hs hE hF h
    have:=(mem_iso hr hs).2 ⟨p1,p2,p3⟩
    rw [g] at this; cases this
  · intro h
    obtain⟨p,hp⟩:=List.exists_mem_of_ne_nil _ h
    obtain⟨p1,p2,p3⟩:=(mem_iso hr hs).1 hp
    exact lea_same hr hE p2 p1 p3 hF
end
end
end Go.Proofs.YtjolbldlhjfciaaGreatDoor
