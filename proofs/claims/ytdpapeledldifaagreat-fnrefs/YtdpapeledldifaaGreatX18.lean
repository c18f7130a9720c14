/- Part 19 of the proof that the law FnRefs holds of every input; no condition. -/
import Derived.Test.YtdpapeledldifaaGreatX17
set_option autoImplicit true
set_option relaxedAutoImplicit true
set_option linter.all false
section
namespace Go.TM
open Go.AM
section
variable {X Y R:Type}
def zCi (f:X→Option (X⊕Y)):Nat→X→Option Y
 |0,_=>none
 | n+1,x=>match f x with
   |some (.inl x')=>zCi f n x'
   |some (.inr y)=>some y
   |none=>none
noncomputable def zAG (f:X→Option (X⊕Y))(x:X):Option Y:=@dite _ (∃y n,zCi f n x=some y) (Classical.propDecidable _) (fun h=>some (Classical.choose h)) (fun _=>none)
theorem zFq {f:X→Option (X⊕Y)}:∀{n m:Nat} {x:X} {y:Y},n≤m→zCi f n x=some y→zCi f m x=some y
 |0,_,_,_,_,h=>by cases h
 |n+1,0,_,_,hm,_=>by omega
 | n+1,m+1,x,y,hm,h=>by
   simp only[zCi]at h ⊢
   split at h
   ·exact zFq (by omega) h
   ·exact h
   ·cases h
theorem zSk {f:X→Option (X⊕Y)}{n m:Nat}{x:X}{y z:Y}(h1:zCi f n x=some y)(h2:zCi f m x=some z):y=z:=by
 have a:=zFq (Nat.le_max_left n m) h1
 have b:=zFq (Nat.le_max_right n m) h2
 rw[a]at b
 exact Option.some.inj b
theorem zEP {f:X→Option (X⊕Y)}{x:X}{y:Y}(h:zAG f x=some y):∃n,zCi f n x=some y:=by
 unfold zAG at h
 split at h
 ·rename_i hex
  simp only[zSe]at h
  subst h
  exact Classical.choose_spec hex
 ·cases h
theorem zIb {f:X→Option (X⊕Y)}{x:X}{y:Y}{n:Nat}(h:zCi f n x=some y):zAG f x=some y:=by
 unfold zAG
 have hex:∃y n,zCi f n x=some y:=⟨y,n,h⟩
 rw[dif_pos hex]
 congr 1
 obtain⟨m,hm⟩:=Classical.choose_spec hex
 exact zSk hm h
theorem zAf (f:X→Option (X⊕Y))(x:X):zAG f x=match f x with
  |some (.inl x')=>zAG f x'
  |some (.inr y)=>some y
  |none=>none:=by
 cases hf:f x with
 | none =>
   simp only
   cases h:zAG f x with
   |none=>rfl
   | some y =>
     obtain⟨n,hn⟩:=zEP h
     cases n with
     |zero=>cases hn
     |succ n=>simp only[zCi,hf]at hn;cases hn
 | some z =>
   cases z with
   | inl x' =>
     simp only
     cases h:zAG f x' with
     | some y =>
       obtain⟨n,hn⟩:=zEP h
       exact zIb (n:=n+1) (by simp only[zCi,hf];exact hn)
     | none =>
       cases h2:zAG f x with
       |none=>rfl
       | some y =>
         obtain⟨n,hn⟩:=zEP h2
         cases n with
         |zero=>cases hn
         | succ n =>
           simp only[zCi,hf]at hn
           rw[zIb hn]at h;cases h
   |inr y=>exact zIb (n:=1) (by simp only[zCi,hf])
def bindE (x:Option (Y⊕R))(k:Y→Option R):Option R:=match x with
 |some (.inl y)=>k y
 |some (.inr r)=>some r
 |none=>none
def mapR (x:Option R):Option (Y⊕R):=match x with
 |some r=>some (.inr r)
 |none=>none
theorem zEF {x:Option R}{z:Y⊕R}(h:mapR x=some z):∃r,z = .inr r∧x=some r:=by
 cases x with
 |none=>cases h
 |some r=>simp only[mapR,zSe]at h;exact⟨r,h.symm,rfl⟩
theorem zKi {x:Option (Y⊕R)}{k:Y→Option R}{r:R}(h:bindE x k=some r):(∃y,x=some (.inl y)∧k y=some r)∨x=some (.inr r):=by
 unfold bindE at h
 split at h
 ·exact .inl ⟨_,rfl,h⟩
 ·simp only[zSe]at h;subst h;exact .inr rfl
 ·cases h
def seqU (x:Option Unit)(k:Option R):Option R:=match x with|some _=>k|none=>none
theorem zOO {x:Option Unit}{k:Option R}{r:R}(h:seqU x k=some r):x=some ()∧k=some r:=by
 cases x with
 |none=>cases h
 |some u=>exact⟨rfl,h⟩
end
def GT.decEq:(t:GT)→DecidableEq t.Den
 |.int _=>(inferInstance:DecidableEq Int)
 |.byte=>(inferInstance:DecidableEq UInt8)
 |.bool=>(inferInstance:DecidableEq Bool)
 |.str=>(inferInstance:DecidableEq (List UInt8))
 |.sl t=>@instDecidableEqList t.Den t.decEq
 |.unit=>(inferInstance:DecidableEq Unit)
 |.pair a b=>@instDecidableEqProd a.Den b.Den a.decEq b.decEq
mutual
def eqVb:V→V→Bool
 |.i k n,.i k' n'=>eqK k k'&&decide (n=n')
 |.b x,.b y=>decide (x=y)
 |.s x,.s y=>decide (x=y)
 | .sl t l,.sl t' l'=>(match hs:t.same t' with
   |true=>@decide (l=zEO hs l') ((GT.sl t).decEq l (zEO hs l'))
   |false=>false)
 |.ar a,.ar b=>a==b
 |.p a b c,.p a' b' c'=>a==a'&&b==b'&&c==c'
 |.ro c,.ro c'=>zPI c c'
 |.agg xs,.agg ys=>zPI xs ys
 |.nilp,.nilp=>true
 |.nil,.nil=>true
 |.sk,.sk=>true
 |.u,.u=>true
 |.fn f c,.fn f' c'=>f==f'&&zPI c c'
 |_,_=>false
def zPI:List V→List V→Bool
 |[],[]=>true
 |x::xs,y::ys=>eqVb x y&&zPI xs ys
 |_,_=>false
end
mutual
theorem eqVb_e:∀(x y:V),eqVb x y=true→e x=e y:=by
 intro x y h
 cases x<;>cases y<;>simp only[eqVb]at h<;>try (cases h;done)
 case i.i=>simp only[eqK,zBa,zDe]at h;rw[h.1,h.2]
 case b.b=>rw[of_decide_eq_true h]
 case s.s=>rw[of_decide_eq_true h]
 case sl.sl t l t' l' =>
  split at h
  ·rename_i hs
   have:=@of_decide_eq_true _ ((GT.sl t).decEq l (zEO hs l')) h
   simp only[e]
   rw[this,zBQ,zBi hs]
  ·cases h
 case ar.ar=>rw[eq_of_beq h]
 case p.p=>simp only[zBa,beq_iff_eq]at h;obtain⟨⟨rfl,rfl⟩,rfl⟩:=h;rfl
 case ro.ro c c'=>simp only[e,zMw c c' h]
 case agg.agg c c'=>simp only[e,zMw c c' h]
 case fn.fn f c f' c' =>
  simp only[zBa,beq_iff_eq]at h
  simp only[e,h.1,zMw c c' h.2]
 all_goals rfl
theorem zMw:∀(x y:List V),zPI x y=true→eL x=eL y
 |[],[],_=>rfl
 |[],_::_,h=>by simp[zPI]at h
 |_::_,[],h=>by simp[zPI]at h
 | x::xs,y::ys,h=>by
   simp only[zPI,zBa]at h
   simp only[eL,eqVb_e x y h.1,zMw xs ys h.2]
end
end Go.TM
end
