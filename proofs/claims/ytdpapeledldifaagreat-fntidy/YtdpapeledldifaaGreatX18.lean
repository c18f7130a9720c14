/- Part 19 of the proof of FnTidy; no condition. -/
import Derived.Test.YtdpapeledldifaaGreatX17
set_option autoImplicit true
set_option relaxedAutoImplicit true
set_option linter.all false
section
namespace Go.TM
open Go.AM
section
variable {X Y R:Type}
def zCt (f:X→Option (X⊕Y)):Nat→X→Option Y
 |0,_=>none
 | n+1,x=>match f x with
   |some (.inl x')=>zCt f n x'
   |some (.inr y)=>some y
   |none=>none
noncomputable def zAE (f:X→Option (X⊕Y))(x:X):Option Y:=@dite _ (∃y n,zCt f n x=some y) (Classical.propDecidable _) (fun h=>some (Classical.choose h)) (fun _=>none)
def zGO {f:X→Option (X⊕Y)}:∀{n m:Nat} {x:X} {y:Y},n≤m→zCt f n x=some y→zCt f m x=some y
 |0,_,_,_,_,h=>by cases h
 |n+1,0,_,_,hm,_=>by omega
 | n+1,m+1,x,y,hm,h=>by
   simp only[zCt]at h ⊢;split at h
   ·exact zGO (by omega) h
   ·exact h
   ·cases h
def zUJ {f:X→Option (X⊕Y)}{n m:Nat}{x:X}{y z:Y}(h1:zCt f n x=some y)(h2:zCt f m x=some z):y=z:=by
 have a:=zGO (Nat.le_max_left n m) h1;have b:=zGO (Nat.le_max_right n m) h2;rw[a]at b;exact Option.some.inj b
def zEk {f:X→Option (X⊕Y)}{x:X}{y:Y}(h:zAE f x=some y):∃n,zCt f n x=some y:=by
 unfold zAE at h;split at h
 ·rename_i hex;simp only[zSe]at h;subst h;exact Classical.choose_spec hex
 ·cases h
def zJB {f:X→Option (X⊕Y)}{x:X}{y:Y}{n:Nat}(h:zCt f n x=some y):zAE f x=some y:=by
 unfold zAE;have hex:∃y n,zCt f n x=some y:=⟨y,n,h⟩
 rw[dif_pos hex];congr 1;obtain⟨m,hm⟩:=Classical.choose_spec hex;exact zUJ hm h
def zAd (f:X→Option (X⊕Y))(x:X):zAE f x=match f x with
  |some (.inl x')=>zAE f x'
  |some (.inr y)=>some y
  |none=>none:=by
 cases hf:f x with
 | none=>
   simp only
   cases h:zAE f x with
   |none=>rfl
   | some y=>
     obtain⟨n,hn⟩:=zEk h;cases n with
     |zero=>cases hn
     |succ n=>simp only[zCt,hf]at hn;cases hn
 | some z=>
   cases z with
   | inl x' =>
     simp only
     cases h:zAE f x' with
     | some y=>
       obtain⟨n,hn⟩:=zEk h;exact zJB (n:=n+1) (by simp only[zCt,hf];exact hn)
     | none=>
       cases h2:zAE f x with
       |none=>rfl
       | some y=>
         obtain⟨n,hn⟩:=zEk h2;cases n with
         |zero=>cases hn
         | succ n=>
           simp only[zCt,hf]at hn;rw[zJB hn]at h;cases h
   |inr y=>exact zJB (n:=1) (by simp only[zCt,hf])
def bindE (x:Option (Y⊕R))(k:Y→Option R):Option R:=match x with
 |some (.inl y)=>k y
 |some (.inr r)=>some r
 |none=>none
def mapR (x:Option R):Option (Y⊕R):=match x with
 |some r=>some (.inr r)
 |none=>none
def zEZ {x:Option R}{z:Y⊕R}(h:mapR x=some z):∃r,z = .inr r∧x=some r:=by
 cases x with
 |none=>cases h
 |some r=>simp only[mapR,zSe]at h;exact⟨r,h.symm,rfl⟩
def zLY {x:Option (Y⊕R)}{k:Y→Option R}{r:R}(h:bindE x k=some r):(∃y,x=some (.inl y)∧k y=some r)∨x=some (.inr r):=by
 unfold bindE at h;split at h
 ·exact .inl ⟨_,rfl,h⟩
 ·simp only[zSe]at h;subst h;exact .inr rfl
 ·cases h
def seqU (x:Option Unit)(k:Option R):Option R:=match x with|some _=>k|none=>none
def zPg {x:Option Unit}{k:Option R}{r:R}(h:seqU x k=some r):x=some ()∧k=some r:=by
 cases x with
 |none=>cases h
 |some u=>exact⟨rfl,h⟩
end
def GT.decEq:(t:GT)→DecidableEq t.Den
 |.int _=>(inferInstance:DecidableEq Int)
 |.byte=>(inferInstance:DecidableEq UInt8)
 |.bool=>(inferInstance:DecidableEq Bool)
 |.str=>(inferInstance:DecidableEq (List UInt8))
 |.sl t=>@instDecidableEqList t.Den t.decEq
 |.unit=>(inferInstance:DecidableEq Unit)
 |.pair a b=>@instDecidableEqProd a.Den b.Den a.decEq b.decEq
mutual
def eqVb:V→V→Bool
 |.i k n,.i k' n'=>eqK k k'&&decide (n=n')
 |.b x,.b y=>decide (x=y)
 |.s x,.s y=>decide (x=y)
 | .sl t l,.sl t' l'=>(match hs:t.same t' with
   |true=>@decide (l=zEj hs l') ((GT.sl t).decEq l (zEj hs l'))
   |false=>false)
 |.ar a,.ar b=>a==b
 |.p a b c,.p a' b' c'=>a==a'&&b==b'&&c==c'
 |.ro c,.ro c'=>zQb c c'
 |.agg xs,.agg ys=>zQb xs ys
 |.nilp,.nilp=>true
 |.nil,.nil=>true
 |.sk,.sk=>true
 |.u,.u=>true
 |.fn f c,.fn f' c'=>f==f'&&zQb c c'
 |_,_=>false
def zQb:List V→List V→Bool
 |[],[]=>true
 |x::xs,y::ys=>eqVb x y&&zQb xs ys
 |_,_=>false
end
mutual
def eqVb_e:∀(x y:V),eqVb x y=true→e x=e y:=by
 intro x y h;cases x<;>cases y<;>simp only[eqVb]at h<;>try (cases h;done)
 case i.i=>simp only[eqK,zBa,zDe]at h;rw[h.1,h.2]
 case b.b=>rw[of_decide_eq_true h]
 case s.s=>rw[of_decide_eq_true h]
 case sl.sl t l t' l' =>
  split at h
  ·rename_i hs;have:=@of_decide_eq_true _ ((GT.sl t).decEq l (zEj hs l')) h;simp only[e]
   rw[this,zBV,zBn hs]
  ·cases h
 case ar.ar=>rw[eq_of_beq h]
 case p.p=>simp only[zBa,beq_iff_eq]at h;obtain⟨⟨rfl,rfl⟩,rfl⟩:=h;rfl
 case ro.ro c c'=>simp only[e,zOM c c' h]
 case agg.agg c c'=>simp only[e,zOM c c' h]
 case fn.fn f c f' c' =>
  simp only[zBa,beq_iff_eq]at h;simp only[e,h.1,zOM c c' h.2]
 all_goals rfl
def zOM:∀(x y:List V),zQb x y=true→eL x=eL y
 |[],[],_=>rfl
 |[],_::_,h=>by simp[zQb]at h
 |_::_,[],h=>by simp[zQb]at h
 | x::xs,y::ys,h=>by
   simp only[zQb,zBa]at h;simp only[eL,eqVb_e x y h.1,zOM xs ys h.2]
end
end Go.TM
end
