/- Part 19 of the proof of FnTidyAll; no condition. -/
import Derived.Test.YtmjlecabpbiigaaGreatX17
open Option renaming some -> U
open Decidable renaming decide -> aa
open Bool renaming true -> ae
open Bool renaming false -> ag
open Option renaming none -> aj
open Sum renaming inr -> an
open Sum renaming inl -> ao
open List renaming length -> au
open Int renaming toNat -> aw
open List renaming drop -> cU
open List renaming take -> de
set_option autoImplicit true
set_option relaxedAutoImplicit true
set_option linter.all false
section
namespace Go.TM
open Go.AM
section
variable {X Y R:Type}
def hM (f:X->Option (X⊕Y)):Nat->X->Option Y
 |0,_=>aj
 | n+1,x=>match f x with
   |some (.inl x')=>hM f n x'
   |some (.inr y)=>U y
   |none=>aj
noncomputable def aE (f:X->Option (X⊕Y))(x:X):Option Y:=@dite _ (∃y n,hM f n x=U y) (Classical.propDecidable _) (fun h=>U (Classical.choose h)) (fun _=>aj)
def BL {f:X->Option (X⊕Y)}:∀{n m:Nat} {x:X} {y:Y},n<=m->hM f n x=U y->hM f m x=U y
 |0,_,_,_,_,h=>by cases h
 |n+1,0,_,_,hm,_=>by omega
 | n+1,m+1,x,y,hm,h=>by
   simp only[hM]at h ⊢;split at h
   ·exact BL (by omega) h
   ·exact h
   ·cases h
def OS {f:X->Option (X⊕Y)}{n m:Nat}{x:X}{y z:Y}(h1:hM f n x=U y)(h2:hM f m x=U z):y=z:=by
 have a:=BL (Nat.le_max_left n m) h1;have b:=BL (Nat.le_max_right n m) h2;rw[a]at b;exact Option.some.inj b
def wm {f:X->Option (X⊕Y)}{x:X}{y:Y}(h:aE f x=U y):∃n,hM f n x=U y:=by
 unfold aE at h;split at h
 ·rename_i hex;simp only[aF]at h;subst h;exact Classical.choose_spec hex
 ·cases h
def BM {f:X->Option (X⊕Y)}{x:X}{y:Y}{n:Nat}(h:hM f n x=U y):aE f x=U y:=by
 unfold aE;have hex:∃y n,hM f n x=U y:=⟨y,n,h⟩
 rw[dif_pos hex];congr 1;obtain⟨m,hm⟩:=Classical.choose_spec hex;exact OS hm h
def eV (f:X->Option (X⊕Y))(x:X):aE f x=match f x with
  |some (.inl x')=>aE f x'
  |some (.inr y)=>U y
  |none=>aj:=by
 cases hf:f x with
 | none=>
   simp only
   cases h:aE f x with
   |none=>rfl
   | some y=>
     obtain⟨n,hn⟩:=wm h;cases n with
     |zero=>cases hn
     |succ n=>simp only[hM,hf]at hn;cases hn
 | some z=>
   cases z with
   | inl x' =>
     simp only
     cases h:aE f x' with
     | some y=>
       obtain⟨n,hn⟩:=wm h;exact BM (n:=n+1) (by simp only[hM,hf];exact hn)
     | none=>
       cases h2:aE f x with
       |none=>rfl
       | some y=>
         obtain⟨n,hn⟩:=wm h2;cases n with
         |zero=>cases hn
         | succ n=>
           simp only[hM,hf]at hn;rw[BM hn]at h;cases h
   |inr y=>exact BM (n:=1) (by simp only[hM,hf])
def bindE (x:Option (Y⊕R))(k:Y->Option R):Option R:=match x with
 |some (.inl y)=>k y
 |some (.inr r)=>U r
 |none=>aj
def iD (x:Option R):Option (Y⊕R):=match x with
 |some r=>U (.inr r)
 |none=>aj
def qo {x:Option R}{z:Y⊕R}(h:iD x=U z):∃r,z = .inr r/\x=U r:=by
 cases x with
 |none=>cases h
 |some r=>simp only[iD,aF]at h;exact⟨r,h.symm,rfl⟩
def HJ {x:Option (Y⊕R)}{k:Y->Option R}{r:R}(h:bindE x k=U r):(∃y,x=U (.inl y)/\k y=U r)\/x=U (.inr r):=by
 unfold bindE at h;split at h
 ·exact .inl ⟨_,rfl,h⟩
 ·simp only[aF]at h;subst h;exact .inr rfl
 ·cases h
def ak (x:Option Unit)(k:Option R):Option R:=match x with|some _=>k|none=>aj
def HK {x:Option Unit}{k:Option R}{r:R}(h:ak x k=U r):x=U ()/\k=U r:=by
 cases x with
 |none=>cases h
 |some u=>exact⟨rfl,h⟩
end
def GT.decEq:(t:GT)->DecidableEq t.Den
 |.int _=>(inferInstance:DecidableEq Int)
 |.byte=>(inferInstance:DecidableEq UInt8)
 |.bool=>(inferInstance:DecidableEq Bool)
 |.str=>(inferInstance:DecidableEq (List UInt8))
 |.sl t=>@instDecidableEqList t.Den t.decEq
 |.unit=>(inferInstance:DecidableEq Unit)
 |.pair a b=>@instDecidableEqProd a.Den b.Den a.decEq b.decEq
mutual
def wo:V->V->Bool
 |.i k n,.i k' n'=>dj k k'&&aa (n=n')
 |.b x,.b y=>aa (x=y)
 |.s x,.s y=>aa (x=y)
 | .sl t l,.sl t' l'=>(match hs:t.same t' with
   |true=>@aa (l=fP hs l') ((GT.sl t).decEq l (fP hs l'))
   |false=>ag)
 |.ar a,.ar b=>a==b
 |.p a b c,.p a' b' c'=>a==a'&&b==b'&&c==c'
 |.ro c,.ro c'=>nC c c'
 |.agg xs,.agg ys=>nC xs ys
 |.nilp,.nilp=>ae
 |.nil,.nil=>ae
 |.sk,.sk=>ae
 |.u,.u=>ae
 |.fn f c,.fn f' c'=>f==f'&&nC c c'
 |_,_=>ag
def nC:List V->List V->Bool
 |[],[]=>ae
 |x::xs,y::ys=>wo x y&&nC xs ys
 |_,_=>ag
end
mutual
def HL:∀(x y:V),wo x y=ae->e x=e y:=by
 intro x y h;cases x<;>cases y<;>simp only[wo]at h<;>try (cases h;done)
 case i.i=>simp only[dj,aK,aL]at h;rw[h.1,h.2]
 case b.b=>rw[of_decide_eq_true h]
 case s.s=>rw[of_decide_eq_true h]
 case sl.sl t l t' l' =>
  split at h
  ·rename_i hs;have:=@of_decide_eq_true _ ((GT.sl t).decEq l (fP hs l')) h;simp only[e]
   rw[this,jU,g_ hs]
  ·cases h
 case ar.ar=>rw[eq_of_beq h]
 case p.p=>simp only[aK,beq_iff_eq]at h;obtain⟨⟨rfl,rfl⟩,rfl⟩:=h;rfl
 case ro.ro c c'=>simp only[e,wq c c' h]
 case agg.agg c c'=>simp only[e,wq c c' h]
 case fn.fn f c f' c' =>
  simp only[aK,beq_iff_eq]at h;simp only[e,h.1,wq c c' h.2]
 all_goals rfl
def wq:∀(x y:List V),nC x y=ae->eL x=eL y
 |[],[],_=>rfl
 |[],_::_,h=>by simp[nC]at h
 |_::_,[],h=>by simp[nC]at h
 | x::xs,y::ys,h=>by
   simp only[nC,aK]at h;simp only[eL,HL x y h.1,wq xs ys h.2]
end
end Go.TM
end
