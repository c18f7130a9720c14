/- Part 19 of the proof of FnDeep; no condition. -/
import Derived.Test.YtdpapeledldifaaGreatX17
open Option renaming some -> U
open Decidable renaming decide -> aa
open Bool renaming true -> ad
open Bool renaming false -> ag
open Option renaming none -> aj
open Sum renaming inl -> an
open Sum renaming inr -> ao
open List renaming length -> au
open Int renaming toNat -> aH
open List renaming drop -> kZ
open List renaming take -> nY
set_option autoImplicit true
set_option relaxedAutoImplicit true
set_option linter.all false
section
namespace Go.TM
open Go.AM
section
variable {X Y R:Type}
def gM (f:X->Option (X⊕Y)):Nat->X->Option Y
 |0,_=>aj
 | n+1,x=>match f x with
   |some (.inl x')=>gM f n x'
   |some (.inr y)=>U y
   |none=>aj
noncomputable def aD (f:X->Option (X⊕Y))(x:X):Option Y:=@dite _ (∃y n,gM f n x=U y) (Classical.propDecidable _) (fun h=>U (Classical.choose h)) (fun _=>aj)
def Bb {f:X->Option (X⊕Y)}:∀{n m:Nat} {x:X} {y:Y},n<=m->gM f n x=U y->gM f m x=U y
 |0,_,_,_,_,h=>by cases h
 |n+1,0,_,_,hm,_=>by omega
 | n+1,m+1,x,y,hm,h=>by
   simp only[gM]at h ⊢;split at h
   ·exact Bb (by omega) h
   ·exact h
   ·cases h
def NX {f:X->Option (X⊕Y)}{n m:Nat}{x:X}{y z:Y}(h1:gM f n x=U y)(h2:gM f m x=U z):y=z:=by
 have a:=Bb (Nat.le_max_left n m) h1;have b:=Bb (Nat.le_max_right n m) h2;rw[a]at b;exact Option.some.inj b
def vU {f:X->Option (X⊕Y)}{x:X}{y:Y}(h:aD f x=U y):∃n,gM f n x=U y:=by
 unfold aD at h;split at h
 ·rename_i hex;simp only[aK]at h;subst h;exact Classical.choose_spec hex
 ·cases h
def Bc {f:X->Option (X⊕Y)}{x:X}{y:Y}{n:Nat}(h:gM f n x=U y):aD f x=U y:=by
 unfold aD;have hex:∃y n,gM f n x=U y:=⟨y,n,h⟩
 rw[dif_pos hex];congr 1;obtain⟨m,hm⟩:=Classical.choose_spec hex;exact NX hm h
def eJ (f:X->Option (X⊕Y))(x:X):aD f x=match f x with
  |some (.inl x')=>aD f x'
  |some (.inr y)=>U y
  |none=>aj:=by
 cases hf:f x with
 | none=>
   simp only
   cases h:aD f x with
   |none=>rfl
   | some y=>
     obtain⟨n,hn⟩:=vU h;cases n with
     |zero=>cases hn
     |succ n=>simp only[gM,hf]at hn;cases hn
 | some z=>
   cases z with
   | inl x' =>
     simp only
     cases h:aD f x' with
     | some y=>
       obtain⟨n,hn⟩:=vU h;exact Bc (n:=n+1) (by simp only[gM,hf];exact hn)
     | none=>
       cases h2:aD f x with
       |none=>rfl
       | some y=>
         obtain⟨n,hn⟩:=vU h2;cases n with
         |zero=>cases hn
         | succ n=>
           simp only[gM,hf]at hn;rw[Bc hn]at h;cases h
   |inr y=>exact Bc (n:=1) (by simp only[gM,hf])
def bindE (x:Option (Y⊕R))(k:Y->Option R):Option R:=match x with
 |some (.inl y)=>k y
 |some (.inr r)=>U r
 |none=>aj
def jH (x:Option R):Option (Y⊕R):=match x with
 |some r=>U (.inr r)
 |none=>aj
def qb {x:Option R}{z:Y⊕R}(h:jH x=U z):∃r,z = .inr r/\x=U r:=by
 cases x with
 |none=>cases h
 |some r=>simp only[jH,aK]at h;exact⟨r,h.symm,rfl⟩
def G6 {x:Option (Y⊕R)}{k:Y->Option R}{r:R}(h:bindE x k=U r):(∃y,x=U (.inl y)/\k y=U r)\/x=U (.inr r):=by
 unfold bindE at h;split at h
 ·exact .inl ⟨_,rfl,h⟩
 ·simp only[aK]at h;subst h;exact .inr rfl
 ·cases h
def ak (x:Option Unit)(k:Option R):Option R:=match x with|some _=>k|none=>aj
def G7 {x:Option Unit}{k:Option R}{r:R}(h:ak x k=U r):x=U ()/\k=U r:=by
 cases x with
 |none=>cases h
 |some u=>exact⟨rfl,h⟩
end
def GT.decEq:(t:GT)->DecidableEq t.Den
 |.int _=>(inferInstance:DecidableEq Int)
 |.byte=>(inferInstance:DecidableEq UInt8)
 |.bool=>(inferInstance:DecidableEq Bool)
 |.str=>(inferInstance:DecidableEq (List UInt8))
 |.sl t=>@instDecidableEqList t.Den t.decEq
 |.unit=>(inferInstance:DecidableEq Unit)
 |.pair a b=>@instDecidableEqProd a.Den b.Den a.decEq b.decEq
mutual
def vV:V->V->Bool
 |.i k n,.i k' n'=>c9 k k'&&aa (n=n')
 |.b x,.b y=>aa (x=y)
 |.s x,.s y=>aa (x=y)
 | .sl t l,.sl t' l'=>(match hs:t.same t' with
   |true=>@aa (l=fC hs l') ((GT.sl t).decEq l (fC hs l'))
   |false=>ag)
 |.ar a,.ar b=>a==b
 |.p a b c,.p a' b' c'=>a==a'&&b==b'&&c==c'
 |.ro c,.ro c'=>nr c c'
 |.agg xs,.agg ys=>nr xs ys
 |.nilp,.nilp=>ad
 |.nil,.nil=>ad
 |.sk,.sk=>ad
 |.u,.u=>ad
 |.fn f c,.fn f' c'=>f==f'&&nr c c'
 |_,_=>ag
def nr:List V->List V->Bool
 |[],[]=>ad
 |x::xs,y::ys=>vV x y&&nr xs ys
 |_,_=>ag
end
mutual
def G8:∀(x y:V),vV x y=ad->e x=e y:=by
 intro x y h;cases x<;>cases y<;>simp only[vV]at h<;>try (cases h;done)
 case i.i=>simp only[c9,aG,aI]at h;rw[h.1,h.2]
 case b.b=>rw[of_decide_eq_true h]
 case s.s=>rw[of_decide_eq_true h]
 case sl.sl t l t' l' =>
  split at h
  ·rename_i hs;have:=@of_decide_eq_true _ ((GT.sl t).decEq l (fC hs l')) h;simp only[e]
   rw[this,jF,gJ hs]
  ·cases h
 case ar.ar=>rw[eq_of_beq h]
 case p.p=>simp only[aG,beq_iff_eq]at h;obtain⟨⟨rfl,rfl⟩,rfl⟩:=h;rfl
 case ro.ro c c'=>simp only[e,vW c c' h]
 case agg.agg c c'=>simp only[e,vW c c' h]
 case fn.fn f c f' c' =>
  simp only[aG,beq_iff_eq]at h;simp only[e,h.1,vW c c' h.2]
 all_goals rfl
def vW:∀(x y:List V),nr x y=ad->eL x=eL y
 |[],[],_=>rfl
 |[],_::_,h=>by simp[nr]at h
 |_::_,[],h=>by simp[nr]at h
 | x::xs,y::ys,h=>by
   simp only[nr,aG]at h;simp only[eL,G8 x y h.1,vW xs ys h.2]
end
end Go.TM
end
