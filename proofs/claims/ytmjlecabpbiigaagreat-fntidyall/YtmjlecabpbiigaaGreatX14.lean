/- Part 15 of the proof of FnTidyAll; no condition. -/
import Derived.Test.YtmjlecabpbiigaaGreatX13
open Option renaming some -> U
open Decidable renaming decide -> aa
open Bool renaming true -> ae
open Bool renaming false -> ag
open Option renaming none -> aj
open Sum renaming inr -> an
open Sum renaming inl -> ao
open List renaming length -> au
open Int renaming toNat -> aw
open List renaming drop -> cU
open List renaming take -> de
set_option autoImplicit true
set_option relaxedAutoImplicit true
set_option linter.all false
section
namespace Go.TM
open Go.AM
inductive Pat
 |i (k:IntKind)|b|s|sl (t:GT)|own (t:GT) (d:Bool)
 |ptr (o off:Nat)|ptrI (o off:Nat)|ar (o:Nat)|nilp|u|nil|sc (x:List UInt8)
 |agg (p:Pat)|tup (p:Pat)|fn (f:Nat) (p:Pat)|ro (p:Pat)
 |nop|cons (p q:Pat)
def pl:List Pat->Pat
 |[]=>.nop
 |p::l=>.cons p (pl l)
def Pat.cst:Pat->Bool
 |.i _|.b|.s|.sl _|.own _ _|.ptrI _ _=>ag
 |.agg p|.tup p|.fn _ p|.ro p=>p.cst
 |.cons p q=>p.cst&&q.cst
 |_=>ae
@[reducible] def vQ:Bool->Bool->Type->Type->Type
  |true,ae,_,_=>Unit
  |true,ag,_,B=>B
  |false,ae,A,_=>A
  |false,ag,A,B=>A×B
@[reducible] def Pat.Den:Pat->Type
  |.i _=>Int
  |.b=>Bool
  |.s=>List UInt8
  |.sl t=>List t.Den
  |.own t _=>List t.Den
  |.ptrI _ _=>Nat
  |.agg p|.tup p|.fn _ p|.ro p=>p.Den
  |.cons p q=>vQ p.cst q.cst p.Den q.Den
  |_=>Unit
def oU:(x y:Bool)->{A B:Type}->A->B->vQ x y A B
 |true,ae,_,_,_,_=>()
 |true,ag,_,_,_,b=>b
 |false,ae,_,_,a,_=>a
 |false,ag,_,_,a,b=>(a,b)
def Pat.dflt:(p:Pat)->p.Den
 |.i _=>(0:Int)
 |.b=>ag
 |.s=>([]:List UInt8)
 |.sl _=>[]
 |.own _ _=>[]
 |.ptrI _ _=>(0:Nat)
 |.agg p|.tup p|.fn _ p|.ro p=>p.dflt
 |.cons p q=>oU p.cst q.cst p.dflt q.dflt
 |.ptr _ _|.ar _|.nilp|.u|.nil|.nop|.sc _=>()
def kT:(x y:Bool)->{A B:Type}->A->vQ x y A B->A
 |true,ae,_,_,a,_=>a
 |true,ag,_,_,a,_=>a
 |false,ae,_,_,_,x=>x
 |false,ag,_,_,_,x=>x.1
def kU:(x y:Bool)->{A B:Type}->B->vQ x y A B->B
 |true,ae,_,_,b,_=>b
 |true,ag,_,_,_,x=>x
 |false,ae,_,_,b,_=>b
 |false,ag,_,_,_,x=>x.2
def bg:(p:Pat)->p.Den->List V
 |.i k,n=>[.i k n]
 |.b,x=>[.b x]
 |.s,x=>[.s x]
 |.sl t,l=>[.sl t l]
 |.own t d,l=>[.own t d l]
 |.ptr o off,_=>[.p o 0 off]
 |.ptrI o off,i=>[.p o i off]
 |.ar o,_=>[.ar o]
 |.nilp,_=>[.nilp]
 |.u,_=>[.u]
 |.nil,_=>[.nil]
 |.sc x,_=>[.s x]
 |.agg p,x=>[.agg (bg p x)]
 |.tup p,x=>[.tup (bg p x)]
 |.fn f p,x=>[.fn f (bg p x)]
 |.ro p,x=>[.ro (bg p x)]
 |.nop,_=>[]
 |.cons p q,x=>bg p (kT p.cst q.cst p.dflt x)++bg q (kU p.cst q.cst q.dflt x)
section
variable {R:Type}
def oV (l:List V)(K:Option R):Option R:=match l with | []=>K|_::_=>aj
def ea (z:Bool):(p:Pat)->List V->(p.Den->List V->Option R)->Option R
 | .i k,vs,K=>match vs with
   |.i k' n::r=>aX (dj k k') (K n r)
   |_=>aj
 | .b,vs,K=>match vs with
   |.b x::r=>K x r
   |_=>aj
 | .s,vs,K=>match vs with
   |.s x::r=>K x r
   |_=>aj
 | .sl t,vs,K=>match vs with
   | .sl t' l::r=>(match hs:t.same t' with
     |true=>K (fP hs l) r
     |false=>aj)
   |.nil::r=>aX z (K [] r)
   |_=>aj
 | .own t d,vs,K=>match vs with
   | .own t' d' l::r=>(match hs:t.same t' with
     |true=>aX (d==d'||t.flat) (K (fP hs l) r)
     |false=>aj)
   |.emp t'::r=>aX (t.same t') (K [] r)
   |.nil::r=>aX z (K [] r)
   |_=>aj
 | .ptr o off,vs,K=>match vs with
   | .p o' i off'::r=>(match i with
     |0=>aX (o==o'&&off==off') (K () r)
     |_+1=>aj)
   |_=>aj
 | .ptrI o off,vs,K=>match vs with
   |.p o' i off'::r=>aX (o==o'&&off==off') (K i r)
   |_=>aj
 | .ar o,vs,K=>match vs with
   |.ar o'::r=>aX (o==o') (K () r)
   |_=>aj
 | .nilp,vs,K=>match vs with
   |.nilp::r=>K () r
   |_=>aj
 | .nil,vs,K=>match vs with
   |.nil::r=>K () r
   |_=>aj
 | .u,vs,K=>match vs with
   |_::r=>aX z (K () r)
   |_=>aj
 | .sc x,vs,K=>match vs with
   |.s y::r=>aX (aa (y=x)) (K () r)
   |_=>aj
 | .agg p,vs,K=>match vs with
   |.agg cs::r=>ea z p cs fun x q=>oV q (K x r)
   |_=>aj
 | .tup p,vs,K=>match vs with
   |.tup cs::r=>ea z p cs fun x q=>oV q (K x r)
   |_=>aj
 | .fn f p,vs,K=>match vs with
   |.fn f' cs::r=>aX (f==f') (ea ag p cs fun x q=>oV q (K x r))
   |_=>aj
 | .ro p,vs,K=>match vs with
   |.ro cs::r=>ea ag p cs fun x q=>oV q (K x r)
   |_=>aj
 |.nop,vs,K=>K () vs
 |.cons p q,vs,K=>ea z p vs fun x r=>ea z q r fun y r'=>K (oU p.cst q.cst x y) r'
def Hc:∀{a b c d:List SV},wkL a b->wkL c d->wkL (a++c) (b++d)
 |[],b,c,d,h,h2=>by simp only[wkL]at h;subst h;exact h2
 |x::a,[],c,d,h,h2=>by simp only[wkL]at h
 | x::a,y::b,c,d,h,h2=>by
   simp only[wkL]at h;simp only[cF,wkL]
   exact⟨h.1,Hc h.2 h2⟩
def qk {l:List V}{K:Option R}{r:R}(h:oV l K=U r):l=[]/\K=U r:=by
 cases l
 ·exact⟨rfl,h⟩
 ·cases h
def kl:∀(p:Pat) (x:p.Den),p.cst=ae->bg p x=bg p p.dflt
 |.i _,_,h|.b,_,h|.s,_,h|.sl _,_,h|.own _ _,_,h|.ptrI _ _,_,h=>by cases h
 |.ptr _ _,_,_|.ar _,_,_|.nilp,_,_|.u,_,_|.nil,_,_|.nop,_,_|.sc _,_,_=>rfl
 |.agg p,x,h=>by simp only[bg,Pat.dflt,kl p x h]
 |.tup p,x,h=>by simp only[bg,Pat.dflt,kl p x h]
 |.fn f p,x,h=>by simp only[bg,Pat.dflt,kl p x h]
 |.ro p,x,h=>by simp only[bg,Pat.dflt,kl p x h]
 | .cons p q,x,h=>by
   simp only[Pat.cst,aK]at h;simp only[bg]
   rw[kl p (kT p.cst q.cst p.dflt x) h.1,kl q (kU p.cst q.cst q.dflt x) h.2,kl p (kT p.cst q.cst p.dflt (Pat.cons p q).dflt) h.1,kl q (kU p.cst q.cst q.dflt (Pat.cons p q).dflt) h.2]
def Hd (p q:Pat)(x:p.Den)(y:q.Den):bg (.cons p q) (oU p.cst q.cst x y)=bg p x++bg q y:=by
 simp only[bg]
 have h1:bg p (kT p.cst q.cst p.dflt (oU p.cst q.cst x y))=bg p x:=by
  cases hp:p.cst
  ·have:∀b:Bool,kT ag b p.dflt (oU ag b x y)=x:=fun b=>by cases b<;>rfl
   rw[this]
  ·rw[kl p _ hp,kl p x hp]
 have h2:bg q (kU p.cst q.cst q.dflt (oU p.cst q.cst x y))=bg q y:=by
  cases hq:q.cst
  ·have:∀b:Bool,kU b ag q.dflt (oU b ag x y)=y:=fun b=>by cases b<;>rfl
   rw[this]
  ·rw[kl q _ hq,kl q y hq]
 rw[h1,h2]
def nz {r:R}:∀(p:Pat) (z:Bool) (vs:List V) (K:p.Den->List V->Option R),ea z p vs K=U r ->
  ∃x cs rest,K x rest=U r/\vs=cs++rest/\wkL (eL cs) (eL (bg p x))/\(z=ag->eL cs=eL (bg p x))
 | .i k,z,vs,K,h=>by
   unfold ea at h;split at h
   ·obtain⟨h1,h2⟩:=bj h;simp only[dj,aL]at h1;subst h1;exact⟨_,[_],_,h2,rfl,eP _,fun _=>rfl⟩
   ·cases h
 | .b,z,vs,K,h=>by
   unfold ea at h;split at h
   ·exact⟨_,[_],_,h,rfl,eP _,fun _=>rfl⟩
   ·cases h
 | .s,z,vs,K,h=>by
   unfold ea at h;split at h
   ·exact⟨_,[_],_,h,rfl,eP _,fun _=>rfl⟩
   ·cases h
 | .sl t,z,vs,K,h=>by
   unfold ea at h;split at h
   ·rename_i t' l q;split at h
    ·rename_i hs;have he:e (.sl t' l)=e (.sl t (fP hs l)):=by simp only[e,jU,g_ hs]
     exact⟨_,[_],_,h,rfl,by simp only[bg,eL,he];exact eP _,fun _=>by simp only[bg,eL,he]⟩
    ·cases h
   ·obtain⟨h1,h2⟩:=bj h;exact⟨_,[_],_,h2,rfl,⟨rfl,rfl⟩,fun hz=>by rw[hz]at h1;cases h1⟩
   ·cases h
 | .own t d,z,vs,K,h=>by
   unfold ea at h;split at h
   ·rename_i t' d' l q;split at h
    ·rename_i hs;obtain⟨h1,h2⟩:=bj h;have hd:d=d'\/t.flat=ae:=by simpa using h1
     have he:e (.own t' d' l)=e (.own t d (fP hs l)):=by simp only[e,qh hs l hd,g_ hs]
     exact⟨_,[_],_,h2,rfl,by simp only[bg,eL,he];exact eP _,fun _=>by simp only[bg,eL,he]⟩
    ·cases h
   ·rename_i t' q;obtain⟨h1,h2⟩:=bj h;have he:e (.emp t')=e (.own t d []):=by simp only[e,List.map_nil,g_ h1]
    exact⟨_,[_],_,h2,rfl,by simp only[bg,eL,he];exact eP _,fun _=>by simp only[bg,eL,he]⟩
   ·obtain⟨h1,h2⟩:=bj h;exact⟨_,[_],_,h2,rfl,⟨rfl,rfl⟩,fun hz=>by rw[hz]at h1;cases h1⟩
   ·cases h
 | .ptr o off,z,vs,K,h=>by
   unfold ea at h;split at h
   ·split at h
    ·obtain⟨h1,h2⟩:=bj h;simp only[aK,beq_iff_eq]at h1;obtain⟨rfl,rfl⟩:=h1;exact⟨_,[_],_,h2,rfl,eP _,fun _=>rfl⟩
    ·cases h
   ·cases h
 | .ptrI o off,z,vs,K,h=>by
   unfold ea at h;split at h
   ·obtain⟨h1,h2⟩:=bj h;simp only[aK,beq_iff_eq]at h1;obtain⟨rfl,rfl⟩:=h1;exact⟨_,[_],_,h2,rfl,eP _,fun _=>rfl⟩
   ·cases h
 | .ar o,z,vs,K,h=>by
   unfold ea at h;split at h
   ·obtain⟨h1,h2⟩:=bj h;have h1:=eq_of_beq h1;subst h1;exact⟨_,[_],_,h2,rfl,eP _,fun _=>rfl⟩
   ·cases h
 | .nilp,z,vs,K,h=>by
   unfold ea at h;split at h
   ·exact⟨_,[_],_,h,rfl,eP _,fun _=>rfl⟩
   ·cases h
 | .nil,z,vs,K,h=>by
   unfold ea at h;split at h
   ·exact⟨_,[_],_,h,rfl,eP _,fun _=>rfl⟩
   ·cases h
 | .u,z,vs,K,h=>by
   unfold ea at h;split at h
   ·obtain⟨h1,h2⟩:=bj h;exact⟨_,[_],_,h2,rfl,⟨Gc _,rfl⟩,fun hz=>by rw[hz]at h1;cases h1⟩
   ·cases h
 | .sc y,z,vs,K,h=>by
   unfold ea at h;split at h
   ·obtain⟨h1,h2⟩:=bj h;have h1:=of_decide_eq_true h1;subst h1;exact⟨_,[_],_,h2,rfl,eP _,fun _=>rfl⟩
   ·cases h
 | .agg p,z,vs,K,h=>by
   unfold ea at h;split at h
   ·rename_i cs q;obtain⟨x,c1,rest,h1,h2,h3,h4⟩:=nz p z cs _ h;obtain⟨rfl,h5⟩:=qk h1;rw[cB]at h2;subst h2;exact⟨x,[_],_,h5,rfl,⟨h3,rfl⟩,fun hz=>by simp only[bg,eL,e,h4 hz]⟩
   ·cases h
 | .tup p,z,vs,K,h=>by
   unfold ea at h;split at h
   ·rename_i cs q;obtain⟨x,c1,rest,h1,h2,h3,h4⟩:=nz p z cs _ h;obtain⟨rfl,h5⟩:=qk h1;rw[cB]at h2;subst h2;exact⟨x,[_],_,h5,rfl,⟨h3,rfl⟩,fun hz=>by simp only[bg,eL,e,h4 hz]⟩
   ·cases h
 | .fn f p,z,vs,K,h=>by
   unfold ea at h;split at h
   ·rename_i f' cs q;obtain⟨h0,h9⟩:=bj h;have h0:=eq_of_beq h0;subst h0;obtain⟨x,c1,rest,h1,h2,h3,h4⟩:=nz p ag cs _ h9;obtain⟨rfl,h5⟩:=qk h1;rw[cB]at h2;subst h2;have he:eL [V.fn f cs]=eL (bg (.fn f p) x):=by simp only[bg,eL,e,h4 rfl]
    exact⟨x,[_],_,h5,rfl,by rw[he];exact eP _,fun _=>he⟩
   ·cases h
 | .ro p,z,vs,K,h=>by
   unfold ea at h;split at h
   ·rename_i cs q;obtain⟨x,c1,rest,h1,h2,h3,h4⟩:=nz p ag cs _ h;obtain⟨rfl,h5⟩:=qk h1;rw[cB]at h2;subst h2;have he:eL [V.ro cs]=eL (bg (.ro p) x):=by simp only[bg,eL,e,h4 rfl]
    exact⟨x,[_],_,h5,rfl,by rw[he];exact eP _,fun _=>he⟩
   ·cases h
 |.nop,z,vs,K,h=>⟨(),[],vs,h,rfl,rfl,fun _=>rfl⟩
 | .cons p q,z,vs,K,h=>by
   unfold ea at h;obtain⟨x,c1,r1,h1,h2,h3,h4⟩:=nz p z vs _ h;obtain⟨y,c2,r2,h5,h6,h7,h8⟩:=nz q z r1 _ h1;refine⟨_,c1++c2,r2,h5,by rw[h2,h6,bD],?_,fun hz=>?_⟩
   ·rw[Hd,ki,ki];exact Hc h3 h7
   ·rw[Hd,ki,ki,h4 hz,h8 hz]
end
end Go.TM
end
