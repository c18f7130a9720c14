/- Part 15 of the proof of FnTidy; no condition. -/
import Derived.Test.YtdpapeledldifaaGreatX13
set_option autoImplicit true
set_option relaxedAutoImplicit true
set_option linter.all false
section
namespace Go.TM
open Go.AM
inductive Pat
 |i (k:IntKind)|b|s|sl (t:GT)|own (t:GT) (d:Bool)
 |ptr (o off:Nat)|ptrI (o off:Nat)|ar (o:Nat)|nilp|u|nil|sc (x:List UInt8)
 |agg (p:Pat)|tup (p:Pat)|fn (f:Nat) (p:Pat)|ro (p:Pat)
 |nop|cons (p q:Pat)
def pl:List Pat→Pat
 |[]=>.nop
 |p::l=>.cons p (pl l)
def Pat.cst:Pat→Bool
 |.i _|.b|.s|.sl _|.own _ _|.ptrI _ _=>false
 |.agg p|.tup p|.fn _ p|.ro p=>p.cst
 |.cons p q=>p.cst&&q.cst
 |_=>true
@[reducible] def SelD:Bool→Bool→Type→Type→Type
  |true,true,_,_=>Unit
  |true,false,_,B=>B
  |false,true,A,_=>A
  |false,false,A,B=>A×B
@[reducible] def Pat.Den:Pat→Type
  |.i _=>Int
  |.b=>Bool
  |.s=>List UInt8
  |.sl t=>List t.Den
  |.own t _=>List t.Den
  |.ptrI _ _=>Nat
  |.agg p|.tup p|.fn _ p|.ro p=>p.Den
  |.cons p q=>SelD p.cst q.cst p.Den q.Den
  |_=>Unit
def mkD:(x y:Bool)→{A B:Type}→A→B→SelD x y A B
 |true,true,_,_,_,_=>()
 |true,false,_,_,_,b=>b
 |false,true,_,_,a,_=>a
 |false,false,_,_,a,b=>(a,b)
def Pat.dflt:(p:Pat)→p.Den
 |.i _=>(0:Int)
 |.b=>false
 |.s=>([]:List UInt8)
 |.sl _=>[]
 |.own _ _=>[]
 |.ptrI _ _=>(0:Nat)
 |.agg p|.tup p|.fn _ p|.ro p=>p.dflt
 |.cons p q=>mkD p.cst q.cst p.dflt q.dflt
 |.ptr _ _|.ar _|.nilp|.u|.nil|.nop|.sc _=>()
def fstD:(x y:Bool)→{A B:Type}→A→SelD x y A B→A
 |true,true,_,_,a,_=>a
 |true,false,_,_,a,_=>a
 |false,true,_,_,_,x=>x
 |false,false,_,_,_,x=>x.1
def sndD:(x y:Bool)→{A B:Type}→B→SelD x y A B→B
 |true,true,_,_,b,_=>b
 |true,false,_,_,_,x=>x
 |false,true,_,_,b,_=>b
 |false,false,_,_,_,x=>x.2
def encP:(p:Pat)→p.Den→List V
 |.i k,n=>[.i k n]
 |.b,x=>[.b x]
 |.s,x=>[.s x]
 |.sl t,l=>[.sl t l]
 |.own t d,l=>[.own t d l]
 |.ptr o off,_=>[.p o 0 off]
 |.ptrI o off,i=>[.p o i off]
 |.ar o,_=>[.ar o]
 |.nilp,_=>[.nilp]
 |.u,_=>[.u]
 |.nil,_=>[.nil]
 |.sc x,_=>[.s x]
 |.agg p,x=>[.agg (encP p x)]
 |.tup p,x=>[.tup (encP p x)]
 |.fn f p,x=>[.fn f (encP p x)]
 |.ro p,x=>[.ro (encP p x)]
 |.nop,_=>[]
 |.cons p q,x=>encP p (fstD p.cst q.cst p.dflt x)++encP q (sndD p.cst q.cst q.dflt x)
section
variable {R:Type}
def endT (l:List V)(K:Option R):Option R:=match l with | []=>K|_::_=>none
def decP (z:Bool):(p:Pat)→List V→(p.Den→List V→Option R)→Option R
 | .i k,vs,K=>match vs with
   |.i k' n::r=>chkO (eqK k k') (K n r)
   |_=>none
 | .b,vs,K=>match vs with
   |.b x::r=>K x r
   |_=>none
 | .s,vs,K=>match vs with
   |.s x::r=>K x r
   |_=>none
 | .sl t,vs,K=>match vs with
   | .sl t' l::r=>(match hs:t.same t' with
     |true=>K (zEj hs l) r
     |false=>none)
   |.nil::r=>chkO z (K [] r)
   |_=>none
 | .own t d,vs,K=>match vs with
   | .own t' d' l::r=>(match hs:t.same t' with
     |true=>chkO (d==d'||t.flat) (K (zEj hs l) r)
     |false=>none)
   |.emp t'::r=>chkO (t.same t') (K [] r)
   |.nil::r=>chkO z (K [] r)
   |_=>none
 | .ptr o off,vs,K=>match vs with
   | .p o' i off'::r=>(match i with
     |0=>chkO (o==o'&&off==off') (K () r)
     |_+1=>none)
   |_=>none
 | .ptrI o off,vs,K=>match vs with
   |.p o' i off'::r=>chkO (o==o'&&off==off') (K i r)
   |_=>none
 | .ar o,vs,K=>match vs with
   |.ar o'::r=>chkO (o==o') (K () r)
   |_=>none
 | .nilp,vs,K=>match vs with
   |.nilp::r=>K () r
   |_=>none
 | .nil,vs,K=>match vs with
   |.nil::r=>K () r
   |_=>none
 | .u,vs,K=>match vs with
   |_::r=>chkO z (K () r)
   |_=>none
 | .sc x,vs,K=>match vs with
   |.s y::r=>chkO (decide (y=x)) (K () r)
   |_=>none
 | .agg p,vs,K=>match vs with
   |.agg cs::r=>decP z p cs fun x q=>endT q (K x r)
   |_=>none
 | .tup p,vs,K=>match vs with
   |.tup cs::r=>decP z p cs fun x q=>endT q (K x r)
   |_=>none
 | .fn f p,vs,K=>match vs with
   |.fn f' cs::r=>chkO (f==f') (decP false p cs fun x q=>endT q (K x r))
   |_=>none
 | .ro p,vs,K=>match vs with
   |.ro cs::r=>decP false p cs fun x q=>endT q (K x r)
   |_=>none
 |.nop,vs,K=>K () vs
 |.cons p q,vs,K=>decP z p vs fun x r=>decP z q r fun y r'=>K (mkD p.cst q.cst x y) r'
def zKr:∀{a b c d:List SV},wkL a b→wkL c d→wkL (a++c) (b++d)
 |[],b,c,d,h,h2=>by simp only[wkL]at h;subst h;exact h2
 |x::a,[],c,d,h,h2=>by simp only[wkL]at h
 | x::a,y::b,c,d,h,h2=>by
   simp only[wkL]at h;simp only[zCa,wkL]
   exact⟨h.1,zKr h.2 h2⟩
def zEg {l:List V}{K:Option R}{r:R}(h:endT l K=some r):l=[]∧K=some r:=by
 cases l
 ·exact⟨rfl,h⟩
 ·cases h
def zDG:∀(p:Pat) (x:p.Den),p.cst=true→encP p x=encP p p.dflt
 |.i _,_,h|.b,_,h|.s,_,h|.sl _,_,h|.own _ _,_,h|.ptrI _ _,_,h=>by cases h
 |.ptr _ _,_,_|.ar _,_,_|.nilp,_,_|.u,_,_|.nil,_,_|.nop,_,_|.sc _,_,_=>rfl
 |.agg p,x,h=>by simp only[encP,Pat.dflt,zDG p x h]
 |.tup p,x,h=>by simp only[encP,Pat.dflt,zDG p x h]
 |.fn f p,x,h=>by simp only[encP,Pat.dflt,zDG p x h]
 |.ro p,x,h=>by simp only[encP,Pat.dflt,zDG p x h]
 | .cons p q,x,h=>by
   simp only[Pat.cst,zBa]at h;simp only[encP]
   rw[zDG p (fstD p.cst q.cst p.dflt x) h.1,zDG q (sndD p.cst q.cst q.dflt x) h.2,zDG p (fstD p.cst q.cst p.dflt (Pat.cons p q).dflt) h.1,zDG q (sndD p.cst q.cst q.dflt (Pat.cons p q).dflt) h.2]
def enc_mk (p q:Pat)(x:p.Den)(y:q.Den):encP (.cons p q) (mkD p.cst q.cst x y)=encP p x++encP q y:=by
 simp only[encP]
 have h1:encP p (fstD p.cst q.cst p.dflt (mkD p.cst q.cst x y))=encP p x:=by
  cases hp:p.cst
  ·have:∀b:Bool,fstD false b p.dflt (mkD false b x y)=x:=fun b=>by cases b<;>rfl
   rw[this]
  ·rw[zDG p _ hp,zDG p x hp]
 have h2:encP q (sndD p.cst q.cst q.dflt (mkD p.cst q.cst x y))=encP q y:=by
  cases hq:q.cst
  ·have:∀b:Bool,sndD b false q.dflt (mkD b false x y)=y:=fun b=>by cases b<;>rfl
   rw[this]
  ·rw[zDG q _ hq,zDG q y hq]
 rw[h1,h2]
def zFk {r:R}:∀(p:Pat) (z:Bool) (vs:List V) (K:p.Den→List V→Option R),decP z p vs K=some r →
  ∃x cs rest,K x rest=some r∧vs=cs++rest∧wkL (eL cs) (eL (encP p x))∧(z=false→eL cs=eL (encP p x))
 | .i k,z,vs,K,h=>by
   unfold decP at h;split at h
   ·obtain⟨h1,h2⟩:=zAF h;simp only[eqK,zDe]at h1;subst h1;exact⟨_,[_],_,h2,rfl,zAo _,fun _=>rfl⟩
   ·cases h
 | .b,z,vs,K,h=>by
   unfold decP at h;split at h
   ·exact⟨_,[_],_,h,rfl,zAo _,fun _=>rfl⟩
   ·cases h
 | .s,z,vs,K,h=>by
   unfold decP at h;split at h
   ·exact⟨_,[_],_,h,rfl,zAo _,fun _=>rfl⟩
   ·cases h
 | .sl t,z,vs,K,h=>by
   unfold decP at h;split at h
   ·rename_i t' l q;split at h
    ·rename_i hs;have he:e (.sl t' l)=e (.sl t (zEj hs l)):=by simp only[e,zBV,zBn hs]
     exact⟨_,[_],_,h,rfl,by simp only[encP,eL,he];exact zAo _,fun _=>by simp only[encP,eL,he]⟩
    ·cases h
   ·obtain⟨h1,h2⟩:=zAF h;exact⟨_,[_],_,h2,rfl,⟨rfl,rfl⟩,fun hz=>by rw[hz]at h1;cases h1⟩
   ·cases h
 | .own t d,z,vs,K,h=>by
   unfold decP at h;split at h
   ·rename_i t' d' l q;split at h
    ·rename_i hs;obtain⟨h1,h2⟩:=zAF h;have hd:d=d'∨t.flat=true:=by simpa using h1
     have he:e (.own t' d' l)=e (.own t d (zEj hs l)):=by simp only[e,zDV hs l hd,zBn hs]
     exact⟨_,[_],_,h2,rfl,by simp only[encP,eL,he];exact zAo _,fun _=>by simp only[encP,eL,he]⟩
    ·cases h
   ·rename_i t' q;obtain⟨h1,h2⟩:=zAF h;have he:e (.emp t')=e (.own t d []):=by simp only[e,List.map_nil,zBn h1]
    exact⟨_,[_],_,h2,rfl,by simp only[encP,eL,he];exact zAo _,fun _=>by simp only[encP,eL,he]⟩
   ·obtain⟨h1,h2⟩:=zAF h;exact⟨_,[_],_,h2,rfl,⟨rfl,rfl⟩,fun hz=>by rw[hz]at h1;cases h1⟩
   ·cases h
 | .ptr o off,z,vs,K,h=>by
   unfold decP at h;split at h
   ·split at h
    ·obtain⟨h1,h2⟩:=zAF h;simp only[zBa,beq_iff_eq]at h1;obtain⟨rfl,rfl⟩:=h1;exact⟨_,[_],_,h2,rfl,zAo _,fun _=>rfl⟩
    ·cases h
   ·cases h
 | .ptrI o off,z,vs,K,h=>by
   unfold decP at h;split at h
   ·obtain⟨h1,h2⟩:=zAF h;simp only[zBa,beq_iff_eq]at h1;obtain⟨rfl,rfl⟩:=h1;exact⟨_,[_],_,h2,rfl,zAo _,fun _=>rfl⟩
   ·cases h
 | .ar o,z,vs,K,h=>by
   unfold decP at h;split at h
   ·obtain⟨h1,h2⟩:=zAF h;have h1:=eq_of_beq h1;subst h1;exact⟨_,[_],_,h2,rfl,zAo _,fun _=>rfl⟩
   ·cases h
 | .nilp,z,vs,K,h=>by
   unfold decP at h;split at h
   ·exact⟨_,[_],_,h,rfl,zAo _,fun _=>rfl⟩
   ·cases h
 | .nil,z,vs,K,h=>by
   unfold decP at h;split at h
   ·exact⟨_,[_],_,h,rfl,zAo _,fun _=>rfl⟩
   ·cases h
 | .u,z,vs,K,h=>by
   unfold decP at h;split at h
   ·obtain⟨h1,h2⟩:=zAF h;exact⟨_,[_],_,h2,rfl,⟨wk_u' _,rfl⟩,fun hz=>by rw[hz]at h1;cases h1⟩
   ·cases h
 | .sc y,z,vs,K,h=>by
   unfold decP at h;split at h
   ·obtain⟨h1,h2⟩:=zAF h;have h1:=of_decide_eq_true h1;subst h1;exact⟨_,[_],_,h2,rfl,zAo _,fun _=>rfl⟩
   ·cases h
 | .agg p,z,vs,K,h=>by
   unfold decP at h;split at h
   ·rename_i cs q;obtain⟨x,c1,rest,h1,h2,h3,h4⟩:=zFk p z cs _ h;obtain⟨rfl,h5⟩:=zEg h1;rw[zAn]at h2;subst h2;exact⟨x,[_],_,h5,rfl,⟨h3,rfl⟩,fun hz=>by simp only[encP,eL,e,h4 hz]⟩
   ·cases h
 | .tup p,z,vs,K,h=>by
   unfold decP at h;split at h
   ·rename_i cs q;obtain⟨x,c1,rest,h1,h2,h3,h4⟩:=zFk p z cs _ h;obtain⟨rfl,h5⟩:=zEg h1;rw[zAn]at h2;subst h2;exact⟨x,[_],_,h5,rfl,⟨h3,rfl⟩,fun hz=>by simp only[encP,eL,e,h4 hz]⟩
   ·cases h
 | .fn f p,z,vs,K,h=>by
   unfold decP at h;split at h
   ·rename_i f' cs q;obtain⟨h0,h9⟩:=zAF h;have h0:=eq_of_beq h0;subst h0;obtain⟨x,c1,rest,h1,h2,h3,h4⟩:=zFk p false cs _ h9;obtain⟨rfl,h5⟩:=zEg h1;rw[zAn]at h2;subst h2;have he:eL [V.fn f cs]=eL (encP (.fn f p) x):=by simp only[encP,eL,e,h4 rfl]
    exact⟨x,[_],_,h5,rfl,by rw[he];exact zAo _,fun _=>he⟩
   ·cases h
 | .ro p,z,vs,K,h=>by
   unfold decP at h;split at h
   ·rename_i cs q;obtain⟨x,c1,rest,h1,h2,h3,h4⟩:=zFk p false cs _ h;obtain⟨rfl,h5⟩:=zEg h1;rw[zAn]at h2;subst h2;have he:eL [V.ro cs]=eL (encP (.ro p) x):=by simp only[encP,eL,e,h4 rfl]
    exact⟨x,[_],_,h5,rfl,by rw[he];exact zAo _,fun _=>he⟩
   ·cases h
 |.nop,z,vs,K,h=>⟨(),[],vs,h,rfl,rfl,fun _=>rfl⟩
 | .cons p q,z,vs,K,h=>by
   unfold decP at h;obtain⟨x,c1,r1,h1,h2,h3,h4⟩:=zFk p z vs _ h;obtain⟨y,c2,r2,h5,h6,h7,h8⟩:=zFk q z r1 _ h1;refine⟨_,c1++c2,r2,h5,by rw[h2,h6,zAa],?_,fun hz=>?_⟩
   ·rw[enc_mk,zBe,zBe];exact zKr h3 h7
   ·rw[enc_mk,zBe,zBe,h4 hz,h8 hz]
end
end Go.TM
end
