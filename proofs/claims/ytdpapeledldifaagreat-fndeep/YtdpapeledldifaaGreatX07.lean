/- Part 8 of the proof of FnDeep; no condition. -/
import Derived.Test.YtdpapeledldifaaGreatX06
open Option renaming some -> U
open Decidable renaming decide -> aa
open Bool renaming true -> ad
open Bool renaming false -> ag
open Option renaming none -> aj
open Sum renaming inl -> an
open Sum renaming inr -> ao
open List renaming length -> au
open Int renaming toNat -> aH
open List renaming drop -> kZ
open List renaming take -> nY
set_option autoImplicit true
set_option relaxedAutoImplicit true
set_option linter.all false
section
namespace Go.TM
open Go.AM
inductive GT
 |int (k:IntKind)|byte|bool|str|sl (e:GT)|unit|pair (a b:GT)
@[reducible] def GT.Den:GT->Type
  |.int _=>Int
  |.byte=>UInt8
  |.bool=>Bool
  |.str=>List UInt8
  |.sl e=>List e.Den
  |.unit=>Unit
  |.pair a b=>a.Den×b.Den
def GT.sz:GT->Nat
 |.unit=>0
 |.pair a b=>a.sz+b.sz
 |_=>1
def GT.flat:GT->Bool
 |.sl _=>ag
 |.pair a b=>a.flat&&b.flat
 |_=>ad
def GT.dflt:(t:GT)->t.Den
 |.int _=>(0:Int)
 |.byte=>(0:UInt8)
 |.bool=>ag
 |.str=>([]:List UInt8)
 |.sl _=>[]
 |.unit=>()
 |.pair a b=>(a.dflt,b.dflt)
def c9 (a b:IntKind):Bool:=aa (a=b)
def GT.same:GT->GT->Bool
 |.int k,.int k'=>c9 k k'
 |.byte,.byte=>ad
 |.bool,.bool=>ad
 |.str,.str=>ad
 |.sl a,.sl b=>a.same b
 |.unit,.unit=>ad
 |.pair a b,.pair c d=>a.same c&&b.same d
 |_,_=>ag
def GT.same_eq:∀{a b:GT},a.same b=ad->a=b
 |.int k,.int k',h=>by simp only[same,c9,aI]at h;rw[h]
 |.byte,.byte,_=>rfl
 |.bool,.bool,_=>rfl
 |.str,.str,_=>rfl
 |.unit,.unit,_=>rfl
 |.sl a,.sl b,h=>by rw[same_eq (a:=a) (b:=b) h]
 | .pair a b,.pair c d,h=>by
   simp only[same,aG]at h;rw[same_eq h.1,same_eq h.2]
def fC {a b:GT}(h:a.same b=ad)(l:List b.Den):List a.Den:=(GT.same_eq h)▸l
def aM (d:Bool):(t:GT)->t.Den->List SV
 |.int k,n=>[.i k n]
 |.byte,c=>[.i .u8 (c:UInt8).toNat]
 |.bool,x=>[.b x]
 |.str,x=>[.s x]
 |.sl e,l=>[match d with|true=>.own e.sz ((l:List e.Den).map (aM d e))|false=>.sl e.sz ((l:List e.Den).map (aM d e))]
 |.unit,_=>[]
 |.pair a b,x=>aM d a x.1++aM d b x.2
inductive V
 |u|sk
 |i (k:IntKind) (n:Int)
 |b (x:Bool)
 |s (x:List UInt8)
 |sl (t:GT) (l:List t.Den)
 |own (t:GT) (d:Bool) (l:List t.Den)
 |emp (t:GT)
 |ar (o:Nat)
 |p (o i off:Nat)
 |ro (cells:List V)
 |nilp|nil
 |fn (f:Nat) (caps:List V)
 |agg (cells:List V)
 |tup (vs:List V)
def cells (d:Bool):(t:GT)->t.Den->List V
 |.int k,n=>[.i k n]
 |.byte,c=>[.i .u8 (c:UInt8).toNat]
 |.bool,x=>[.b x]
 |.str,x=>[.s x]
 |.sl e,l=>[match d with|true=>.own e d l|false=>.sl e l]
 |.unit,_=>[]
 |.pair a b,x=>cells d a x.1++cells d b x.2
mutual
def e:V->SV
 |.u=>.u
 |.sk=>.sk
 |.i k n=>.i k n
 |.b x=>.b x
 |.s x=>.s x
 |.sl t l=>.sl t.sz (l.map (aM ag t))
 |.own t d l=>.own t.sz (l.map (aM d t))
 |.emp t=>.own t.sz []
 |.ar o=>.ar o
 |.p o i off=>.p o i off
 |.ro cs=>.ro (eL cs)
 |.nilp=>.nilp
 |.nil=>.nil
 |.fn f cs=>.fn f (eL cs)
 |.agg cs=>.agg (eL cs)
 |.tup cs=>.tup (eL cs)
def eL:List V->List SV
 |[]=>[]
 |x::l=>e x::eL l
end
def rQ:∀l:List V,eL l=l.map e
 |[]=>rfl
 |x::l=>by simp only[eL,bL,rQ l]
def j6 (a b:List V):eL (a++b)=eL a++eL b:=by simp only[rQ,List.map_append]
def cF (l:List V):(eL l).length=l.length:=by simp only[rQ,dG]
def nc (d:Bool):∀(t:GT) (x:t.Den),eL (cells d t x)=aM d t x
 |.int _,_=>rfl
 |.byte,_=>rfl
 |.bool,_=>rfl
 |.str,_=>rfl
 |.sl _,_=>by cases d<;>rfl
 |.unit,_=>rfl
 |.pair a b,x=>by simp only[cells,aM,j6,nc d a,nc d b]
def rR (d:Bool):∀(t:GT) (x:t.Den),(aM d t x).length=t.sz
 |.int _,_=>rfl
 |.byte,_=>rfl
 |.bool,_=>rfl
 |.str,_=>rfl
 |.sl _,_=>rfl
 |.unit,_=>rfl
 |.pair a b,x=>by simp only[aM,aR,rR d a,rR d b,GT.sz]
def zZ:∀(t:GT) (d d':Bool) (x:t.Den),t.flat=ad->aM d t x=aM d' t x
 |.int _,_,_,_,_=>rfl
 |.byte,_,_,_,_=>rfl
 |.bool,_,_,_,_=>rfl
 |.str,_,_,_,_=>rfl
 |.sl _,_,_,_,h=>by cases h
 |.unit,_,_,_,_=>rfl
 | .pair a b,d,d',x,h=>by
   simp only[GT.flat,aG]at h;simp only[aM,zZ a d d' _ h.1,zZ b d d' _ h.2]
def MO {t:GT}(d d':Bool)(l:List t.Den)(h:t.flat=ad):l.map (aM d t)=l.map (aM d' t) :=
 List.map_congr_left fun x _=>zZ t d d' x h
inductive DM
 |all (d:Bool)
 |spl
def DM.b:DM->Bool
 |.all d=>d
 |.spl=>ad
def cp:DM->(t:GT)->Nat->List t.Den->List (List SV)
 |.all d,t,_,l=>l.map (aM d t)
 |.spl,t,i,l=>(l.take i).map (aM ad t)++(l.drop i).map (aM ag t)
def rS (d:DM)(t:GT)(i:Nat)(l:List t.Den):(cp d t i l).length=l.length:=by
 cases d<;>simp[cp];omega
inductive TO
 |box (n:Nat) (cs:List V)
 |arr (n:Nat) (t:GT) (d:Bool) (l:List t.Den)
 |opn (n:Nat) (t:GT) (d:DM) (l:List t.Den) (i:Nat) (cs:List V)
 |spl (n:Nat) (t:GT) (l:List t.Den) (k:Nat)
structure TS where
 n:Nat
 al:List (Nat×V)
 ob:List TO
def TO.name:TO->Nat
 |.box n _=>n
 |.arr n _ _ _=>n
 |.opn n _ _ _ _ _=>n
 |.spl n _ _ _=>n
def eO:TO->Ob
 |.box n cs=>⟨n,cs.length,[eL cs],ad⟩
 |.arr n t d l=>⟨n,t.sz,l.map (aM d t),ag⟩
 |.opn n t d l i cs=>⟨n,t.sz,(cp d t i l).set i (eL cs),ad⟩
 |.spl n t l k=>⟨n,t.sz,cp .spl t k l,ag⟩
def bo:List TO->List Ob
 |[]=>[]
 |x::l=>eO x::bo l
def eA:List (Nat×V)->List (Nat×SV)
 |[]=>[]
 |p::l=>(p.1,e p.2)::eA l
def eS (s:TS):St:=⟨fT s.n (eA s.al),bo s.ob⟩
def u9:List (Nat×V)->Nat->V
 |[],_=>.u
 |p::l,t=>bif p.1==t then p.2 else u9 l t
def du:List V->Nat->V
 |[],_=>.u
 |x::_,0=>x
 |_::l,n+1=>du l n
def nd:List V->Nat->V->List V
 |[],_,_=>[]
 |_::l,0,v=>v::l
 |x::l,n+1,v=>x::nd l n v
def u_:List V->List V->List V
 |[],row=>row
 |_::_,[]=>[]
 |c::cs,_::row=>c::u_ cs row
def bA:List V->Nat->List V->List V
 |row,0,cs=>u_ cs row
 |[],_+1,_=>[]
 |x::row,n+1,cs=>x::bA row n cs
mutual
def eu:V->Bool
 |.own _ _ _=>ad
 |.emp _=>ad
 |.agg cs=>lX cs
 |.tup cs=>lX cs
 |_=>ag
def lX:List V->Bool
 |[]=>ag
 |x::l=>eu x||lX l
end
def FO:V->Bool
 |.i _ _|.b _|.s _|.sl _ _|.own _ _ _|.emp _|.nil=>ad
 |_=>ag
def rT:List V->Bool
 |[]=>ad
 |x::l=>FO x&&rT l
def FQ:V->Bool
 |.u|.sk|.agg _|.tup _=>ag
 |_=>ad
def lk:List V->Bool
 |[]=>ad
 |x::l=>FQ x&&lk l
mutual
def lY (o:Nat):V->V
 |.ar n=>bif n==o then .u else .ar n
 |.p n i off=>bif n==o then .u else .p n i off
 |.fn f caps=>.fn f (jd o caps)
 |.agg cs=>.agg (jd o cs)
 |.tup cs=>.tup (jd o cs)
 |.u=>.u
 |.sk=>.sk
 |.i k n=>.i k n
 |.b x=>.b x
 |.s x=>.s x
 |.sl t r=>.sl t r
 |.own t d r=>.own t d r
 |.emp t=>.emp t
 |.ro c=>.ro c
 |.nilp=>.nilp
 |.nil=>.nil
def jd (o:Nat):List V->List V
 |[]=>[]
 |x::l=>lY o x::jd o l
end
def rU (o:Nat):List (Nat×V)->List (Nat×V)
 |[]=>[]
 |p::l=>(p.1,lY o p.2)::rU o l
def ot (o:Nat):List TO->List TO
 |[]=>[]
 |x::l=>bif x.name==o then ot o l else(match x with|.box n cs=>.box n (jd o cs)|.arr n t d l=>.arr n t d l|.opn n t d l i cs=>.opn n t d l i (jd o cs)|.spl n t l k=>.spl n t l k)::ot o l
def j7 (o:Nat)(s:TS):TS:=⟨s.n,rU o s.al,ot o s.ob⟩
def ba:List TO->Nat->Option TO
 |[],_=>aj
 |x::l,o=>bif x.name==o then U x else ba l o
def di:List TO->Nat->List V->List TO
 |[],_,_=>[]
 |x::l,o,cs=>bif x.name==o then .box x.name cs::l else x::di l o cs
def rV (t:GT)(d:Bool):List TO->Nat->List t.Den->List TO
 |[],_,_=>[]
 |x::l,o,r=>bif x.name==o then .arr x.name t d r::l else x::rV t d l o r
def dv:List TO->Nat->List V->List TO
 |[],_,_=>[]
 |x::l,o,cs=>bif x.name==o then(match x with|.opn n t d r i _=>.opn n t d r i cs|y=>y)::l else x::dv l o cs
def dT (s:TS)(t:Nat)(v:V):TS:=⟨s.n,(t,v)::s.al,s.ob⟩
def bC (s:TS)(d:Option Tmp)(v:V):TS:=match d with|some t=>dT s t v|none=>s
def dU (s:TS)(o:Nat)(x:TO):TS:=⟨s.n,rU o s.al,x::ot o s.ob⟩
def z8:Value->V
 |.int k n=>.i k n
 |.bool b=>.b b
 |.string s=>.s s.data.toList
 |.slice aj 0 0=>.nil
 |.pointer aj=>.nilp
 |_=>.u
def cT (s:TS)(t:Nat):V:=match Nat.blt t s.n with
 |true=>u9 s.al t
 |false=>.u
def bw (s:TS):Operand->V
 |.tmp t=>cT s t
 |.const v=>z8 v
 |.global _=>.u
 |.func f=>.fn f []
def cU (s:TS)(x:Operand):TS:=match x with
 | .tmp t=>match eu (cT s t)with
   |true=>dT s t .u
   |false=>s
 |_=>s
def ou (s:TS):List Operand->TS
 |[]=>s
 |x::l=>ou (cU s x) l
def ll (s:TS):List Operand->List V
 |[]=>[]
 |x::l=>bw s x::ll (cU s x) l
def eI:V->List V
 |.agg cs=>cs
 |v=>[v]
section
variable {s:TS}
def z9:∀(al:List (Nat×V)) (t:Nat),e (u9 al t)=AM.look (eA al) t
 |[],_=>rfl
 | p::l,t=>by
   simp only[u9,eA,AM.look]
   cases p.1==t
   ·exact z9 l t
   ·rfl
def je:∀(l:List V) (n:Nat),e (du l n)=bB (eL l) n
 |[],_=>rfl
 |_::_,0=>rfl
 |_::l,n+1=>je l n
def z_:∀(l:List V) (n:Nat) (v:V),eL (nd l n v)=cE (eL l) n (e v)
 |[],_,_=>rfl
 |_::_,0,_=>rfl
 |x::l,n+1,v=>by simp only[nd,eL,cE,z_ l n v]
def FR:∀(cs row:List V),eL (u_ cs row)=lM (eL cs) (eL row)
 |[],_=>rfl
 |_::_,[]=>rfl
 |c::cs,_::row=>by simp only[u_,eL,lM,FR cs row]
def gH:∀(row:List V) (n:Nat) (cs:List V),eL (bA row n cs)=wr (eL row) n (eL cs)
 |row,0,cs=>by cases row<;>simp only[bA,wr,FR,eL]
 |[],_+1,_=>rfl
 |x::row,n+1,cs=>by simp only[bA,eL,wr,gH row n cs]
def ov (row:List V)(n:Nat)(cs:List V)(h:n+cs.length<=row.length):(bA row n cs).length=row.length:=by
 rw[<-cF,gH,zA _ _ _ (by simpa only[cF]using h),cF]
mutual
def im:∀v:V,ct (e v)=eu v
 |.u|.sk|.i _ _|.b _|.s _|.sl _ _|.own _ _ _|.emp _|.ar _|.p _ _ _|.ro _|.nilp|.nil|.fn _ _=>rfl
 |.agg cs=>ow cs
 |.tup cs=>ow cs
def ow:∀l:List V,ej (eL l)=lX l
 |[]=>rfl
 |x::l=>by simp only[eL,ej,lX,im x,ow l]
end
def MP (v:V):plain (e v)=FO v:=by cases v<;>rfl
def Aa:∀l:List V,eX (eL l)=rT l
 |[]=>rfl
 |x::l=>by simp only[eL,eX,rT,MP x,Aa l]
def MQ (v:V):cell1 (e v)=FQ v:=by cases v<;>rfl
def nf:∀l:List V,fj (eL l)=lk l
 |[]=>rfl
 |x::l=>by simp only[eL,fj,lk,MQ x,nf l]
mutual
def Ab (o:Nat):∀v:V,kill o (e v)=e (lY o v)
 |.u|.sk|.i _ _|.b _|.s _|.sl _ _|.own _ _ _|.emp _|.ro _|.nilp|.nil=>rfl
 |.ar n=>by simp only[e,kill,lY];by_cases h:n=o<;>simp[h,e,(show(n==o)=aa (n=o)from rfl)]
 |.p n i off=>by simp only[e,kill,lY];by_cases h:n=o<;>simp[h,e,(show(n==o)=aa (n=o)from rfl)]
 |.fn f cs=>by simp only[e,kill,lY,lZ o cs]
 |.agg cs=>by simp only[e,kill,lY,lZ o cs]
 |.tup cs=>by simp only[e,kill,lY,lZ o cs]
def lZ (o:Nat):∀l:List V,cZ o (eL l)=eL (jd o l)
 |[]=>rfl
 |x::l=>by simp only[eL,cZ,jd,Ab o x,lZ o l]
end
def FS (o:Nat)(l:List V):(jd o l).length=l.length:=by rw[<-cF,<-lZ,ij,cF]
def Ac (o:Nat):∀al:List (Nat×V),pU o (eA al)=eA (rU o al)
 |[]=>rfl
 |p::l=>by simp only[eA,pU,rU,Ab,Ac o l]
def kC (x:TO):(eO x).name=x.name:=by cases x<;>rfl
mutual
def MR (o:Nat):∀v:SV,plain v=ad->kill o v=v
 |.i _ _,_=>rfl
 |.b _,_=>rfl
 |.s _,_=>rfl
 |.sl _ _,_=>rfl
 |.own _ _,_=>rfl
 |.nil,_=>rfl
 |.u,_=>rfl
 |.sk,_=>rfl
 |.nilp,_=>rfl
 |.ar _,h=>by simp[plain]at h
 |.p _ _ _,h=>by simp[plain]at h
 |.ro _,h=>by simp[plain]at h
 |.fn _ _,h=>by simp[plain]at h
 |.agg _,h=>by simp[plain]at h
 |.tup _,h=>by simp[plain]at h
end
def FT (o:Nat):∀l:List SV,eX l=ad->cZ o l=l
 |[],_=>rfl
 | x::l,h=>by
   simp only[eX,aG]at h;simp only[cZ,MR o x h.1,FT o l h.2]
def FU:∀a b:List SV,eX (a++b)=(eX a&&eX b)
 |[],_=>rfl
 |x::a,b=>by simp only[cD,eX,FU a b,Bool.and_assoc]
def pY:∀(t:GT) (d:Bool) (x:t.Den),eX (aM d t x)=ad
 |.int _,_,_=>rfl
 |.byte,_,_=>rfl
 |.bool,_,_=>rfl
 |.str,_,_=>rfl
 |.sl _,d,_=>by cases d<;>rfl
 |.unit,_,_=>rfl
 |.pair a b,d,x=>by simp only[aM,FU,pY a d x.1,pY b d x.2,bp]
def Ad (o:Nat)(t:GT)(d:Bool):∀l:List t.Den,fk o (l.map (aM d t))=l.map (aM d t)
 |[]=>rfl
 |x::l=>by simp only[bL,fk,FT o _ (pY t d x),Ad o t d l]
def FV (o:Nat):∀a b:List (List SV),fk o (a++b)=fk o a++fk o b
 |[],_=>rfl
 |x::l,b=>by simp only[cD,fk,FV o l b]
def MS (o:Nat)(d:DM)(t:GT)(i:Nat)(l:List t.Den):fk o (cp d t i l)=cp d t i l:=by
 cases d with
 |all d=>exact Ad o t d l
 |spl=>simp only[cp,FV,Ad]
def FW (o:Nat):∀(rows:List (List SV)) (i:Nat) (r:List SV),fk o (rows.set i r)=(fk o rows).set i (cZ o r)
 |[],i,r=>rfl
 |x::l,0,r=>rfl
 |x::l,i+1,r=>by simp only[List.set_cons_succ,fk,FW o l i r]
def pZ (o:Nat):∀l:List TO,fP o (bo l)=bo (ot o l)
 |[]=>rfl
 | x::l=>by
   simp only[bo,fP,ot,kC]
   by_cases h:x.name=o
   ·simp only[h,if_true,beq_self_eq_true,cond_true,pZ o l]
   ·have h':(x.name==o)=ag:=by simpa using h
    simp only[h,if_false,h',cond_false,bo,pZ o l]
    cases x with
    |box n cs=>simp only[eO,if_true,fk,lZ,FS,TO.name]
    |arr n t d l=>simp only[eO,cS,if_false,TO.name]
    |opn n t d l i cs=>simp only[eO,if_true,TO.name,FW,MS,lZ]
    |spl n t l k=>simp only[eO,cS,if_false,TO.name]
def kD:∀(l:List TO) (o:Nat),bz (bo l) o=(ba l o).map eO
 |[],_=>rfl
 | x::l,o=>by
   simp only[bo,bz,ba,kC]
   by_cases h:x.name=o
   ·simp[h]
   ·have h':(x.name==o)=ag:=by simpa using h
    simp only[h,if_false,h',cond_false,kD l o]
def FX {o:Nat}:∀(l:List TO) {n:Nat} {cs cs':List V},ba l o=U (.box n cs)->cs'.length=cs.length->dn (bo l) o ([eL cs].set 0 (eL cs'))=bo (di l o cs')
 |[],_,_,_,h,_=>by cases h
 | x::l,n,cs,cs',h,hl=>by
   simp only[bo,dn,di,kC]
   simp only[ba]at h;by_cases hx:x.name=o
   ·have h':(x.name==o)=ad:=by simpa using hx
    rw[h',cond_true]at h;simp only[aK]at h;subst h;simp only[TO.name]at hx;simp only[hx,if_true,cond_true,bo,eO,TO.name,List.set_cons_zero,hl,beq_self_eq_true]
   ·have h':(x.name==o)=ag:=by simpa using hx
    rw[h',cond_false]at h;simp only[hx,if_false,h',cond_false,bo,FX l h hl]
def FY {o:Nat}{t:GT}{d:Bool}:∀(l:List TO) {n:Nat} {r r':List t.Den},ba l o=U (.arr n t d r)->dn (bo l) o (r'.map (aM d t))=bo (rV t d l o r')
 |[],_,_,_,h=>by cases h
 | x::l,n,r,r',h=>by
   simp only[bo,dn,rV,kC]
   simp only[ba]at h;by_cases hx:x.name=o
   ·have h':(x.name==o)=ad:=by simpa using hx
    rw[h',cond_true]at h;simp only[aK]at h;subst h;simp only[TO.name]at hx;simp only[hx,if_true,beq_self_eq_true,cond_true,bo,eO,TO.name]
   ·have h':(x.name==o)=ag:=by simpa using hx
    rw[h',cond_false]at h;simp only[hx,if_false,h',cond_false,bo,FY l h]
def FZ {o:Nat}{t:GT}{d:DM}{r:List t.Den}{i:Nat}:∀(l:List TO) {n:Nat} {cs cs':List V},ba l o=U (.opn n t d r i cs)->dn (bo l) o (((cp d t i r).set i (eL cs)).set i (eL cs'))=bo (dv l o cs')
 |[],_,_,_,h=>by cases h
 | x::l,n,cs,cs',h=>by
   simp only[bo,dn,dv,kC]
   simp only[ba]at h;by_cases hx:x.name=o
   ·have h':(x.name==o)=ad:=by simpa using hx
    rw[h',cond_true]at h;simp only[aK]at h;subst h;simp only[TO.name]at hx;simp only[hx,if_true,beq_self_eq_true,cond_true,bo,eO,TO.name,List.set_set]
   ·have h':(x.name==o)=ag:=by simpa using hx
    rw[h',cond_false]at h;simp only[hx,if_false,h',cond_false,bo,FZ l h]
def gI (t:Nat)(v:V):cb (eS s) t (e v)=eS (dT s t v):=by
 simp only[cb,eS,dT,eA,Mz]
def bP (d:Option Tmp)(v:V):aZ (eS s) d (e v)=eS (bC s d v):=by
 cases d with
 |none=>rfl
 |some t=>exact gI t v
def p3 (o:Nat)(x:TO)(ho:x.name=o):addOb (eS s) o (eO x).k (eO x).rows (eO x).nm=eS (dU s o x):=by
 simp only[addOb,eS,dU,Fm,Ac,pZ,bo,St.mk.injEq,List.cons.injEq,and_true,true_and]
 cases x<;>simp only[TO.name]at ho<;>subst ho<;>rfl
def p4 (o:Nat):killSt o (eS s)=eS (j7 o s):=by
 simp only[killSt,eS,j7,Fm,Ac,pZ]
def MT {n t:Nat}{al:List (Nat×SV)}(h:n<=t):bB (fT n al) t = .u:=mU _ _ (by simpa[fT]using h)
def jD (t:Nat):bB (eS s).env t=e (cT s t):=by
 unfold cT eS;cases h:Nat.blt t s.n with
 | true=>
   have:t<s.n:=Nat.le_of_ble_eq_true h;rw[My this,z9]
 | false=>
   have:¬t<s.n:=fun hl=>by rw[Nat.ble_eq_true_of_le (show t+1<=s.n from hl) |> (show Nat.blt t s.n=ad from ·)]at h;cases h
   rw[MT (by omega)];rfl
def MU (v:Value):e (z8 v)=zCU v:=by
 unfold z8;split<;>first|rfl|(unfold zCU;split<;>simp_all [e])
def bW:∀x:Operand,AM.ev (eS s).env x=e (bw s x)
 |.tmp t=>jD t
 |.const v=>(MU v).symm
 |.global _=>rfl
 |.func f=>rfl
def jE (x:Operand):dp (eS s) x=eS (cU s x):=by
 cases x with
 | tmp t=>
   simp only[dp,cU]
   rw[jD,im];cases eu (cT s t)
   ·rfl
   ·exact gI t .u
 |_=>rfl
def va:∀(l:List Operand) {s:TS},jT (eS s) l=eS (ou s l)
 |[],_=>rfl
 |x::l,s=>by simp only[jT,ou,jE,va l]
def vb:∀(l:List Operand) {s:TS},gj (eS s) l=eL (ll s l)
 |[],_=>rfl
 |x::l,s=>by simp only[gj,ll,eL,jE,bW,vb l]
def ng (v:V):cellsOf (e v)=eL (eI v):=by cases v<;>rfl
end
end Go.TM
end
