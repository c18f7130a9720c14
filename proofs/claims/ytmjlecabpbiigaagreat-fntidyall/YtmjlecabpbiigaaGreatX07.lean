/- Part 8 of the proof of FnTidyAll; no condition. -/
import Derived.Test.YtmjlecabpbiigaaGreatX06
open Option renaming some -> U
open Decidable renaming decide -> aa
open Bool renaming true -> ae
open Bool renaming false -> ag
open Option renaming none -> aj
open Sum renaming inr -> an
open Sum renaming inl -> ao
open List renaming length -> au
open Int renaming toNat -> aw
open List renaming drop -> cU
open List renaming take -> de
set_option autoImplicit true
set_option relaxedAutoImplicit true
set_option linter.all false
section
namespace Go.TM
open Go.AM
inductive GT
 |int (k:IntKind)|byte|bool|str|sl (e:GT)|unit|pair (a b:GT)
@[reducible] def GT.Den:GT->Type
  |.int _=>Int
  |.byte=>UInt8
  |.bool=>Bool
  |.str=>List UInt8
  |.sl e=>List e.Den
  |.unit=>Unit
  |.pair a b=>a.Den×b.Den
def GT.sz:GT->Nat
 |.unit=>0
 |.pair a b=>a.sz+b.sz
 |_=>1
def GT.flat:GT->Bool
 |.sl _=>ag
 |.pair a b=>a.flat&&b.flat
 |_=>ae
def GT.dflt:(t:GT)->t.Den
 |.int _=>(0:Int)
 |.byte=>(0:UInt8)
 |.bool=>ag
 |.str=>([]:List UInt8)
 |.sl _=>[]
 |.unit=>()
 |.pair a b=>(a.dflt,b.dflt)
def dj (a b:IntKind):Bool:=aa (a=b)
def GT.same:GT->GT->Bool
 |.int k,.int k'=>dj k k'
 |.byte,.byte=>ae
 |.bool,.bool=>ae
 |.str,.str=>ae
 |.sl a,.sl b=>a.same b
 |.unit,.unit=>ae
 |.pair a b,.pair c d=>a.same c&&b.same d
 |_,_=>ag
def GT.same_eq:∀{a b:GT},a.same b=ae->a=b
 |.int k,.int k',h=>by simp only[same,dj,aL]at h;rw[h]
 |.byte,.byte,_=>rfl
 |.bool,.bool,_=>rfl
 |.str,.str,_=>rfl
 |.unit,.unit,_=>rfl
 |.sl a,.sl b,h=>by rw[same_eq (a:=a) (b:=b) h]
 | .pair a b,.pair c d,h=>by
   simp only[same,aK]at h;rw[same_eq h.1,same_eq h.2]
def fP {a b:GT}(h:a.same b=ae)(l:List b.Den):List a.Den:=(GT.same_eq h)▸l
def aO (d:Bool):(t:GT)->t.Den->List SV
 |.int k,n=>[.i k n]
 |.byte,c=>[.i .u8 (c:UInt8).toNat]
 |.bool,x=>[.b x]
 |.str,x=>[.s x]
 |.sl e,l=>[match d with|true=>.own e.sz ((l:List e.Den).map (aO d e))|false=>.sl e.sz ((l:List e.Den).map (aO d e))]
 |.unit,_=>[]
 |.pair a b,x=>aO d a x.1++aO d b x.2
inductive V
 |u|sk
 |i (k:IntKind) (n:Int)
 |b (x:Bool)
 |s (x:List UInt8)
 |sl (t:GT) (l:List t.Den)
 |own (t:GT) (d:Bool) (l:List t.Den)
 |emp (t:GT)
 |ar (o:Nat)
 |p (o i off:Nat)
 |ro (cells:List V)
 |nilp|nil
 |fn (f:Nat) (caps:List V)
 |agg (cells:List V)
 |tup (vs:List V)
def cells (d:Bool):(t:GT)->t.Den->List V
 |.int k,n=>[.i k n]
 |.byte,c=>[.i .u8 (c:UInt8).toNat]
 |.bool,x=>[.b x]
 |.str,x=>[.s x]
 |.sl e,l=>[match d with|true=>.own e d l|false=>.sl e l]
 |.unit,_=>[]
 |.pair a b,x=>cells d a x.1++cells d b x.2
mutual
def e:V->SV
 |.u=>.u
 |.sk=>.sk
 |.i k n=>.i k n
 |.b x=>.b x
 |.s x=>.s x
 |.sl t l=>.sl t.sz (l.map (aO ag t))
 |.own t d l=>.own t.sz (l.map (aO d t))
 |.emp t=>.own t.sz []
 |.ar o=>.ar o
 |.p o i off=>.p o i off
 |.ro cs=>.ro (eL cs)
 |.nilp=>.nilp
 |.nil=>.nil
 |.fn f cs=>.fn f (eL cs)
 |.agg cs=>.agg (eL cs)
 |.tup cs=>.tup (eL cs)
def eL:List V->List SV
 |[]=>[]
 |x::l=>e x::eL l
end
def sf:∀l:List V,eL l=l.map e
 |[]=>rfl
 |x::l=>by simp only[eL,bF,sf l]
def ki (a b:List V):eL (a++b)=eL a++eL b:=by simp only[sf,List.map_append]
def cN (l:List V):(eL l).length=l.length:=by simp only[sf,cG]
def np (d:Bool):∀(t:GT) (x:t.Den),eL (cells d t x)=aO d t x
 |.int _,_=>rfl
 |.byte,_=>rfl
 |.bool,_=>rfl
 |.str,_=>rfl
 |.sl _,_=>by cases d<;>rfl
 |.unit,_=>rfl
 |.pair a b,x=>by simp only[cells,aO,ki,np d a,np d b]
def sg (d:Bool):∀(t:GT) (x:t.Den),(aO d t x).length=t.sz
 |.int _,_=>rfl
 |.byte,_=>rfl
 |.bool,_=>rfl
 |.str,_=>rfl
 |.sl _,_=>rfl
 |.unit,_=>rfl
 |.pair a b,x=>by simp only[aO,aP,sg d a,sg d b,GT.sz]
def AF:∀(t:GT) (d d':Bool) (x:t.Den),t.flat=ae->aO d t x=aO d' t x
 |.int _,_,_,_,_=>rfl
 |.byte,_,_,_,_=>rfl
 |.bool,_,_,_,_=>rfl
 |.str,_,_,_,_=>rfl
 |.sl _,_,_,_,h=>by cases h
 |.unit,_,_,_,_=>rfl
 | .pair a b,d,d',x,h=>by
   simp only[GT.flat,aK]at h;simp only[aO,AF a d d' _ h.1,AF b d d' _ h.2]
def NI {t:GT}(d d':Bool)(l:List t.Den)(h:t.flat=ae):l.map (aO d t)=l.map (aO d' t) :=
 List.map_congr_left fun x _=>AF t d d' x h
inductive DM
 |all (d:Bool)
 |spl
def DM.b:DM->Bool
 |.all d=>d
 |.spl=>ae
def cn:DM->(t:GT)->Nat->List t.Den->List (List SV)
 |.all d,t,_,l=>l.map (aO d t)
 |.spl,t,i,l=>(l.take i).map (aO ae t)++(l.drop i).map (aO ag t)
def sh (d:DM)(t:GT)(i:Nat)(l:List t.Den):(cn d t i l).length=l.length:=by
 cases d<;>simp[cn];omega
inductive TO
 |box (n:Nat) (cs:List V)
 |arr (n:Nat) (t:GT) (d:Bool) (l:List t.Den)
 |opn (n:Nat) (t:GT) (d:DM) (l:List t.Den) (i:Nat) (cs:List V)
 |spl (n:Nat) (t:GT) (l:List t.Den) (k:Nat)
structure TS where
 n:Nat
 al:List (Nat×V)
 ob:List TO
def TO.name:TO->Nat
 |.box n _=>n
 |.arr n _ _ _=>n
 |.opn n _ _ _ _ _=>n
 |.spl n _ _ _=>n
def eO:TO->Ob
 |.box n cs=>⟨n,cs.length,[eL cs],ae⟩
 |.arr n t d l=>⟨n,t.sz,l.map (aO d t),ag⟩
 |.opn n t d l i cs=>⟨n,t.sz,(cn d t i l).set i (eL cs),ae⟩
 |.spl n t l k=>⟨n,t.sz,cn .spl t k l,ag⟩
def bo:List TO->List Ob
 |[]=>[]
 |x::l=>eO x::bo l
def eA:List (Nat×V)->List (Nat×SV)
 |[]=>[]
 |p::l=>(p.1,e p.2)::eA l
def eS (s:TS):St:=⟨gm s.n (eA s.al),bo s.ob⟩
def vw:List (Nat×V)->Nat->V
 |[],_=>.u
 |p::l,t=>bif p.1==t then p.2 else vw l t
def dE:List V->Nat->V
 |[],_=>.u
 |x::_,0=>x
 |_::l,n+1=>dE l n
def nq:List V->Nat->V->List V
 |[],_,_=>[]
 |_::l,0,v=>v::l
 |x::l,n+1,v=>x::nq l n v
def vz:List V->List V->List V
 |[],row=>row
 |_::_,[]=>[]
 |c::cs,_::row=>c::vz cs row
def bz:List V->Nat->List V->List V
 |row,0,cs=>vz cs row
 |[],_+1,_=>[]
 |x::row,n+1,cs=>x::bz row n cs
mutual
def eJ:V->Bool
 |.own _ _ _=>ae
 |.emp _=>ae
 |.agg cs=>ml cs
 |.tup cs=>ml cs
 |_=>ag
def ml:List V->Bool
 |[]=>ag
 |x::l=>eJ x||ml l
end
def Gy:V->Bool
 |.i _ _|.b _|.s _|.sl _ _|.own _ _ _|.emp _|.nil=>ae
 |_=>ag
def si:List V->Bool
 |[]=>ae
 |x::l=>Gy x&&si l
def Gz:V->Bool
 |.u|.sk|.agg _|.tup _=>ag
 |_=>ae
def lD:List V->Bool
 |[]=>ae
 |x::l=>Gz x&&lD l
mutual
def mm (o:Nat):V->V
 |.ar n=>bif n==o then .u else .ar n
 |.p n i off=>bif n==o then .u else .p n i off
 |.fn f caps=>.fn f (ju o caps)
 |.agg cs=>.agg (ju o cs)
 |.tup cs=>.tup (ju o cs)
 |.u=>.u
 |.sk=>.sk
 |.i k n=>.i k n
 |.b x=>.b x
 |.s x=>.s x
 |.sl t r=>.sl t r
 |.own t d r=>.own t d r
 |.emp t=>.emp t
 |.ro c=>.ro c
 |.nilp=>.nilp
 |.nil=>.nil
def ju (o:Nat):List V->List V
 |[]=>[]
 |x::l=>mm o x::ju o l
end
def sj (o:Nat):List (Nat×V)->List (Nat×V)
 |[]=>[]
 |p::l=>(p.1,mm o p.2)::sj o l
def oJ (o:Nat):List TO->List TO
 |[]=>[]
 |x::l=>bif x.name==o then oJ o l else(match x with|.box n cs=>.box n (ju o cs)|.arr n t d l=>.arr n t d l|.opn n t d l i cs=>.opn n t d l i (ju o cs)|.spl n t l k=>.spl n t l k)::oJ o l
def kj (o:Nat)(s:TS):TS:=⟨s.n,sj o s.al,oJ o s.ob⟩
def bb:List TO->Nat->Option TO
 |[],_=>aj
 |x::l,o=>bif x.name==o then U x else bb l o
def du:List TO->Nat->List V->List TO
 |[],_,_=>[]
 |x::l,o,cs=>bif x.name==o then .box x.name cs::l else x::du l o cs
def sn (t:GT)(d:Bool):List TO->Nat->List t.Den->List TO
 |[],_,_=>[]
 |x::l,o,r=>bif x.name==o then .arr x.name t d r::l else x::sn t d l o r
def dF:List TO->Nat->List V->List TO
 |[],_,_=>[]
 |x::l,o,cs=>bif x.name==o then(match x with|.opn n t d r i _=>.opn n t d r i cs|y=>y)::l else x::dF l o cs
def dk (s:TS)(t:Nat)(v:V):TS:=⟨s.n,(t,v)::s.al,s.ob⟩
def bB (s:TS)(d:Option Tmp)(v:V):TS:=match d with|some t=>dk s t v|none=>s
def dP (s:TS)(o:Nat)(x:TO):TS:=⟨s.n,sj o s.al,x::oJ o s.ob⟩
def AG:Value->V
 |.int k n=>.i k n
 |.bool b=>.b b
 |.string s=>.s s.data.toList
 |.slice aj 0 0=>.nil
 |.pointer aj=>.nilp
 |_=>.u
def cQ (s:TS)(t:Nat):V:=match Nat.blt t s.n with
 |true=>vw s.al t
 |false=>.u
def bp (s:TS):Operand->V
 |.tmp t=>cQ s t
 |.const v=>AG v
 |.global _=>.u
 |.func f=>.fn f []
def cY (s:TS)(x:Operand):TS:=match x with
 | .tmp t=>match eJ (cQ s t)with
   |true=>dk s t .u
   |false=>s
 |_=>s
def oK (s:TS):List Operand->TS
 |[]=>s
 |x::l=>oK (cY s x) l
def lE (s:TS):List Operand->List V
 |[]=>[]
 |x::l=>bp s x::lE (cY s x) l
def eU:V->List V
 |.agg cs=>cs
 |v=>[v]
section
variable {s:TS}
def AH:∀(al:List (Nat×V)) (t:Nat),e (vw al t)=AM.look (eA al) t
 |[],_=>rfl
 | p::l,t=>by
   simp only[vw,eA,AM.look]
   cases p.1==t
   ·exact AH l t
   ·rfl
def jv:∀(l:List V) (n:Nat),e (dE l n)=bx (eL l) n
 |[],_=>rfl
 |_::_,0=>rfl
 |_::l,n+1=>jv l n
def AI:∀(l:List V) (n:Nat) (v:V),eL (nq l n v)=cI (eL l) n (e v)
 |[],_,_=>rfl
 |_::_,0,_=>rfl
 |x::l,n+1,v=>by simp only[nq,eL,cI,AI l n v]
def GA:∀(cs row:List V),eL (vz cs row)=lY (eL cs) (eL row)
 |[],_=>rfl
 |_::_,[]=>rfl
 |c::cs,_::row=>by simp only[vz,eL,lY,GA cs row]
def g9:∀(row:List V) (n:Nat) (cs:List V),eL (bz row n cs)=wr (eL row) n (eL cs)
 |row,0,cs=>by cases row<;>simp only[bz,wr,GA,eL]
 |[],_+1,_=>rfl
 |x::row,n+1,cs=>by simp only[bz,eL,wr,g9 row n cs]
def oL (row:List V)(n:Nat)(cs:List V)(h:n+cs.length<=row.length):(bz row n cs).length=row.length:=by
 rw[<-cN,g9,Af _ _ _ (by simpa only[cN]using h),cN]
mutual
def iB:∀v:V,cu (e v)=eJ v
 |.u|.sk|.i _ _|.b _|.s _|.sl _ _|.own _ _ _|.emp _|.ar _|.p _ _ _|.ro _|.nilp|.nil|.fn _ _=>rfl
 |.agg cs=>oM cs
 |.tup cs=>oM cs
def oM:∀l:List V,eF (eL l)=ml l
 |[]=>rfl
 |x::l=>by simp only[eL,eF,ml,iB x,oM l]
end
def NJ (v:V):plain (e v)=Gy v:=by cases v<;>rfl
def AJ:∀l:List V,fu (eL l)=si l
 |[]=>rfl
 |x::l=>by simp only[eL,fu,si,NJ x,AJ l]
def NK (v:V):cell1 (e v)=Gz v:=by cases v<;>rfl
def nr:∀l:List V,fG (eL l)=lD l
 |[]=>rfl
 |x::l=>by simp only[eL,fG,lD,NK x,nr l]
mutual
def AK (o:Nat):∀v:V,kill o (e v)=e (mm o v)
 |.u|.sk|.i _ _|.b _|.s _|.sl _ _|.own _ _ _|.emp _|.ro _|.nilp|.nil=>rfl
 |.ar n=>by simp only[e,kill,mm];by_cases h:n=o<;>simp[h,e,(show(n==o)=aa (n=o)from rfl)]
 |.p n i off=>by simp only[e,kill,mm];by_cases h:n=o<;>simp[h,e,(show(n==o)=aa (n=o)from rfl)]
 |.fn f cs=>by simp only[e,kill,mm,mn o cs]
 |.agg cs=>by simp only[e,kill,mm,mn o cs]
 |.tup cs=>by simp only[e,kill,mm,mn o cs]
def mn (o:Nat):∀l:List V,di o (eL l)=eL (ju o l)
 |[]=>rfl
 |x::l=>by simp only[eL,di,ju,AK o x,mn o l]
end
def GB (o:Nat)(l:List V):(ju o l).length=l.length:=by rw[<-cN,<-mn,iy,cN]
def AL (o:Nat):∀al:List (Nat×V),qa o (eA al)=eA (sj o al)
 |[]=>rfl
 |p::l=>by simp only[eA,qa,sj,AK,AL o l]
def kP (x:TO):(eO x).name=x.name:=by cases x<;>rfl
mutual
def NL (o:Nat):∀v:SV,plain v=ae->kill o v=v
 |.i _ _,_=>rfl
 |.b _,_=>rfl
 |.s _,_=>rfl
 |.sl _ _,_=>rfl
 |.own _ _,_=>rfl
 |.nil,_=>rfl
 |.u,_=>rfl
 |.sk,_=>rfl
 |.nilp,_=>rfl
 |.ar _,h=>by simp[plain]at h
 |.p _ _ _,h=>by simp[plain]at h
 |.ro _,h=>by simp[plain]at h
 |.fn _ _,h=>by simp[plain]at h
 |.agg _,h=>by simp[plain]at h
 |.tup _,h=>by simp[plain]at h
end
def GC (o:Nat):∀l:List SV,fu l=ae->di o l=l
 |[],_=>rfl
 | x::l,h=>by
   simp only[fu,aK]at h;simp only[di,NL o x h.1,GC o l h.2]
def GD:∀a b:List SV,fu (a++b)=(fu a&&fu b)
 |[],_=>rfl
 |x::a,b=>by simp only[cF,fu,GD a b,Bool.and_assoc]
def qe:∀(t:GT) (d:Bool) (x:t.Den),fu (aO d t x)=ae
 |.int _,_,_=>rfl
 |.byte,_,_=>rfl
 |.bool,_,_=>rfl
 |.str,_,_=>rfl
 |.sl _,d,_=>by cases d<;>rfl
 |.unit,_,_=>rfl
 |.pair a b,d,x=>by simp only[aO,GD,qe a d x.1,qe b d x.2,ba]
def AN (o:Nat)(t:GT)(d:Bool):∀l:List t.Den,fH o (l.map (aO d t))=l.map (aO d t)
 |[]=>rfl
 |x::l=>by simp only[bF,fH,GC o _ (qe t d x),AN o t d l]
def GE (o:Nat):∀a b:List (List SV),fH o (a++b)=fH o a++fH o b
 |[],_=>rfl
 |x::l,b=>by simp only[cF,fH,GE o l b]
def NM (o:Nat)(d:DM)(t:GT)(i:Nat)(l:List t.Den):fH o (cn d t i l)=cn d t i l:=by
 cases d with
 |all d=>exact AN o t d l
 |spl=>simp only[cn,GE,AN]
def GF (o:Nat):∀(rows:List (List SV)) (i:Nat) (r:List SV),fH o (rows.set i r)=(fH o rows).set i (di o r)
 |[],i,r=>rfl
 |x::l,0,r=>rfl
 |x::l,i+1,r=>by simp only[List.set_cons_succ,fH,GF o l i r]
def qf (o:Nat):∀l:List TO,gg o (bo l)=bo (oJ o l)
 |[]=>rfl
 | x::l=>by
   simp only[bo,gg,oJ,kP]
   by_cases h:x.name=o
   ·simp only[h,if_true,beq_self_eq_true,cond_true,qf o l]
   ·have h':(x.name==o)=ag:=by simpa using h
    simp only[h,if_false,h',cond_false,bo,qf o l]
    cases x with
    |box n cs=>simp only[eO,if_true,fH,mn,GB,TO.name]
    |arr n t d l=>simp only[eO,cV,if_false,TO.name]
    |opn n t d l i cs=>simp only[eO,if_true,TO.name,GF,NM,mn]
    |spl n t l k=>simp only[eO,cV,if_false,TO.name]
def kQ:∀(l:List TO) (o:Nat),bu (bo l) o=(bb l o).map eO
 |[],_=>rfl
 | x::l,o=>by
   simp only[bo,bu,bb,kP]
   by_cases h:x.name=o
   ·simp[h]
   ·have h':(x.name==o)=ag:=by simpa using h
    simp only[h,if_false,h',cond_false,kQ l o]
def GG {o:Nat}:∀(l:List TO) {n:Nat} {cs cs':List V},bb l o=U (.box n cs)->cs'.length=cs.length->dz (bo l) o ([eL cs].set 0 (eL cs'))=bo (du l o cs')
 |[],_,_,_,h,_=>by cases h
 | x::l,n,cs,cs',h,hl=>by
   simp only[bo,dz,du,kP]
   simp only[bb]at h;by_cases hx:x.name=o
   ·have h':(x.name==o)=ae:=by simpa using hx
    rw[h',cond_true]at h;simp only[aF]at h;subst h;simp only[TO.name]at hx;simp only[hx,if_true,cond_true,bo,eO,TO.name,List.set_cons_zero,hl,beq_self_eq_true]
   ·have h':(x.name==o)=ag:=by simpa using hx
    rw[h',cond_false]at h;simp only[hx,if_false,h',cond_false,bo,GG l h hl]
def GH {o:Nat}{t:GT}{d:Bool}:∀(l:List TO) {n:Nat} {r r':List t.Den},bb l o=U (.arr n t d r)->dz (bo l) o (r'.map (aO d t))=bo (sn t d l o r')
 |[],_,_,_,h=>by cases h
 | x::l,n,r,r',h=>by
   simp only[bo,dz,sn,kP]
   simp only[bb]at h;by_cases hx:x.name=o
   ·have h':(x.name==o)=ae:=by simpa using hx
    rw[h',cond_true]at h;simp only[aF]at h;subst h;simp only[TO.name]at hx;simp only[hx,if_true,beq_self_eq_true,cond_true,bo,eO,TO.name]
   ·have h':(x.name==o)=ag:=by simpa using hx
    rw[h',cond_false]at h;simp only[hx,if_false,h',cond_false,bo,GH l h]
def GI {o:Nat}{t:GT}{d:DM}{r:List t.Den}{i:Nat}:∀(l:List TO) {n:Nat} {cs cs':List V},bb l o=U (.opn n t d r i cs)->dz (bo l) o (((cn d t i r).set i (eL cs)).set i (eL cs'))=bo (dF l o cs')
 |[],_,_,_,h=>by cases h
 | x::l,n,cs,cs',h=>by
   simp only[bo,dz,dF,kP]
   simp only[bb]at h;by_cases hx:x.name=o
   ·have h':(x.name==o)=ae:=by simpa using hx
    rw[h',cond_true]at h;simp only[aF]at h;subst h;simp only[TO.name]at hx;simp only[hx,if_true,beq_self_eq_true,cond_true,bo,eO,TO.name,List.set_set]
   ·have h':(x.name==o)=ag:=by simpa using hx
    rw[h',cond_false]at h;simp only[hx,if_false,h',cond_false,bo,GI l h]
def fJ (t:Nat)(v:V):b_ (eS s) t (e v)=eS (dk s t v):=by
 simp only[b_,eS,dk,eA,Nr]
def bP (d:Option Tmp)(v:V):aZ (eS s) d (e v)=eS (bB s d v):=by
 cases d with
 |none=>rfl
 |some t=>exact fJ t v
def nt (o:Nat)(x:TO)(ho:x.name=o):addOb (eS s) o (eO x).k (eO x).rows (eO x).nm=eS (dP s o x):=by
 simp only[addOb,eS,dP,FX,AL,qf,bo,St.mk.injEq,List.cons.injEq,and_true,true_and]
 cases x<;>simp only[TO.name]at ho<;>subst ho<;>rfl
def qg (o:Nat):killSt o (eS s)=eS (kj o s):=by
 simp only[killSt,eS,kj,FX,AL,qf]
def NN {n t:Nat}{al:List (Nat×SV)}(h:n<=t):bx (gm n al) t = .u:=m_ _ _ (by simpa[gm]using h)
def i6 (t:Nat):bx (eS s).env t=e (cQ s t):=by
 unfold cQ eS;cases h:Nat.blt t s.n with
 | true=>
   have:t<s.n:=Nat.le_of_ble_eq_true h;rw[Nq this,AH]
 | false=>
   have:¬t<s.n:=fun hl=>by rw[Nat.ble_eq_true_of_le (show t+1<=s.n from hl) |> (show Nat.blt t s.n=ae from ·)]at h;cases h
   rw[NN (by omega)];rfl
def NO (v:Value):e (AG v)=zCe v:=by
 unfold AG;split<;>first|rfl|(unfold zCe;split<;>simp_all [e])
def bV:∀x:Operand,AM.ev (eS s).env x=e (bp s x)
 |.tmp t=>i6 t
 |.const v=>(NO v).symm
 |.global _=>rfl
 |.func f=>rfl
def jT (x:Operand):dA (eS s) x=eS (cY s x):=by
 cases x with
 | tmp t=>
   simp only[dA,cY]
   rw[i6,iB];cases eJ (cQ s t)
   ·rfl
   ·exact fJ t .u
 |_=>rfl
def vA:∀(l:List Operand) {s:TS},j9 (eS s) l=eS (oK s l)
 |[],_=>rfl
 |x::l,s=>by simp only[j9,oK,jT,vA l]
def vB:∀(l:List Operand) {s:TS},gG (eS s) l=eL (lE s l)
 |[],_=>rfl
 |x::l,s=>by simp only[gG,lE,eL,jT,bV,vB l]
def nu (v:V):cellsOf (e v)=eL (eU v):=by cases v<;>rfl
end
end Go.TM
end
