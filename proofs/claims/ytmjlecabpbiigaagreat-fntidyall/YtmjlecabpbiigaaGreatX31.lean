/- Part 32 of the proof of FnTidyAll; no condition. -/
import Derived.Test.YtmjlecabpbiigaaGreatX30
open Option renaming some -> U
open Decidable renaming decide -> aa
open Bool renaming true -> ae
open Bool renaming false -> ag
open Option renaming none -> aj
open Sum renaming inr -> an
open Sum renaming inl -> ao
open List renaming length -> au
open Int renaming toNat -> aw
open List renaming drop -> cU
open List renaming take -> de
set_option autoImplicit true
set_option relaxedAutoImplicit true
set_option linter.all false
namespace Go.Stow
section
def iX (x:InsP):List UInt8 :=
 if aY x.2.1=1 then [UInt8.ofNat x.2.2.toNat]else if aY x.2.1=2 then [UInt8.ofNat (((x.2.2+65536) % 65536).toNat / 256),UInt8.ofNat (((x.2.2+65536) % 65536).toNat % 256)]else []
def zz (x:InsP):List UInt8:=UInt8.ofNat x.2.1.toNat::iX x
def enc (l:List InsP):List UInt8:=l.flatMap zz
def gV (x:InsP):Prop:=0<=aY x.2.1/\(aY x.2.1=0->x.2.2=0)/\(aY x.2.1=1->0<=x.2.2/\x.2.2<=255) /\
 (aY x.2.1=2->x.2.1=1 -> -32768<=x.2.2/\x.2.2<=32767)/\(aY x.2.1=2->x.2.1≠1->0<=x.2.2/\x.2.2<=65535)
def fk:Int->List InsP->Prop
 |_,[]=>True
 |a,x::l=>x.1=a/\fk (a+1+aY x.2.1) l
def cS:Int->List InsP->Int
 |a,[]=>a
 |a,x::l=>cS (a+1+aY x.2.1) l
def mT (op:Int):(aY op = -1\/aY op=0\/aY op=1\/aY op=2)/\(0<=aY op->0<=op/\op<=34):=by
 unfold aY
 repeat' split
 all_goals first|(constructor<;>omega)
def Lq {x:InsP}(h:0<=aY x.2.1):((iX x).length:Int)=aY x.2.1:=by
 have:=(mT x.2.1).1;unfold iX;split
 ·rename_i h;rw[h];rfl
 ·split
  ·rename_i h;rw[h];rfl
  ·simp only[cX];omega
def zc7 {op:Int}(h:0<=aY op):((UInt8.ofNat op.toNat).toNat:Int)=op:=by
 have:=(mT op).2 h;rw[UInt8.toNat_ofNat'];omega
def zc8 {x:InsP}(h:gV x):iT x.2.1 (iX x)=x.2.2:=by
 obtain⟨at',op,n⟩:=x;obtain⟨h0,h1,h2,h3,h4⟩:=h;simp only at h0 h1 h2 h3 h4;have hr:=(mT op).1;unfold iX;simp only
 by_cases e1:aY op=1
 ·rw[if_pos e1];obtain⟨a1,a2⟩:=h2 e1;simp only[iT,UInt8.toNat_ofNat']
  omega
 ·rw[if_neg e1];by_cases e2:aY op=2
  ·rw[if_pos e2];simp only[iT,UInt8.toNat_ofNat']
   by_cases o1:op=1
   ·obtain⟨a1,a2⟩:=h3 e2 o1;split<;>omega
   ·obtain⟨a1,a2⟩:=h4 e2 o1;rw[if_neg (by omega)];omega
  ·rw[if_neg e2];simp only[iT]
   rw[h1 (by omega)]
def Lr (x:InsP)(l:List InsP):enc (x::l)=UInt8.ofNat x.2.1.toNat::(iX x++enc l):=rfl
def Ls:∀(l:List InsP) (a:Int) (k:Nat),(∀x∈l,gV x)->fk a l->(enc l).length<=k->ej k a (enc l)=U l
 | [],a,k,_,_,_=>by
   have:enc []=[]:=rfl;rw[this];cases k<;>rfl
 | x::l,a,k,hg,hp,hk=>by
   have hx:=hg x (by simp);have hl:=Lq hx.1;rw[Lr]at hk ⊢;simp only[bL,aP]at hk;cases k with
   |zero=>omega
   | succ k=>
     simp only[ej]
     rw[zc7 hx.1];have hn:(aY x.2.1).toNat=(iX x).length:=by omega
     rw[if_neg (by simp only[aP];have:=hx.1;omega),hn,List.drop_left,List.take_left,zc8 hx,Ls l _ k (fun y hy=>hg y (by simp[hy])) hp.2 (by omega)];obtain⟨p,op,n⟩:=x;have:=hp.1;simp only at this;subst this;rfl
def D1:∀(l:List InsP) (a:Int),(∀x∈l,gV x)->cS a l=a+(enc l).length
 |[],a,_=>by simp[cS,enc]
 | x::l,a,hg=>by
   have hx:=hg x (by simp);have hl:=Lq hx.1;rw[Lr];simp only[cS,bL,aP]
   rw[D1 l _ fun y hy=>hg y (by simp[hy])];omega
def Lt:∀(k:Nat) (a:Int) (s:List UInt8) (l:List InsP),ej k a s=U l->(∀x∈l,gV x)/\fk a l/\cS a l=a+s.length
 | 0,a,[],l,h=>by
   obtain rfl:=Option.some.inj h;exact⟨by simp,trivial,by simp[cS]⟩
 | k+1,a,[],l,h=>by
   obtain rfl:=Option.some.inj h;exact⟨by simp,trivial,by simp[cS]⟩
 |0,a,x::s,l,h=>by cases h
 | k+1,a,x::s,l,h=>by
   simp only[ej]at h;by_cases hb:aY x.toNat<0\/(s.length:Int)<aY x.toNat
   ·rw[if_pos hb]at h;cases h
   ·rw[if_neg hb]at h;cases ho:ej k (a+1+aY x.toNat) (s.drop (aY x.toNat).toNat)with
    |none=>rw[ho]at h;cases h
    | some r=>
      rw[ho]at h;simp only[Option.map_some,aF]at h;subst h;obtain⟨h1,h2,h3⟩:=Lt k _ _ r ho;refine⟨?_,⟨rfl,h2⟩,?_⟩
      ·intro y hy;rcases List.mem_cons.1 hy with rfl|hy
       ·have hr:=(mT x.toNat).1;have h0:0<=aY x.toNat:=by omega
        have hlen:(s.take (aY x.toNat).toNat).length=(aY x.toNat).toNat:=by rw[bT];omega
        generalize s.take (aY x.toNat).toNat=t at hlen;refine⟨h0,fun e=>?_,fun e=>?_,fun e o1=>?_,fun e o1=>?_⟩
        all_goals simp only at e ⊢;rw[e]at hlen
        ·rw[List.length_eq_zero_iff.1 hlen];rfl
        ·obtain⟨c,rfl⟩:=List.length_eq_one_iff.1 hlen;have:=c.toNat_lt;simp only[iT];omega
        ·match t,hlen with
         | [c,d],_=>
           have:=c.toNat_lt;have:=d.toNat_lt;simp only[iT]
           simp only at o1;split<;>omega
        ·match t,hlen with
         | [c,d],_=>
           have:=c.toNat_lt;have:=d.toNat_lt;simp only[iT]
           simp only at o1;rw[if_neg (by omega)];omega
       ·exact h1 y hy
      ·simp only[cS]
       rw[h3];simp only[bL,dx]
       omega
def dc:Int->List InsP->List InsP
 |_,[]=>[]
 |a,x::l=>if x.2.1=0/\l≠[]then dc a l else(a,x.2.1,x.2.2)::dc (a+1+aY x.2.1) l
def cf:Int->List InsP->List (Int×Int)
 |_,[]=>[]
 |a,x::l=>(x.1,a)::cf (if x.2.1=0/\l≠[]then a else a+1+aY x.2.1) l
def dr:Int->List InsP->Int
 |a,[]=>a
 |a,x::l=>dr (if x.2.1=0/\l≠[]then a else a+1+aY x.2.1) l
def cp (l:List InsP)(p:Int):Int:=match(cf 0 l).find? (fun q=>aa (q.1=p))with
 |some q=>q.2
 |none=>dr 0 l
def dX (l:List InsP)(p:Int):Prop:=∃x∈l,x.1=p
def jK (l:List InsP)(p:Int):0<=cr l p↔dX l p:=by
 unfold cr dX;cases h:l.findIdx? (fun x=>aa (x.1=p))with
 | none=>
   simp only
   rw[List.findIdx?_eq_none_iff]at h;constructor
   ·intro h;omega
   ·rintro⟨x,hx,e⟩;have:=h x hx;simp[e]at this
 | some j=>
   simp only
   constructor
   ·intro _;rw[List.findIdx?_eq_some_iff_getElem]at h;obtain⟨h1,h2,_⟩:=h;exact⟨l[j],List.getElem_mem h1,by simpa using h2⟩
   ·intro _;omega
def D2:∀(a:Int) (l:List InsP),l≠[]->∃y∈dc a l,y.1=a
 |a,[],h=>absurd rfl h
 | a,x::l,_=>by
   unfold dc;by_cases h:x.2.1=0/\l≠[]
   ·rw[if_pos h];exact D2 a l h.2
   ·rw[if_neg h];exact⟨_,List.mem_cons_self,rfl⟩
def zA:∀(a:Int) (l:List InsP),fk a (dc a l)/\cS a (dc a l)=dr a l
 |a,[]=>⟨trivial,rfl⟩
 | a,x::l=>by
   unfold dc dr;by_cases h:x.2.1=0/\l≠[]
   ·rw[if_pos h,if_pos h];exact zA a l
   ·rw[if_neg h,if_neg h];obtain⟨h1,h2⟩:=zA (a+1+aY x.2.1) l;exact⟨⟨rfl,h1⟩,h2⟩
def ur:∀(a:Int) (l:List InsP) (y:InsP),y∈dc a l->∃x∈l,y.2=x.2
 |a,[],y,h=>by cases h
 | a,x::l,y,h=>by
   unfold dc at h;by_cases hc:x.2.1=0/\l≠[]
   ·rw[if_pos hc]at h;obtain⟨z,hz,e⟩:=ur a l y h;exact⟨z,List.mem_cons_of_mem _ hz,e⟩
   ·rw[if_neg hc]at h;rcases List.mem_cons.1 h with rfl|h
    ·exact⟨x,List.mem_cons_self,rfl⟩
    ·obtain⟨z,hz,e⟩:=ur _ l y h;exact⟨z,List.mem_cons_of_mem _ hz,e⟩
def Lu:∀(a:Int) (l:List InsP),l≠[]->dc a l≠[]:=fun a l h e=>by
 obtain⟨y,hy,_⟩:=D2 a l h;rw[e]at hy;cases hy
def lX:List InsP->Prop
 |[]=>True
 |x::l=>(x.2.1=0->l=[])/\lX l
def D3:∀(a:Int) (l:List InsP),lX (dc a l)
 |a,[]=>trivial
 | a,x::l=>by
   unfold dc;by_cases h:x.2.1=0/\l≠[]
   ·rw[if_pos h];exact D3 a l
   ·rw[if_neg h];refine⟨fun h0=>?_,D3 _ l⟩;have:l=[]:=Classical.byContradiction fun hl=>h ⟨h0,hl⟩
    rw[this];rfl
def uu:∀(a:Int) (l:List InsP),(∀x∈l,0<=aY x.2.1)->fk a l->a<=cS a l/\∀x∈l,a<=x.1/\x.1<cS a l
 |a,[],_,_=>⟨by simp[cS],by simp⟩
 | a,x::l,hg,hp=>by
   have hx:=hg x (by simp);obtain⟨h1,h2⟩:=uu _ l (fun y hy=>hg y (by simp[hy])) hp.2;have e:cS a (x::l)=cS (a+1+aY x.2.1) l:=rfl;rw[e];refine⟨by omega,fun y hy=>?_⟩;rcases List.mem_cons.1 hy with rfl|hy
   ·have:=hp.1;omega
   ·have:=h2 y hy;omega
def pN:∀(a b:Int) (l:List InsP),(∀x∈l,0<=aY x.2.1)->a<=dr a l/\dr a l-a<=cS b l-b
 |a,b,[],_=>by simp[dr,cS]
 | a,b,x::l,hg=>by
   have hx:=hg x (by simp);unfold dr cS;split
   ·have:=pN a (b+1+aY x.2.1) l fun y hy=>hg y (by simp[hy])
    omega
   ·have:=pN (a+1+aY x.2.1) (b+1+aY x.2.1) l fun y hy=>hg y (by simp[hy])
    omega
def D4:∀(a:Int) (l:List InsP) (p:Int),dX l p↔∃q∈cf a l,q.1=p
 |a,[],p=>by simp[dX,cf]
 | a,x::l,p=>by
   unfold cf;have ih:=D4 (if x.2.1=0/\l≠[]then a else a+1+aY x.2.1) l p;constructor
   ·rintro⟨y,hy,e⟩;rcases List.mem_cons.1 hy with rfl|hy
    ·exact⟨_,List.mem_cons_self,e⟩
    ·obtain⟨q,hq,e'⟩:=ih.1 ⟨y,hy,e⟩;exact⟨q,List.mem_cons_of_mem _ hq,e'⟩
   ·rintro⟨q,hq,e⟩;rcases List.mem_cons.1 hq with rfl|hq
    ·exact⟨x,List.mem_cons_self,e⟩
    ·obtain⟨y,hy,e'⟩:=ih.2 ⟨q,hq,e⟩;exact⟨y,List.mem_cons_of_mem _ hy,e'⟩
def D5:∀(a:Int) (l:List InsP) (q:Int×Int),q∈cf a l->dX (dc a l) q.2
 |a,[],q,h=>by cases h
 | a,x::l,q,h=>by
   unfold cf at h;unfold dc;by_cases hc:x.2.1=0/\l≠[]
   ·rw[if_pos hc]at h ⊢;rcases List.mem_cons.1 h with rfl|h
    ·exact D2 a l hc.2
    ·exact D5 a l q h
   ·rw[if_neg hc]at h ⊢;rcases List.mem_cons.1 h with rfl|h
    ·exact⟨_,List.mem_cons_self,rfl⟩
    ·obtain⟨y,hy,e⟩:=D5 _ l q h;exact⟨y,List.mem_cons_of_mem _ hy,e⟩
def uv:∀(a b:Int) (l:List InsP),(∀x∈l,0<=aY x.2.1)->fk b l ->
  (∀q∈cf a l,b<=q.1/\a<=q.2)/\(cf a l).Pairwise fun q q'=>q.1<q'.1/\q.2<=q'.2
 |a,b,[],_,_=>⟨by simp[cf],List.Pairwise.nil⟩
 | a,b,x::l,hg,hp=>by
   have hx:=hg x (by simp);obtain⟨h1,h2⟩:=uv (if x.2.1=0/\l≠[]then a else a+1+aY x.2.1) _ l (fun y hy=>hg y (by simp[hy])) hp.2;have hle:a<=(if x.2.1=0/\l≠[]then a else a+1+aY x.2.1):=by split<;>omega
   have hb:=hp.1;unfold cf;refine⟨fun q hq=>?_,List.pairwise_cons.2 ⟨fun q hq=>?_,h2⟩⟩
   ·rcases List.mem_cons.1 hq with rfl|hq
    ·simp only;omega
    ·have:=h1 q hq;omega
   ·have:=h1 q hq;simp only;omega
def rD {l:List InsP}{p:Int}(h:dX l p):∃q∈cf 0 l,q.1=p/\cp l p=q.2:=by
 obtain⟨q0,hq0,e0⟩:=(D4 0 l p).1 h;unfold cp;cases hf:(cf 0 l).find? (fun q=>aa (q.1=p))with
 | none=>
   have:=List.find?_eq_none.1 hf q0 hq0;simp[e0]at this
 |some q=>exact⟨q,List.mem_of_find?_eq_some hf,by simpa using List.find?_some hf,rfl⟩
def uw {l:List InsP}{p:Int}(h:¬ dX l p):cp l p=dr 0 l:=by
 unfold cp;cases hf:(cf 0 l).find? (fun q=>aa (q.1=p))with
 |none=>rfl
 |some q=>exact absurd ((D4 0 l p).2 ⟨q,List.mem_of_find?_eq_some hf,by simpa using List.find?_some hf⟩) h
def Lw {l:List InsP}{p:Int}(h:dX l p):dX (dc 0 l) (cp l p):=by
 obtain⟨q,h1,_,h3⟩:=rD h;rw[h3];exact D5 0 l q h1
def zc9 {l:List InsP}(hg:∀ x∈l,0<=aY x.2.1)(hp:fk 0 l){p p':Int}(h:dX l p)(h':dX l p')(hlt:p<p'):cp l p<=cp l p':=by
 obtain⟨q,h1,h2,h3⟩:=rD h;obtain⟨q',h1',h2',h3'⟩:=rD h';obtain⟨i,hi,rfl⟩:=List.mem_iff_getElem.1 h1;obtain⟨j,hj,rfl⟩:=List.mem_iff_getElem.1 h1';have hm:=List.pairwise_iff_getElem.1 (uv 0 0 l hg hp).2;rw[h3,h3'];rcases Nat.lt_trichotomy i j with c|c|c
 ·exact(hm i j hi hj c).2
 ·subst c;omega
 ·have:=(hm j i hj hi c).1;omega
def Lx {l:List InsP}(hg:∀ x∈l,0<=aY x.2.1)(p:Int):0<=cp l p/\cp l p<=dr 0 l:=by
 have hk:=zA 0 l;have he:=pN 0 0 l hg;by_cases h:dX l p
 ·obtain⟨y,hy,e⟩:=Lw h
  have hg':∀x∈dc 0 l,0<=aY x.2.1:=fun x hx=>by
   obtain⟨z,hz,e⟩:=ur 0 l x hx;rw[e];exact hg z hz
  have:=(uu 0 _ hg' hk.1).2 y hy;rw[hk.2]at this;omega
 ·rw[uw h];omega
def ren (l:List InsP)(x:InsP):InsP:=(x.1,x.2.1,if 14<=x.2.1/\x.2.1<=18 then cp l x.2.2 else x.2.2)
def cq (l:List InsP):List InsP:=(dc 0 l).map (ren l)
def Ly {f:InsP->InsP}(hf:∀ x,(f x).1=x.1/\(f x).2.1=x.2.1):∀(a:Int) (l:List InsP),(fk a l->fk a (l.map f))/\cS a (l.map f)=cS a l/\(lX l->lX (l.map f))
 |a,[]=>⟨id,rfl,id⟩
 | a,x::l=>by
   obtain⟨e1,e2⟩:=hf x;obtain⟨h1,h2,h3⟩:=Ly hf (a+1+aY x.2.1) l;simp only[bF,fk,cS,lX,e1,e2]
   refine⟨fun h=>⟨h.1,h1 h.2⟩,h2,fun h=>⟨fun h0=>by rw[h.1 h0];rfl,h3 h.2⟩⟩
def Lz (l:List InsP)(x:InsP):(ren l x).1=x.1/\(ren l x).2.1=x.2.1:=⟨rfl,rfl⟩
def zda {f:InsP->InsP}(hf:∀ x,(f x).1=x.1/\(f x).2.1=x.2.1){l:List InsP}{p:Int}:dX (l.map f) p↔dX l p:=by
 constructor
 ·rintro⟨x,hx,e⟩;obtain⟨y,hy,rfl⟩:=List.mem_map.1 hx;exact⟨y,hy,by rw[<-(hf y).1];exact e⟩
 ·rintro⟨y,hy,e⟩;exact⟨f y,List.mem_map_of_mem hy,by rw[(hf y).1];exact e⟩
def LA (l:List InsP):fk 0 (cq l)/\cS 0 (cq l)=dr 0 l/\lX (cq l):=by
 obtain⟨h1,h2⟩:=zA 0 l;obtain⟨r1,r2,r3⟩:=Ly (Lz l) 0 (dc 0 l);exact⟨r1 h1,r2.trans h2,r3 (D3 0 l)⟩
def D6 {l:List InsP}{p:Int}(h:dX l p):dX (cq l) (cp l p):=(zda (Lz l)).2 (Lw h)
def D7 {l:List InsP}{y:InsP}(h:y∈cq l):∃x∈l,y.2.1=x.2.1/\y.2.2=if 14<=x.2.1/\x.2.1<=18 then cp l x.2.2 else x.2.2:=by
 obtain⟨z,hz,rfl⟩:=List.mem_map.1 h;obtain⟨x,hx,e⟩:=ur 0 l z hz;refine⟨x,hx,?_,?_⟩
 ·show z.2.1=_;rw[e]
 ·show(if 14<=z.2.1/\z.2.1<=18 then cp l z.2.2 else z.2.2)=_;rw[e]
def D8 {l:List InsP}(hg:∀ x∈l,gV x)(he:cS 0 l<=65535):∀y∈cq l,gV y:=by
 intro y hy;have hg':=fun x hx=>(hg x hx).1
 obtain⟨x,hx,e1,e2⟩:=D7 hy;obtain⟨h0,h1,h2,h3,h4⟩:=hg x hx;have hr:=Lx hg' x.2.2;have hk:=(pN 0 0 l hg').2;unfold gV;rw[e1,e2];by_cases hj:14<=x.2.1/\x.2.1<=18
 ·have ha:aY x.2.1=2:=by unfold aY;rw[if_neg (by omega),if_neg (by omega),if_pos (by omega)]
  rw[if_pos hj,ha];exact⟨by omega,fun h=>by omega,fun h=>by omega,fun _ h=>by omega,fun _ _=>by omega⟩
 ·rw[if_neg hj];exact⟨h0,h1,h2,h3,h4⟩
def D9:∀(a:Int) (l:List InsP),fk a l->lX l->dc a l=l/\cf a l=l.map (fun x=>(x.1,x.1))/\dr a l=cS a l
 |a,[],_,_=>⟨rfl,rfl,rfl⟩
 | a,x::l,hp,hn=>by
   have hc:¬(x.2.1=0/\l≠[]):=fun h=>h.2 (hn.1 h.1)
   obtain⟨h1,h2,h3⟩:=D9 _ l hp.2 hn.2;unfold dc cf dr cS;rw[if_neg hc,if_neg hc,h1,h2,h3,bF,<-hp.1];exact⟨rfl,rfl,rfl⟩
def LB {l:List InsP}(hp:fk 0 l)(hn:lX l){p:Int}(h:dX l p\/p=cS 0 l):cp l p=p:=by
 obtain⟨h1,h2,h3⟩:=D9 0 l hp hn;by_cases ho:dX l p
 ·obtain⟨q,hq,e1,e2⟩:=rD ho;rw[h2]at hq;obtain⟨x,_,rfl⟩:=List.mem_map.1 hq;rw[e2];exact e1
 ·rw[uw ho,h3];exact(h.resolve_left ho).symm
def zWO {l:List InsP}(hp:fk 0 l)(hn:lX l)(hj:∀ x∈l,14<=x.2.1/\x.2.1<=18->dX l x.2.2):cq l=l:=by
 unfold cq;rw[(D9 0 l hp hn).1];refine(List.map_congr_left fun x hx=>?_).trans (List.map_id l);show ren l x=x;unfold ren;by_cases h:14<=x.2.1/\x.2.1<=18
 ·rw[if_pos h,LB hp hn (.inl (hj x hx h))]
 ·rw[if_neg h]
def D_ {s:List UInt8}(h:(bN s).2=ae):(bN s).1≠[]/\(∀x∈(bN s).1,gV x)/\fk 0 (bN s).1/\cS 0 (bN s).1=s.length:=by
 unfold bN at h ⊢;cases ho:ej s.length 0 s with
 |none=>rw[ho]at h;cases h
 | some l=>
   cases l with
   |nil=>rw[ho]at h;cases h
   | cons x l=>
     simp only
     obtain⟨h1,h2,h3⟩:=Lt _ _ _ _ ho;exact⟨by simp,h1,h2,by omega⟩
def LC {l:List InsP}(hne:l≠[])(hg:∀ x∈l,gV x)(hp:fk 0 l):bN (enc l)=(l,ae):=by
 unfold bN;rw[Ls l 0 _ hg hp (bJ _)];cases l with
 |nil=>exact absurd rfl hne
 |cons x l=>rfl
def jk (l:List InsP)(t:TrpP):TrpP:=(cp l t.1,cp l t.2.1,cp l t.2.2.1,t.2.2.2)
def eu (l:List InsP)(ts:List TrpP):List TrpP:=(ts.map (jk l)).filter fun t=>aa (t.1<t.2.1)
def ir (l:List InsP)(f:FrmP):FrmP:=(cp l f.1,f.2)
def eC (out:List FrmP)(f:FrmP):List FrmP:=(if 0<out.length/\(out.getD (out.length-1) (0,[],[])).1=f.1 then out.take (out.length-1)else out)++[f]
def tidF (l:List InsP)(fs:List FrmP):List FrmP:=(fs.map (ir l)).foldl eC []
def dJ (m:MthP):MthP :=
 (m.1,m.2.1,m.2.2.1,m.2.2.2.1,m.2.2.2.2.1,enc (cq (bN m.2.2.2.2.2.1).1),eu (bN m.2.2.2.2.2.1).1 m.2.2.2.2.2.2.1,tidF (bN m.2.2.2.2.2.1).1 m.2.2.2.2.2.2.2)
def zdb {out:List FrmP}{g:FrmP}:(out++[g]).getD ((out++[g]).length-1) (0,[],[])=g:=by
 rw[List.getD_eq_getElem?_getD,aP,List.length_singleton,Nat.add_sub_cancel,List.getElem?_append_right (bJ _),Nat.sub_self];rfl
def Ea (out:List FrmP)(g f:FrmP):eC (out++[g]) f=if g.1=f.1 then out++[f]else out++[g]++[f]:=by
 unfold eC;rw[zdb];by_cases h:g.1=f.1
 ·rw[if_pos ⟨by simp,h⟩,if_pos h];simp
 ·rw[if_neg fun h'=>h h'.2,if_neg h]
def LD (f:FrmP):eC [] f=[f]:=rfl
def LF:∀(rest out:List FrmP),out.Pairwise (fun a b=>a.1<b.1)->(∀f∈rest,∀o∈out,o.1<=f.1)->rest.Pairwise (fun a b=>a.1<=b.1) ->
  (rest.foldl eC out).Pairwise (fun a b=>a.1<b.1)/\(∀f∈rest.foldl eC out,f∈out\/f∈rest)/\(rest.foldl eC out).length<=out.length+rest.length
 |[],out,h1,_,_=>⟨h1,fun f hf=>.inl hf,by simp⟩
 | f::rest,out,h1,h2,h3=>by
   have h3:=List.pairwise_cons.1 h3;rw[List.foldl_cons]
   have key:(eC out f).Pairwise (fun a b=>a.1<b.1)/\(∀o∈eC out f,o.1<=f.1/\(o∈out\/o=f))/\(eC out f).length<=out.length+1:=by
    rcases List.eq_nil_or_concat out with rfl|⟨ys,g,hg⟩
    ·rw[LD];exact⟨by simp,fun o ho=>by rw[List.mem_singleton.1 ho];exact⟨Int.le_refl _,.inr rfl⟩,by simp⟩
    ·rw[List.concat_eq_append]at hg;subst hg;have hgl:=h2 f (by simp) g (by simp);have hp:=List.pairwise_append.1 h1;rw[Ea];by_cases e:g.1=f.1
     ·rw[if_pos e];refine⟨List.pairwise_append.2 ⟨hp.1,by simp,fun a ha b hb=>?_⟩,fun o ho=>?_,by simp⟩
      ·rw[List.mem_singleton.1 hb,<-e];exact hp.2.2 a ha g (by simp)
      ·rcases List.mem_append.1 ho with ho|ho
       ·exact⟨h2 f (by simp) o (by simp[ho]),.inl (by simp[ho])⟩
       ·rw[List.mem_singleton.1 ho];exact⟨Int.le_refl _,.inr rfl⟩
     ·rw[if_neg e];refine⟨List.pairwise_append.2 ⟨h1,by simp,fun a ha b hb=>?_⟩,fun o ho=>?_,by simp⟩
      ·rw[List.mem_singleton.1 hb];rcases List.mem_append.1 ha with ha|ha
       ·have:=hp.2.2 a ha g (by simp);omega
       ·rw[List.mem_singleton.1 ha];omega
      ·rcases List.mem_append.1 ho with ho|ho
       ·exact⟨h2 f (by simp) o ho,.inl ho⟩
       ·rw[List.mem_singleton.1 ho];exact⟨Int.le_refl _,.inr rfl⟩
   obtain⟨k1,k2,k3⟩:=key;obtain⟨r1,r2,r3⟩:=LF rest (eC out f) k1 (fun x hx o ho=>Int.le_trans (k2 o ho).1 (h3.1 x hx)) h3.2;refine⟨r1,fun x hx=>?_,?_⟩
   ·rcases r2 x hx with h|h
    ·rcases(k2 x h).2 with h|h
     ·exact .inl h
     ·exact .inr (by simp[h])
    ·exact .inr (by simp[h])
   ·simp only[bL];omega
def LG:∀(rest out:List FrmP),(out++rest).Pairwise (fun a b=>a.1<b.1)->rest.foldl eC out=out++rest
 |[],out,_=>by simp
 | f::rest,out,h=>by
   rw[List.foldl_cons]
   have e:eC out f=out++[f]:=by
    rcases List.eq_nil_or_concat out with rfl|⟨ys,g,hg⟩
    ·rfl
    ·rw[List.concat_eq_append]at hg;subst hg;rw[Ea,if_neg];have:=(List.pairwise_append.1 h).2.2 g (by simp) f (by simp);omega
   rw[e,LG rest (out++[f]) (by simpa using h)];simp
def LH (p:List Ent)(deep locals:Int)(f:FrmP):Prop:=(f.2.1.length:Int)=locals/\(f.2.2.length:Int)<=deep/\dW p f.2.1/\dW p f.2.2
def pO {fs:List FrmP}{i:Nat}(h:i<fs.length):fs.getD i (0,[],[])=fs[i]:=by
 rw[List.getD_eq_getElem?_getD,bI h];rfl
def zB {p:List Ent}{m:MthP}{l:List InsP}:pJ p m l↔(∀f∈m.2.2.2.2.2.2.2,dX l f.1/\LH p m.2.2.2.1 m.2.2.2.2.1 f)/\m.2.2.2.2.2.2.2.Pairwise (fun a b=>a.1<b.1):=by
 obtain⟨m0,m1,m2,m3,m4,m5,m6,fs⟩:=m;unfold pJ;simp only[rq]
 constructor
 ·intro h;refine⟨fun f hf=>?_,?_⟩
  ·obtain⟨i,hi,rfl⟩:=List.mem_iff_getElem.1 hf;obtain⟨h1,_,h3⟩:=h i hi;rw[pO hi]at h1 h3;exact⟨(jK _ _).1 h1,h3⟩
  ·have key:∀j,∀i (hj:j<fs.length) (hij:i<j),(fs[i]'(by omega)).1<fs[j].1:=by
    intro j
    induction j with
    |zero=>intro i hj hij;omega
    | succ j ih=>
      intro i hj hij;have h2:=(h (j+1) hj).2.1 (by omega);rw[pO hj,Nat.add_sub_cancel,pO (by omega)]at h2;by_cases e:i=j
      ·subst e;exact h2
      ·exact Int.lt_trans (ih i (by omega) (by omega)) h2
   exact List.pairwise_iff_getElem.2 fun i j hi hj hij=>key j i hj hij
 ·rintro⟨h1,h2⟩ i hi;obtain⟨k1,k2⟩:=h1 fs[i] (List.getElem_mem hi);rw[pO hi];refine⟨(jK _ _).2 k1,fun h0=>?_,k2⟩;rw[pO (by omega)];exact List.pairwise_iff_getElem.1 h2 (i-1) i (by omega) hi (by omega)
def Eb {p:List Ent}{m:MthP}(h:eo p m)(hlen:m.2.2.2.2.2.1.length<=65535) :
  eo p (dJ m)/\(dJ m).2.2.2.2.2.1.length<=m.2.2.2.2.2.1.length/\(dJ m).2.2.2.2.2.2.1.length<=m.2.2.2.2.2.2.1.length/\(dJ m).2.2.2.2.2.2.2.length<=m.2.2.2.2.2.2.2.length /\
  dJ (dJ m)=dJ m/\lX (bN (dJ m).2.2.2.2.2.1).1/\(∀t∈(dJ m).2.2.2.2.2.2.1,∃t'∈m.2.2.2.2.2.2.1,t.2.2.2=t'.2.2.2/\0<=t.1/\t.1<=m.2.2.2.2.2.1.length/\0<=t.2.1/\t.2.1<=m.2.2.2.2.2.1.length/\0<=t.2.2.1/\t.2.2.1<=m.2.2.2.2.2.1.length) /\
  (∀f∈(dJ m).2.2.2.2.2.2.2,∃f'∈m.2.2.2.2.2.2.2,f.2=f'.2/\0<=f.1/\f.1<=m.2.2.2.2.2.1.length):=by
 obtain⟨m0,m1,m2,m3,m4,code,traps,frames⟩:=m;obtain⟨ho,hd,htk,hin,htr,hfr⟩:=h;simp only at ho hd hin htr hlen;obtain⟨hne,hg,hp,hend⟩:=D_ ho;have hfr:=zB.1 hfr;simp only at hfr;have e:dJ (m0,m1,m2,m3,m4,code,traps,frames)=(m0,m1,m2,m3,m4,enc (cq (bN code).1),eu (bN code).1 traps,tidF (bN code).1 frames):=rfl;rw[e];have htk:lV p (m0,m1,m2,m3,m4,enc (cq (bN code).1),eu (bN code).1 traps,tidF (bN code).1 frames)<=m4/\m4<=8:=htk;generalize (bN code).1=l at hne hg hp hend hin htr hfr htk;have hg0:∀x∈l,0<=aY x.2.1:=fun x hx=>(hg x hx).1
 have hK:=pN 0 0 l hg0;obtain⟨t1,t2,t3⟩:=LA l;have tg:=D8 hg (by omega);have tne:cq l≠[]:=fun h=>Lu 0 l hne (List.map_eq_nil_iff.1 h)
 have hv:=LC tne tg t1;have hle:=D1 (cq l) 0 tg;have hran:=Lx hg0;have hmap:∀{q:Int},0<=cr l q->0<=cr (cq l) (cp l q):=fun hq=>(jK _ _).2 (D6 ((jK _ _).1 hq))
 have hjmp:∀y∈cq l,14<=y.2.1/\y.2.1<=18->dX (cq l) y.2.2:=by
  intro y hy hj;obtain⟨x,hx,e1,e2⟩:=D7 hy;rw[e1]at hj;rw[e2,if_pos hj];exact D6 ((jK _ _).1 ((hin x hx).2.1 hj))
 have hT:∀t∈eu l traps,∃t'∈traps,t=jk l t'/\t.1<t.2.1:=by
  intro t ht;obtain⟨h1,h2⟩:=List.mem_filter.1 ht;obtain⟨t',h3,rfl⟩:=List.mem_map.1 h1;exact⟨t',h3,rfl,by simpa using h2⟩
 have hend':∀q,(q=(code.length:Int)\/0<=cr l q)->(cp l q=((enc (cq l)).length:Int)\/0<=cr (cq l) (cp l q)):=by
  intro q hq;by_cases hq':0<=cr l q
  ·exact .inr (hmap hq')
  ·left;rw[uw fun h=>hq' ((jK _ _).2 h)];omega
 have hTok:∀t∈eu l traps,iU p (enc (cq l)).length (cq l) t:=by
  intro t ht;obtain⟨t',h1,rfl,h2⟩:=hT t ht;obtain⟨a1,a2,a3,a4,a5⟩:=htr t' h1;exact⟨h2,hmap a2,hend' _ a3,hmap a4,a5⟩
 have hmono:(frames.map (ir l)).Pairwise (fun a b=>a.1<=b.1):=by
  rw[List.pairwise_map];refine List.Pairwise.imp_of_mem (fun{a b} ha hb hab=>?_) hfr.2;exact zc9 hg0 hp (hfr.1 a ha).1 (hfr.1 b hb).1 hab
 obtain⟨f1,f2,f3⟩:=LF (frames.map (ir l)) [] List.Pairwise.nil (by simp) hmono
 have hF:∀f∈tidF l frames,∃f'∈frames,f=ir l f':=by
  intro f hf;rcases f2 f hf with h|h
  ·cases h
  ·obtain⟨f',h1,rfl⟩:=List.mem_map.1 h;exact⟨f',h1,rfl⟩
 have hFok:∀f∈tidF l frames,dX (cq l) f.1/\LH p m3 m4 f:=by
  intro f hf;obtain⟨f',h1,rfl⟩:=hF f hf;exact⟨D6 (hfr.1 f' h1).1,(hfr.1 f' h1).2⟩
 refine⟨⟨by rw[hv],hd,htk,?_,?_,?_⟩,?_,?_,?_,?_,?_,?_,?_⟩
 ·simp only[hv]
  intro y hy;obtain⟨x,hx,e1,e2⟩:=D7 hy;obtain⟨b1,b2,b3⟩:=hin x hx;refine⟨fun h=>?_,fun h=>(jK _ _).2 (hjmp y hy h),fun h=>?_⟩
  ·rw[e1]at h;rw[e2,if_neg (by omega)];exact b1 h
  ·rw[e1]at h ⊢
   have hnj:¬(14<=x.2.1/\x.2.1<=18):=fun hj=>h (by
    unfold cK
    rw[if_neg (by omega),if_neg (by omega),if_neg (by omega),if_neg (by omega)])
   rw[e2,if_neg hnj];exact b3 h
 ·simp only[hv];exact hTok
 ·simp only[hv]
  exact zB.2 ⟨hFok,f1⟩
 ·simp only;omega
 ·simp only
  exact Nat.le_trans (List.length_filter_le _ _) (by simp)
 ·simp only
  have:(tidF l frames).length<=[].length+(frames.map (ir l)).length:=f3;simpa using this
 ·
  show dJ (m0,m1,m2,m3,m4,enc (cq l),eu l traps,tidF l frames)=_;unfold dJ;simp only[hv]
  rw[zWO t1 t3 hjmp];have es:∀q,(dX (cq l) q\/q=cS 0 (cq l))->cp (cq l) q=q:=fun q hq=>LB t1 t3 hq
  have e1:eu (cq l) (eu l traps)=eu l traps:=by
   have hm:(eu l traps).map (jk (cq l))=eu l traps:=by
    refine(List.map_congr_left fun t ht=>?_).trans (List.map_id _);obtain⟨a1,a2,a3,a4,a5⟩:=hTok t ht;show jk (cq l) t=t;unfold jk;rw[es _ (.inl ((jK _ _).1 a2)),es _ (.inl ((jK _ _).1 a4)),es];rcases a3 with a3|a3
    ·right;omega
    ·exact .inl ((jK _ _).1 a3)
   show((eu l traps).map (jk (cq l))).filter _=_;rw[hm]
   exact List.filter_eq_self.2 fun t ht=>by
    obtain⟨_,_,_,h⟩:=hT t ht;simpa using h
  have e2:tidF (cq l) (tidF l frames)=tidF l frames:=by
   have hm:(tidF l frames).map (ir (cq l))=tidF l frames:=by
    refine(List.map_congr_left fun f hf=>?_).trans (List.map_id _);show ir (cq l) f=f;unfold ir;rw[es _ (.inl (hFok f hf).1)]
   show((tidF l frames).map (ir (cq l))).foldl eC []=_;rw[hm,LG _ _ (by rw[dy];exact f1)];simp
  rw[e1,e2]
 ·simp only[hv];exact t3
 ·intro t ht;obtain⟨t',h1,rfl,_⟩:=hT t ht;have r1:=hran t'.1;have r2:=hran t'.2.1;have r3:=hran t'.2.2.1;exact⟨t',h1,rfl,r1.1,by simp only[jk];omega,r2.1,by simp only[jk];omega,r3.1,by simp only[jk];omega⟩
 ·intro f hf;obtain⟨f',h1,rfl⟩:=hF f hf;have r1:=hran f'.1;exact⟨f',h1,rfl,r1.1,by simp only[ir];omega⟩
end
end Go.Stow
section
namespace Go.Stow
open Classical in
noncomputable def gF (c:ClsP):ClsP:=(c.1,c.2.1,c.2.2.1,c.2.2.2.1,c.2.2.2.2.1,c.2.2.2.2.2.1,c.2.2.2.2.2.2.map fun m=>if aT m.1 8 then m else dJ m)
def LI (w:FrmP->Nat):∀(rest out:List FrmP),((rest.foldl eC out).map w).sum<=(out.map w).sum+(rest.map w).sum
 |[],out=>by simp
 | f::rest,out=>by
   have h1:=LI w rest (eC out f)
   have h2:((eC out f).map w).sum<=(out.map w).sum+w f:=by
    rcases List.eq_nil_or_concat out with rfl|⟨ys,g,hg⟩
    ·rw[LD];simp
    ·rw[List.concat_eq_append]at hg;subst hg;rw[Ea];split<;>simp<;>omega
   rw[List.foldl_cons,bF,List.sum_cons];omega
def Ec {α:Type}(P:α->List UInt8)(l:List α):((l.map P).flatten).length=(l.map fun x=>(P x).length).sum:=by
 induction l with
 |nil=>rfl
 |cons x l ih=>simp only[bF,List.flatten_cons,aP,List.sum_cons,ih]
def LJ {α:Type}(P:α->List UInt8)(g:α->α):∀(l:List α),(∀x∈l,(P (g x)).length<=(P x).length)->(((l.map g).map P).flatten).length<=((l.map P).flatten).length
 |[],_=>by simp
 | x::l,h=>by
   have h1:=h x (by simp);have h2:=LJ P g l fun y hy=>h y (by simp[hy])
   simp only[bF,List.flatten_cons,aP]
   omega
def Ed {c:ClsP}(h:dR c=0):ei c.1 c.1.length 0=0/\fM c/\jG c/\kF c/\mR c:=by
 unfold dR at h;by_cases h1:ei c.1 c.1.length 0≠0
 ·rw[if_pos h1]at h;cases h
 ·rw[if_neg h1]at h;by_cases h2:¬fM c
  ·rw[if_pos h2]at h;cases h
  ·rw[if_neg h2]at h;by_cases h3:¬jG c
   ·rw[if_pos h3]at h;cases h
   ·rw[if_neg h3]at h;by_cases h4:¬kF c
    ·rw[if_pos h4]at h;cases h
    ·rw[if_neg h4]at h;by_cases h5:¬mR c
     ·rw[if_pos h5]at h;cases h
     ·exact⟨Classical.not_not.1 h1,Classical.not_not.1 h2,Classical.not_not.1 h3,Classical.not_not.1 h4,Classical.not_not.1 h5⟩
def ux {α β:Type}{l:List α}{f:α->β}{i:Nat}{d:α}{e:β}(h:i<l.length):(l.map f).getD i e=f (l.getD i d):=by
 rw[List.getD_eq_getElem?_getD,List.getD_eq_getElem?_getD,List.getElem?_map,bI h];rfl
end Go.Stow
namespace Go.Proofs.YtmjlecabpbiigaaGreat
open Go Go.AM Go.TM Go.Stow
def zC {f:Int}(h:i1 f):gR f↔aT f 8:=by
 unfold i1 at h;unfold gR aT;rw[Int.tmod_eq_emod_of_nonneg h.1,Int.tdiv_eq_ediv_of_nonneg (by omega)];omega
def LK (m:Mth):(dI tS cH m).length=if cH m.1=ae then 5 else 11+m.2.2.2.2.2.1.length+((m.2.2.2.2.2.2.1.map (gC tS)).flatten).length+((m.2.2.2.2.2.2.2.map (fL tS)).flatten).length:=by
 unfold dI;split<;>simp only[aP,b9,dg,cX]<;>omega
def LL (l:List Trp):((l.map (gC tS)).flatten).length=8*l.length:=by
 rw[Ec]
 induction l with
 |nil=>rfl
 | cons x l ih=>
   simp only[bF,List.sum_cons,bL,ih]
   have:(gC tS x).length=8:=by unfold gC;simp only[aP,dg]
   omega
def zdc {p:List Cst}{m:Mth}(hf:lT m)(hb:eo p m) :
  lT (dJ m)/\(∀f∈(dJ m).2.2.2.2.2.2.2,DZ f)/\(dI tS cH (dJ m)).length<=(dI tS cH m).length:=by
 obtain⟨h1,h2,h3,h4,h5,h6,⟨h7,h8⟩,h9,h10⟩:=hf;obtain⟨hb2,k1,k2,k3,k4,k5,k6,k7⟩:=Eb hb (by omega);have e0:(dJ m).1=m.1:=rfl;have ec:∀f∈(dJ m).2.2.2.2.2.2.2,∃f'∈m.2.2.2.2.2.2.2,f.2=f'.2/\0<=f.1/\f.1<=m.2.2.2.2.2.1.length:=k7;refine⟨⟨h1,h2,h3,h4,h5,by omega,⟨by omega,fun t ht=>?_⟩,by omega,fun f hf=>?_⟩,fun f hf=>?_,?_⟩
 ·obtain⟨t',ht',e,a1,a2,a3,a4,a5,a6⟩:=k6 t ht;refine⟨⟨a1,by omega⟩,⟨a3,by omega⟩,⟨a5,by omega⟩,?_⟩;rw[e];exact(h8 t' ht').2.2.2
 ·obtain⟨f',hf',e,a1,a2⟩:=k7 f hf;obtain⟨b1,b2,b3⟩:=h10 f' hf';refine⟨⟨a1,by omega⟩,?_,?_⟩
  ·rw[e];exact b2
  ·rw[e];exact b3
 ·have:=((zB.1 hb2.2.2.2.2.2).1 f hf).2;exact⟨fun k hk h3=>(this.2.2.1 k hk).2.2 h3,fun k hk h3=>(this.2.2.2 k hk).2.2 h3⟩
 ·rw[LK,LK,e0,LL,LL]
  have hs:(((dJ m).2.2.2.2.2.2.2.map (fL tS)).flatten).length<=((m.2.2.2.2.2.2.2.map (fL tS)).flatten).length:=by
   rw[Ec,Ec];have e:(dJ m).2.2.2.2.2.2.2=((m.2.2.2.2.2.2.2.map (ir (bN m.2.2.2.2.2.1).1)).foldl eC []):=rfl;rw[e];refine Nat.le_trans (LI _ _ _) ?_;simp only[List.map_nil,List.sum_nil,Nat.zero_add,List.map_map]
   have:((fun x=>(fL tS x).length)∘ir (bN m.2.2.2.2.2.1).1)=fun x=>(fL tS x).length:=by
    funext x;simp only[Function.comp,ir,fL,aP,dg]
   rw[this];exact bJ _
  split
  ·exact bJ _
  ·omega
def Ee {c:Cls}(h:put c≠[]):gS c/\(cJ tI dQ c).length<=900/\fh (cJ tI dQ c)=U (c,[]):=by
 refine Classical.byContradiction fun hn=>h (kE hn)
def zdd {c0:List Cst}{c1 c2 c3:Int}{c4:List Int}{c5:List Fld}{ms:List Mth}(g:Mth->Mth)(h:∀ m∈ms,(dI tS cH (g m)).length<=(dI tS cH m).length) :
  (cJ tS cH (c0,c1,c2,c3,c4,c5,ms.map g)).length<=(cJ tS cH (c0,c1,c2,c3,c4,c5,ms)).length:=by
 have:=LJ (dI tS cH) g ms h;unfold cJ;simp only[aP,b9,cG]
 omega
end Go.Proofs.YtmjlecabpbiigaaGreat
end
namespace Go.Proofs.YtmjlecabpbiigaaGreat
section
open Go Go.AM Go.TM Go.Stow
def rE (n:Int):IntKind.wrap .u8 n=n % 256:=by
 simp[IntKind.wrap,IntKind.bits,IntKind.signed]
def LM (n:Int):eB n=U (w1 n):=by
 have:=za n;simp only[eB,this.1,this.2,ay,ba,aD];rfl
def zde (n:Int):fg n=U (tI n):=by
 simp only[fg,LM,ax,b9]
 rfl
def LN {op:Int}(h0:0<=op)(h1:op<=255):w1 op=[UInt8.ofNat op.toNat]:=by
 unfold w1;rw[Ln h0 h1]
def LO {x:InsP}(h:gV x)(e:aY x.2.1=1):iX x=w1 x.2.2:=by
 obtain⟨h0,h1⟩:=h.2.2.1 e;unfold iX;rw[if_pos e,LN h0 h1]
def LP {x:InsP}(h:gV x)(e:aY x.2.1=2):iX x=tI x.2.2:=by
 have hr : -32768<=x.2.2/\x.2.2<=65535:=by
  by_cases h1:x.2.1=1
  ·have:=h.2.2.2.1 e h1;omega
  ·have:=h.2.2.2.2 e h1;omega
 unfold iX tI w1;rw[if_neg (by omega),if_pos e,rE,rE,Int.fdiv_eq_ediv_of_nonneg _ (by omega)];simp only[cF,dy,List.cons.injEq,and_true]
 constructor
 ·congr 1;omega
 ·congr 1;omega
def LQ {x:InsP}(h:gV x)(e1:aY x.2.1≠1)(e2:aY x.2.1≠2):iX x=[]:=by
 unfold iX;rw[if_neg e1,if_neg e2]
def zdf (x:InsP):(iX x).length<=2:=by unfold iX;split<;>(try split)<;>simp
def rh {α β:Type}{f:α->List β}{k:Nat}:∀{l:List α},(∀x∈l,(f x).length<=k)->(l.flatMap f).length<=k*l.length
 |[],_=>by simp
 | x::l,h=>by
   have h1:=h x (by simp);have h2:=rh (l:=l) fun y hy=>h y (by simp[hy])
   rw[List.flatMap_cons,aP,bL,Nat.mul_succ];omega
def zdg (l:List InsP):(enc l).length<=3*l.length:=by
 refine rh fun x _=>?_
 have:=zdf x;simp only[zz,bL];omega
def zdh (a b:List InsP):enc (a++b)=enc a++enc b:=List.flatMap_append
def Ef {α:Type}{l:List α}{i:Nat}(h:i<l.length):l.take (i+1)=l.take i++[l[i]]:=by
 rw[List.take_add_one,bI h];rfl
def LR {l:List InsP}{j:Nat}(h:j<l.length)(hg:gV l[j]):enc (l.take (j+1))=enc (l.take j)++(w1 l[j].2.1++iX l[j]):=by
 have:=(mT l[j].2.1).2 hg.1;rw[Ef h,zdh,LN this.1 (by omega)];show enc (l.take j)++(zz l[j]++[])=_;rw[cB];rfl
def LS {l:List InsP}(hl:l.length<=1000)(j:Nat):(enc (l.take j)).length<=3000:=by
 have:=zdg (l.take j);rw[bT]at this;omega
def zdi {n:Int}(h0 : -32768<=n)(h1:n<=65535):tS (Int.tmod (IntKind.wrap .i64 (n+65536)) 65536)=tI n:=by
 rw[wI (by omega) (by omega),Int.tmod_eq_emod_of_nonneg (by omega)];unfold tS tI w1;rw[Int.tdiv_eq_ediv_of_nonneg (by omega),Int.tmod_eq_emod_of_nonneg (by omega),wI (by omega) (by omega),rE,rE,rE,rE,Int.fdiv_eq_ediv_of_nonneg _ (by omega)];simp only[cF,dy,List.cons.injEq,and_true]
 constructor
 ·congr 2;omega
 ·congr 2;omega
def zdj (l:List InsP)(hg:∀ x∈l,gV x)(hl:l.length<=1000):ph l=U (enc l):=by
 simp only[ph]
 refine(jJ (fun j=>(l,enc (l.take j),(j:Int))) (enc l) l.length rfl ?_ ?_).trans rfl
 ·simp only[jj,bc,aM,List.take_length]
 ·intro j hj;have j1:(j:Int)<l.length:=by omega
  have hx:=hg _ (List.getElem_mem hj);have hb:=LS hl j;simp only[j1,ay,aN,fF,aD,aS,bq hj,wn (show j<=1048576 by omega)]
  rw[LR hj hx];generalize l[j]=x at hx;generalize enc (l.take j)=out at hb;have g1:out.length+1<=9223372036854775807:=by omega
  have g2:out.length+1+1<=9223372036854775807:=by omega
  have g3:out.length+1+2<=9223372036854775807:=by omega
  simp only[rj,zv,ax,b9,g1,ay,aD,aG]
  by_cases e1:aY x.2.1=1
  ·rw[if_pos e1,LO hx e1];simp only[aP,b9,g2,ay,aD,aJ,bD,wn (show j<=1048576 by omega)]
  ·by_cases e2:aY x.2.1=2
   ·have hr : -32768<=x.2.2/\x.2.2<=65535:=by
     by_cases h1:x.2.1=1
     ·have:=hx.2.2.2.1 e2 h1;omega
     ·have:=hx.2.2.2.2 e2 h1;omega
    rw[if_neg e1,if_pos e2,LP hx e2,ud,zdi hr.1 hr.2];simp only[ax,aP,b9,c_,g3,ay,aD,aJ,bD,wn (show j<=1048576 by omega)]
   ·rw[if_neg e1,if_neg e2,LQ hx e1 e2];simp only[aJ,cB,wn (show j<=1048576 by omega)]
def zdk (l:List InsP)(hl:l.length<=1048576):yM (l,l)=U ae:=by
 simp only[yM,ay,Bool.not_true,aM]
 refine(jJ (fun j=>(l,l,(l.length:Int),(j:Int))) () l.length rfl ?_ ?_).trans rfl
 ·simp only[jj,bc,aM]
 ·intro j hj;have j1:(j:Int)<l.length:=by omega
  simp only[j1,ay,aN,fF,aD,aS,bq hj,ba,Bool.not_true,aM,wn (show j<=1048576 by omega)]
def zdl (l:List InsP)(hg:∀ x∈l,gV x)(hl:l.length<=120)(he:(enc l).length<=120)(hp:fk 0 l)(hne:l≠[]):t_ l=U (enc l):=by
 simp only[t_,show ¬(120:Int)<l.length by omega,bc,aM]
 refine(jJ (fun j=>(l,enc (l.take j),l,(l.length:Int),(j:Int))) (l,enc l) l.length rfl ?_ ?_).trans ?_
 ·simp only[jj,bc,aM,List.take_length]
 ·intro j hj;have j1:(j:Int)<l.length:=by omega
  have hx:=hg _ (List.getElem_mem hj);have hb:=LS (l:=l) (by omega) j;simp only[j1,ay,aN,fF,aD,aS,bq hj,wn (show j<=1048576 by omega)]
  rw[LR hj hx];generalize l[j]=x at hx;generalize enc (l.take j)=out at hb;have g1:out.length+1<=9223372036854775807:=by omega
  have g2:out.length+(1+1)<=9223372036854775807:=by omega
  have g3:out.length+(1+2)<=9223372036854775807:=by omega
  simp only[uo,LM,zde,ax,b9,c_,ay,aD,bE,aG,aP,g1,g2,g3,show(1+1<=9223372036854775807)by omega,show(1+2<=9223372036854775807)by omega]
  have hr:=(mT x.2.1).1;by_cases e0:aY x.2.1=0
  ·rw[if_pos e0,LQ hx (by omega) (by omega)];simp only[aJ,cB,wn (show j<=1048576 by omega)]
  ·by_cases e1:aY x.2.1=1
   ·rw[if_neg e0,if_pos e1,LO hx e1];simp only[aJ,wn (show j<=1048576 by omega)]
   ·have e2:aY x.2.1=2:=by have:=hx.1;omega
    rw[if_neg e0,if_neg e1,if_pos e2,LP hx e2];simp only[aJ,wn (show j<=1048576 by omega)]
 ·simp only
  rw[DU _ he,LC hne hg hp];simp only[ax,Bool.not_true,aM,zdk l (by omega)]
end
end Go.Proofs.YtmjlecabpbiigaaGreat
namespace Go.Stow
section
def cL (l:List InsP)(n:Nat):Nat->List Int×List InsP×Int
 |0=>(List.replicate n 0,[],0)
 |i+1=>((cL l n i).1.set (l.getD i (0,0,0)).1.toNat (cL l n i).2.2,
   if(l.getD i (0,0,0)).2.1=0/\i+1<l.length then(cL l n i).2.1 else(cL l n i).2.1++[((cL l n i).2.2,(l.getD i (0,0,0)).2.1,(l.getD i (0,0,0)).2.2)],
   if(l.getD i (0,0,0)).2.1=0/\i+1<l.length then(cL l n i).2.2 else(cL l n i).2.2+1+aY (l.getD i (0,0,0)).2.1)
def zXl (a:Int)(x:InsP)(l:List InsP):dc a (x::l)=if x.2.1=0/\l≠[]then dc a l else(a,x.2.1,x.2.2)::dc (a+1+aY x.2.1) l:=rfl
def zYM (a:Int)(x:InsP)(l:List InsP):dr a (x::l)=dr (if x.2.1=0/\l≠[]then a else a+1+aY x.2.1) l:=rfl
def Eg (a:Int)(x:InsP)(l:List InsP):cf a (x::l)=(x.1,a)::cf (if x.2.1=0/\l≠[]then a else a+1+aY x.2.1) l:=rfl
def oh:∀(a:Int) (l:List InsP),(cf a l).length=l.length
 |_,[]=>rfl
 |a,x::l=>by simp only[cf,bL,oh]
def uy {l:List InsP}{n:Nat}(hg:∀ x∈l,0<=aY x.2.1)(hp:fk 0 l)(hn:cS 0 l<n):∀i,i<=l.length ->
  (cL l n i).1.length=n/\(cL l n i).2.1++dc (cL l n i).2.2 (l.drop i)=dc 0 l/\dr (cL l n i).2.2 (l.drop i)=dr 0 l/\cf 0 l=(cf 0 l).take i++cf (cL l n i).2.2 (l.drop i) /\
  (∀q∈(cf 0 l).take i,(cL l n i).1[q.1.toNat]? = U q.2)/\(cL l n i).2.1.length<=i/\0<=(cL l n i).2.2/\(cL l n i).2.2<=3*i
 |0,_=>by simp[cL]
 | i+1,hi=>by
   obtain⟨h1,h2,h3,h4,h5,h6,h7,h8⟩:=uy hg hp hn i (by omega);have hil:i<l.length:=by omega
   have hd:l.drop i=l[i]::l.drop (i+1):=List.drop_eq_getElem_cons hil;have hx:l.getD i (0,0,0)=l[i]:=by rw[List.getD_eq_getElem?_getD,bI hil];rfl
   have hmem:=List.getElem_mem hil;have hxr:=(uu 0 l hg hp).2 _ hmem;have hxa:=hg _ hmem;have hx2:=(mT l[i].2.1).1
   have hne:l.drop (i+1)≠[]↔i+1<l.length:=by
    rw[ne_eq,List.drop_eq_nil_iff];omega
   simp only[cL,hx]
   rw[hd,zXl]at h2;rw[hd,zYM]at h3;rw[hd,Eg]at h4;simp only[hne]at h2 h3 h4;generalize (cL l n i).1=A at h1 h5 ⊢;generalize (cL l n i).2.1=O at h2 h6 ⊢;generalize (cL l n i).2.2=a at h2 h3 h4 h7 h8 ⊢;have hlen:=oh 0 l
   have htk:(cf 0 l).take (i+1)=(cf 0 l).take i++[(l[i].1,a)]:=by
    have hl:(cf 0 l)[i]? = U (l[i].1,a):=by
     rw[h4,List.getElem?_append_right (by rw[bT];omega),bT,hlen,Nat.min_eq_left (by omega),Nat.sub_self];rfl
    rw[List.take_add_one,hl];rfl
   have h4':cf 0 l=(cf 0 l).take (i+1)++cf (if l[i].2.1=0/\i+1<l.length then a else a+1+aY l[i].2.1) (l.drop (i+1)):=by
    rw[htk,bD];exact h4
   refine⟨by rw[List.length_set];exact h1,?_,?_,h4',?_,?_,?_,?_⟩
   ·split
    ·rename_i c;rw[if_pos c]at h2;exact h2
    ·rename_i c;rw[if_neg c]at h2;rw[bD];exact h2
   ·exact h3
   ·intro q hq;rw[htk]at hq;rcases List.mem_append.1 hq with hq|hq
    ·have hlt:q.1<l[i].1:=by
      have hpw:=(uv 0 0 l hg hp).2;rw[h4]at hpw;exact((List.pairwise_append.1 hpw).2.2 q hq (l[i].1,a) (by simp)).1
     have hq0:=((uv 0 0 l hg hp).1 q (List.mem_of_mem_take hq)).1;rw[List.getElem?_set_ne (by omega)];exact h5 q hq
    ·rw[List.mem_singleton.1 hq];simp only
     rw[List.getElem?_set_self (by omega)]
   ·split
    ·omega
    ·simp only[aP,bL,cX];omega
   ·split<;>omega
   ·split<;>omega
def LU (A:List Int)(l:List InsP)(n:Int):Prop:=∀p,dX l p\/p=n->0<=p/\p<A.length/\A[p.toNat]? = U (cp l p)
def zdm {l:List InsP}{n:Nat}(hg:∀ x∈l,0<=aY x.2.1)(hp:fk 0 l)(hn:cS 0 l=n):LU ((cL l (n+1) l.length).1.set n (dr 0 l)) l n:=by
 obtain⟨h1,h2,h3,h4,h5,h6,h7,h8⟩:=uy (n:=n+1) hg hp (by omega) l.length (bJ _);have hm:(cf 0 l).take l.length=cf 0 l:=by rw[<-oh 0 l];exact List.take_length
 rw[hm]at h5;have hr:=(uu 0 l hg hp).2;intro p h;rw[List.length_set,h1];by_cases ho:dX l p
 ·obtain⟨q,hq,e1,e2⟩:=rD ho;obtain⟨x,hx,e3⟩:=ho;have:=hr x hx;refine⟨by omega,by omega,?_⟩;rw[List.getElem?_set_ne (by omega),e2,<-e1];exact h5 q hq
 ·have hpn:=h.resolve_left ho;refine⟨by omega,by omega,?_⟩;rw[uw ho,hpn,aS,List.getElem?_set_self (by omega)]
end
end Go.Stow
namespace Go.Proofs.YtmjlecabpbiigaaGreat
section
open Go Go.AM Go.TM Go.Stow
set_option maxRecDepth 10000
def zdn (op:Int):q_ op=U (aa (14<=op/\op<=18)):=by
 simp only[q_,jI,ax]
def zdo {A:List Int}{l:List InsP}{n p:Int}{R:Type}{k:Int->Option R}(h:LU A l n)(hp:dX l p\/p=n):(af (aa (0<=p)&&aa (p<(A.length:Int))) (aq A p.toNat k))=k (cp l p):=by
 obtain⟨h1,h2,h3⟩:=h p hp;rw[decide_eq_true h1,decide_eq_true h2,ba,aD,pE h3]
def LV {l:List InsP}{ts:List TrpP}{j:Nat}(h:j<ts.length):eu l (ts.take (j+1))=eu l (ts.take j)++if cp l ts[j].1<cp l ts[j].2.1 then [jk l ts[j]]else []:=by
 unfold eu;rw[Ef h,List.map_append,List.filter_append];congr 1;show List.filter _ [jk l ts[j]]=_;have e:aa ((jk l ts[j]).1<(jk l ts[j]).2.1)=aa (cp l ts[j].1<cp l ts[j].2.1):=rfl;rw[List.filter_cons,e];by_cases c:cp l ts[j].1<cp l ts[j].2.1
 ·rw[if_pos c,if_pos (decide_eq_true c)];rfl
 ·rw[if_neg c,decide_eq_false c];rfl
def LW (l:List InsP)(ts:List TrpP)(j:Nat):(eu l (ts.take j)).length<=j:=by
 refine Nat.le_trans (List.length_filter_le _ _) ?_;rw[cG,bT];omega
def zdp (out:List FrmP)(f:FrmP):(eC out f).length<=out.length+1:=by
 unfold eC;rw[aP];split
 ·rw[bT];simp only[bL,cX];omega
 ·simp
def LX:∀(rest out:List FrmP),(rest.foldl eC out).length<=out.length+rest.length
 |[],out=>by simp
 | f::rest,out=>by
   have h1:=zdp out f;have h2:=LX rest (eC out f);simp only[List.foldl_cons,bL];omega
def LY {l:List InsP}{fs:List FrmP}{j:Nat}(h:j<fs.length):tidF l (fs.take (j+1))=eC (tidF l (fs.take j)) (ir l fs[j]):=by
 unfold tidF;rw[Ef h,List.map_append,List.foldl_append];rfl
def LZ (l:List InsP)(fs:List FrmP)(j:Nat):(tidF l (fs.take j)).length<=j:=by
 have:=LX ((fs.take j).map (ir l)) [];simp only[cX,cG,bT]at this;unfold tidF;omega
def zdq {p:List Cst}(m:Mth)(hb:eo p m)(h120:m.2.2.2.2.2.1.length<=120)(ht:m.2.2.2.2.2.2.1.length<=1000)(hf:m.2.2.2.2.2.2.2.length<=1000):ua m=U (dJ m):=by
 obtain⟨m0,m1,m2,m3,m4,code,traps,frames⟩:=m;simp only at h120 ht hf;obtain⟨ho,-,-,hin,htr,hfr⟩:=hb;simp only at ho hin htr;have hfr:=zB.1 hfr;simp only at hfr;obtain⟨hne,hg,hp,hend⟩:=D_ ho
 have hV:pB code=U ((bN code).1,ae):=by
  rw[DU code h120]
  conv=>rhs;rw[<-ho]
 have eT:dJ (m0,m1,m2,m3,m4,code,traps,frames)=(m0,m1,m2,m3,m4,enc (cq (bN code).1),eu (bN code).1 traps,tidF (bN code).1 frames):=rfl;rw[eT];have hlen:=zw code;generalize (bN code).1=l at *;have hg0:∀x∈l,0<=aY x.2.1:=fun x hx=>(hg x hx).1
 have hto:=zdm hg0 hp hend;have hr:=(uu 0 l hg0 hp).2;have hst:=fun i hi=>uy (n:=code.length+1) hg0 hp (by omega) i hi
 obtain⟨t1,t2,t3⟩:=LA l;have tg:=D8 hg (by omega);have tne:cq l≠[]:=fun h=>Lu 0 l hne (List.map_eq_nil_iff.1 h)
 have tle:=D1 (cq l) 0 tg;have hK:=pN 0 0 l hg0;have w1':IntKind.wrap .i64 ((code.length:Int)+1)=((code.length+1:Nat):Int):=wn (by omega);have g8:(code.length+1)*8<=140737488355328:=by omega
 simp only[ua,hV,ax,Bool.not_true,aM,w1',ay,fF,ba,show((code.length+1:Nat):Int)<=9223372036854775807 by omega,show((code.length+1:Nat):Int)*8<=140737488355328 by omega,aD,aS]
 refine(jJ (fun i=>((cL l (code.length+1) i).1,(cL l (code.length+1) i).2.1,(cL l (code.length+1) i).2.2,(l.length:Int),(i:Int),(m0,m1,m2,m3,m4,code,traps,frames),(0,0,0,0,0,[],[],[]),l))
  ((cL l (code.length+1) l.length).1,dc 0 l,dr 0 l,(m0,m1,m2,m3,m4,code,traps,frames),(0,0,0,0,0,[],[],[])) l.length rfl ?_ ?_).trans ?_
 ·obtain⟨-,h2,h3,-⟩:=hst l.length (bJ _);rw[List.drop_length]at h2 h3;simp only[dc,cB]at h2;simp only[dr]at h3;simp only[jj,bc,aM,h2,h3]
 ·intro i hi;obtain⟨k1,-,-,-,-,k6,k7,k8⟩:=hst i (by omega);have j1:(i:Int)<l.length:=by omega
  have hxr:=hr _ (List.getElem_mem hi);have hxa:=(mT l[i].2.1).1;have hxg:=hg0 _ (List.getElem_mem hi);have hx:l.getD i (0,0,0)=l[i]:=by rw[List.getD_eq_getElem?_getD,bI hi];rfl
  have hcl:IntKind.wrap .i64 ((l.length:Int)-1)=(l.length:Int)-1:=wI (by omega) (by omega);simp only[cL,hx]
  generalize (cL l (code.length+1) i).1=A at k1;generalize (cL l (code.length+1) i).2.1=O at k6;generalize (cL l (code.length+1) i).2.2=a at k7 k8;simp only[j1,ay,aN,fF,ba,aD,aS,bq hi,hcl]
  generalize l[i]=x at hxr hxa hxg;have hA:x.1.toNat<A.length:=by omega
  simp only[hxr.1,show x.1<(A.length:Int)by omega,ay,ba,aD,bq hA,aG]
  have g1:O.length+1<=9223372036854775807:=by omega
  have g2:(O.length+1)*24<=140737488355328:=by omega
  have wa:IntKind.wrap .i64 (a+IntKind.wrap .i64 (1+aY x.2.1))=a+1+aY x.2.1:=by rw[wI (x:=1+aY x.2.1) (by omega) (by omega),wI (by omega) (by omega)];omega
  by_cases c1:x.2.1=0
  ·by_cases c2:(i:Int)<(l.length:Int)-1
   ·rw[if_pos c1,if_pos c2,if_pos ⟨c1,by omega⟩,if_pos ⟨c1,by omega⟩];simp only[aJ,aV,wn (show i<=1048576 by omega)]
   ·rw[if_pos c1,if_neg c2,if_neg (fun h=>c2 (by omega)),if_neg (fun h=>c2 (by omega))];simp only[aJ,g1,g2,ay,ba,aD,uo,ax,wa,wn (show i<=1048576 by omega)]
  ·rw[if_neg c1,if_neg (fun h=>c1 h.1),if_neg (fun h=>c1 h.1)];simp only[aJ,g1,g2,ay,ba,aD,uo,ax,wa,wn (show i<=1048576 by omega)]
 obtain⟨kA,-⟩:=hst l.length (bJ _)
 have hkl:(dc 0 l).length<=120:=by
  obtain⟨-,h2,-,-,-,h6,-,-⟩:=hst l.length (bJ _);rw[List.drop_length]at h2;simp only[dc,cB]at h2;rw[<-h2];omega
 generalize (cL l (code.length+1) l.length).1=A0 at kA hto;have hcA:code.length<A0.length:=by omega
 simp only[show(code.length:Int)<(A0.length:Int)by omega,fF,ay,ba,aD,aS,bq hcA]
 generalize A0.set code.length (dr 0 l)=A at hto
 refine(DK (fun j a=>(A,((dc 0 l).length:Int),(j:Int),(m0,m1,m2,m3,m4,code,traps,frames),(0,0,0,0,0,[],[],[]),a))
  (fun a=>(A,a,(m0,m1,m2,m3,m4,code,traps,frames),(0,0,0,0,0,[],[],[]))) (Stow.ren l) (dc 0 l) rfl (by omega) ?_ ?_).trans ?_
 ·intro a ha;simp only[ha,bH,bc,aM]
 ·intro a x b hx hab;have j1:(a.length:Int)<((dc 0 l).length:Int):=by omega
  have j2:(a.length:Int)<((a++x::b).length:Int):=by simp only[aP,bL];omega
  obtain⟨z,hz,ez⟩:=ur 0 l x hx;simp only[j1,j2,ay,aN,fF,ba,aD,aS,DI,zdn,ax,aG,DJ]
  by_cases c:14<=x.2.1/\x.2.1<=18
  ·have hat:dX l x.2.2:=by
    have:=(jK l z.2.2).1 ((hin z hz).2.1 (by rw[<-ez];exact c));rw[ez];exact this
   rw[if_pos c,zdo hto (.inl hat)];simp only[aJ,wn (show a.length<=1048576 by omega),Stow.ren,if_pos c]
  ·rw[if_neg c];simp only[aJ,wn (show a.length<=1048576 by omega),Stow.ren,if_neg c]
 have eL:(dc 0 l).map (Stow.ren l)=cq l:=rfl;rw[eL];have hL:(cq l).length<=120:=by rw[<-eL,cG];exact hkl
 have q5:=zdl (cq l) tg hL (by omega) t1 tne;simp only[q5,ax,ay,ba,ck,aD,bE,jd]
 refine(jJ (fun j=>(A,traps,(traps.length:Int),(j:Int),(m0,m1,m2,m3,m4,code,traps,frames),(0,0,0,0,0,[],[],[]),m0,m1,m2,m3,m4,enc (cq l),eu l (traps.take j),[]))
  (A,(m0,m1,m2,m3,m4,code,traps,frames),(0,0,0,0,0,[],[],[]),m0,m1,m2,m3,m4,enc (cq l),eu l traps,[]) traps.length rfl ?_ ?_).trans ?_
 ·simp only[jj,bc,aM,List.take_length]
 ·intro j hj;have j1:(j:Int)<traps.length:=by omega
  obtain⟨b1,b2,b3,b4,-⟩:=htr _ (List.getElem_mem hj);have hle:=LW l traps j;obtain⟨a1,a2,a3⟩:=hto traps[j].1 (.inl ((jK _ _).1 b2));obtain⟨c1,c2,c3⟩:=hto traps[j].2.1 (b3.elim .inr fun h=>.inl ((jK _ _).1 h));obtain⟨d1,d2,d3⟩:=hto traps[j].2.2.1 (.inl ((jK _ _).1 b4));rw[LV hj];simp only[j1,ay,aN,fF,aD,aS,bq hj]
  have em:jk l traps[j]=(cp l traps[j].1,cp l traps[j].2.1,cp l traps[j].2.2.1,traps[j].2.2.2):=rfl;rw[em];generalize traps[j]=t at a1 a2 a3 c1 c2 c3 d1 d2 d3;generalize eu l (traps.take j)=out at hle;have g1:out.length+1<=9223372036854775807:=by omega
  have g2:(out.length+1)*32<=140737488355328:=by omega
  simp only[a1,a2,c1,c2,d1,d2,ay,ba,aD,pE a3,pE c3,pE d3,beq_self_eq_true,ck,bE,aG]
  by_cases e:cp l t.1<cp l t.2.1
  ·rw[if_pos e,if_pos e];simp only[g1,g2,ay,ba,aD,aJ,wn (show j<=1048576 by omega)]
  ·rw[if_neg e,if_neg e];simp only[aJ,wn (show j<=1048576 by omega),cB]
 refine(jJ (fun j=>(A,frames,(frames.length:Int),(j:Int),(0,0,0,0,0,[],[],[]),m0,m1,m2,m3,m4,enc (cq l),eu l traps,tidF l (frames.take j)))
  ((0,0,0,0,0,[],[],[]),m0,m1,m2,m3,m4,enc (cq l),eu l traps,tidF l frames) frames.length rfl ?_ ?_).trans ?_
 ·simp only[jj,bc,aM,List.take_length]
 ·intro j hj;have j1:(j:Int)<frames.length:=by omega
  have hle:=LZ l frames j;obtain⟨a1,a2,a3⟩:=hto frames[j].1 (.inl (hfr.1 _ (List.getElem_mem hj)).1);rw[LY hj];simp only[j1,ay,aN,fF,aD,aS,bq hj]
  have em:ir l frames[j]=(cp l frames[j].1,frames[j].2.1,frames[j].2.2):=rfl;rw[em];generalize frames[j]=f at a1 a2 a3;generalize tidF l (frames.take j)=out at hle;generalize cp l f.1=q at a3;simp only[a1,a2,ay,ba,aD,pE a3]
  unfold eC;by_cases h0:(0:Int)<out.length
  ·have hw:IntKind.wrap .i64 ((out.length:Int)-1)=(out.length:Int)-1:=wI (by omega) (by omega);have hi:((out.length:Int)-1).toNat=out.length-1:=by omega
   have hlt:out.length-1<out.length:=by omega
   have hgd:out.getD (out.length-1) (0,[],[])=out[out.length-1]:=pO hlt;simp only[h0,ay,aN,hw,show(0:Int)<=(out.length:Int)-1 by omega,show(out.length:Int)-1<out.length by omega,show(out.length:Int)-1<=out.length by omega,ba,aD,hi,bq hlt,aJ,aG,hgd]
   by_cases e:out[out.length-1].1=q
   ·have g1:(out.take (out.length-1)).length+1<=9223372036854775807:=by rw[bT];omega
    have g2:((out.take (out.length-1)).length+1)*56<=140737488355328:=by rw[bT];omega
    rw[if_pos e,if_pos ⟨by omega,e⟩];simp only[aJ,List.drop_zero,g1,g2,ay,ba,aD,wn (show j<=1048576 by omega)]
   ·have g1:out.length+1<=9223372036854775807:=by omega
    have g2:(out.length+1)*56<=140737488355328:=by omega
    rw[if_neg e,if_neg (fun h=>e h.2)];simp only[aJ,g1,g2,ay,ba,aD,wn (show j<=1048576 by omega)]
  ·have g1:out.length+1<=9223372036854775807:=by omega
   have g2:(out.length+1)*56<=140737488355328:=by omega
   rw[if_neg (fun h=>h0 (by omega))];simp only[h0,bc,aM,aJ,g1,g2,ay,ba,aD,wn (show j<=1048576 by omega)]
 ·rfl
end
end Go.Proofs.YtmjlecabpbiigaaGreat
section
namespace Go.Stow
def L0:∀(a:Int) (l:List InsP),(cf a l).map (fun q=>q.1)=l.map (fun x=>x.1)
 |_,[]=>rfl
 |a,x::l=>by rw[Eg,bF,bF,L0]
def zdr {a:Int}{l:List InsP}{j:Nat}(h:j<l.length):((cf a l)[j]'(by rw[oh];exact h)).1=l[j].1:=by
 have e:=congrArg (fun s=>s[j]?) (L0 a l);simp only[List.getElem?_map]at e;rw[bI h,bI (by rw[oh];exact h)]at e;simpa using e
def zds {l:List InsP}(hg:∀ x∈l,0<=aY x.2.1)(hp:fk 0 l)(p:Int) :
  (cr l p<0/\cp l p=dr 0 l)\/∃j,∃h:j<(cf 0 l).length,cr l p=j/\cp l p=((cf 0 l)[j]'h).2:=by
 unfold cr;cases h:l.findIdx? (fun x=>aa (x.1=p))with
 | none=>
   refine .inl ⟨by simp only;omega,uw ?_⟩;rintro⟨x,hx,e⟩;have:=List.findIdx?_eq_none_iff.1 h x hx;simp[e]at this
 | some j=>
   rw[List.findIdx?_eq_some_iff_getElem]at h;obtain⟨h1,h2,_⟩:=h;have h2:l[j].1=p:=by simpa using h2
   have hj:j<(cf 0 l).length:=by rw[oh];exact h1
   refine .inr ⟨j,hj,rfl,?_⟩;obtain⟨q,hq,e1,e2⟩:=rD (l:=l) (p:=p) ⟨l[j],List.getElem_mem h1,h2⟩;obtain⟨i,hi,rfl⟩:=List.mem_iff_getElem.1 hq;have hm:=List.pairwise_iff_getElem.1 (uv 0 0 l hg hp).2;have e3:=zdr (a:=0) h1
   have hij:i=j:=by
    rcases Nat.lt_trichotomy i j with c|c|c
    ·have:=(hm i j hi hj c).1;omega
    ·exact c
    ·have:=(hm j i hj hi c).1;omega
   subst hij;exact e2
def j7 (l:List InsP):Nat->List InsP
 |0=>[]
 |i+1=>if(l.getD i (0,0,0)).2.1=0/\i+1<l.length then j7 l i else j7 l i++[Stow.ren l (l.getD i (0,0,0))]
def L1 (l:List InsP)(n:Nat):∀i,(j7 l i).map (fun x=>x.2)=((cL l n i).2.1.map (Stow.ren l)).map (fun x=>x.2)
 |0=>rfl
 | i+1=>by
   have ih:=L1 l n i;simp only[j7,cL]
   split
   ·exact ih
   ·rw[List.map_append,List.map_append,List.map_append,ih];rfl
def Eh (l:List InsP):∀i,(j7 l i).length<=i
 |0=>by simp[j7]
 | i+1=>by
   have:=Eh l i;simp only[j7]
   split
   ·omega
   ·simp only[aP,bL,cX];omega
def zdt {a b:List InsP}(h:a.map (fun x=>x.2)=b.map (fun x=>x.2)):enc a=enc b:=by
 have key:∀l:List InsP,enc l=(l.map fun x=>x.2).flatMap fun y=>zz (0,y):=fun l=>by
  rw[List.flatMap_map];rfl
 rw[key a,key b,h]
def zdu {a b:List InsP}(h:a.map (fun x=>x.2)=b.map (fun x=>x.2))(hb:∀ x∈b,gV x):∀x∈a,gV x:=by
 intro x hx;have:x.2∈b.map (fun x=>x.2):=by rw[<-h];exact List.mem_map_of_mem hx
 obtain⟨y,hy,e⟩:=List.mem_map.1 this;have:=hb y hy;unfold gV at this ⊢;rw[<-e];exact this
end Go.Stow
namespace Go.Proofs.YtmjlecabpbiigaaGreat
open Go Go.AM Go.TM Go.Stow
set_option maxRecDepth 10000
def L2 (l:List InsP)(i:Nat)(h:i<l.length)(hl:l.length<=1048576):uc (l,(i:Int))=U (aa ¬(l[i].2.1=0/\i+1<l.length)):=by
 have hw:IntKind.wrap .i64 ((l.length:Int)-1)=(l.length:Int)-1:=wI (by omega) (by omega);simp only[uc,fF,ay,aD,aS,bq h,hw]
 by_cases c:l[i].2.1=0
 ·rw[decide_eq_true c,Bool.not_true,aM];congr 1
  exact decide_eq_decide.2 ⟨fun h'=>fun h2=>by have:=h2.2;omega,fun h'=>by
   refine Classical.byContradiction fun h2=>h' ⟨c,by omega⟩⟩
 ·rw[decide_eq_false c,Bool.not_false,aN];simp[c]
def zdv (l:List InsP)(hg:∀ x∈l,0<=aY x.2.1)(hp:fk 0 l)(hl:l.length<=1000):yU l=U ((cf 0 l).map (fun q=>q.2),dr 0 l):=by
 have hst:=fun i hi=>uy (n:=(cS 0 l).toNat+1) hg hp (by omega) i hi
 simp only[yU]
 refine(jJ (fun i=>(l,((cf 0 l).take i).map (fun q=>q.2),(cL l ((cS 0 l).toNat+1) i).2.2,(i:Int))) ((cf 0 l).map (fun q=>q.2),dr 0 l) l.length rfl ?_ ?_).trans rfl
 ·obtain⟨-,-,h3,-⟩:=hst l.length (bJ _);rw[List.drop_length]at h3;simp only[dr]at h3;have hm:(cf 0 l).take l.length=cf 0 l:=by rw[<-oh 0 l];exact List.take_length
  simp only[jj,bc,aM,h3,hm]
 ·intro i hi;obtain⟨-,-,-,h4,-,-,h7,h8⟩:=hst i (by omega);have j1:(i:Int)<l.length:=by omega
  have hx:l.getD i (0,0,0)=l[i]:=by rw[List.getD_eq_getElem?_getD,bI hi];rfl
  have hxa:=(mT l[i].2.1).1;have hd:l.drop i=l[i]::l.drop (i+1):=List.drop_eq_getElem_cons hi;have hn:=L2 l i hi (by omega);simp only[cL,hx]
  have htk:(cf 0 l).take (i+1)=(cf 0 l).take i++[(l[i].1,(cL l ((cS 0 l).toNat+1) i).2.2)]:=by
   have hlen:=oh 0 l
   have hl:(cf 0 l)[i]? = U (l[i].1,(cL l ((cS 0 l).toNat+1) i).2.2):=by
    rw[h4,hd,Eg,List.getElem?_append_right (by rw[bT];omega),bT,hlen,Nat.min_eq_left (by omega),Nat.sub_self];rfl
   rw[List.take_add_one,hl];rfl
  rw[htk,List.map_append];have ho:(((cf 0 l).take i).map (fun q=>q.2)).length<=1000:=by rw[cG,bT];omega
  generalize ((cf 0 l).take i).map (fun q=>q.2)=O at ho;generalize (cL l ((cS 0 l).toNat+1) i).2.2=a at h7 h8;have g1:O.length+1<=9223372036854775807:=by omega
  have g2:(O.length+1)*8<=140737488355328:=by omega
  simp only[j1,ay,aN,g1,g2,ba,aD,hn,ax,fF,aS,bq hi,zv]
  by_cases c:l[i].2.1=0/\i+1<l.length
  ·rw[decide_eq_false (fun h=>h c),aM,if_pos c];simp only[aJ,wn (show i<=1048576 by omega)]
   rfl
  ·rw[decide_eq_true c,aN,if_neg c,wI (x:=a+1) (by omega) (by omega),wI (x:=a+1+aY l[i].2.1) (by omega) (by omega)];simp only[aJ,wn (show i<=1048576 by omega)]
   rfl
def L3 (l:List InsP)(hg:∀ x∈l,0<=aY x.2.1)(hp:fk 0 l)(hl:l.length<=1000)(p:Int):nX (l,(cf 0 l).map (fun q=>q.2),dr 0 l,p)=U (cp l p):=by
 simp only[nX,zx l p (by omega),ax,aG]
 rcases zds hg hp p with⟨h1,h2⟩|⟨j,h,h1,h2⟩
 ·rw[if_pos h1,h2]
 ·have hj:j<((cf 0 l).map (fun q=>q.2)).length:=by rw[cG];exact h
  rw[h1,if_neg (by omega)];simp only[fF,ay,aD,aS,bq hj,List.getElem_map]
  rw[h2]
end Go.Proofs.YtmjlecabpbiigaaGreat
end
namespace Go.Proofs.YtmjlecabpbiigaaGreat
section
open Go Go.AM Go.TM Go.Stow
set_option maxRecDepth 10000
def zdw (m0 m1 m2 m3 m4:Int)(code:List UInt8)(traps:List Trp)(frames:List Frm)(l:List InsP)(hg:∀ x∈l,0<=aY x.2.1)(hp:fk 0 l)(hl:l.length<=1000)(hf:frames.length<=1000)(hk:∀ f∈frames,f.2.1.length<=1000/\f.2.2.length<=1000) :
  yV ((m0,m1,m2,m3,m4,code,traps,frames),l,(cf 0 l).map (fun q=>q.2),dr 0 l)=U (tidF l frames):=by
 have z198:=L3 l hg hp hl;simp only[yV]
 generalize (cf 0 l).map (fun q=>q.2)=T at z198;refine(jJ (fun j=>(l,T,dr 0 l,tidF l (frames.take j),(j:Int),m0,m1,m2,m3,m4,code,traps,frames)) (tidF l frames) frames.length rfl ?_ ?_).trans rfl
 ·simp only[jj,bc,aM,List.take_length]
 ·intro j hj;have j1:(j:Int)<frames.length:=by omega
  have hle:=LZ l frames j;obtain⟨b1,b2⟩:=hk _ (List.getElem_mem hj);rw[LY hj];simp only[j1,ay,aN,fF,aD,aS,bq hj,z198,ax]
  have em:ir l frames[j]=(cp l frames[j].1,frames[j].2.1,frames[j].2.2):=rfl;rw[em];generalize frames[j]=f at b1 b2;generalize tidF l (frames.take j)=out at hle;generalize cp l f.1=q;simp only[show f.2.1.length<=9223372036854775807 by omega,show f.2.1.length*16<=140737488355328 by omega,show f.2.2.length<=9223372036854775807 by omega,show f.2.2.length*16<=140737488355328 by omega,ay,ba,aD]
  unfold eC;by_cases h0:(0:Int)<out.length
  ·have hw:IntKind.wrap .i64 ((out.length:Int)-1)=(out.length:Int)-1:=wI (by omega) (by omega);have hi:((out.length:Int)-1).toNat=out.length-1:=by omega
   have hlt:out.length-1<out.length:=by omega
   have hgd:out.getD (out.length-1) (0,[],[])=out[out.length-1]:=pO hlt;simp only[h0,ay,aN,hw,show(0:Int)<=(out.length:Int)-1 by omega,show(out.length:Int)-1<out.length by omega,show(out.length:Int)-1<=out.length by omega,ba,aD,hi,bq hlt,aJ,aG,hgd]
   by_cases e:out[out.length-1].1=q
   ·have g1:(out.take (out.length-1)).length+1<=9223372036854775807:=by rw[bT];omega
    have g2:((out.take (out.length-1)).length+1)*56<=140737488355328:=by rw[bT];omega
    rw[if_pos e,if_pos ⟨by omega,e⟩];simp only[aJ,List.drop_zero,g1,g2,ay,ba,aD,wn (show j<=1048576 by omega)]
   ·have g1:out.length+1<=9223372036854775807:=by omega
    have g2:(out.length+1)*56<=140737488355328:=by omega
    rw[if_neg e,if_neg (fun h=>e h.2)];simp only[aJ,g1,g2,ay,ba,aD,wn (show j<=1048576 by omega)]
  ·have g1:out.length+1<=9223372036854775807:=by omega
   have g2:(out.length+1)*56<=140737488355328:=by omega
   rw[if_neg (fun h=>h0 (by omega))];simp only[h0,bc,aM,aJ,g1,g2,ay,ba,aD,wn (show j<=1048576 by omega)]
def zdx {p:List Cst}(m:Mth)(hfl:i1 m.1)(hb:¬ aT m.1 8->eo p m)(h120:m.2.2.2.2.2.1.length<=120)(ht:m.2.2.2.2.2.2.1.length<=1000)(hf:m.2.2.2.2.2.2.2.length<=1000)(hk:∀ f∈m.2.2.2.2.2.2.2,f.2.1.length<=1000/\f.2.2.length<=1000) :
  re m=U (if aT m.1 8 then m else dJ m):=by
 obtain⟨m0,m1,m2,m3,m4,code,traps,frames⟩:=m;simp only at h120 ht hf hfl hb hk;by_cases hh:aT m0 8
 ·simp only[re,j6 hfl.1 hfl.2 (show(1:Int)<=8 by omega),ax,decide_eq_true hh,aN,if_pos hh]
 simp only[re,j6 hfl.1 hfl.2 (show(1:Int)<=8 by omega),ax,decide_eq_false hh,aM]
 rw[if_neg hh];obtain⟨ho,-,-,hin,htr,hfr⟩:=hb hh;simp only at ho hin htr;obtain⟨hne,hg,hp,hend⟩:=D_ ho;have hV:=La code (by omega);have eT:dJ (m0,m1,m2,m3,m4,code,traps,frames)=(m0,m1,m2,m3,m4,enc (cq (bN code).1),eu (bN code).1 traps,tidF (bN code).1 frames):=rfl;rw[eT,hV];have hlen:=zw code;have hV2:bN code=((bN code).1,(bN code).2):=rfl;rw[hV2];generalize (bN code).2=ok;generalize (bN code).1=l at *;have hg0:∀x∈l,0<=aY x.2.1:=fun x hx=>(hg x hx).1
 have hK:=pN 0 0 l hg0;have tg:=D8 hg (by omega);have z198:=L3 l hg0 hp (by omega);have z199:=zdw m0 m1 m2 m3 m4 code traps frames l hg0 hp (by omega) hf hk;simp only[ax,zdv l hg0 hp (by omega)]
 generalize (cf 0 l).map (fun q=>q.2)=T at z198 z199
 refine(jJ (fun i=>(l,T,dr 0 l,j7 l i,(i:Int),(m0,m1,m2,m3,m4,code,traps,frames),(0,0,0,0,0,[],[],[]),m0,m1,m2,m3,m4,code,traps,frames))
  (l,T,dr 0 l,j7 l l.length,(m0,m1,m2,m3,m4,code,traps,frames),(0,0,0,0,0,[],[],[]),m0,m1,m2,m3,m4,code,traps,frames) l.length rfl ?_ ?_).trans ?_
 ·simp only[jj,bc,aM]
 ·intro i hi;have j1:(i:Int)<l.length:=by omega
  have hx:l.getD i (0,0,0)=l[i]:=by rw[List.getD_eq_getElem?_getD,bI hi];rfl
  have hn:=L2 l i hi (by omega);have ho:=Eh l i;simp only[j7,hx]
  generalize j7 l i=O at ho;have g1:O.length+1<=9223372036854775807:=by omega
  have g2:(O.length+1)*24<=140737488355328:=by omega
  simp only[j1,ay,aN,ba,aD,hn,ax,fF,aS,bq hi,jh]
  by_cases c:l[i].2.1=0/\i+1<l.length
  ·rw[decide_eq_false (fun h=>h c),Bool.not_false,aN,if_pos c];simp only[aJ,wn (show i<=1048576 by omega)]
  ·rw[decide_eq_true c,Bool.not_true,aM,if_neg c,aG];by_cases c2:14<=l[i].2.1/\l[i].2.1<=18
   ·rw[if_pos c2];simp only[z198,ax,g1,g2,ay,ba,aD,aJ,wn (show i<=1048576 by omega),Stow.ren,if_pos c2]
   ·rw[if_neg c2];simp only[g1,g2,ay,ba,aD,aJ,wn (show i<=1048576 by omega),Stow.ren,if_neg c2]
    try rfl
 have hs:(j7 l l.length).map (fun x=>x.2)=(cq l).map (fun x=>x.2):=by
  have h1:=L1 l ((cS 0 l).toNat+1) l.length;obtain⟨-,h2,-⟩:=uy (n:=(cS 0 l).toNat+1) hg0 hp (by omega) l.length (bJ _);rw[List.drop_length]at h2;simp only[dc,cB]at h2;rw[h1,h2];rfl
 have q5:=zdj (j7 l l.length) (zdu hs tg) (by have:=Eh l l.length;omega);rw[zdt hs]at q5;simp only[q5,ax]
 refine(jJ (fun j=>(l,T,dr 0 l,(j:Int),(m0,m1,m2,m3,m4,code,traps,frames),(0,0,0,0,0,[],[],[]),m0,m1,m2,m3,m4,enc (cq l),eu l (traps.take j),frames))
  (l,T,dr 0 l,(m0,m1,m2,m3,m4,code,traps,frames),(0,0,0,0,0,[],[],[]),m0,m1,m2,m3,m4,enc (cq l),eu l traps,frames) traps.length rfl ?_ ?_).trans ?_
 ·simp only[jj,bc,aM,List.take_length]
 ·intro j hj;have j1:(j:Int)<traps.length:=by omega
  have hle:=LW l traps j;rw[LV hj];simp only[j1,ay,aN,fF,aD,aS,bq hj,z198,ax,aG]
  have em:jk l traps[j]=(cp l traps[j].1,cp l traps[j].2.1,cp l traps[j].2.2.1,traps[j].2.2.2):=rfl;rw[em];generalize traps[j]=t;generalize eu l (traps.take j)=out at hle;have g1:out.length+1<=9223372036854775807:=by omega
  have g2:(out.length+1)*32<=140737488355328:=by omega
  by_cases e:cp l t.1<cp l t.2.1
  ·rw[if_pos e,if_pos e];simp only[g1,g2,ay,ba,aD,aJ,wn (show j<=1048576 by omega)]
  ·rw[if_neg e,if_neg e];simp only[aJ,wn (show j<=1048576 by omega),cB]
 simp only[z199,ax]
end
end Go.Proofs.YtmjlecabpbiigaaGreat
section
namespace Go.Stow
open Classical in
noncomputable def eD (m:MthP):MthP:=if aT m.1 8 then m else dJ m
def Ei (m:MthP):(eD m).1=m.1/\(eD m).2.1=m.2.1/\(eD m).2.2.1=m.2.2.1:=by
 unfold eD;split
 ·exact⟨rfl,rfl,rfl⟩
 ·exact⟨rfl,rfl,rfl⟩
def Ej {m:MthP}(h:aT m.1 8):eD m=m:=by unfold eD;rw[if_pos h]
def zD {m:MthP}(h:¬ aT m.1 8):eD m=dJ m:=by unfold eD;rw[if_neg h]
end Go.Stow
namespace Go.Proofs.YtmjlecabpbiigaaGreat
open Go Go.AM Go.TM Go.Stow
def zE (c:Cls):gF c=(c.1,c.2.1,c.2.2.1,c.2.2.2.1,c.2.2.2.2.1,c.2.2.2.2.2.1,c.2.2.2.2.2.2.map eD):=by
 unfold gF;congr
def zdy (l:List UInt8)(v:Mth)(r:List UInt8)(h:f9 l=U (v,r)):gR v.1->v.2.2.2.1=0/\v.2.2.2.2.1=0/\v.2.2.2.2.2.1=[]/\v.2.2.2.2.2.2.1=[]/\v.2.2.2.2.2.2.2=[]:=by
 obtain⟨⟨f,l1⟩,h1,h⟩:=bf h;obtain⟨⟨n,l2⟩,h2,h⟩:=bf h;obtain⟨⟨d,l3⟩,h3,h⟩:=bf h;simp only at h;unfold m3 at h;by_cases c:gR f
 ·rw[if_pos c]at h;simp only[aF,bm]at h;obtain⟨rfl,-⟩:=h;exact fun _=>⟨rfl,rfl,rfl,rfl,rfl⟩
 ·rw[if_neg c]at h;obtain⟨⟨s,l4⟩,h4,h⟩:=bf h;obtain⟨⟨lo,l5⟩,h5,h⟩:=bf h;obtain⟨⟨k,l6⟩,h6,h⟩:=bf h;simp only at h;unfold b5 at h;split at h
  ·cases h
  obtain⟨⟨code,l7⟩,h7,h⟩:=bf h;obtain⟨⟨tr,l8⟩,h8,h⟩:=bf h;obtain⟨⟨fr,l9⟩,h9,h⟩:=bf h;simp only[aF,bm]at h;obtain⟨rfl,-⟩:=h;exact fun e=>absurd e c
def zdz {l:List UInt8}{c:Cls}{r:List UInt8}(h:fh l=U (c,r)):∀m∈c.2.2.2.2.2.2,gR m.1->m.2.2.2.1=0/\m.2.2.2.2.1=0/\m.2.2.2.2.2.1=[]/\m.2.2.2.2.2.2.1=[]/\m.2.2.2.2.2.2.2=[]:=by
 obtain⟨⟨t,l1⟩,h1,h⟩:=bf h;simp only at h;unfold iN at h;split at h
 ·cases h
 obtain⟨⟨p,l2⟩,h2,h⟩:=bf h;obtain⟨⟨f,l3⟩,h3,h⟩:=bf h;obtain⟨⟨n,l4⟩,h4,h⟩:=bf h;obtain⟨⟨s,l5⟩,h5,h⟩:=bf h;obtain⟨⟨fa,l6⟩,h6,h⟩:=bf h;obtain⟨⟨fi,l7⟩,h7,h⟩:=bf h;obtain⟨⟨ms,l8⟩,h8,h⟩:=bf h;simp only[aF,bm]at h;obtain⟨rfl,-⟩:=h;exact(mP (P:=fun m:Mth=>gR m.1->m.2.2.2.1=0/\m.2.2.2.2.1=0/\m.2.2.2.2.2.1=[]/\m.2.2.2.2.2.2.1=[]/\m.2.2.2.2.2.2.2=[]) zdy h8).2
def Ek {c:Cls}(hput:put c≠[])(h0:dR c=0):put (gF c)≠[]/\dR (gF c)=0/\gF (gF c)=gF c:=by
 obtain⟨hf,h900,hgot⟩:=Ee hput;obtain⟨g1,g2,g3,g4,g5⟩:=Ed h0;have habs:=zdz hgot;have hpool:pH c.1:=KI.1 g1;have hceq:=mQ c hf;rw[zE];obtain⟨c0,c1,c2,c3,c4,c5,ms⟩:=c;obtain⟨⟨k1,k2,k3,k4⟩,f1,f2,f3,f4,f5,f6,f7⟩:=hf;simp only at k1 k2 k3 k4 f1 f2 f3 f4 f5 f6 f7 habs hpool;have hbod:∀m∈ms,¬aT m.1 8->eo c0 m:=g5
 have hfit:∀m∈ms,lT (eD m)/\D0 (eD m)/\(dI tS cH (eD m)).length<=(dI tS cH m).length/\eD (eD m)=eD m:=by
  intro m hm;have hm1:=f7 m hm;by_cases hh:aT m.1 8
  ·rw[Ej hh];have ha:=habs m hm ((zC hm1.1).2 hh);exact⟨hm1,⟨fun _=>ha,by rw[ha.2.2.2.2];simp⟩,bJ _,Ej hh⟩
  ·rw[zD hh];have hb:=hbod m hm hh;obtain⟨a1,a2,a3⟩:=zdc hm1 hb;have hh':¬aT (dJ m).1 8:=hh;refine⟨a1,⟨fun hx=>absurd ((zC a1.1).1 hx) hh',a2⟩,a3,?_⟩;rw[zD hh'];exact(Eb hb (by have:=hm1.2.2.2.2.2.1;omega)).2.2.2.2.1
 have hf':gS (c0,c1,c2,c3,c4,c5,ms.map eD):=by
  refine⟨⟨k1,k2,k3,by simp only[cG];exact k4⟩,f1,f2,f3,f4,f5,f6,fun m hm=>?_⟩;obtain⟨m',hm',rfl⟩:=List.mem_map.1 hm;exact(hfit m' hm').1
 have hrt:=zc6 hf' (fun e he=>by
  obtain⟨i,hi,rfl⟩:=List.mem_iff_getElem.1 he
  exact zcZ (hpool i hi)) (fun m hm=>by
  obtain⟨m',hm',rfl⟩:=List.mem_map.1 hm
  exact(hfit m' hm').2.1)
 have hle:=zdd (c0:=c0) (c1:=c1) (c2:=c2) (c3:=c3) (c4:=c4) (c5:=c5) (ms:=ms) eD fun m hm=>(hfit m hm).2.2.1
 have hceq':=mQ _ hf';refine⟨?_,?_,?_⟩
 ·rw[rp ⟨hf',?_,?_⟩]
  ·unfold cJ;simp
  ·rw[<-hceq'];rw[<-hceq]at h900;exact Nat.le_trans hle h900
  ·rw[<-hceq'];exact hrt
 ·have e:∀i,i<ms.length->(ms.map eD).getD i bl=eD (ms.getD i bl):=fun i hi=>ux hi
  refine DW g1 g2 g3 ?_ ?_
  ·intro i hi;have hi:i<ms.length:=by simpa using hi
   have h:=g4 i hi;simp only[zk]at h ⊢;rw[e i hi];obtain⟨e1,e2,e3⟩:=Ei (ms.getD i bl);obtain⟨a1,a2,a3,a4⟩:=h;rw[e2,e3];refine⟨a1,a2,?_,fun k hk=>?_⟩
   ·unfold lU at a3 ⊢;rw[e1,e2,e3];exact a3
   ·rw[e k (by omega)];obtain⟨_,d2,d3⟩:=Ei (ms.getD k bl);rw[d2,d3];exact a4 k hk
  ·intro m hm hn;obtain⟨m',hm',rfl⟩:=List.mem_map.1 (show m∈ms.map eD from hm);rw[(Ei m').1]at hn;rw[zD hn];exact(Eb (hbod m' hm' hn) (by have:=(f7 m' hm').2.2.2.2.2.1;omega)).1
 ·rw[zE];simp only[List.map_map]
  congr 6;exact List.map_congr_left fun m hm=>(hfit m hm).2.2.2
def q38 (c:Cls)(hb:je c):nW c=U (if put c≠[]/\dR c=0 then gF c else([],0,0,0,[],[],[])):=by
 have c29:=Lm c hb;have h92:=j92 c hb;by_cases hput:put c=[]
 ·rw[if_pos hput]at c29;rw[if_neg (fun h=>h.1 hput)];obtain⟨c0,c1,c2,c3,c4,c5,ms⟩:=c;simp only[nW,c29,ax,show ¬((1:Int)=0)by omega,bc,Bool.not_false,aN]
 rw[if_neg hput]at c29;by_cases h0:dR c=0
 ·rw[if_pos ⟨hput,h0⟩,zE];rw[h0]at c29;have hf:=pL hput;have hbod:=(Ed h0).2.2.2.2;obtain⟨c0,c1,c2,c3,c4,c5,ms⟩:=c;have f7:∀m∈ms,lT m:=hf.2.2.2.2.2.2.2;have hlen:ms.length<=6:=hf.1.2.2.2;have hbod:∀m∈ms,¬aT m.1 8->eo c0 m:=hbod;simp only[nW,c29,ax,ay,Bool.not_true,aM,h92]
  refine(DK (fun j a=>((ms.length:Int),(j:Int),([],0,0,0,[],[],[]),(c0,c1,c2,c3,c4,c5),a)) (fun a=>(([],0,0,0,[],[],[]),c0,c1,c2,c3,c4,c5,a)) eD ms rfl (by omega) ?_ ?_).trans rfl
  ·intro a ha;simp only[ha,bH,bc,aM]
  ·intro a x b hx hab;have j1:(a.length:Int)<(ms.length:Int):=by omega
   have j2:(a.length:Int)<((a++x::b).length:Int):=by simp only[aP,bL];omega
   have hx1:=f7 x hx;simp only[j1,j2,ay,aN,fF,ba,aD,aS,DI,Ds,ax,bE]
   by_cases hh:aT x.1 8
   ·have ha:dQ x.1=ae:=by rw[<-Dw _ hx1.1];exact(ru hx1.1.1 hx1.1.2).2 ((zC hx1.1).2 hh)
    rw[ha,Bool.not_true,aM,Ej hh];simp only[aJ,wn (show a.length<=1048576 by omega)]
   ·have ha:dQ x.1=ag:=by
     rw[<-Dw _ hx1.1];exact Bool.eq_false_iff.2 fun h=>hh ((zC hx1.1).1 ((ru hx1.1.1 hx1.1.2).1 h))
    rw[ha,Bool.not_false,aN,zD hh];have q:=zdq x (hbod x hx hh) hx1.2.2.2.2.2.1 (by have:=hx1.2.2.2.2.2.2.1.1;omega) (by have:=hx1.2.2.2.2.2.2.2.1;omega);have q':ua (x.1,x.2.1,x.2.2.1,x.2.2.2.1,x.2.2.2.2.1,x.2.2.2.2.2.1,x.2.2.2.2.2.2.1,x.2.2.2.2.2.2.2)=U (dJ x):=q;simp only[q',ax,DJ,aJ,wn (show a.length<=1048576 by omega)]
 ·rw[if_neg (fun h=>h0 h.2)];obtain⟨c0,c1,c2,c3,c4,c5,ms⟩:=c;simp only[nW,c29,ax,h0,bc,Bool.not_false,aN]
def q39 (c:Cls)(hb:je c):pD c=U (if put c≠[]/\dR c=0 then gF c else([],0,0,0,[],[],[])):=by
 have c30:=zcY c hb;have h93:=j93 c hb;by_cases hput:put c=[]
 ·rw[if_pos hput]at c30;rw[if_neg (fun h=>h.1 hput)];obtain⟨c0,c1,c2,c3,c4,c5,ms⟩:=c;simp only[pD,c30,ax,show ¬((1:Int)=0)by omega,bc,Bool.not_false,aN]
 rw[if_neg hput]at c30;by_cases h0:dR c=0
 ·rw[if_pos ⟨hput,h0⟩,zE];rw[h0]at c30;have hf:=pL hput;have hbod:=(Ed h0).2.2.2.2;obtain⟨c0,c1,c2,c3,c4,c5,ms⟩:=c;have f7:∀m∈ms,lT m:=hf.2.2.2.2.2.2.2;have hlen:ms.length<=6:=hf.1.2.2.2;have hbod:∀m∈ms,¬aT m.1 8->eo c0 m:=hbod;simp only[pD,c30,ax,ay,Bool.not_true,aM,h93]
  refine(DK (fun j a=>((j:Int),([],0,0,0,[],[],[]),c0,c1,c2,c3,c4,c5,a)) (fun a=>(([],0,0,0,[],[],[]),c0,c1,c2,c3,c4,c5,a)) eD ms rfl (by omega) ?_ ?_).trans rfl
  ·intro a ha;simp only[jj,bc,aM]
  ·intro a x b hx hab;have j2:(a.length:Int)<((a++x::b).length:Int):=by simp only[aP,bL];omega
   have hx1:=f7 x hx
   have q:=zdx (p:=c0) x hx1.1 (hbod x hx) hx1.2.2.2.2.2.1 (by have:=hx1.2.2.2.2.2.2.1.1;omega) (by have:=hx1.2.2.2.2.2.2.2.1;omega) (fun f hf=>by
    obtain⟨_,h2,h3⟩:=hx1.2.2.2.2.2.2.2.2 f hf
    exact⟨by have:=h2.1;omega,by have:=h3.1;omega⟩)
   have eg:(if aT x.1 8 then x else dJ x)=eD x:=by unfold eD;congr
   rw[eg]at q;have q':re (x.1,x.2.1,x.2.2.1,x.2.2.2.1,x.2.2.2.2.1,x.2.2.2.2.2.1,x.2.2.2.2.2.2.1,x.2.2.2.2.2.2.2)=U (eD x):=q;simp only[j2,ay,aN,fF,ba,aD,aS,DI,q',ax,bE,DJ,wn (show a.length<=1048576 by omega)]
 ·rw[if_neg (fun h=>h0 h.2)];obtain⟨c0,c1,c2,c3,c4,c5,ms⟩:=c;simp only[pD,c30,ax,h0,bc,Bool.not_false,aN]
end Go.Proofs.YtmjlecabpbiigaaGreat
end
namespace Go.Proofs.YtmjlecabpbiigaaGreat
section
open Go Go.AM Go.TM
def Rd (c:Nat)(r:List UInt8×Int):Prop:=r.1.length<=2000/\0<=r.2/\r.2<=c
def Rd.mono {c d:Nat}{r:List UInt8×Int}(h:Rd c r)(hc:c<=d):Rd d r:=⟨h.1,h.2.1,by have:=h.2.2;omega⟩
def zRN {a b:Int}(ha:0<=a)(ha':a<9223372036854775808)(hb:0<=b)(hb':b<9223372036854775808):0<=pP .i64 a b:=by
 unfold pP
 have e:∀{x:Int},0<=x->x<9223372036854775808->(BitVec.ofInt 64 x).toNat=x.toNat:=by
  intro x h0 h1;rw[BitVec.toNat_ofInt];show(x % ((2^64:Nat):Int)).toNat=_;rw[Int.emod_eq_of_lt h0 (by omega)]
 show 0<=IntKind.wrap .i64 ((BitVec.ofInt 64 a ^^^ BitVec.ofInt 64 b).toNat:Int);rw[BitVec.toNat_xor,e ha ha',e hb hb'];have h:=Nat.xor_lt_two_pow (n:=63) (show a.toNat<2^63 by omega) (show b.toNat<2^63 by omega);rw[wrapI (by omega) (by omega)];omega
def zF {a n:Int}(ha:0<=a)(hn:1<=n):0<=Int.tmod a n/\Int.tmod a n<n:=by
 rw[Int.tmod_eq_emod_of_nonneg ha];exact⟨Int.emod_nonneg _ (by omega),Int.emod_lt_of_pos _ (by omega)⟩
def L4 {a n:Int}(ha:0<=a)(hn:1<=n):0<=Int.tdiv a n/\Int.tdiv a n<=a:=by
 rw[Int.tdiv_eq_ediv_of_nonneg ha];exact⟨Int.ediv_nonneg ha (by omega),Int.ediv_le_self _ ha⟩
def El (x:UInt8):(0:Int)<=(x.toNat:Int)/\(x.toNat:Int)<=255:=by
 have:=x.toNat_lt;omega
def eN {n:Int}{r:List UInt8×Int}{c:Nat}(h:Rd c r)(hc:c<=1000000):ad (dn (n,r)) fun y=>0<=y.1/\(1<=n->y.1<n)/\(n<1->y.1=0)/\Rd (c+1) y.2:=by
 obtain⟨b,p⟩:=r;obtain⟨hb,h0,h1⟩:=h;simp only at hb h0 h1;have hR:Rd (c+1) (b,p+1):=⟨hb,by show(0:Int)<=p+1;omega,by show p+1<=((c+1:Nat):Int);omega⟩
 unfold dn;simp only[show IntKind.wrap .i64 (p+1)=p+1 from wrapI (by omega) (by omega)]
 refine ad.bindE (fun y=>y=(n,b,p+1)/\1<=n/\b≠[]) ?_ ?_
 ·refine aA (fun hn=>?_) (fun hn=>?_)
  ·simp only[aL]at hn;exact ad.ret ⟨by simp,fun h=>absurd h (by omega),fun _=>rfl,hR⟩
  ·simp only[bS]at hn;refine aA (fun hb=>?_) (fun hb=>?_)
   ·exact ad.ret ⟨by simp,fun h=>by show(0:Int)<n;omega,fun _=>rfl,hR⟩
   ·simp only[bS]at hb;exact ad.ret ⟨rfl,by omega,fun e=>hb (by rw[e];rfl)⟩
 ·rintro _ ⟨rfl,hn,hne⟩;have hl:1<=b.length:=by cases b;exact absurd rfl hne;simp
  simp only[show IntKind.wrap .i64 (p+1-1)=p by rw[show p+1-1=p by omega];exact wrapI (by omega) (by omega)]
  have hnz:(!aa (n=0))=ae:=by simp;omega
  have hlz:(!aa (((b.length:Nat):Int)=0))=ae:=by simp;omega
  refine aA (fun hk=>?_) (fun hk=>?_)
  ·simp only[aL]at hk;refine av (by simpa using h0) (ad.at (by omega) fun x hx=>av hnz ?_);have hx:=El x;have hw:IntKind.wrap .i64 ((x.toNat:Nat):Int)=x.toNat:=wrapI (by omega) (by omega);rw[hw];have:=zF (n:=n) hx.1 hn;exact ad.ret ⟨this.1,fun _=>this.2,fun h=>absurd h (by omega),hR⟩
  ·have hm1:=zF (a:=p) (n:=(b.length:Int)) h0 (by omega)
   have w7:IntKind.wrap .i64 (IntKind.wrap .i64 (p*7)+3)=p*7+3:=by
    rw[wrapI (x:=p*7) (by omega) (by omega),wrapI (by omega) (by omega)]
   simp only[w7]
   have hm2:=zF (a:=p*7+3) (n:=(b.length:Int)) (by omega) (by omega);refine av hlz (av (by simpa using hm1.1) (ad.at (by omega) fun x hx=>av hlz (av (by simpa using hm2.1) (ad.at (by omega) fun x1 hx1=>av hlz (av hnz ?_)))));have hx:=El x;have hx1:=El x1;have hd:=L4 (a:=p) (n:=(b.length:Int)) h0 (by omega);generalize (x.toNat:Int)=u at hx ⊢;generalize (x1.toNat:Int)=v at hx1 ⊢;generalize Int.tdiv p (b.length:Int)=d at hd ⊢
   have e:IntKind.wrap .i64 (IntKind.wrap .i64 (IntKind.wrap .i64 (IntKind.wrap .i64 (IntKind.wrap .i64 u*131)+IntKind.wrap .i64 (IntKind.wrap .i64 v*1117))+IntKind.wrap .i64 (p*29))+IntKind.wrap .i64 (IntKind.wrap .i64 d*53))=u*131+v*1117+p*29+d*53:=by
    rw[wrapI (x:=u) (by omega) (by omega),wrapI (x:=v) (by omega) (by omega),wrapI (x:=d) (by omega) (by omega),wrapI (x:=u*131) (by omega) (by omega),wrapI (x:=v*1117) (by omega) (by omega),wrapI (x:=p*29) (by omega) (by omega),wrapI (x:=d*53) (by omega) (by omega),wrapI (x:=u*131+v*1117) (by omega) (by omega),wrapI (x:=u*131+v*1117+p*29) (by omega) (by omega),wrapI (by omega) (by omega)]
   simp only[e]
   generalize ht:u*131+v*1117+p*29+d*53=t;have h64:=L4 (a:=t) (n:=64) (by omega) (by omega);rw[wrapI (x:=Int.tdiv t 64) (by omega) (by omega)];have hxo:=zRN (a:=t) (b:=Int.tdiv t 64) (by omega) (by omega) (by omega) (by omega);have:=zF (n:=n) hxo hn;exact ad.ret ⟨this.1,fun _=>this.2,fun h=>absurd h (by omega),hR⟩
def L5 {α:Type}{F:List α×List UInt8×Int->Option (α×List UInt8×Int)}(hF:∀ l r,F (l,r)=ah (dn (((l.length:Nat):Int),r)) fun y=>af (aa (0<=y.1)) (aq l y.1.toNat fun x=>U (x,y.2)))
  {l:List α} {r:List UInt8×Int} {c:Nat} (h:Rd c r) (hc:c<=1000000) (hl:l≠[]):ad (F (l,r)) fun y=>y.1∈l/\Rd (c+1) y.2:=by
 rw[hF];have hl:1<=l.length:=by cases l;exact absurd rfl hl;simp
 refine ad.bind (eN h hc) fun y hy=>?_
 have:=hy.2.1 (by omega);refine av (by simpa using hy.1) (ad.at (by omega) fun x hx=>ad.ret ⟨dO hx,hy.2.2.2⟩)
def zG {l:List Int}{r:List UInt8×Int}{c:Nat}(h:Rd c r)(hc:c<=1000000)(hl:l≠[]):ad (jY (l,r)) fun y=>y.1∈l/\Rd (c+1) y.2 :=
 L5 (fun l r=>rfl) h hc hl
def zdA {l:List (List UInt8)}{r:List UInt8×Int}{c:Nat}(h:Rd c r)(hc:c<=1000000)(hl:l≠[]):ad (df (l,r)) fun y=>y.1∈l/\Rd (c+1) y.2 :=
 L5 (fun l r=>rfl) h hc hl
def t49 (code:List UInt8):ad (wS code) (Rd 0):=by
 unfold wS;refine aA (fun h=>?_) (fun h=>?_)
 ·simp only[aL]at h;refine av (by simp;omega) (ad.ret ⟨?_,by simp,by simp⟩);simp only[List.drop_zero,bT];omega
 ·simp only[bS]at h;exact ad.ret ⟨by simp only;omega,by simp,by simp⟩
def uz (n:Int) : -9223372036854775808<=IntKind.wrap .i64 n/\IntKind.wrap .i64 n<=9223372036854775807:=by
 simp only[IntKind.wrap,IntKind.bits,IntKind.signed]
 simp;split<;>omega
def zdB (n:Int):0<=IntKind.wrap .u8 n/\IntKind.wrap .u8 n<=255:=by
 have h:IntKind.wrap .u8 n=n % 256:=by simp[IntKind.wrap,IntKind.bits,IntKind.signed]
 rw[h];omega
def oi (n:Int):(aa ((0:Int)<=IntKind.wrap .u8 n)&&aa (IntKind.wrap .u8 n<=(255:Int)))=ae:=by
 have:=zdB n;simp[this.1,this.2]
def Em:∀(k:Nat) (n:Int),n<=9223372036854775807->0<=n->n<10^(k+1)->k<=30->ad (mB (k+1) n) fun s=>s.length<=k+1
 | 0,n,_,h0,h1,_=>by
   show ad (nM (mB 0) n) _;unfold nM;refine aA (fun h=>?_) (fun _=>aA (fun h=>?_) (fun _=>aA (fun _=>av (oi _) (ad.ret (by simp))) (fun h=>?_)))
   ·simp only[aL]at h;omega
   ·simp only[aL]at h;omega
   ·simp only[bS]at h;omega
 | k+1,n,hm,h0,h1,hk=>by
   show ad (nM (mB (k+1)) n) _;unfold nM;refine aA (fun h=>?_) (fun _=>aA (fun h=>?_) (fun _=>aA (fun _=>av (oi _) (ad.ret (by simp))) (fun h=>?_)))
   ·simp only[aL]at h;omega
   ·simp only[aL]at h;omega
   ·simp only[bS]at h;have hp:(10:Int)^(k+1+1)=10^(k+1)*10:=Int.pow_succ _ _;have hd:Int.tdiv n 10=n / 10:=Int.tdiv_eq_ediv_of_nonneg h0;have hlt:n / 10<10^(k+1):=by omega
    have hw:IntKind.wrap .i64 (Int.tdiv n 10)=n / 10:=by rw[hd];exact wrapI (by omega) (by omega)
    obtain⟨y,e,hy⟩:=Em k (n / 10) (by omega) (by omega) hlt (by omega);rw[hw,e];simp only[ax,ay,aD,bE,oi]
    have hl:aa (y.length+1<=9223372036854775807)=ae:=by simp only[aL];omega
    simp only[hl,aD,jd]
    exact ad.ret (by simp only[aP,bL,cX];omega)
def lu {n:Int}(h1 : -9223372036854775808<=n)(h2:n<=9223372036854775807):ad (jX n) fun s=>s.length<=25:=by
 have p23:(10:Int)^23=100000000000000000000000:=by decide
 have p24:(10:Int)^24=1000000000000000000000000:=by decide
 by_cases h0:0<=n
 ·exact(Em 23 n h2 h0 (by omega) (by omega)).mono fun s h=>by omega
 ·show ad (nM (mB 23) n) _;unfold nM;refine aA (fun h=>ad.ret (by simp)) (fun h=>aA (fun _=>?_) (fun h=>?_))
  ·simp only[bS]at h;rw[wrapI (x:=0-n) (by omega) (by omega)];refine ad.bind (Em 22 (0-n) (by omega) (by omega) (by omega) (by omega)) fun y hy=>av (by simp only[aL];omega) (ad.ret ?_)
   simp only[aP,bL,cX];omega
  ·simp only[bS]at h;omega
def L6 {list:List (List UInt8)}{s:List UInt8}(hl:list.length<=1000000000000):ad (qQ (list,s)) fun _=>True:=by
 unfold qQ;refine ad.bindE (fun _=>True) (ad.loop (fun x=>x.1=list/\0<=x.2.2/\x.2.2<=(list.length:Int)) (fun x=>list.length-x.2.2.toNat) ?_ ⟨rfl,by simp,by simp⟩) (fun _ _=>ad.ret trivial);rintro⟨l,s,i⟩ ⟨rfl,h0,h1⟩;simp only at hl;refine aA (fun h=>?_) (fun h=>ad.ret trivial);simp only[aL]at h;simp only at h0 h1;refine av (by simpa using h0) (ad.at (by omega) fun x _=>aA (fun _=>ad.ret trivial) fun _=>ad.ret ?_);simp only[Sum.elim_inl,true_and]
 rw[wrapI (by omega) (by omega)];omega
def zH (a b c:Int):ad (eY (a,b,c)) fun _=>True:=by
 unfold eY;exact aA (fun _=>ad.ret trivial) fun _=>ad.ret trivial
def zI (n:Int):ad (kY n) fun _=>True:=by
 unfold kY;refine ad.bindE (fun _=>True) ?_ fun y _=>?_
 ·exact aA (fun _=>ad.ret trivial) fun _=>aA (fun _=>ad.ret trivial) fun _=>aA (fun _=>ad.ret trivial) fun _=>aA (fun _=>ad.ret trivial) fun _=>aA (fun _=>ad.ret trivial) fun _=>ad.ret trivial
 ·refine ad.bind (zH _ _ _) fun y _=>aA (fun _=>ad.ret trivial) fun _=>ad.bind (zH _ _ _) fun y _=>aA (fun _=>ad.ret trivial) fun _=>ad.bind (zH _ _ _) fun y _=>aA (fun _=>ad.ret trivial) fun _=>ad.ret trivial
def uA {s:List UInt8}{b most:Int}(hs:s.length<=1000000000000)(hm:0<=most) :
  ad (nN (s,b,most)) fun out=>1<=out.length/\out.length<=s.length+1/\(out.length:Int)<=most+1/\∀x∈out,x.length<=s.length:=by
 unfold nN
 refine ad.bindE (fun y=>y.1=s/\y.2.1.length<=s.length/\(y.2.1.length:Int)<=most/\(∀x∈y.2.1,x.length<=s.length)/\0<=y.2.2/\y.2.2<=(s.length:Int))
  (ad.loop (fun x=>x.1=s/\x.2.2.1=most/\(∀z∈x.2.2.2.1,z.length<=s.length)/\(x.2.2.2.1.length:Int)<=most/\(x.2.2.2.1.length:Int)<=x.2.2.2.2.2/\0<=x.2.2.2.2.1/\x.2.2.2.2.1<=x.2.2.2.2.2/\x.2.2.2.2.2<=(s.length:Int)) (fun x=>s.length-x.2.2.2.2.2.toNat) ?_ ⟨rfl,rfl,by simp,by simpa using hm,by simp,by simp,by simp,by simp⟩) ?_
 ·rintro⟨s1,b1,m1,out,fr,i⟩ ⟨rfl,rfl,h1,h2,h3,h4,h5,h6⟩;simp only at h1 h2 h3 h4 h5 h6 hs;refine ad.bindE (fun y=>y=(s1,b1,m1,out,fr,i)/\i<(s1.length:Int)/\(out.length:Int)<m1) ?_ ?_
  ·refine aA (fun h=>aA (fun g=>?_) fun _=>?_) fun _=>?_
   ·simp only[aL]at h g;exact ad.ret ⟨rfl,h,g⟩
   ·exact ad.ret ⟨rfl,by simp only;omega,h2,h1,h4,by simp only;omega⟩
   ·exact ad.ret ⟨rfl,by simp only;omega,h2,h1,h4,by simp only;omega⟩
  ·rintro _ ⟨rfl,g1,g2⟩;refine ad.bindE (fun y=>y.1=s1/\y.2.2.1=m1/\(∀z∈y.2.2.2.1,z.length<=s1.length)/\(y.2.2.2.1.length:Int)<=m1/\(y.2.2.2.1.length:Int)<=i+1/\0<=y.2.2.2.2.1/\y.2.2.2.2.1<=i+1/\y.2.2.2.2.2=i) ?_ ?_
   ·refine av (by simp only[aL];omega) (ad.at (by omega) fun x _=>aA (fun _=>?_) fun _=>?_)
    ·refine av (by simp only[aK,aL];omega) (av (by simp only[aK,aL];omega) (ad.ret ⟨rfl,rfl,?_,?_,?_,?_,?_,rfl⟩))
     ·intro z hz;simp only[List.mem_append,List.mem_singleton]at hz;rcases hz with hz|rfl
      ·exact h1 z hz
      ·simp only[dx,bT];omega
     ·simp only[aP,bL,cX];omega
     ·simp only[aP,bL,cX];omega
     ·simp only;rw[wrapI (by omega) (by omega)];omega
     ·simp only;rw[wrapI (by omega) (by omega)];omega
    ·exact ad.ret ⟨rfl,rfl,h1,h2,by simp only;omega,h4,by simp only;omega,rfl⟩
   ·rintro⟨s2,b2,m2,out2,fr2,i2⟩ ⟨rfl,rfl,k1,k2,k3,k4,k5,rfl⟩;simp only at k1 k2 k3 k4 k5 hs g1 g2 h4 h5;have hw:IntKind.wrap .i64 (i2+1)=i2+1:=wrapI (by omega) (by omega);refine ad.ret ⟨⟨rfl,rfl,k1,k2,?_,k4,?_,?_⟩,?_⟩<;>(simp only;rw[hw];omega)
 ·rintro⟨s1,out,fr⟩ ⟨rfl,h1,h2,h3,h4,h5⟩;simp only at h1 h2 h3 h4 h5 hs;refine av (by simp only[aK,aL];omega) (av (by simp only[aK,aL];omega) (ad.ret ⟨?_,?_,?_,?_⟩))
  ·simp
  ·simp only[aP,bL,cX];omega
  ·simp only[aP,bL,cX];omega
  ·intro z hz;simp only[List.mem_append,List.mem_singleton]at hz;rcases hz with hz|rfl
   ·exact h3 z hz
   ·simp only[dx,bT];omega
end
section
open Go Go.AM Go.TM
set_option maxRecDepth 10000
def Gt (K:Nat)(g:List UInt8×List UInt8×List UInt8×Int×List UInt8):Prop :=
 g.1.length<=K/\g.2.1.length<=K/\g.2.2.1.length<=K/\((-9223372036854775808:Int)<=g.2.2.2.1/\g.2.2.2.1<=(9223372036854775807:Int))/\g.2.2.2.2.length<=3
def Gt.mono {K L:Nat}{g:List UInt8×List UInt8×List UInt8×Int×List UInt8}(h:Gt K g)(hc:K<=L):Gt L g :=
 ⟨Nat.le_trans h.1 hc,Nat.le_trans h.2.1 hc,Nat.le_trans h.2.2.1 hc,h.2.2.2.1,h.2.2.2.2⟩
def ew {m:Nat}{l:List (List UInt8)}{r:List UInt8×Int}{c:Nat}(h:Rd c r)(hc:c<=1000000)(hl:l≠[])(hm:∀ x∈l,x.length<=m):ad (df (l,r)) fun y=>y.1.length<=m/\Rd (c+1) y.2 :=
 (zdA h hc hl).mono fun y hy=>⟨hm _ hy.1,hy.2⟩
def En {m:Int}{l:List Int}{r:List UInt8×Int}{c:Nat}(h:Rd c r)(hc:c<=1000000)(hl:l≠[])(hm:∀ x∈l,-m<=x/\x<=m):ad (jY (l,r)) fun y=>-m<=y.1/\y.1<=m/\Rd (c+1) y.2 :=
 (zG h hc hl).mono fun y hy=>⟨(hm _ hy.1).1,(hm _ hy.1).2,hy.2⟩
def bQ {s:List UInt8}{g:List UInt8×List UInt8×List UInt8×Int×List UInt8}{r:List UInt8×Int}{K:Nat}{c:Nat}(hs:au s<=100)(hg:Gt K g)(hr:Rd c r)(hK:K<=950000)(hc:c<=950000):ad (bM (s,g,r)) fun y=>Gt (K+110) y.1/\Rd (c+0) y.2:=by
 obtain⟨o1,o2,o3,o4,o5⟩:=g;have ko1:au o1<=K+0:=hg.1;have ko2:au o2<=K+0:=hg.2.1;have ko3:au o3<=K+0:=hg.2.2.1;have ko5:au o5<=3:=hg.2.2.2.2;obtain⟨o0,o11⟩:=r;unfold bM;refine av (by simp<;>omega) ?_;refine av (by simp<;>omega) ?_;refine av (by simp<;>omega) ?_;refine ad.bind (P:=fun y=>y.length<=100) (ad.ret (by decide)) ?_;intro y ky;refine ad.seq (by repeat first|exact ad.ret trivial|refine ad.seq ?_ ?_|refine av (by first|decide|simp<;>omega) ?_) ?_;refine ad.bind (uA (by omega) (by omega)) ?_;intro y1 ky1;refine ad.seq (by repeat first|exact ad.ret trivial|refine ad.seq ?_ ?_|refine av (by first|decide|simp<;>omega) ?_) ?_;refine ad.at (by omega) fun x _=>?_
 refine ad.bind (L6 (by omega)) ?_;intro y2 _;refine ad.seq (by repeat first|exact ad.ret trivial|refine ad.seq ?_ ?_|refine av (by first|decide|simp<;>omega) ?_) ?_;refine ad.bind (zI _) ?_;intro y3 _;refine ad.seq (by repeat first|exact ad.ret trivial|refine ad.seq ?_ ?_|refine av (by first|decide|simp<;>omega) ?_) ?_;exact ad.ret ⟨⟨(by show au _<=_;first|omega|simp<;>omega),(by show au _<=_;first|omega|simp<;>omega),(by show au _<=_;first|omega|simp<;>omega),(uz _),(by show au _<=_;first|omega|simp<;>omega)⟩,hr.mono (by omega)⟩
def iu {g:List UInt8×List UInt8×List UInt8×Int×List UInt8}{r:List UInt8×Int}{K:Nat}{c:Nat}(hg:Gt K g)(hr:Rd c r)(hK:K<=950000)(hc:c<=950000):ad (gv (g,r)) fun y=>au y.1<=25/\Gt (K+0) y.2.1/\Rd (c+1) y.2.2:=by
 obtain⟨o1,o2,o3,o4,o5⟩:=g;obtain⟨o0,o11⟩:=r;unfold gv;refine ad.bind (eN hr (by omega)) ?_;rintro⟨y,y1,y2⟩ ⟨(a2:(0:Int)<=y),(b3:(1:Int)<=(3:Int)->y<(3:Int)),-,hr1⟩;refine ad.bind (lu (by omega) (by omega)) ?_;intro y3 (ky3:au y3<=25);exact ad.ret ⟨(by first|omega|simp<;>omega),hg.mono (by omega),hr1.mono (by omega)⟩
def Eo {g:List UInt8×List UInt8×List UInt8×Int×List UInt8}{r:List UInt8×Int}{K:Nat}{c:Nat}(hg:Gt K g)(hr:Rd c r)(hK:K<=950000)(hc:c<=950000):ad (qV (g,r)) fun y=>au y.1<=20/\Gt (K+0) y.2.1/\Rd (c+0) y.2.2:=by
 obtain⟨o1,o2,o3,o4,o5⟩:=g;have ko1:au o1<=K+0:=hg.1;have ko2:au o2<=K+0:=hg.2.1;have ko3:au o3<=K+0:=hg.2.2.1;have ko5:au o5<=3:=hg.2.2.2.2;obtain⟨o0,o11⟩:=r;unfold qV;refine av (by simp<;>omega) ?_;refine av (by simp<;>omega) ?_;refine av (by simp<;>omega) ?_;refine av (by simp<;>omega) ?_;exact ad.ret ⟨(by first|omega|simp<;>omega),hg.mono (by omega),hr.mono (by omega)⟩
def Ep {locals:List UInt8}{stack:List UInt8}{g:List UInt8×List UInt8×List UInt8×Int×List UInt8}{r:List UInt8×Int}{K:Nat}{c:Nat}(hlocals:au locals<=20)(hstack:au stack<=20)(hg:Gt K g)(hr:Rd c r)(hK:K<=950000)(hc:c<=950000):ad (qW (locals,stack,g,r)) fun y=>Gt (K+110) y.1/\Rd (c+0) y.2:=by
 obtain⟨o1,o2,o3,o4,o5⟩:=g;have ko1:au o1<=K+0:=hg.1;have ko2:au o2<=K+0:=hg.2.1;have ko3:au o3<=K+0:=hg.2.2.1;have ko5:au o5<=3:=hg.2.2.2.2;obtain⟨o0,o11⟩:=r;unfold qW;refine av (by simp<;>omega) ?_;refine ad.bind (lu hg.2.2.2.1.1 hg.2.2.2.1.2) ?_;intro y (ky:au y<=25);refine ad.seq (by repeat first|exact ad.ret trivial|refine ad.seq ?_ ?_|refine av (by first|decide|simp<;>omega) ?_) ?_;refine av (by simp<;>omega) ?_;refine av (by simp<;>omega) ?_;refine av (by simp<;>omega) ?_;refine av (by simp<;>omega) ?_;refine av (by simp<;>omega) ?_;refine av (by simp<;>omega) ?_;exact ad.ret ⟨⟨(by show au _<=_;first|omega|simp<;>omega),(by show au _<=_;first|omega|simp<;>omega),(by show au _<=_;first|omega|simp<;>omega),⟨hg.2.2.2.1.1,hg.2.2.2.1.2⟩,(by show au _<=_;first|omega|simp<;>omega)⟩,hr.mono (by omega)⟩
def zJ {g:List UInt8×List UInt8×List UInt8×Int×List UInt8}{r:List UInt8×Int}{K:Nat}{c:Nat}(hg:Gt K g)(hr:Rd c r)(hK:K<=900000)(hc:c<=900000):ad (pv (g,r)) fun y=>Gt (K+500) y.1/\Rd (c+10) y.2:=by
 obtain⟨o1,o2,o3,o4,o5⟩:=g;obtain⟨o0,o11⟩:=r;unfold pv;refine ad.bind (eN hr (by omega)) ?_;rintro⟨y,y1,y2⟩ ⟨(a2:(0:Int)<=y),(b3:(1:Int)<=(6:Int)->y<(6:Int)),-,hr1⟩;refine ad.bindE (fun y=>Gt (K+330) y.1/\Rd (c+4) y.2) ?_ ?_
 ·refine aA (fun c4=>?_) (fun c4=>?_)
  ·refine ad.bind (iu hg hr1 (by omega) (by omega)) ?_;rintro⟨y3,⟨y4,y5,y6,y7,y8⟩,x,x1⟩ ⟨(ky3:au y3<=25),hg5,hr6⟩;refine av (by simp<;>omega) ?_;refine ad.bind (bQ (by first|omega|simp<;>omega) hg5 hr6 (by omega) (by omega)) ?_;rintro⟨⟨y9,y10,y11,cM,dh⟩,y14,x2⟩ ⟨hg7,hr8⟩;refine ad.bind (bQ (by first|omega|simp<;>omega) hg7 hr8 (by omega) (by omega)) ?_;rintro⟨⟨y15,cT,eE,dY,y19⟩,y20,x3⟩ ⟨hg9,hr10⟩;exact ad.ret ⟨hg9.mono (by omega),hr10.mono (by omega)⟩
  ·refine aA (fun c11=>?_) (fun c11=>?_)
   ·refine ad.bind (iu hg hr1 (by omega) (by omega)) ?_;rintro⟨y3,⟨y4,y5,y6,y7,y8⟩,x,x1⟩ ⟨(ky3:au y3<=25),hg12,hr13⟩;refine av (by simp<;>omega) ?_;refine ad.bind (bQ (by first|omega|simp<;>omega) hg12 hr13 (by omega) (by omega)) ?_;rintro⟨⟨y9,y10,y11,cM,dh⟩,y14,x2⟩ ⟨hg14,hr15⟩;refine ad.bind (bQ (by first|omega|simp<;>omega) hg14 hr15 (by omega) (by omega)) ?_;rintro⟨⟨y15,cT,eE,dY,y19⟩,y20,x3⟩ ⟨hg16,hr17⟩;exact ad.ret ⟨hg16.mono (by omega),hr17.mono (by omega)⟩
   ·refine aA (fun c18=>?_) (fun c18=>?_)
    ·refine ad.bind (bQ (by first|omega|simp<;>omega) hg hr1 (by omega) (by omega)) ?_;rintro⟨⟨y3,y4,y5,y6,y7⟩,y8,x⟩ ⟨hg19,hr20⟩;exact ad.ret ⟨hg19.mono (by omega),hr20.mono (by omega)⟩
    ·refine aA (fun c21=>?_) (fun c21=>?_)
     ·refine ad.bind (En (m:=100000) hr1 (by omega) (by simp) (by decide)) ?_;rintro⟨y3,y4,y5⟩ ⟨(a23:(-100000:Int)<=y3),(b24:y3<=(100000:Int)),hr22⟩;refine ad.bind (lu (by omega) (by omega)) ?_;intro y6 (ky6:au y6<=25);refine av (by simp<;>omega) ?_;refine ad.bind (bQ (by first|omega|simp<;>omega) hg hr22 (by omega) (by omega)) ?_;rintro⟨⟨y7,y8,y9,y10,y11⟩,cM,x⟩ ⟨hg25,hr26⟩;refine ad.bind (En (m:=100000) hr26 (by omega) (by simp) (by decide)) ?_;rintro⟨dh,y14,y15⟩ ⟨(a28:(-100000:Int)<=dh),(b29:dh<=(100000:Int)),hr27⟩;refine ad.bind (lu (by omega) (by omega)) ?_;intro cT (ky16:au cT<=25);refine av (by simp<;>omega) ?_;refine ad.bind (bQ (by first|omega|simp<;>omega) hg25 hr27 (by omega) (by omega)) ?_;rintro⟨⟨eE,dY,y19,y20,y21⟩,y22,x1⟩ ⟨hg30,hr31⟩;refine ad.bind (ew (m:=3) hr31 (by omega) (by simp) (by decide)) ?_;rintro⟨y23,y24,y25⟩ ⟨(ky23:au y23<=3),hr32⟩;refine ad.bind (bQ (by first|omega|simp<;>omega) hg30 hr32 (by omega) (by omega)) ?_;rintro⟨⟨y26,y27,y28,y29,y30⟩,y31,x2⟩ ⟨hg33,hr34⟩;exact ad.ret ⟨hg33.mono (by omega),hr34.mono (by omega)⟩
     ·refine ad.bind (En (m:=100000) hr1 (by omega) (by simp) (by decide)) ?_;rintro⟨y3,y4,y5⟩ ⟨(a36:(-100000:Int)<=y3),(b37:y3<=(100000:Int)),hr35⟩;refine ad.bind (lu (by omega) (by omega)) ?_;intro y6 (ky6:au y6<=25);refine av (by simp<;>omega) ?_;refine ad.bind (bQ (by first|omega|simp<;>omega) hg hr35 (by omega) (by omega)) ?_;rintro⟨⟨y7,y8,y9,y10,y11⟩,cM,x⟩ ⟨hg38,hr39⟩;exact ad.ret ⟨hg38.mono (by omega),hr39.mono (by omega)⟩
 rintro⟨⟨o12,o21,o31,o41,o51⟩,o01,o13⟩ ⟨hg40,hr41⟩;exact ad.ret ⟨hg40.mono (by omega),hr41.mono (by omega)⟩
def L7 {g:List UInt8×List UInt8×List UInt8×Int×List UInt8}{r:List UInt8×Int}{K:Nat}{c:Nat}(hg:Gt K g)(hr:Rd c r)(hK:K<=900000)(hc:c<=900000):ad (tH (g,r)) fun y=>Gt (K+300) y.1/\Rd (c+5) y.2:=by
 obtain⟨o1,o2,o3,o4,o5⟩:=g;obtain⟨o0,o11⟩:=r;unfold tH;refine ad.bind (eN hr (by omega)) ?_;rintro⟨y,y1,y2⟩ ⟨(a2:(0:Int)<=y),(b3:(1:Int)<=(10:Int)->y<(10:Int)),-,hr1⟩;refine ad.bindE (fun y=>Gt (K+220) y.1/\Rd (c+3) y.2) ?_ ?_
 ·refine aA (fun c4=>?_) (fun c4=>?_)
  ·refine ad.bind (bQ (by first|omega|simp<;>omega) hg hr1 (by omega) (by omega)) ?_;rintro⟨⟨y3,y4,y5,y6,y7⟩,y8,x⟩ ⟨hg5,hr6⟩;exact ad.ret ⟨hg5.mono (by omega),hr6.mono (by omega)⟩
  ·refine ad.bindE (fun y=>Gt (K+0) y.2.2.1/\Rd (c+1) y.2.2.2) ?_ ?_
   ·refine aA (fun c7=>?_) (fun c7=>?_)
    ·exact ad.ret ⟨hg.mono (by omega),hr1.mono (by omega)⟩
    ·exact ad.ret ⟨hg.mono (by omega),hr1.mono (by omega)⟩
   rintro⟨v8,v15,⟨o12,o21,o31,o41,o51⟩,o01,o13⟩ ⟨hg8,hr9⟩;refine aA (fun c10=>?_) (fun c10=>?_)
   ·refine ad.bind (bQ (by first|omega|simp<;>omega) hg8 hr9 (by omega) (by omega)) ?_;rintro⟨⟨y3,y4,y5,y6,y7⟩,y8,x⟩ ⟨hg11,hr12⟩;exact ad.ret ⟨hg11.mono (by omega),hr12.mono (by omega)⟩
   ·refine aA (fun c13=>?_) (fun c13=>?_)
    ·refine ad.bind (bQ (by first|omega|simp<;>omega) hg8 hr9 (by omega) (by omega)) ?_;rintro⟨⟨y3,y4,y5,y6,y7⟩,y8,x⟩ ⟨hg14,hr15⟩;exact ad.ret ⟨hg14.mono (by omega),hr15.mono (by omega)⟩
    ·refine aA (fun c16=>?_) (fun c16=>?_)
     ·refine ad.bind (iu hg8 hr9 (by omega) (by omega)) ?_;rintro⟨y3,⟨y4,y5,y6,y7,y8⟩,x,x1⟩ ⟨(ky3:au y3<=25),hg17,hr18⟩;refine av (by simp<;>omega) ?_;refine ad.bind (bQ (by first|omega|simp<;>omega) hg17 hr18 (by omega) (by omega)) ?_;rintro⟨⟨y9,y10,y11,cM,dh⟩,y14,x2⟩ ⟨hg19,hr20⟩;refine ad.bind (ew (m:=1) hr20 (by omega) (by simp) (by decide)) ?_;rintro⟨y15,cT,eE⟩ ⟨(ky15:au y15<=1),hr21⟩;refine av (by simp<;>omega) ?_;refine ad.bind (bQ (by first|omega|simp<;>omega) hg19 hr21 (by omega) (by omega)) ?_;rintro⟨⟨dY,y19,y20,y21,y22⟩,y23,x3⟩ ⟨hg22,hr23⟩;exact ad.ret ⟨hg22.mono (by omega),hr23.mono (by omega)⟩
     ·refine aA (fun c24=>?_) (fun c24=>?_)
      ·refine ad.bind (iu hg8 hr9 (by omega) (by omega)) ?_;rintro⟨y3,⟨y4,y5,y6,y7,y8⟩,x,x1⟩ ⟨(ky3:au y3<=25),hg25,hr26⟩;refine av (by simp<;>omega) ?_;refine ad.bind (bQ (by first|omega|simp<;>omega) hg25 hr26 (by omega) (by omega)) ?_;rintro⟨⟨y9,y10,y11,cM,dh⟩,y14,x2⟩ ⟨hg27,hr28⟩;refine ad.bind (bQ (by first|omega|simp<;>omega) hg27 hr28 (by omega) (by omega)) ?_;rintro⟨⟨y15,cT,eE,dY,y19⟩,y20,x3⟩ ⟨hg29,hr30⟩;exact ad.ret ⟨hg29.mono (by omega),hr30.mono (by omega)⟩
      ·refine aA (fun c31=>?_) (fun c31=>?_)
       ·refine ad.bind (ew (m:=3) hr9 (by omega) (by simp) (by decide)) ?_;rintro⟨y3,y4,y5⟩ ⟨(ky3:au y3<=3),hr32⟩;refine av (by simp<;>omega) ?_;refine ad.bind (bQ (by first|omega|simp<;>omega) hg8 hr32 (by omega) (by omega)) ?_;rintro⟨⟨y6,y7,y8,y9,y10⟩,y11,x⟩ ⟨hg33,hr34⟩;exact ad.ret ⟨hg33.mono (by omega),hr34.mono (by omega)⟩
       ·refine ad.bind (bQ (by first|omega|simp<;>omega) hg8 hr9 (by omega) (by omega)) ?_;rintro⟨⟨y3,y4,y5,y6,y7⟩,y8,x⟩ ⟨hg35,hr36⟩;exact ad.ret ⟨hg35.mono (by omega),hr36.mono (by omega)⟩
 rintro⟨⟨o12,o21,o31,o41,o51⟩,o01,o13⟩ ⟨hg37,hr38⟩;exact ad.ret ⟨hg37.mono (by omega),hr38.mono (by omega)⟩
def zdC {g:List UInt8×List UInt8×List UInt8×Int×List UInt8}{r:List UInt8×Int}{K:Nat}{c:Nat}(hg:Gt K g)(hr:Rd c r)(hK:K<=850000)(hc:c<=850000):ad (xN (g,r)) fun y=>Gt (K+1200) y.1/\Rd (c+20) y.2:=by
 obtain⟨o1,o2,o3,o4,o5⟩:=g;obtain⟨o0,o11⟩:=r;unfold xN;refine ad.bind (ew (m:=6) hr (by omega) (by simp) (by decide)) ?_;rintro⟨y,y1,y2⟩ ⟨(ky:au y<=6),hr1⟩;refine ad.bindE (fun y=>au y.1<=10/\Gt (K+500) y.2.1/\Rd (c+11) y.2.2) ?_ ?_
 ·refine aA (fun c2=>?_) (fun c2=>?_)
  ·refine ad.bind (iu hg hr1 (by omega) (by omega)) ?_;rintro⟨y3,⟨y4,y5,y6,y7,y8⟩,x,x1⟩ ⟨(ky3:au y3<=25),hg3,hr4⟩;refine av (by simp<;>omega) ?_;refine ad.bind (bQ (by first|omega|simp<;>omega) hg3 hr4 (by omega) (by omega)) ?_;rintro⟨⟨y9,y10,y11,cM,dh⟩,y14,x2⟩ ⟨hg5,hr6⟩;exact ad.ret ⟨(by first|omega|simp<;>omega),hg5.mono (by omega),hr6.mono (by omega)⟩
  ·refine aA (fun c7=>?_) (fun c7=>?_)
   ·refine ad.bind (iu hg hr1 (by omega) (by omega)) ?_;rintro⟨y3,⟨y4,y5,y6,y7,y8⟩,x,x1⟩ ⟨(ky3:au y3<=25),hg8,hr9⟩;refine av (by simp<;>omega) ?_;refine ad.bind (bQ (by first|omega|simp<;>omega) hg8 hr9 (by omega) (by omega)) ?_;rintro⟨⟨y9,y10,y11,cM,dh⟩,y14,x2⟩ ⟨hg10,hr11⟩;refine ad.bind (iu hg10 hr11 (by omega) (by omega)) ?_;rintro⟨y15,⟨cT,eE,dY,y19,y20⟩,x3,x4⟩ ⟨(ky15:au y15<=25),hg12,hr13⟩;refine av (by simp<;>omega) ?_;refine ad.bind (bQ (by first|omega|simp<;>omega) hg12 hr13 (by omega) (by omega)) ?_;rintro⟨⟨y21,y22,y23,y24,y25⟩,y26,x5⟩ ⟨hg14,hr15⟩;exact ad.ret ⟨(by first|omega|simp<;>omega),hg14.mono (by omega),hr15.mono (by omega)⟩
   ·refine ad.bind (zJ hg hr1 (by omega) (by omega)) ?_;rintro⟨⟨y3,y4,y5,y6,y7⟩,y8,x⟩ ⟨hg16,hr17⟩;exact ad.ret ⟨(by first|omega|simp<;>omega),hg16.mono (by omega),hr17.mono (by omega)⟩
 rintro⟨test,⟨o12,o21,o31,o41,o51⟩,o01,o13⟩ ⟨(ktest:au test<=10),hg18,hr19⟩;refine av (by simp<;>omega) ?_;refine ad.bind (lu (uz _).1 (uz _).2) ?_;intro y3 (ky3:au y3<=25);refine av (by simp<;>omega) ?_;refine ad.bind (bQ (by first|omega|simp<;>omega) hg18 hr19 (by omega) (by omega)) ?_;rintro⟨⟨y4,y5,y6,y7,y8⟩,y9,x⟩ ⟨hg20,hr21⟩;refine ad.bind (bQ (by first|omega|simp<;>omega) hg20 hr21 (by omega) (by omega)) ?_;rintro⟨⟨y10,y11,cM,dh,y14⟩,y15,x1⟩ ⟨hg22,hr23⟩;refine ad.bind (bQ (by first|omega|simp<;>omega) hg22 hr23 (by omega) (by omega)) ?_;rintro⟨⟨cT,eE,dY,y19,y20⟩,y21,x2⟩ ⟨hg24,hr25⟩;refine ad.bind (Eo hg24 hr25 (by omega) (by omega)) ?_;rintro⟨y22,⟨y23,y24,y25,y26,y27⟩,x3,x4⟩ ⟨(ky22:au y22<=20),hg26,hr27⟩;refine ad.bind (ew (m:=1) hr27 (by omega) (by simp) (by decide)) ?_;rintro⟨y28,y29,y30⟩ ⟨(ky28:au y28<=1),hr28⟩;refine ad.bind (Ep (by first|omega|simp<;>omega) (by first|omega|simp<;>omega) hg26 hr28 (by omega) (by omega)) ?_;rintro⟨⟨y31,y32,y33,y34,y35⟩,y36,x5⟩ ⟨hg29,hr30⟩;exact ad.ret ⟨hg29.mono (by omega),hr30.mono (by omega)⟩
def zdD {g:List UInt8×List UInt8×List UInt8×Int×List UInt8}{r:List UInt8×Int}{K:Nat}{c:Nat}(hg:Gt K g)(hr:Rd c r)(hK:K<=850000)(hc:c<=850000):ad (xO (g,r)) fun y=>Gt (K+600) y.1/\Rd (c+5) y.2:=by
 obtain⟨o1,o2,o3,o4,o5⟩:=g;obtain⟨o0,o11⟩:=r;unfold xO;refine ad.bind (eN hr (by omega)) ?_;rintro⟨y,y1,y2⟩ ⟨(a2:(0:Int)<=y),(b3:(1:Int)<=(5:Int)->y<(5:Int)),-,hr1⟩;refine ad.bindE (fun y=>Gt (K+440) y.1/\Rd (c+2) y.2) ?_ ?_
 ·refine aA (fun c4=>?_) (fun c4=>?_)
  ·refine ad.bind (iu hg hr1 (by omega) (by omega)) ?_;rintro⟨y3,⟨y4,y5,y6,y7,y8⟩,x,x1⟩ ⟨(ky3:au y3<=25),hg5,hr6⟩;refine av (by simp<;>omega) ?_;refine ad.bind (bQ (by first|omega|simp<;>omega) hg5 hr6 (by omega) (by omega)) ?_;rintro⟨⟨y9,y10,y11,cM,dh⟩,y14,x2⟩ ⟨hg7,hr8⟩;refine ad.bind (bQ (by first|omega|simp<;>omega) hg7 hr8 (by omega) (by omega)) ?_;rintro⟨⟨y15,cT,eE,dY,y19⟩,y20,x3⟩ ⟨hg9,hr10⟩;refine ad.bind (bQ (by first|omega|simp<;>omega) hg9 hr10 (by omega) (by omega)) ?_;rintro⟨⟨y21,y22,y23,y24,y25⟩,y26,x4⟩ ⟨hg11,hr12⟩;exact ad.ret ⟨hg11.mono (by omega),hr12.mono (by omega)⟩
  ·refine aA (fun c13=>?_) (fun c13=>?_)
   ·refine ad.bind (bQ (by first|omega|simp<;>omega) hg hr1 (by omega) (by omega)) ?_;rintro⟨⟨y3,y4,y5,y6,y7⟩,y8,x⟩ ⟨hg14,hr15⟩;refine ad.bind (iu hg14 hr15 (by omega) (by omega)) ?_;rintro⟨y9,⟨y10,y11,cM,dh,y14⟩,x1,x2⟩ ⟨(ky9:au y9<=25),hg16,hr17⟩;refine av (by simp<;>omega) ?_;refine ad.bind (bQ (by first|omega|simp<;>omega) hg16 hr17 (by omega) (by omega)) ?_;rintro⟨⟨y15,cT,eE,dY,y19⟩,y20,x3⟩ ⟨hg18,hr19⟩;exact ad.ret ⟨hg18.mono (by omega),hr19.mono (by omega)⟩
   ·refine aA (fun c20=>?_) (fun c20=>?_)
    ·refine ad.bind (bQ (by first|omega|simp<;>omega) hg hr1 (by omega) (by omega)) ?_;rintro⟨⟨y3,y4,y5,y6,y7⟩,y8,x⟩ ⟨hg21,hr22⟩;refine ad.bind (iu hg21 hr22 (by omega) (by omega)) ?_;rintro⟨y9,⟨y10,y11,cM,dh,y14⟩,x1,x2⟩ ⟨(ky9:au y9<=25),hg23,hr24⟩;refine av (by simp<;>omega) ?_;refine ad.bind (bQ (by first|omega|simp<;>omega) hg23 hr24 (by omega) (by omega)) ?_;rintro⟨⟨y15,cT,eE,dY,y19⟩,y20,x3⟩ ⟨hg25,hr26⟩;exact ad.ret ⟨hg25.mono (by omega),hr26.mono (by omega)⟩
    ·refine aA (fun c27=>?_) (fun c27=>?_)
     ·refine ad.bind (iu hg hr1 (by omega) (by omega)) ?_;rintro⟨y3,⟨y4,y5,y6,y7,y8⟩,x,x1⟩ ⟨(ky3:au y3<=25),hg28,hr29⟩;refine av (by simp<;>omega) ?_;refine ad.bind (bQ (by first|omega|simp<;>omega) hg28 hr29 (by omega) (by omega)) ?_;rintro⟨⟨y9,y10,y11,cM,dh⟩,y14,x2⟩ ⟨hg30,hr31⟩;refine ad.bind (bQ (by first|omega|simp<;>omega) hg30 hr31 (by omega) (by omega)) ?_;rintro⟨⟨y15,cT,eE,dY,y19⟩,y20,x3⟩ ⟨hg32,hr33⟩;exact ad.ret ⟨hg32.mono (by omega),hr33.mono (by omega)⟩
     ·refine ad.bind (bQ (by first|omega|simp<;>omega) hg hr1 (by omega) (by omega)) ?_;rintro⟨⟨y3,y4,y5,y6,y7⟩,y8,x⟩ ⟨hg34,hr35⟩;refine ad.bind (iu hg34 hr35 (by omega) (by omega)) ?_;rintro⟨y9,⟨y10,y11,cM,dh,y14⟩,x1,x2⟩ ⟨(ky9:au y9<=25),hg36,hr37⟩;refine av (by simp<;>omega) ?_;refine ad.bind (bQ (by first|omega|simp<;>omega) hg36 hr37 (by omega) (by omega)) ?_;rintro⟨⟨y15,cT,eE,dY,y19⟩,y20,x3⟩ ⟨hg38,hr39⟩;refine ad.bind (bQ (by first|omega|simp<;>omega) hg38 hr39 (by omega) (by omega)) ?_;rintro⟨⟨y21,y22,y23,y24,y25⟩,y26,x4⟩ ⟨hg40,hr41⟩;refine ad.bind (bQ (by first|omega|simp<;>omega) hg40 hr41 (by omega) (by omega)) ?_;rintro⟨⟨y27,y28,y29,y30,y31⟩,y32,x5⟩ ⟨hg42,hr43⟩;exact ad.ret ⟨hg42.mono (by omega),hr43.mono (by omega)⟩
 rintro⟨⟨o12,o21,o31,o41,o51⟩,o01,o13⟩ ⟨hg44,hr45⟩;exact ad.ret ⟨hg44.mono (by omega),hr45.mono (by omega)⟩
def fq {α R:Type}{l:List α}{n:Nat}{x:α}{k:α->Option R}(e:l[n]? = U x):aq l n k=k x:=by
 show(match l[n]? with|some x=>k x|none=>aj)=k x;rw[e]
def Pl (K:Nat)(p:List Cst):Prop:=p.length<=K/\∀x∈p,x.2.1.length<=60
def Pl.mono {K L:Nat}{p:List Cst}(h:Pl K p)(hc:K<=L):Pl L p:=⟨Nat.le_trans h.1 hc,h.2⟩
def Pl.app {K:Nat}{p:List Cst}{x:Cst}(h:Pl K p)(hx:x.2.1.length<=60):Pl (K+1) (p++[x]):=by
 refine⟨by have:=h.1;simp only[aP,bL,cX];omega,fun y hy=>?_⟩;simp only[List.mem_append,List.mem_singleton]at hy;rcases hy with hy|rfl
 ·exact h.2 y hy
 ·exact hx
def uB {s:List UInt8}(hs:s.length<=1000000000000):ad (nP s) fun _=>True:=by
 unfold nP;refine ad.bindE (fun y=>y.1=s) (ad.loop (fun z=>z.1=s/\0<=z.2.2/\z.2.2<=(s.length:Int)) (fun z=>s.length-z.2.2.toNat) ?_ ⟨rfl,by simp,by simp⟩) ?_
 ·rintro⟨s1,n,i⟩ ⟨rfl,h0,h1⟩;simp only at h0 h1 hs;refine aA (fun h=>?_) (fun h=>ad.ret rfl);simp only[aL]at h;refine ad.bindE (fun y=>y=(s1,n,i)) ?_ ?_
  ·exact av (by simpa using h0) (ad.at (by omega) fun x _=>aA (fun _=>ad.ret trivial) fun _=>av (by simpa using h0) (ad.at (by omega) fun x1 _=>aA (fun _=>ad.ret trivial) fun _=>aA (fun _=>ad.ret trivial) fun _=>ad.ret rfl))
  ·rintro _ rfl;refine av (by simpa using h0) (ad.at (by omega) fun x _=>ad.ret ⟨⟨rfl,?_,?_⟩,?_⟩)<;>(simp only;rw[wrapI (x:=i+1) (by omega) (by omega)];omega)
 ·rintro⟨s1,n⟩ rfl;refine aA (fun _=>ad.ret trivial) fun _=>aA (fun h=>?_) fun _=>ad.ret trivial
  simp only[aL]at h;exact ad.at (by omega) fun x _=>aA (fun _=>ad.ret trivial) fun _=>ad.ret trivial
def zdE {s:List UInt8}(hs:s.length<=1000000000000):ad (wY s) fun _=>True:=by
 unfold wY;refine ad.bindE (fun y=>y.1=s/\(y.2=ae->1<s.length)) ?_ ?_
 ·refine aA (fun h=>?_) fun h=>ad.ret ⟨rfl,by simp⟩
  simp only[aL]at h;exact ad.at (by omega) fun x _=>ad.ret ⟨rfl,fun _=>by omega⟩
 ·rintro⟨s1,b⟩ ⟨rfl,hb⟩;simp only at hb hs;refine aA (fun h=>?_) fun h=>ad.bind (uB hs) fun _ _=>ad.ret trivial
  have:=hb h;exact av (by simp;omega) (ad.bind (uB (by simp;omega)) fun _ _=>ad.ret trivial)
def zK {x:Cst}{p:List Cst}{f n s:Int}{fa:List Int}{fi:List (Int×Int×Int)}{ms:List Mth}{bad:Bool}{K:Nat}(hx:x.2.1.length<=60)(hp:Pl K p)(hK:K<=1000000):ad (pg (x,p,f,n,s,fa,fi,ms,bad)) fun y=>∃i q,y=(i,q,f,n,s,fa,fi,ms,bad)/\Pl (K+1) q:=by
 obtain⟨c0,c1,c2,c3⟩:=x;have hl:=hp.1;unfold pg;refine ad.bindE (fun y=>y=((c0,c1,c2,c3),p,f,n,s,fa,fi,ms,bad)) (ad.loop (fun z=>z.2=((c0,c1,c2,c3),p,f,n,s,fa,fi,ms,bad)/\0<=z.1/\z.1<=(p.length:Int)) (fun z=>p.length-z.1.toNat) ?_ ⟨rfl,by simp,by simp⟩) ?_
 ·rintro⟨i,z⟩ ⟨hz,h0,h1⟩;simp only at hz h0 h1;subst hz;refine aA (fun h=>?_) (fun h=>ad.ret rfl);simp only[aL]at h;refine av (by simp;omega) (ad.at (by omega) fun y _=>aA (fun _=>?_) fun _=>?_)
  ·exact ad.ret ⟨_,_,rfl,hp.mono (by omega)⟩
  ·refine ad.ret ⟨⟨rfl,?_,?_⟩,?_⟩<;>(simp only;rw[wrapI (by omega) (by omega)];omega)
 ·rintro _ rfl;exact av (by simp;omega) (ad.ret ⟨_,_,rfl,hp.app hx⟩)
def uC {x:List UInt8}{p:List Cst}{f n s:Int}{fa:List Int}{fi:List (Int×Int×Int)}{ms:List Mth}{bad:Bool}{K:Nat}(hp:Pl K p)(hK:K<=1000000):ad (lQ (x,p,f,n,s,fa,fi,ms,bad)) fun y=>∃i q b,y=(i,q,f,n,s,fa,fi,ms,b)/\Pl (K+1) q:=by
 unfold lQ;refine aA (fun h=>ad.ret ⟨_,_,_,rfl,hp.mono (by omega)⟩) (fun h=>?_);simp only[bS]at h;refine ad.bind (zK (by simp only;omega) hp hK) ?_;rintro _ ⟨i,q,rfl,hq⟩;exact ad.ret ⟨_,_,_,rfl,hq⟩
def uD {x:List UInt8}{p:List Cst}{f n s:Int}{fa:List Int}{fi:List (Int×Int×Int)}{ms:List Mth}{bad:Bool}{K:Nat}(hp:Pl K p)(hK:K<=900000):ad (nO (x,p,f,n,s,fa,fi,ms,bad)) fun y=>∃i q b,y=(i,q,f,n,s,fa,fi,ms,b)/\Pl (K+2) q:=by
 unfold nO;refine ad.bind (uC hp (by omega)) ?_;rintro _ ⟨i,q,b,rfl,hq⟩;refine ad.bind (zK (by simp) hq (by omega)) ?_;rintro _ ⟨i,q,rfl,hq⟩;exact ad.ret ⟨_,_,_,rfl,hq⟩
def oj {x:List UInt8}{p:List Cst}{f n s:Int}{fa:List Int}{fi:List (Int×Int×Int)}{ms:List Mth}{bad:Bool}  (hx:x.length<=1000000000000):ad (ia (x,p,f,n,s,fa,fi,ms,bad)) fun y=>∃i b,y=(i,p,f,n,s,fa,fi,ms,b):=by
 unfold ia;refine ad.bind (uB hx) ?_;rintro i -;exact aA (fun _=>ad.ret ⟨_,_,rfl⟩) fun _=>ad.ret ⟨_,_,rfl⟩
def L8 {x:Cst}{p:List Cst}{f n s:Int}{fa:List Int}{fi:List (Int×Int×Int)}{ms:List Mth}{bad:Bool}{K:Nat}(hx:x.2.1.length<=60)(hp:Pl K p)(hK:K<=1000000):ad (tk (x,(p,f,n,s,fi,ms,bad),fa)) fun y=>∃i q,y=(i,(q,f,n,s,fi,ms,bad),fa)/\Pl (K+1) q:=by
 obtain⟨c0,c1,c2,c3⟩:=x;have hl:=hp.1;unfold tk;refine ad.bindE (fun y=>y=((c0,c1,c2,c3),(p,f,n,s,fi,ms,bad),fa)) (ad.loop (fun z=>z.2=((c0,c1,c2,c3),(p,f,n,s,fi,ms,bad),fa)/\0<=z.1/\z.1<=(p.length:Int)) (fun z=>p.length-z.1.toNat) ?_ ⟨rfl,by simp,by simp⟩) ?_
 ·rintro⟨i,z⟩ ⟨hz,h0,h1⟩;simp only at hz h0 h1;subst hz;refine aA (fun h=>?_) (fun h=>ad.ret rfl);simp only[aL]at h;refine av (by simp;omega) (ad.at (by omega) fun y _=>aA (fun _=>?_) fun _=>?_)
  ·exact ad.ret ⟨_,_,rfl,hp.mono (by omega)⟩
  ·refine ad.ret ⟨⟨rfl,?_,?_⟩,?_⟩<;>(simp only;rw[wrapI (by omega) (by omega)];omega)
 ·rintro _ rfl;exact av (by simp;omega) (ad.ret ⟨_,_,rfl,hp.app hx⟩)
def zdF {x:List UInt8}{p:List Cst}{f n s:Int}{fa:List Int}{fi:List (Int×Int×Int)}{ms:List Mth}{bad:Bool}{K:Nat}(hp:Pl K p)(hK:K<=1000000):ad (w5 (x,(p,f,n,s,fi,ms,bad),fa)) fun y=>∃i q b,y=(i,(q,f,n,s,fi,ms,b),fa)/\Pl (K+1) q:=by
 unfold w5;refine aA (fun h=>ad.ret ⟨_,_,_,rfl,hp.mono (by omega)⟩) (fun h=>?_);simp only[bS]at h;refine ad.bind (L8 (by simp only;omega) hp hK) ?_;rintro _ ⟨i,q,rfl,hq⟩;exact ad.ret ⟨_,_,_,rfl,hq⟩
def zdG {x:List UInt8}{p:List Cst}{f n s:Int}{fa:List Int}{fi:List (Int×Int×Int)}{ms:List Mth}{bad:Bool}{K:Nat}(hp:Pl K p)(hK:K<=900000):ad (w6 (x,(p,f,n,s,fi,ms,bad),fa)) fun y=>∃i q b,y=(i,(q,f,n,s,fi,ms,b),fa)/\Pl (K+2) q:=by
 unfold w6;refine ad.bind (zdF hp (by omega)) ?_;rintro _ ⟨i,q,b,rfl,hq⟩;refine ad.bind (L8 (by simp) hq (by omega)) ?_;rintro _ ⟨i,q,rfl,hq⟩;exact ad.ret ⟨_,_,_,rfl,hq⟩
def zdH {x:Cst}{p:List Cst}{f n s:Int}{fa:List Int}{fi:List (Int×Int×Int)}{ms:List Mth}{bad:Bool}{K:Nat}(hx:x.2.1.length<=60)(hp:Pl K p)(hK:K<=1000000):ad (w8 (x,(p,f,n,s,fa,ms,bad),fi)) fun y=>∃i q,y=(i,(q,f,n,s,fa,ms,bad),fi)/\Pl (K+1) q:=by
 obtain⟨c0,c1,c2,c3⟩:=x;have hl:=hp.1;unfold w8;refine ad.bindE (fun y=>y=((c0,c1,c2,c3),(p,f,n,s,fa,ms,bad),fi)) (ad.loop (fun z=>z.2=((c0,c1,c2,c3),(p,f,n,s,fa,ms,bad),fi)/\0<=z.1/\z.1<=(p.length:Int)) (fun z=>p.length-z.1.toNat) ?_ ⟨rfl,by simp,by simp⟩) ?_
 ·rintro⟨i,z⟩ ⟨hz,h0,h1⟩;simp only at hz h0 h1;subst hz;refine aA (fun h=>?_) (fun h=>ad.ret rfl);simp only[aL]at h;refine av (by simp;omega) (ad.at (by omega) fun y _=>aA (fun _=>?_) fun _=>?_)
  ·exact ad.ret ⟨_,_,rfl,hp.mono (by omega)⟩
  ·refine ad.ret ⟨⟨rfl,?_,?_⟩,?_⟩<;>(simp only;rw[wrapI (by omega) (by omega)];omega)
 ·rintro _ rfl;exact av (by simp;omega) (ad.ret ⟨_,_,rfl,hp.app hx⟩)
def L9 {x:List UInt8}{p:List Cst}{f n s:Int}{fa:List Int}{fi:List (Int×Int×Int)}{ms:List Mth}{bad:Bool}{K:Nat}(hp:Pl K p)(hK:K<=1000000):ad (tl (x,(p,f,n,s,fa,ms,bad),fi)) fun y=>∃i q b,y=(i,(q,f,n,s,fa,ms,b),fi)/\Pl (K+1) q:=by
 unfold tl;refine aA (fun h=>ad.ret ⟨_,_,_,rfl,hp.mono (by omega)⟩) (fun h=>?_);simp only[bS]at h;refine ad.bind (zdH (by simp only;omega) hp hK) ?_;rintro _ ⟨i,q,rfl,hq⟩;exact ad.ret ⟨_,_,_,rfl,hq⟩
def zdI {x:List UInt8}{p:List Cst}{f n s:Int}{fa:List Int}{fi:List (Int×Int×Int)}{ms:List Mth}{bad:Bool}  (hx:x.length<=1000000000000):ad (w9 (x,(p,f,n,s,fa,ms,bad),fi)) fun y=>∃i b,y=(i,(p,f,n,s,fa,ms,b),fi):=by
 unfold w9;refine ad.bind (uB hx) ?_;rintro i -;exact aA (fun _=>ad.ret ⟨_,_,rfl⟩) fun _=>ad.ret ⟨_,_,rfl⟩
def L_ {x:Cst}{p:List Cst}{f n s:Int}{fa:List Int}{fi:List (Int×Int×Int)}{ms:List Mth}{bad:Bool}{K:Nat}{ri:Nat}{r0 r1 r2 r3 r4:Int}{r5:List UInt8}{r6:List (Int×Int×Int×Int)}{fr:List Frm}(hri:ri<ms.length)(hx:x.2.1.length<=60)(hp:Pl K p)(hK:K<=1000000):ad (tn (x,(p,f,n,s,fa,fi,bad),(ms,ri,r0,r1,r2,r3,r4,r5,r6),fr)) fun y=>∃i q,y=(i,(q,f,n,s,fa,fi,bad),(ms,ri,r0,r1,r2,r3,r4,r5,r6),fr)/\Pl (K+1) q:=by
 obtain⟨c0,c1,c2,c3⟩:=x;have hl:=hp.1;unfold tn;simp only[eq_self,ay,hri,ba,aD]
 refine ad.bindE (fun y=>y=((c0,c1,c2,c3),(p,f,n,s,fa,fi,bad),(ms,ri,r0,r1,r2,r3,r4,r5,r6),fr)) (ad.loop (fun z=>z.2=((c0,c1,c2,c3),(p,f,n,s,fa,fi,bad),(ms,ri,r0,r1,r2,r3,r4,r5,r6),fr)/\0<=z.1/\z.1<=(p.length:Int)) (fun z=>p.length-z.1.toNat) ?_ ⟨rfl,by simp,by simp⟩) ?_
 ·rintro⟨i,z⟩ ⟨hz,h0,h1⟩;simp only at hz h0 h1;subst hz;simp only[eq_self,ay,hri,ba,aD]
  refine aA (fun h=>?_) (fun h=>ad.ret rfl);simp only[aL]at h;refine av (by simp;omega) (ad.at (by omega) fun y _=>aA (fun _=>?_) fun _=>?_)
  ·exact ad.ret ⟨_,_,rfl,hp.mono (by omega)⟩
  ·refine ad.ret ⟨⟨rfl,?_,?_⟩,?_⟩<;>(simp only;rw[wrapI (by omega) (by omega)];omega)
 ·rintro _ rfl;simp only[eq_self,ay,hri,ba,aD]
  exact av (by simp;omega) (ad.ret ⟨_,_,rfl,hp.app hx⟩)
def zUo {x:List UInt8}{p:List Cst}{f n s:Int}{fa:List Int}{fi:List (Int×Int×Int)}{ms:List Mth}{bad:Bool}{K:Nat}{ri:Nat}{r0 r1 r2 r3 r4:Int}{r5:List UInt8}{r6:List (Int×Int×Int×Int)}{fr:List Frm}(hri:ri<ms.length)(hp:Pl K p)(hK:K<=1000000):ad (xj (x,(p,f,n,s,fa,fi,bad),(ms,ri,r0,r1,r2,r3,r4,r5,r6),fr)) fun y=>∃i q b,y=(i,(q,f,n,s,fa,fi,b),(ms,ri,r0,r1,r2,r3,r4,r5,r6),fr)/\Pl (K+1) q:=by
 unfold xj;simp only[eq_self,ay,hri,ba,aD]
 refine aA (fun h=>ad.ret ⟨_,_,_,rfl,hp.mono (by omega)⟩) (fun h=>?_);simp only[bS]at h;refine ad.bind (L_ hri (by simp only;omega) hp hK) ?_;rintro _ ⟨i,q,rfl,hq⟩;simp only[eq_self,ay,hri,ba,aD]
 exact ad.ret ⟨_,_,_,rfl,hq⟩
def zUq {x:List UInt8}{p:List Cst}{f n s:Int}{fa:List Int}{fi:List (Int×Int×Int)}{ms:List Mth}{bad:Bool}{K:Nat}{ri:Nat}{r0 r1 r2 r3 r4:Int}{r5:List UInt8}{r6:List (Int×Int×Int×Int)}{fr:List Frm}(hri:ri<ms.length)(hp:Pl K p)(hK:K<=900000):ad (xk (x,(p,f,n,s,fa,fi,bad),(ms,ri,r0,r1,r2,r3,r4,r5,r6),fr)) fun y=>∃i q b,y=(i,(q,f,n,s,fa,fi,b),(ms,ri,r0,r1,r2,r3,r4,r5,r6),fr)/\Pl (K+2) q:=by
 unfold xk;simp only[eq_self,ay,hri,ba,aD]
 refine ad.bind (zUo hri hp (by omega)) ?_;rintro _ ⟨i,q,b,rfl,hq⟩;refine ad.bind (L_ hri (by simp) hq (by omega)) ?_;rintro _ ⟨i,q,rfl,hq⟩;simp only[eq_self,ay,hri,ba,aD]
 exact ad.ret ⟨_,_,_,rfl,hq⟩
def zUp {x:List UInt8}{p:List Cst}{f n s:Int}{fa:List Int}{fi:List (Int×Int×Int)}{ms:List Mth}{bad:Bool}  {ri:Nat}{r0 r1 r2 r3 r4:Int}{r5:List UInt8}{r6:List (Int×Int×Int×Int)}{fr:List Frm}(hri:ri<ms.length)(hx:x.length<=1000000000000):ad (xg (x,(p,f,n,s,fa,fi,bad),(ms,ri,r0,r1,r2,r3,r4,r5,r6),fr)) fun y=>∃i b,y=(i,(p,f,n,s,fa,fi,b),(ms,ri,r0,r1,r2,r3,r4,r5,r6),fr):=by
 unfold xg;simp only[eq_self,ay,hri,ba,aD]
 refine ad.bind (uB hx) ?_;rintro i -;exact aA (fun _=>ad.ret ⟨_,_,rfl⟩) fun _=>ad.ret ⟨_,_,rfl⟩
def Mb (N:Nat)(m:Mth):Prop:=m.2.2.2.2.2.1.length<=N/\m.2.2.2.2.2.2.1.length<=N/\m.2.2.2.2.2.2.2.length<=N/\∀f∈m.2.2.2.2.2.2.2,f.2.1.length<=16/\f.2.2.length<=16
def Ms (N:Nat)(l:List Mth):Prop:=l.length<=N/\∀m∈l,Mb N m
def Mb.mono {K L:Nat}{m:Mth}(h:Mb K m)(hc:K<=L):Mb L m:=⟨Nat.le_trans h.1 hc,Nat.le_trans h.2.1 hc,Nat.le_trans h.2.2.1 hc,h.2.2.2⟩
def Ms.mono {K L:Nat}{l:List Mth}(h:Ms K l)(hc:K<=L):Ms L l:=⟨Nat.le_trans h.1 hc,fun m hm=>(h.2 m hm).mono hc⟩
def Ms.set {K:Nat}{l:List Mth}(h:Ms K l)(i:Nat){m:Mth}(hm:Mb K m):Ms K (l.set i m):=by
 refine⟨by rw[List.length_set];exact h.1,fun x hx=>?_⟩;rcases List.mem_or_eq_of_mem_set hx with hx|rfl
 ·exact h.2 x hx
 ·exact hm
def Ms.app {K:Nat}{l:List Mth}(h:Ms K l){m:Mth}(hm:Mb K m):Ms (K+1) (l++[m]):=by
 refine⟨by have:=h.1;simp only[aP,bL,cX];omega,fun y hy=>?_⟩;simp only[List.mem_append,List.mem_singleton]at hy;rcases hy with hy|rfl
 ·exact(h.2 y hy).mono (by omega)
 ·exact hm.mono (by omega)
def Er {ms:List Mth}(h1:1<=ms.length)(h2:ms.length<=1000000)(p:List Cst)(f n s:Int)(fa:List Int)(fi:List (Int×Int×Int))(bad:Bool):nQ (p,f,n,s,fa,fi,ms,bad)=U (ms.length-1,ms,p,f,n,s,fa,fi,bad):=by
 have e:IntKind.wrap .i64 ((ms.length:Int)-1)=(ms.length:Int)-1:=wrapI (by omega) (by omega);have g:(aa ((0:Int)<=(ms.length:Int)-1)&&aa ((ms.length:Int)-1<(ms.length:Int)))=ae:=by simp;omega
 have t:((ms.length:Int)-1).toNat=ms.length-1:=by omega
 simp only[nQ,e,g,t,aD]
def Es {ms:List Mth}(h1:1<=ms.length)(h2:ms.length<=1000000)(p:List Cst)(f n s:Int)(fa:List Int)(fi:List (Int×Int×Int))(bad:Bool):nR ((p,f,n,s,fa,fi,bad),ms)=U (ms.length-1,(p,f,n,s,fa,fi,bad),ms):=by
 have e:IntKind.wrap .i64 ((ms.length:Int)-1)=(ms.length:Int)-1:=wrapI (by omega) (by omega);have g:(aa ((0:Int)<=(ms.length:Int)-1)&&aa ((ms.length:Int)-1<(ms.length:Int)))=ae:=by simp;omega
 have t:((ms.length:Int)-1).toNat=ms.length-1:=by omega
 simp only[nR,e,g,t,aD]
def zdJ {k:Int}{a b c:List UInt8}{p:List Cst}{f n s:Int}{fa:List Int}{fi:List (Int×Int×Int)}{ms:List Mth}{bad:Bool}{K:Nat}(hp:Pl K p)(hK:K<=900000) :
  ad (wX (k,a,b,c,p,f,n,s,fa,fi,ms,bad)) fun y=>∃i q b,y=(i,q,f,n,s,fa,fi,ms,b)/\Pl (K+6) q:=by
 unfold wX;refine ad.bind (uD hp hK) ?_;rintro _ ⟨_,q,_,rfl,hq⟩;refine ad.bind (uC hq (by omega)) ?_;rintro _ ⟨_,q,_,rfl,hq⟩;refine ad.bind (uC hq (by omega)) ?_;rintro _ ⟨_,q,_,rfl,hq⟩;refine ad.bind (zK (by simp) hq (by omega)) ?_;rintro _ ⟨_,q,rfl,hq⟩;refine ad.bind (zK (by simp) hq (by omega)) ?_;rintro _ ⟨_,q,rfl,hq⟩;exact ad.ret ⟨_,_,_,rfl,hq⟩
def zdK (n:Int):ad (pf n) fun _=>True:=by
 unfold pf;refine ad.bindE (fun _=>True) ?_ ?_
 ·exact aA (fun _=>ad.ret trivial) fun _=>aA (fun _=>ad.ret trivial) fun _=>ad.ret trivial
 rintro⟨_,_⟩ -;refine aA (fun _=>ad.ret trivial) fun _=>ad.bindE (fun _=>True) ?_ ?_
 ·exact aA (fun _=>ad.ret trivial) fun _=>aA (fun _=>ad.ret trivial) fun _=>aA (fun _=>ad.ret trivial) fun _=>ad.ret trivial
 rintro⟨_,_⟩ -;refine aA (fun _=>ad.ret trivial) fun _=>ad.bindE (fun _=>True) ?_ ?_
 ·exact aA (fun _=>ad.ret trivial) fun _=>aA (fun _=>ad.ret trivial) fun _=>ad.ret trivial
 rintro⟨_,_⟩ -;exact aA (fun _=>ad.ret trivial) fun _=>aA (fun _=>ad.ret trivial) fun _=>ad.ret trivial
def Ma (n:Int):ad (eK n) fun y=>y.length=1:=by
 unfold eK;exact av (oi _) (ad.ret rfl)
def zdL (n:Int):ad (eZ n) fun y=>y.length=2:=by
 unfold eZ;exact av (oi _) (av (oi _) (ad.ret rfl))
def zdM (x:Int×Int×Int):ad (ph [x]) fun y=>y.length<=3:=by
 unfold ph;refine ad.bindE (fun y=>y.length<=3) (ad.loop (fun z=>z.1=[x]/\((z.2.2=0/\z.2.1.length=0)\/(z.2.2=1/\z.2.1.length<=3))) (fun z=>1-z.2.2.toNat) ?_ ⟨rfl,.inl ⟨rfl,rfl⟩⟩) fun y hy=>ad.ret hy
 rintro⟨l,out,i⟩ ⟨hl,hi⟩;simp only at hl hi;subst hl;refine aA (fun h=>?_) fun h=>ad.ret (by show out.length<=3;omega)
 simp only[aL,bL,cX]at h;have h0:i=0/\out.length=0:=by omega
 obtain⟨rfl,ho⟩:=h0;refine av (by simp) (cg (x:=x) rfl (ad.bind (Ma _) fun y hy=>av (by simp;omega) (ad.bind (zI _) fun y1 _=>?_)));refine ad.bindE (fun w=>w.1=[x]/\w.2.1.length<=3/\w.2.2=0) ?_ ?_
 ·refine aA (fun _=>ad.bind (Ma _) fun z hz=>av (by simp;omega) (ad.ret ⟨rfl,by simp;omega,rfl⟩)) fun _=>aA (fun _=>ad.bind (zdL _) fun z hz=>av (by simp;omega) (ad.ret ⟨rfl,by simp;omega,rfl⟩)) fun _=>ad.ret ⟨rfl,by simp;omega,rfl⟩
 ·rintro⟨l,out,i⟩ ⟨rfl,ho,rfl⟩;exact ad.ret ⟨⟨rfl,.inr ⟨rfl,ho⟩⟩,by show 1-(IntKind.wrap .i64 (0+1)).toNat<1-(0:Int).toNat;rw[wrapI (by omega) (by omega)];decide⟩
def zdN {v:List (List UInt8)}{p:List Cst}{f n s:Int}{fa:List Int}{fi:List (Int×Int×Int)}{ms:List Mth}{bad:Bool}{K:Nat}(hv:1<=v.length)(hv2:v.length<=10)(hvt:∀ x∈v,x.length<=1000000000000)(hp:Pl K p)(hm:Ms K ms)(hK:K<=900000) :
  ad (w4 (v,p,f,n,s,fa,fi,ms,bad)) fun y=>∃q ms' b,y=(q,f,n,s,fa,fi,ms',b)/\Pl (K+10) q/\Ms (K+10) ms':=by
 obtain⟨x,e0⟩:∃x,v[0]? = U x:=⟨v[0],bI hv⟩
 obtain⟨y,ey,hy⟩:ad (th ()) fun y=>y.length<=100:=ad.ret (by decide)
 obtain⟨y1,e1,-⟩:=L6 (list:=y) (s:=x) (by omega);have hl:=hm.1;have hat:∀i (h:i<v.length),v[i].length<=1000000000000:=fun i h=>hvt _ (List.getElem_mem h)
 simp only[w4,fq e0,ey,e1,ax,eq_self,ay,ck,aD,bE,jd]
 refine ad.bindE (fun z=>z=(v,(0,y1,0),p,f,n,s,fa,fi,ms,bad)/\1<=ms.length) ?_ ?_
 ·refine aA (fun _=>ad.ret ⟨_,_,_,rfl,hp.mono (by omega),hm.mono (by omega)⟩) fun h=>aA (fun _=>ad.ret ⟨_,_,_,rfl,hp.mono (by omega),hm.mono (by omega)⟩) fun _=>?_
  simp only[bS]at h;exact ad.ret ⟨rfl,by omega⟩
 rintro _ ⟨rfl,h1⟩;refine ad.bind (zdK _) ?_;rintro y2 -;refine ad.bindE (fun z=>∃a b c q bd,z=((a,b,c),q,f,n,s,fa,fi,ms,bd)/\Pl (K+10) q) ?_ ?_
 ·refine ad.bindE (fun z=>∃b,z=(v,y2,b,(0,y1,0),p,f,n,s,fa,fi,ms,bad)/\(b=ae->v.length=2)) ?_ ?_
  ·exact aA (fun _=>ad.ret ⟨_,rfl,fun h=>by simp only[aL]at h;omega⟩) fun _=>ad.ret ⟨_,rfl,by simp⟩
  rintro _ ⟨b,rfl,hb⟩;refine aA (fun h=>?_) fun _=>?_
  ·have:=hb h;refine ad.at (by show _<v.length;omega) fun z _=>ad.bind (uD hp hK) ?_
   rintro _ ⟨i,q,b,rfl,hq⟩;exact ad.ret ⟨_,_,_,_,_,rfl,hq.mono (by omega)⟩
  refine ad.bindE (fun z=>∃b,z=(v,y2,b,(0,y1,0),p,f,n,s,fa,fi,ms,bad)/\(b=ae->v.length=4)) ?_ ?_
  ·exact aA (fun _=>ad.ret ⟨_,rfl,fun h=>by simp only[aL]at h;omega⟩) fun _=>ad.ret ⟨_,rfl,by simp⟩
  rintro _ ⟨b,rfl,hb⟩;refine aA (fun h=>?_) fun _=>?_
  ·have:=hb h;refine ad.at (by show _<v.length;omega) fun z _=>ad.at (by show _<v.length;omega) fun z2 _=>ad.at (by show _<v.length;omega) fun z3 _=>ad.bind (zdJ hp hK) ?_
   rintro _ ⟨i,q,b,rfl,hq⟩;exact ad.ret ⟨_,_,_,_,_,rfl,hq.mono (by omega)⟩
  refine ad.bindE (fun z=>∃b,z=(v,y2,b,(0,y1,0),p,f,n,s,fa,fi,ms,bad)/\(b=ae->v.length=2)) ?_ ?_
  ·exact aA (fun _=>ad.ret ⟨_,rfl,fun h=>by simp only[aL]at h;omega⟩) fun _=>ad.ret ⟨_,rfl,by simp⟩
  rintro _ ⟨b,rfl,hb⟩;refine aA (fun h=>?_) fun _=>?_
  ·have:=hb h;refine ad.at (by show _<v.length;omega) fun z hz=>ad.bind (zdE (hvt _ (dO hz))) ?_
   rintro⟨y3,y4⟩ -;exact aA (fun _=>ad.ret ⟨_,_,_,_,_,rfl,hp.mono (by omega)⟩) fun _=>ad.ret ⟨_,_,_,_,_,rfl,hp.mono (by omega)⟩
  refine ad.bindE (fun z=>∃b,z=(v,y2,b,(0,y1,0),p,f,n,s,fa,fi,ms,bad)/\(b=ae->v.length=2)) ?_ ?_
  ·refine aA (fun _=>ad.bind (zI _) fun _ _=>aA (fun _=>ad.ret ⟨_,rfl,fun h=>by simp only[aL]at h;omega⟩) fun _=>ad.ret ⟨_,rfl,by simp⟩) fun _=>ad.ret ⟨_,rfl,by simp⟩
  rintro _ ⟨b,rfl,hb⟩;refine aA (fun h=>?_) fun _=>?_
  ·have:=hb h;refine ad.at (by show _<v.length;omega) fun z hz=>ad.bind (oj (hvt _ (dO hz))) ?_
   rintro _ ⟨i,b,rfl⟩;exact ad.ret ⟨_,_,_,_,_,rfl,hp.mono (by omega)⟩
  refine aA (fun _=>ad.bind (zI _) fun _ _=>aA (fun _=>aA (fun _=>?_) fun _=>?_) fun _=>?_) fun _=>?_
  ·exact ad.ret ⟨_,_,_,_,_,rfl,hp.mono (by omega)⟩
  ·exact ad.ret ⟨_,_,_,rfl,hp.mono (by omega),hm.mono (by omega)⟩
  ·exact ad.ret ⟨_,_,_,rfl,hp.mono (by omega),hm.mono (by omega)⟩
  ·exact ad.ret ⟨_,_,_,rfl,hp.mono (by omega),hm.mono (by omega)⟩
 rintro _ ⟨a,b,c,q,bd,rfl,hq⟩;refine ad.bind (zH _ _ _) fun y3 _=>aA (fun _=>ad.ret ⟨_,_,_,rfl,hq,hm.mono (by omega)⟩) fun _=>?_
 obtain⟨m,em⟩:∃m,ms[ms.length-1]? = U m:=⟨ms[ms.length-1],bI (by omega)⟩
 have hmb:=hm.2 m (dO em);obtain⟨code,ec,hc⟩:=zdM (a,b,c)
 have g:aa ((((au m.2.2.2.2.2.1:Nat):Int)+((au code:Nat):Int))<=9223372036854775807)=ae:=by
  have:=hmb.1;simp only[aL];omega
 have g':aa (au m.2.2.2.2.2.1+au code<=9223372036854775807)=ae:=by
  have:=hmb.1;simp only[aL];omega
 simp only[Er h1 (show ms.length<=1000000 by omega),Es h1 (show ms.length<=1000000 by omega),ax,fq em,ec,eq_self,ay,ck,beq_self_eq_true,aD,bE,g,g',jd]
 refine ad.ret ⟨_,_,_,rfl,hq,(hm.mono (by omega)).set _ ?_⟩;obtain⟨k1,k2,k3,k4⟩:=hmb;exact⟨by simp only[aP];omega,by simp only;omega,by simp only;omega,k4⟩
def zdO (f:Int){k:Int}(hk:(!aa (k=0))=ae):ad (ib (f,k)) fun _=>True:=by
 unfold ib;exact av hk (ad.ret trivial)
def zdP {w:List (List UInt8)}{p:List Cst}{f n s:Int}{fa:List Int}{fi:List (Int×Int×Int)}{ms:List Mth}{bad:Bool}{K:Nat}(hw:w.length=4\/w.length=6)(hwt:∀ x∈w,x.length<=1000000000000)(hp:Pl K p)(hm:Ms K ms)(hK:K<=900000) :
  ad (w_ (w,p,f,n,s,fa,fi,ms,bad)) fun y=>∃q ms' b,y=(q,f,n,s,fa,fi,ms',b)/\Pl (K+10) q/\Ms (K+10) ms':=by
 have hl:=hm.1;obtain⟨x1,e1⟩:∃x,w[1]? = U x:=⟨w[1],bI (by omega)⟩
 obtain⟨x2,e2⟩:∃x,w[2]? = U x:=⟨w[2],bI (by omega)⟩
 obtain⟨x3,e3⟩:∃x,w[3]? = U x:=⟨w[3],bI (by omega)⟩
 obtain⟨_,c1,i1,q1,b1,rfl,hq1⟩:=uC (x:=x1) (f:=f) (n:=n) (s:=s) (fa:=fa) (fi:=fi) (ms:=ms) (bad:=bad) hp (by omega);obtain⟨_,c2,i2,q2,b2,rfl,hq2⟩:=uC (x:=x2) (f:=f) (n:=n) (s:=s) (fa:=fa) (fi:=fi) (ms:=ms) (bad:=b1) hq1 (by omega);obtain⟨_,c3,i3,b3,rfl⟩:=oj (x:=x3) (p:=q2) (f:=f) (n:=n) (s:=s) (fa:=fa) (fi:=fi) (ms:=ms) (bad:=b2) (hwt _ (dO e3));simp only[w_,fq e1,fq e2,fq e3,c1,c2,c3,ax,eq_self,ay,ck,aD,bE,jd]
 refine ad.bindE (fun z=>∃d e b,z=(w,(i3,i1,i2,d,e,[],[],[]),q2,f,n,s,fa,fi,ms,b)) ?_ ?_
 ·refine aA (fun h=>?_) fun _=>ad.ret ⟨_,_,_,rfl⟩
  simp only[aL]at h;refine ad.at (by omega) fun z hz=>ad.bind (oj (hwt _ (dO hz))) ?_
  rintro _ ⟨_,b,rfl⟩;refine ad.at (by omega) fun z hz=>ad.bind (oj (hwt _ (dO hz))) ?_
  rintro _ ⟨_,b,rfl⟩;exact ad.ret ⟨_,_,_,rfl⟩
 rintro _ ⟨d,e,b,rfl⟩;refine ad.bindE (fun z=>∃b,z=((i3,i1,i2,d,e,[],[],[]),q2,f,n,s,fa,fi,ms,b)) ?_ ?_
 ·exact ad.bind (zdO _ (by decide)) fun _ _=>aA (fun _=>ad.ret ⟨_,rfl⟩) fun _=>ad.ret ⟨_,rfl⟩
 rintro _ ⟨b,rfl⟩;refine av (by simp;omega) (ad.ret ⟨_,_,_,rfl,hq2.mono (by omega),(hm.app ?_).mono (by omega)⟩);exact⟨by simp,by simp,by simp,by simp⟩
def zdQ {w:List (List UInt8)}{p:List Cst}{f n s:Int}{fa:List Int}{fi:List (Int×Int×Int)}{ms:List Mth}{bad:Bool}{K:Nat}(hw:w.length=5)(h1:1<=ms.length)(hwt:∀ x∈w,x.length<=1000000000000)(hp:Pl K p)(hm:Ms K ms)(hK:K<=900000) :
  ad (xc (w,p,f,n,s,fa,fi,ms,bad)) fun y=>∃q ms' b,y=(q,f,n,s,fa,fi,ms',b)/\Pl (K+10) q/\Ms (K+10) ms':=by
 have hl:=hm.1;obtain⟨x1,e1⟩:∃x,w[1]? = U x:=⟨w[1],bI (by omega)⟩
 obtain⟨x2,e2⟩:∃x,w[2]? = U x:=⟨w[2],bI (by omega)⟩
 obtain⟨x3,e3⟩:∃x,w[3]? = U x:=⟨w[3],bI (by omega)⟩
 obtain⟨x4,e4⟩:∃x,w[4]? = U x:=⟨w[4],bI (by omega)⟩
 obtain⟨_,c1,i1,b1,rfl⟩:=oj (x:=x1) (p:=p) (f:=f) (n:=n) (s:=s) (fa:=fa) (fi:=fi) (ms:=ms) (bad:=bad) (hwt _ (dO e1));obtain⟨_,c2,i2,b2,rfl⟩:=oj (x:=x2) (p:=p) (f:=f) (n:=n) (s:=s) (fa:=fa) (fi:=fi) (ms:=ms) (bad:=b1) (hwt _ (dO e2));obtain⟨_,c3,i3,b3,rfl⟩:=oj (x:=x3) (p:=p) (f:=f) (n:=n) (s:=s) (fa:=fa) (fi:=fi) (ms:=ms) (bad:=b2) (hwt _ (dO e3));simp only[xc,fq e1,fq e2,fq e3,fq e4,c1,c2,c3,ax,eq_self,ay,ck,aD,bE,jd]
 refine ad.bindE (fun z=>∃a q b,z=((i1,i2,i3,a),q,f,n,s,fa,fi,ms,b)/\Pl (K+10) q) ?_ ?_
 ·refine aA (fun h=>?_) fun _=>ad.ret ⟨_,_,_,rfl,hp.mono (by omega)⟩
  refine ad.bind (uD hp hK) ?_;rintro _ ⟨i,q,b,rfl,hq⟩;exact ad.ret ⟨_,_,_,rfl,hq.mono (by omega)⟩
 rintro _ ⟨a,q,b,rfl,hq⟩;obtain⟨m,em⟩:∃m,ms[ms.length-1]? = U m:=⟨ms[ms.length-1],bI (by omega)⟩
 have hmb:=hm.2 m (dO em);have hlt:aa (ms.length-1<ms.length)=ae:=by simp only[aL];omega
 have g:(aa (au m.2.2.2.2.2.2.1+1<=9223372036854775807)&&aa ((au m.2.2.2.2.2.2.1+1)*32<=140737488355328))=ae:=by
  have:=hmb.2.1;simp only[aK,aL];omega
 simp only[Er h1 (show ms.length<=1000000 by omega),Es h1 (show ms.length<=1000000 by omega),ax,fq em,eq_self,ay,ck,Bool.true_and,beq_self_eq_true,hlt,aD,bE,g,jd]
 refine ad.ret ⟨_,_,_,rfl,hq,(hm.mono (by omega)).set _ ?_⟩;obtain⟨k1,k2,k3,k4⟩:=hmb;exact⟨by simp only;omega,by simp only[aP,bL,cX];omega,by simp only;omega,k4⟩
end
section
open Go Go.AM Go.TM Go.Stow
set_option maxRecDepth 10000
def zer {R S:Type}{g:Bool}{r:Option R}{P:S->Prop}{f:Option R->Option S}(hg:g=ae)(h:ad (f r) P):ad (f (af g r)) P:=by rw[hg];exact h
def zdR {x:List UInt8}(h:Tok x)(h1:x≠[73]):3<=x.length:=by
 rcases h with rfl|⟨n,hn,rfl⟩
 ·exact absurd rfl h1
 ·have:=hn.1.1;simp only[bL,aP,cX];omega
def Mc {v:List UInt8}{p:List Cst}{f n s:Int}{fa:List Int}{fi:List (Int×Int×Int)}{ms:List Mth}{bad:Bool}{K:Nat}{ri:Nat}{r0 r1 r2 r3 r4:Int}{r5:List UInt8}{r6:List (Int×Int×Int×Int)}{fr:List Frm}(hri:ri<ms.length)(hv:v.length<=1000000)(hp:Pl K p)(hK:K<=800000) :
  ad (tp (v,(p,f,n,s,fa,fi,bad),(ms,ri,r0,r1,r2,r3,r4,r5,r6),fr)) fun y=>∃l q b,y=(l,(q,f,n,s,fa,fi,b),(ms,ri,r0,r1,r2,r3,r4,r5,r6),fr)/\l.length<=16/\Pl (K+18) q:=by
 have gr:(aa (ri=ri)&&aa (ri<ms.length))=ae:=by simp;exact hri
 unfold tp;refine aA (fun _=>av gr (ad.ret ⟨_,_,_,rfl,by simp,hp.mono (by omega)⟩)) fun _=>?_
 refine ad.bind (uA (by omega) (by omega)) ?_;rintro y ⟨-,-,hy2,hy3⟩
 refine ad.bindE (fun z=>∃l q b,z=(l,(q,f,n,s,fa,fi,b),(ms,ri,r0,r1,r2,r3,r4,r5,r6),fr)/\l.length<=16/\Pl (K+18) q)
  (av gr (ad.loop (fun z=>∃l i q b,z=(l,y,i,(q,f,n,s,fa,fi,b),(ms,ri,r0,r1,r2,r3,r4,r5,r6),fr)/\0<=i/\i<=(y.length:Int)/\(l.length:Int)<=i/\Pl (K+2*i.toNat) q) (fun z=>y.length-z.2.2.1.toNat) ?_ ⟨[],0,p,bad,rfl,by simp,by simp,by simp,hp.mono (by omega)⟩)) ?_
 ·rintro _ ⟨l,i,q,b,rfl,i0,i1,hl,hq⟩;refine aA (fun h=>?_) fun h=>zer gr (ad.ret ⟨_,_,_,rfl,by omega,hq.mono (by omega)⟩)
  simp only[aL]at h;obtain⟨x,ex⟩:∃x,y[i.toNat]? = U x:=⟨y[i.toNat],bI (by omega)⟩
  have hx:=hy3 x (dO ex);have gi:(aa ((0:Int)<=i)&&aa (i<(y.length:Int)))=ae:=by simp;omega
  have gl:(aa (au l+1<=9223372036854775807)&&aa ((au l+1)*16<=140737488355328))=ae:=by simp;omega
  refine ad.bindE (fun z=>∃l' q' b',z=(l',y,i,(q',f,n,s,fa,fi,b'),(ms,ri,r0,r1,r2,r3,r4,r5,r6),fr)/\(l'.length:Int)<=i+1/\Pl (K+2*i.toNat+2) q') ?_ ?_
  ·refine av gi (cg ex (aA (fun _=>av gl (av gr (ad.ret ⟨_,_,_,rfl,by simp;omega,hq.mono (by omega)⟩))) fun h1=>?_));simp only[bS]at h1;refine av gi (cg ex (aA (fun _=>av gl (av gr (ad.ret ⟨_,_,_,rfl,by simp;omega,hq.mono (by omega)⟩))) fun h2=>?_));refine av gi (cg ex (aA (fun _=>av gl (av gr (ad.ret ⟨_,_,_,rfl,by simp;omega,hq.mono (by omega)⟩))) fun h3=>?_));refine av gi (cg ex ?_);rw[rv x (by omega),ax];refine aA (fun ht=>?_) fun _=>av gr (ad.ret ⟨_,_,_,rfl,by omega,hq.mono (by omega)⟩)
   simp only[aL]at ht;have h3l:=zdR ht h1;refine av gi (cg ex (av gi (cg ex (av ?_ ?_))))
   ·rw[wrapI (by omega) (by omega)];simp;omega
   refine ad.bind (zUq hri hq (by omega)) ?_;rintro _ ⟨_,q',b',rfl,hq'⟩;exact av gl (av gr (ad.ret ⟨_,_,_,rfl,by simp;omega,hq'.mono (by omega)⟩))
  rintro _ ⟨l',q',b',rfl,hl',hq'⟩;have hw:IntKind.wrap .i64 (i+1)=i+1:=wrapI (by omega) (by omega);refine av gr ?_;show ad (U (Sum.inl (l',y,IntKind.wrap .i64 (i+1),(q',f,n,s,fa,fi,b'),(ms,ri,r0,r1,r2,r3,r4,r5,r6),fr))) _;rw[hw];exact ad.ret ⟨⟨_,_,_,_,rfl,by omega,by omega,hl',hq'.mono (by omega)⟩,by show y.length-(i+1).toNat<y.length-i.toNat;omega⟩
 rintro _ ⟨l,q,b,rfl,hl,hq⟩;exact av gr (ad.ret ⟨_,_,_,rfl,hl,hq⟩)
def Bu (K:Nat)(y:List Cst×Int×Int×Int×List Int×List (Int×Int×Int)×List Mth×Bool):Prop:=Pl K y.1/\y.2.2.2.2.1.length<=K/\y.2.2.2.2.2.1.length<=K/\Ms K y.2.2.2.2.2.2.1
def Bu.mono {K L:Nat}{y:List Cst×Int×Int×Int×List Int×List (Int×Int×Int)×List Mth×Bool}(h:Bu K y)(hc:K<=L):Bu L y:=⟨h.1.mono hc,Nat.le_trans h.2.1 hc,Nat.le_trans h.2.2.1 hc,h.2.2.2.mono hc⟩
def zdS {v:List UInt8}{p:List Cst}{f n s:Int}{fa:List Int}{fi:List (Int×Int×Int)}{ms:List Mth}{bad:Bool}{K:Nat}(hv:v.length<=1000000)(h:Bu K (p,f,n,s,fa,fi,ms,bad))(hK:K<=700000) :
  ad (xl (v,p,f,n,s,fa,fi,ms,bad)) (Bu (K+60)):=by
 obtain⟨hp,hfa,hfi,hm⟩:=h;simp only at hp hfa hfi hm;have hl:=hm.1;unfold xl;refine ad.bindE (fun z=>∃b,z=(v,b,p,f,n,s,fa,fi,ms,bad)/\(b=ae->2<v.length)) ?_ ?_
 ·refine aA (fun h=>?_) fun _=>ad.ret ⟨_,rfl,by simp⟩
  simp only[aL]at h;exact av (by simp;omega) (ad.ret ⟨_,rfl,fun _=>by omega⟩)
 rintro _ ⟨b,rfl,hb⟩;refine aA (fun h=>?_) fun _=>?_
 ·have:=hb h;refine av (by simp;omega) (ad.bind (uA (by simp;omega) (by omega)) ?_);rintro y ⟨hy1,-,hy2,hy3⟩;refine ad.bind (zdN (by omega) (by omega) (fun x hx=>by have:=hy3 x hx;simp only[dx,bT]at this;omega) hp hm (by omega)) ?_;rintro _ ⟨q,ms',b,rfl,hq,hm'⟩;exact ad.ret ⟨hq.mono (by omega),by simp only;omega,by simp only;omega,hm'.mono (by omega)⟩
 refine ad.bind (uA (by omega) (by omega)) ?_;rintro w ⟨hw1,-,hw2,hw3⟩;have hwt:∀x∈w,x.length<=1000000:=fun x hx=>by have:=hw3 x hx;omega
 have hwt':∀x∈w,x.length<=1000000000000:=fun x hx=>by have:=hw3 x hx;omega
 have keep:∀{b:Bool},Bu (K+60) (p,f,n,s,fa,fi,ms,b):=⟨hp.mono (by omega),by simp only;omega,by simp only;omega,hm.mono (by omega)⟩
 refine ad.bindE (fun z=>z=(w,aa ((0:Int)<(ms.length:Int)),p,f,n,s,fa,fi,ms,bad)) (ad.ret rfl) ?_;rintro _ rfl;generalize hbo:aa ((0:Int)<(ms.length:Int))=body;refine ad.bindE (fun z=>Bu (K+60) z) ?_ ?_
 ·refine ad.bindE (fun z=>∃b,z=(w,body,b,p,f,n,s,fa,fi,ms,bad)/\(b=ae->w.length=4)) ?_ ?_
  ·refine av (by simp;omega) (ad.at (by show 0<w.length;omega) fun x _=>aA (fun _=>aA (fun h=>?_) fun _=>ad.ret ⟨_,rfl,by simp⟩) fun _=>ad.ret ⟨_,rfl,by simp⟩);simp only[aL]at h;exact ad.ret ⟨_,rfl,fun _=>by omega⟩
  rintro _ ⟨b,rfl,hb⟩;refine aA (fun h=>?_) fun _=>?_
  ·have:=hb h;refine av (by simp;omega) (ad.at (by show 1<w.length;omega) fun x1 _=>ad.bind (uD hp (by omega)) ?_);rintro _ ⟨_,q,b,rfl,hq⟩;refine av (by simp;omega) (ad.at (by show 2<w.length;omega) fun x2 _=>ad.bind (uD hq (by omega)) ?_);rintro _ ⟨_,q,b,rfl,hq⟩;refine av (by simp;omega) (ad.at (by show 3<w.length;omega) fun x3 hx3=>ad.bind (oj (hwt' _ (dO hx3))) ?_);rintro _ ⟨_,b,rfl⟩;exact ad.ret ⟨hq.mono (by omega),by simp only;omega,by simp only;omega,hm.mono (by omega)⟩
  refine ad.bindE (fun z=>∃b,z=(w,body,b,p,f,n,s,fa,fi,ms,bad)/\(b=ae->w.length=2)) ?_ ?_
  ·exact av (by simp;omega) (ad.at (by show 0<w.length;omega) fun x _=>aA (fun _=>ad.ret ⟨_,rfl,fun h=>by simp only[aL]at h;omega⟩) fun _=>ad.ret ⟨_,rfl,by simp⟩)
  rintro _ ⟨b,rfl,hb⟩;refine aA (fun h=>?_) fun _=>?_
  ·have:=hb h;refine av (by simp;omega) (ad.at (by show 1<w.length;omega) fun x1 _=>ad.bind (zdG hp (by omega)) ?_);rintro _ ⟨_,q,b,rfl,hq⟩;exact av (by simp;omega) (ad.ret ⟨hq.mono (by omega),by simp;omega,by simp only;omega,hm.mono (by omega)⟩)
  refine ad.bindE (fun z=>∃b,z=(w,body,b,p,f,n,s,fa,fi,ms,bad)/\(b=ae->w.length=4)) ?_ ?_
  ·exact av (by simp;omega) (ad.at (by show 0<w.length;omega) fun x _=>aA (fun _=>ad.ret ⟨_,rfl,fun h=>by simp only[aL]at h;omega⟩) fun _=>ad.ret ⟨_,rfl,by simp⟩)
  rintro _ ⟨b,rfl,hb⟩;refine aA (fun h=>?_) fun _=>?_
  ·have hw4:=hb h;obtain⟨x1,e1⟩:∃x,w[1]? = U x:=⟨w[1],bI (by omega)⟩
   obtain⟨x2,e2⟩:∃x,w[2]? = U x:=⟨w[2],bI (by omega)⟩
   obtain⟨x3,e3⟩:∃x,w[3]? = U x:=⟨w[3],bI (by omega)⟩
   have g1:aa (1<w.length)=ae:=by simp only[aL];omega
   have g2:aa (2<w.length)=ae:=by simp only[aL];omega
   have g3:aa (3<w.length)=ae:=by simp only[aL];omega
   have k1:aa ((1:Int)<(w.length:Int))=ae:=by simp only[aL];omega
   have k2:aa ((2:Int)<(w.length:Int))=ae:=by simp only[aL];omega
   have k3:aa ((3:Int)<(w.length:Int))=ae:=by simp only[aL];omega
   obtain⟨_,c1,i1,q1,b1,rfl,hq1⟩:=L9 (x:=x1) (f:=f) (n:=n) (s:=s) (fa:=fa) (fi:=fi) (ms:=ms) (bad:=bad) hp (by omega);obtain⟨_,c2,i2,q2,b2,rfl,hq2⟩:=L9 (x:=x2) (f:=f) (n:=n) (s:=s) (fa:=fa) (fi:=fi) (ms:=ms) (bad:=b1) hq1 (by omega);obtain⟨_,c3,i3,b3,rfl⟩:=zdI (x:=x3) (p:=q2) (f:=f) (n:=n) (s:=s) (fa:=fa) (fi:=fi) (ms:=ms) (bad:=b2) (hwt' _ (dO e3));have gl:(aa (au fi+1<=9223372036854775807)&&aa ((au fi+1)*24<=140737488355328))=ae:=by simp;omega
   simp only[k1,k2,k3,g1,g2,g3,fq e1,fq e2,fq e3,c1,c2,c3,ax,eq_self,ay,aD,bE,gl]
   exact ad.ret ⟨hq2.mono (by omega),by simp only;omega,by simp;omega,hm.mono (by omega)⟩
  refine ad.bindE (fun z=>∃b,z=(w,body,b,p,f,n,s,fa,fi,ms,bad)/\(b=ae->w.length=4\/w.length=6)) ?_ ?_
  ·refine av (by simp;omega) (ad.at (by show 0<w.length;omega) fun x _=>aA (fun _=>aA (fun h=>?_) fun _=>ad.ret ⟨_,rfl,fun h=>by simp only[aL]at h;omega⟩) fun _=>ad.ret ⟨_,rfl,by simp⟩);simp only[aL]at h;exact ad.ret ⟨_,rfl,fun _=>by omega⟩
  rintro _ ⟨b,rfl,hb⟩;refine aA (fun h=>?_) fun _=>?_
  ·refine ad.bind (zdP (hb h) hwt' hp hm (by omega)) ?_;rintro _ ⟨q,ms',b,rfl,hq,hm'⟩;exact ad.ret ⟨hq.mono (by omega),by simp only;omega,by simp only;omega,hm'.mono (by omega)⟩
  refine ad.bindE (fun z=>∃b,z=(w,body,b,p,f,n,s,fa,fi,ms,bad)/\(b=ae->w.length=5/\body=ae)) ?_ ?_
  ·refine av (by simp;omega) (ad.at (by show 0<w.length;omega) fun x _=>aA (fun _=>aA (fun h=>?_) fun _=>ad.ret ⟨_,rfl,by simp⟩) fun _=>ad.ret ⟨_,rfl,by simp⟩);simp only[aL]at h;exact ad.ret ⟨_,rfl,fun h=>⟨by omega,h⟩⟩
  rintro _ ⟨b,rfl,hb⟩;refine aA (fun h=>?_) fun _=>?_
  ·obtain⟨h5,h6⟩:=hb h;rw[<-hbo,aL]at h6;refine ad.bind (zdQ h5 (by omega) hwt' hp hm (by omega)) ?_;rintro _ ⟨q,ms',b,rfl,hq,hm'⟩;exact ad.ret ⟨hq.mono (by omega),by simp only;omega,by simp only;omega,hm'.mono (by omega)⟩
  refine ad.bindE (fun z=>∃b,z=(w,b,p,f,n,s,fa,fi,ms,bad)/\(b=ae->w.length=4/\body=ae)) ?_ ?_
  ·refine av (by simp;omega) (ad.at (by show 0<w.length;omega) fun x _=>aA (fun _=>aA (fun h=>?_) fun _=>ad.ret ⟨_,rfl,by simp⟩) fun _=>ad.ret ⟨_,rfl,by simp⟩);simp only[aL]at h;exact ad.ret ⟨_,rfl,fun h=>⟨by omega,h⟩⟩
  rintro _ ⟨b,rfl,hb⟩;refine aA (fun h=>?_) fun _=>ad.ret keep
  obtain⟨h5,h6⟩:=hb h;rw[<-hbo,aL]at h6;have h1:1<=ms.length:=by omega
  obtain⟨x1,e1⟩:∃x,w[1]? = U x:=⟨w[1],bI (by omega)⟩
  obtain⟨x2,e2⟩:∃x,w[2]? = U x:=⟨w[2],bI (by omega)⟩
  obtain⟨x3,e3⟩:∃x,w[3]? = U x:=⟨w[3],bI (by omega)⟩
  have g1:aa (1<w.length)=ae:=by simp only[aL];omega
  have g2:aa (2<w.length)=ae:=by simp only[aL];omega
  have g3:aa (3<w.length)=ae:=by simp only[aL];omega
  have j1:aa ((1:Int)<(w.length:Int))=ae:=by simp only[aL];omega
  have j2:aa ((2:Int)<(w.length:Int))=ae:=by simp only[aL];omega
  have j3:aa ((3:Int)<(w.length:Int))=ae:=by simp only[aL];omega
  obtain⟨m,em⟩:∃m,ms[ms.length-1]? = U m:=⟨ms[ms.length-1],bI (by omega)⟩
  have hmb:=hm.2 m (dO em);have hlt:aa (ms.length-1<ms.length)=ae:=by simp only[aL];omega
  obtain⟨m0,m1,m2,m3,m4,m5,m6,m7⟩:=m;obtain⟨k1,k2,k3,k4⟩:=hmb;simp only at k1 k2 k3 k4;obtain⟨_,c1,i1,b1,rfl⟩:=zUp (x:=x1) (p:=p) (f:=f) (n:=n) (s:=s) (fa:=fa) (fi:=fi) (ms:=ms) (bad:=bad) (ri:=ms.length-1) (r0:=m0) (r1:=m1) (r2:=m2) (r3:=m3) (r4:=m4) (r5:=m5) (r6:=m6) (fr:=m7) (by omega) (hwt' _ (dO e1));obtain⟨_,c2,i2,q2,b2,rfl,l2,hq2⟩:=Mc (v:=x2) (f:=f) (n:=n) (s:=s) (fa:=fa) (fi:=fi) (ms:=ms) (bad:=b1) (ri:=ms.length-1) (r0:=m0) (r1:=m1) (r2:=m2) (r3:=m3) (r4:=m4) (r5:=m5) (r6:=m6) (fr:=m7) (by omega) (hwt _ (dO e2)) hp (by omega);obtain⟨_,c3,i3,q3,b3,rfl,l3,hq3⟩:=Mc (v:=x3) (f:=f) (n:=n) (s:=s) (fa:=fa) (fi:=fi) (ms:=ms) (bad:=b2) (ri:=ms.length-1) (r0:=m0) (r1:=m1) (r2:=m2) (r3:=m3) (r4:=m4) (r5:=m5) (r6:=m6) (fr:=m7) (by omega) (hwt _ (dO e3)) hq2 (by omega);have gl:(aa (au m7+1<=9223372036854775807)&&aa ((au m7+1)*56<=140737488355328))=ae:=by simp;omega
  simp only[g1,g2,g3,j1,j2,j3,Er h1 (show ms.length<=1000000 by omega),Es h1 (show ms.length<=1000000 by omega),fq e1,fq e2,fq e3,fq em,c1,c2,c3,ax,eq_self,ay,ck,Bool.true_and,beq_self_eq_true,hlt,aD,bE,gl]
  refine ad.ret ⟨hq3.mono (by omega),by simp only;omega,by simp only;omega,(hm.mono (by omega)).set _ ?_⟩;refine⟨by simp only;omega,by simp only;omega,by simp only[aP,bL,cX];omega,fun f hf=>?_⟩;simp only[List.mem_append,List.mem_singleton]at hf;rcases hf with hf|rfl
  ·exact k4 f hf
  ·exact⟨l2,l3⟩
 ·rintro⟨p,f,n,s,fa,fi,ms,bad⟩ hz;exact ad.ret hz
end
end Go.Proofs.YtmjlecabpbiigaaGreat
