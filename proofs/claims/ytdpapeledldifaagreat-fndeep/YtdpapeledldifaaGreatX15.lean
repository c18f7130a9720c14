/- Part 16 of the proof of FnDeep; no condition. -/
import Derived.Test.YtdpapeledldifaaGreatX14
open Option renaming some -> U
open Decidable renaming decide -> aa
open Bool renaming true -> ad
open Bool renaming false -> ag
open Option renaming none -> aj
open Sum renaming inl -> an
open Sum renaming inr -> ao
open List renaming length -> au
open Int renaming toNat -> aH
open List renaming drop -> kZ
open List renaming take -> nY
set_option autoImplicit true
set_option relaxedAutoImplicit true
set_option linter.all false
section
namespace Go.TM
open Go.AM
inductive OPat
 |box (n:Nat) (p:Pat)
 |arr (n:Nat) (t:GT) (d:Bool)
 |opn (n:Nat) (t:GT) (d:DM) (p:Pat)
 |spl (n:Nat) (t:GT)
structure SPat where
 al:List (Nat×Pat)
 ob:List OPat
def OPat.name:OPat->Nat
 |.box n _=>n
 |.arr n _ _=>n
 |.opn n _ _ _=>n
 |.spl n _=>n
def DM.c:DM->Nat
 |.all _=>0
 |.spl=>1
def OPat.pat:OPat->Pat
 |.box _ p=>.agg p
 |.arr _ t d=>.own t d
 |.opn n t d p=>.tup (.cons (.own t d.b) (.cons (.ptrI n d.c) (.cons (.agg p) .nop)))
 |.spl n t=>.tup (.cons (.own t ad) (.cons (.ptrI n 2) .nop))
def dK:List (Nat×Pat)->Pat->Pat
 |[],q=>q
 |p::l,q=>.cons p.2 (dK l q)
def cV:List OPat->Pat
 |[]=>.nop
 |o::l=>.cons o.pat (cV l)
def SPat.pat (s:SPat):Pat:=dK s.al (cV s.ob)
abbrev SPat.Den (s:SPat):Type:=s.pat.Den
def r9:List (Nat×Pat)->List V->List (Nat×V)
 |[],_=>[]
 | p::l,vs=>match vs with
   |v::vs=>(p.1,v)::r9 l vs
   |[]=>[]
def vC (o:OPat)(v:V):TO:=match o with
 |.box n _=>(match v with|.agg cs=>.box n cs|_=>.box n [])
 |.arr n t d=>(match v with|.own t d l=>.arr n t d l|_=>.arr n t d [])
 |.opn n t d _=>(match v with|.tup [.own t _ l,.p _ i _,.agg cs]=>.opn n t d l i cs|_=>.arr n t d.b [])
 |.spl n t=>(match v with|.tup [.own t _ l,.p _ k _]=>.spl n t l k|_=>.arr n t ad [])
def lp:List OPat->List V->List TO
 |[],_=>[]
 | o::l,vs=>match vs with
   |v::vs=>vC o v::lp l vs
   |[]=>[]
def mb:List (Nat×Pat)->List V->List V
 |[],vs=>vs
 | _::l,vs=>match vs with
   |_::vs=>mb l vs
   |[]=>[]
def dW (n:Nat)(s:SPat)(x:s.Den):TS:=⟨n,r9 s.al (bg s.pat x),lp s.ob (mb s.al (bg s.pat x))⟩
def cu:Option TO->V
 |some (.box _ cs)=>.agg cs
 |some (.arr _ t d l)=>.own t d l
 |some (.opn n t d l i cs)=>.tup [.own t d.b l,.p n i d.c,.agg cs]
 |some (.spl n t l k)=>.tup [.own t ad l,.p n k 2]
 |none=>.u
def vD (s:TS):List (Nat×Pat)->List V->List V
 |[],r=>r
 |p::l,r=>cT s p.1::vD s l r
def np (s:TS):List OPat->List V
 |[]=>[]
 |o::l=>cu (ba s.ob o.name)::np s l
def fU:List OPat->List Nat
 |[]=>[]
 |o::l=>o.name::fU l
section
variable {R:Type}
def Gw (p:SPat)(s:TS)(K:p.Den->Option R):Option R :=
 aX (jb (fU p.ob)) (dV ad p.pat (vD s p.al (np s p.ob)) fun x q=>oG q (K x))
end
section
variable {R:Type}{r:R}{s:TS}
def lq {x y:SV}{a b:List SV}(h:wkL (x::a) (y::b)):wk x y/\wkL a b:=h
def Nz:∀p:Pat,p.cst=p.cst->∀o:OPat,∀x:o.pat.Den,∃v,bg o.pat x=[v]:=by
 intro _ _ o x;cases o<;>exact⟨_,rfl⟩
def NA {y:SV}(h:wk .u y):y = .u:=by cases y<;>simp_all [wk]
def NB {t:Nat}{y:SV}(h:wk (e (cT s t)) y):wk (AM.look (eA s.al) t) y:=by
 unfold cT at h;split at h
 ·rw[<-z9];exact h
 ·have:=NA h;subst this;exact Fu _
def NC {n m:Nat}{p:Pat}{x:p.Den}{v:V}(h:wk (e (cu (ba s.ob n))) (.agg (eL (bg p x)))) :
  ∃m cs,ba s.ob n=U (.box m cs)/\wkL (eL cs) (eL (bg p x)):=by
 cases hg:ba s.ob n with
 |none=>rw[hg]at h;simp[cu,e,wk]at h
 | some o=>
   rw[hg]at h;cases o with
   |box m cs=>exact⟨m,cs,rfl,h⟩
   |arr m t d l=>simp[cu,e,wk]at h
   |opn m t d l i cs=>simp[cu,e,wk]at h
   |spl m t l k=>simp[cu,e,wk]at h
def r_:∀(l:List TO) (o:Nat) (x:TO),ba l o=U x->x.name=o
 |[],_,_,h=>by cases h
 | y::l,o,x,h=>by
   simp only[ba]at h;cases hy:y.name==o with
   |true=>rw[hy,cond_true]at h;simp only[aK]at h;subst h;exact eq_of_beq hy
   |false=>rw[hy,cond_false]at h;exact r_ l o x h
def AF:∀{a b:List SV},wkL a b->a.length=b.length
 |[],b,h=>by simp only[wkL]at h;subst h;rfl
 |_::_,[],h=>by simp only[wkL]at h
 |x::a,y::b,h=>by simp only[wkL]at h;simp[AF h.2]
def Gx (n:Nat)(t:GT)(d:DM)(p:Pat)(x:(OPat.opn n t d p).pat.Den):∃(y:List t.Den) (i:Nat) (z:p.Den),bg (OPat.opn n t d p).pat x=[.tup [.own t d.b y,.p n i d.c,.agg (bg p z)]]/\True:=by
 exact⟨_,_,_,rfl,trivial⟩
def Gy (n:Nat)(t:GT)(x:(OPat.spl n t).pat.Den):∃(y:List t.Den) (i:Nat),bg (OPat.spl n t).pat x=[.tup [.own t ad y,.p n i 2]]/\True:=by
 exact⟨_,_,rfl,trivial⟩
def Gz (t:GT)(k:Nat)(l:List t.Den):cp .spl t k l=(l.map (aM ad t)).take k++(cC (l.map (aM ad t))).drop k:=by
 simp only[cp,kF,List.map_take,List.map_drop]
def vE {d d':DM}{t t':GT}{i:Nat}{l:List t.Den}{l':List t'.Den}(hc:d'.c=d.c)(h:l'.map (aM d'.b t')=l.map (aM d.b t)):cp d' t' i l'=cp d t i l:=by
 cases d<;>cases d'
 ·exact h
 ·cases hc
 ·cases hc
 ·rw[Gz,Gz];have h:l'.map (aM ad t')=l.map (aM ad t):=h;rw[h]
def se:∀(l:List OPat) (x:(cV l).Den) (cs:List V),cs=np s l->wkL (eL cs) (eL (bg (cV l) x)) ->
  ∃ob',dq (fU l) (bo s.ob)=U ob'/\wkObs ob' (bo (lp l (bg (cV l) x)))
 |[],x,cs,hc,h=>⟨[],rfl,rfl⟩
 | o::l,x,cs,hc,h=>by
   subst hc;simp only[np,eL]at h;simp only[cV,bg]at h ⊢;generalize hx:kG o.pat.cst (cV l).cst o.pat.dflt x=x1 at h ⊢;generalize hy:kH o.pat.cst (cV l).cst (cV l).dflt x=y1 at h ⊢;cases o with
   | box n p=>
     have h':wkL (e (cu (ba s.ob n))::eL (np s l)) (SV.agg (eL (bg p x1))::eL (bg (cV l) y1)):=h;obtain⟨h1,h2⟩:=lq h';obtain⟨m,cs,hg,h3⟩:=NC (v:=.u) (m:=0) h1;obtain⟨ob',h4,h5⟩:=se l y1 _ rfl h2;have hn:=r_ _ _ _ hg;simp only[TO.name]at hn;subst hn;refine⟨⟨m,cs.length,[eL cs],ad⟩::ob',?_,?_⟩
     ·simp only[fU,OPat.name,dq]
      rw[kD,hg,h4];rfl
     ·have hl:=AF h3;simp only[cF]at hl;exact⟨rfl,hl,rfl,⟨h3,rfl⟩,h5⟩
   | arr n t d=>
     have h':wkL (e (cu (ba s.ob n))::eL (np s l)) (SV.own t.sz ((x1:List t.Den).map (aM d t))::eL (bg (cV l) y1)):=h;obtain⟨h1,h2⟩:=lq h';obtain⟨ob',h4,h5⟩:=se l y1 _ rfl h2;cases hg:ba s.ob n with
     |none=>rw[hg]at h1;simp[cu,e,wk]at h1
     | some o=>
       rw[hg]at h1;have hn:=r_ _ _ _ hg;cases o with
       |box m cs=>simp[cu,e,wk]at h1
       |opn m t' d' l' i' cs'=>simp[cu,e,wk]at h1
       |spl m t' l' k'=>simp[cu,e,wk]at h1
       | arr m t' d' l' =>
         simp only[TO.name]at hn;subst hn;simp only[cu,e,wk,SV.own.injEq]at h1;refine⟨⟨m,t'.sz,l'.map (aM d' t'),ag⟩::ob',?_,?_⟩
         ·simp only[fU,OPat.name,dq]
          rw[kD,hg,h4];rfl
         ·exact⟨rfl,h1.1,rfl,by simp only[h1.2];exact mV _,h5⟩
   | opn n t d p=>
     obtain⟨y,i,z,hv,hmk⟩:=Gx n t d p x1
     have h':wkL (e (cu (ba s.ob n))::eL (np s l)) (eL (bg (OPat.opn n t d p).pat x1)++eL (bg (cV l) y1)):=by
      rw[<-j6];exact h
     rw[hv]at h';obtain⟨h1,h2⟩:=lq h';obtain⟨ob',h4,h5⟩:=se l y1 _ rfl h2;cases hg:ba s.ob n with
     |none=>rw[hg]at h1;simp[cu,e,wk]at h1
     | some o=>
       rw[hg]at h1;have hn:=r_ _ _ _ hg;cases o with
       |box m cs=>simp[cu,e,wk]at h1
       |arr m t' d' l'=>simp[cu,e,wk]at h1
       |spl m t' l' k'=>simp[cu,e,eL,wk,wkL]at h1
       | opn m t' d' l' i' cs' =>
         simp only[TO.name]at hn;subst hn;simp only[cu,e,eL,wk,wkL,SV.own.injEq,SV.p.injEq]at h1;obtain⟨⟨h6,h7⟩,⟨_,h8,hc⟩,h9,_⟩:=h1;refine⟨⟨m,t'.sz,(cp d' t' i' l').set i' (eL cs'),ad⟩::ob',?_,?_⟩
         ·simp only[fU,OPat.name,dq]
          rw[kD,hg,h4];rfl
         ·rw[hv];refine⟨rfl,h6,rfl,?_,h5⟩;show wkRows _ ((cp d t i y).set i (eL (bg p z)));subst h8;rw[vE hc h7];exact uI h9 _ _
   | spl n t=>
     obtain⟨y,i,hv,hmk⟩:=Gy n t x1
     have h':wkL (e (cu (ba s.ob n))::eL (np s l)) (eL (bg (OPat.spl n t).pat x1)++eL (bg (cV l) y1)):=by
      rw[<-j6];exact h
     rw[hv]at h';obtain⟨h1,h2⟩:=lq h';obtain⟨ob',h4,h5⟩:=se l y1 _ rfl h2;cases hg:ba s.ob n with
     |none=>rw[hg]at h1;simp[cu,e,wk]at h1
     | some o=>
       rw[hg]at h1;have hn:=r_ _ _ _ hg;cases o with
       |box m cs=>simp[cu,e,wk]at h1
       |arr m t' d' l'=>simp[cu,e,wk]at h1
       |opn m t' d' l' i' cs'=>simp[cu,e,eL,wk,wkL]at h1
       | spl m t' l' k' =>
         simp only[TO.name]at hn;subst hn;simp only[cu,e,eL,wk,wkL,SV.own.injEq,SV.p.injEq]at h1;obtain⟨⟨h6,h7⟩,⟨_,h8,_⟩,_⟩:=h1;refine⟨⟨m,t'.sz,cp .spl t' k' l',ag⟩::ob',?_,?_⟩
         ·simp only[fU,OPat.name,dq]
          rw[kD,hg,h4];rfl
         ·rw[hv];refine⟨rfl,h6,rfl,?_,h5⟩;show wkRows _ (cp .spl t i y);subst h8;rw[vE (d:=.spl) (d':=.spl) rfl h7];exact mV _
def AG:∀(p:Pat),(∀q q',p ≠ .cons q q')->p ≠ .nop->∀x:p.Den,∃v,bg p x=[v]:=by
 intro p h1 h2 x;cases p<;>first|exact⟨_,rfl⟩|exact absurd rfl h2|exact absurd rfl (h1 _ _)
def kI:List (Nat×Pat)->Bool
 |[]=>ad
 |p::l=>(match p.2 with|.cons _ _|.nop=>ag|_=>ad)&&kI l
def GA {rest:List V}{q:Pat}:∀(l:List (Nat×Pat)) (x:(dK l q).Den),kI l=ad->wkL (eL (vD s l rest)) (eL (bg (dK l q) x)) ->
  uW (eA s.al) (eA (r9 l (bg (dK l q) x)))/\∃y:q.Den,mb l (bg (dK l q) x)=bg q y/\wkL (eL rest) (eL (bg q y))
 |[],x,_,h=>⟨trivial,x,rfl,h⟩
 | p::l,x,ho,h=>by
   simp only[kI,aG]at ho;simp only[dK,bg]at h ⊢;generalize hx:kG p.2.cst (dK l q).cst p.2.dflt x=x1 at h ⊢;generalize hy:kH p.2.cst (dK l q).cst (dK l q).dflt x=y1 at h ⊢;obtain⟨v,hv⟩:=AG p.2 (fun q q' hq=>by rw[hq]at ho;cases ho.1) (fun hq=>by rw[hq]at ho;cases ho.1) x1;rw[hv]at h ⊢;simp only[vD,cD,dz,eL]at h ⊢;obtain⟨h1,h2⟩:=lq h;obtain⟨h3,y,h4,h5⟩:=GA l y1 ho.2 h2;exact⟨⟨NB h1,h3⟩,y,h4,h5⟩
def ND {p:SPat}{K:p.Den->Option R}(ho:kI p.al=ad)(h:Gw p s K=U r):∃x,K x=U r/\∀K':St->Prop,K' (eS (dW s.n p x))->gK K' (eS s):=by
 obtain⟨h0,h1⟩:=bl h;obtain⟨x,cs,rest,h2,h3,h4,_⟩:=nn p.pat ad _ _ h1;obtain⟨rfl,h5⟩:=p8 h2;rw[cN]at h3;subst h3;obtain⟨h6,y,h7,h8⟩:=GA p.al x ho h4;obtain⟨ob',h9,h10⟩:=se p.ob y _ rfl h8;refine⟨x,h5,fun K' hk=>?_⟩;have hsel:dq (fU p.ob) (eS s).ob=U ob':=h9;refine gD (Mt (K:=fun st=>gK K' st) (fU p.ob) (pQ _ h0) hsel ?_);refine EA _ ?_ ?_ hk
 ·exact MB h6
 ·show wkObs ob' (bo (lp p.ob (mb p.al (bg (dK p.al (cV p.ob)) x))));rw[h7];exact h10
end
end Go.TM
end
