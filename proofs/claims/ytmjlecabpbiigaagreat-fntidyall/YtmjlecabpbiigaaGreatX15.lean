/- Part 16 of the proof of FnTidyAll; no condition. -/
import Derived.Test.YtmjlecabpbiigaaGreatX14
open Option renaming some -> U
open Decidable renaming decide -> aa
open Bool renaming true -> ae
open Bool renaming false -> ag
open Option renaming none -> aj
open Sum renaming inr -> an
open Sum renaming inl -> ao
open List renaming length -> au
open Int renaming toNat -> aw
open List renaming drop -> cU
open List renaming take -> de
set_option autoImplicit true
set_option relaxedAutoImplicit true
set_option linter.all false
section
namespace Go.TM
open Go.AM
inductive OPat
 |box (n:Nat) (p:Pat)
 |arr (n:Nat) (t:GT) (d:Bool)
 |opn (n:Nat) (t:GT) (d:DM) (p:Pat)
 |spl (n:Nat) (t:GT)
structure SPat where
 al:List (Nat×Pat)
 ob:List OPat
def OPat.name:OPat->Nat
 |.box n _=>n
 |.arr n _ _=>n
 |.opn n _ _ _=>n
 |.spl n _=>n
def DM.c:DM->Nat
 |.all _=>0
 |.spl=>1
def OPat.pat:OPat->Pat
 |.box _ p=>.agg p
 |.arr _ t d=>.own t d
 |.opn n t d p=>.tup (.cons (.own t d.b) (.cons (.ptrI n d.c) (.cons (.agg p) .nop)))
 |.spl n t=>.tup (.cons (.own t ae) (.cons (.ptrI n 2) .nop))
def dU:List (Nat×Pat)->Pat->Pat
 |[],q=>q
 |p::l,q=>.cons p.2 (dU l q)
def cZ:List OPat->Pat
 |[]=>.nop
 |o::l=>.cons o.pat (cZ l)
def SPat.pat (s:SPat):Pat:=dU s.al (cZ s.ob)
abbrev SPat.Den (s:SPat):Type:=s.pat.Den
def sA:List (Nat×Pat)->List V->List (Nat×V)
 |[],_=>[]
 | p::l,vs=>match vs with
   |v::vs=>(p.1,v)::sA l vs
   |[]=>[]
def vR (o:OPat)(v:V):TO:=match o with
 |.box n _=>(match v with|.agg cs=>.box n cs|_=>.box n [])
 |.arr n t d=>(match v with|.own t d l=>.arr n t d l|_=>.arr n t d [])
 |.opn n t d _=>(match v with|.tup [.own t _ l,.p _ i _,.agg cs]=>.opn n t d l i cs|_=>.arr n t d.b [])
 |.spl n t=>(match v with|.tup [.own t _ l,.p _ k _]=>.spl n t l k|_=>.arr n t ae [])
def lG:List OPat->List V->List TO
 |[],_=>[]
 | o::l,vs=>match vs with
   |v::vs=>vR o v::lG l vs
   |[]=>[]
def mu:List (Nat×Pat)->List V->List V
 |[],vs=>vs
 | _::l,vs=>match vs with
   |_::vs=>mu l vs
   |[]=>[]
def eb (n:Nat)(s:SPat)(x:s.Den):TS:=⟨n,sA s.al (bg s.pat x),lG s.ob (mu s.al (bg s.pat x))⟩
def cv:Option TO->V
 |some (.box _ cs)=>.agg cs
 |some (.arr _ t d l)=>.own t d l
 |some (.opn n t d l i cs)=>.tup [.own t d.b l,.p n i d.c,.agg cs]
 |some (.spl n t l k)=>.tup [.own t ae l,.p n k 2]
 |none=>.u
def vS (s:TS):List (Nat×Pat)->List V->List V
 |[],r=>r
 |p::l,r=>cQ s p.1::vS s l r
def nA (s:TS):List OPat->List V
 |[]=>[]
 |o::l=>cv (bb s.ob o.name)::nA s l
def gn:List OPat->List Nat
 |[]=>[]
 |o::l=>o.name::gn l
section
variable {R:Type}
def He (p:SPat)(s:TS)(K:p.Den->Option R):Option R :=
 aX (js (gn p.ob)) (ea ae p.pat (vS s p.al (nA s p.ob)) fun x q=>oV q (K x))
end
section
variable {R:Type}{r:R}{s:TS}
def lH {x y:SV}{a b:List SV}(h:wkL (x::a) (y::b)):wk x y/\wkL a b:=h
def Oq:∀p:Pat,p.cst=p.cst->∀o:OPat,∀x:o.pat.Den,∃v,bg o.pat x=[v]:=by
 intro _ _ o x;cases o<;>exact⟨_,rfl⟩
def Ot {y:SV}(h:wk .u y):y = .u:=by cases y<;>simp_all [wk]
def Ou {t:Nat}{y:SV}(h:wk (e (cQ s t)) y):wk (AM.look (eA s.al) t) y:=by
 unfold cQ at h;split at h
 ·rw[<-AH];exact h
 ·have:=Ot h;subst this;exact F_ _
def Ov {n m:Nat}{p:Pat}{x:p.Den}{v:V}(h:wk (e (cv (bb s.ob n))) (.agg (eL (bg p x)))) :
  ∃m cs,bb s.ob n=U (.box m cs)/\wkL (eL cs) (eL (bg p x)):=by
 cases hg:bb s.ob n with
 |none=>rw[hg]at h;simp[cv,e,wk]at h
 | some o=>
   rw[hg]at h;cases o with
   |box m cs=>exact⟨m,cs,rfl,h⟩
   |arr m t d l=>simp[cv,e,wk]at h
   |opn m t d l i cs=>simp[cv,e,wk]at h
   |spl m t l k=>simp[cv,e,wk]at h
def sB:∀(l:List TO) (o:Nat) (x:TO),bb l o=U x->x.name=o
 |[],_,_,h=>by cases h
 | y::l,o,x,h=>by
   simp only[bb]at h;cases hy:y.name==o with
   |true=>rw[hy,cond_true]at h;simp only[aF]at h;subst h;exact eq_of_beq hy
   |false=>rw[hy,cond_false]at h;exact sB l o x h
def Bg:∀{a b:List SV},wkL a b->a.length=b.length
 |[],b,h=>by simp only[wkL]at h;subst h;rfl
 |_::_,[],h=>by simp only[wkL]at h
 |x::a,y::b,h=>by simp only[wkL]at h;simp[Bg h.2]
def Hf (n:Nat)(t:GT)(d:DM)(p:Pat)(x:(OPat.opn n t d p).pat.Den):∃(y:List t.Den) (i:Nat) (z:p.Den),bg (OPat.opn n t d p).pat x=[.tup [.own t d.b y,.p n i d.c,.agg (bg p z)]]/\True:=by
 exact⟨_,_,_,rfl,trivial⟩
def Hg (n:Nat)(t:GT)(x:(OPat.spl n t).pat.Den):∃(y:List t.Den) (i:Nat),bg (OPat.spl n t).pat x=[.tup [.own t ae y,.p n i 2]]/\True:=by
 exact⟨_,_,rfl,trivial⟩
def Hh (t:GT)(k:Nat)(l:List t.Den):cn .spl t k l=(l.map (aO ae t)).take k++(cC (l.map (aO ae t))).drop k:=by
 simp only[cn,kS,List.map_take,List.map_drop]
def vT {d d':DM}{t t':GT}{i:Nat}{l:List t.Den}{l':List t'.Den}(hc:d'.c=d.c)(h:l'.map (aO d'.b t')=l.map (aO d.b t)):cn d' t' i l'=cn d t i l:=by
 cases d<;>cases d'
 ·exact h
 ·cases hc
 ·cases hc
 ·rw[Hh,Hh];have h:l'.map (aO ae t')=l.map (aO ae t):=h;rw[h]
def sC:∀(l:List OPat) (x:(cZ l).Den) (cs:List V),cs=nA s l->wkL (eL cs) (eL (bg (cZ l) x)) ->
  ∃ob',dB (gn l) (bo s.ob)=U ob'/\wkObs ob' (bo (lG l (bg (cZ l) x)))
 |[],x,cs,hc,h=>⟨[],rfl,rfl⟩
 | o::l,x,cs,hc,h=>by
   subst hc;simp only[nA,eL]at h;simp only[cZ,bg]at h ⊢;generalize hx:kT o.pat.cst (cZ l).cst o.pat.dflt x=x1 at h ⊢;generalize hy:kU o.pat.cst (cZ l).cst (cZ l).dflt x=y1 at h ⊢;cases o with
   | box n p=>
     have h':wkL (e (cv (bb s.ob n))::eL (nA s l)) (SV.agg (eL (bg p x1))::eL (bg (cZ l) y1)):=h;obtain⟨h1,h2⟩:=lH h';obtain⟨m,cs,hg,h3⟩:=Ov (v:=.u) (m:=0) h1;obtain⟨ob',h4,h5⟩:=sC l y1 _ rfl h2;have hn:=sB _ _ _ hg;simp only[TO.name]at hn;subst hn;refine⟨⟨m,cs.length,[eL cs],ae⟩::ob',?_,?_⟩
     ·simp only[gn,OPat.name,dB]
      rw[kQ,hg,h4];rfl
     ·have hl:=Bg h3;simp only[cN]at hl;exact⟨rfl,hl,rfl,⟨h3,rfl⟩,h5⟩
   | arr n t d=>
     have h':wkL (e (cv (bb s.ob n))::eL (nA s l)) (SV.own t.sz ((x1:List t.Den).map (aO d t))::eL (bg (cZ l) y1)):=h;obtain⟨h1,h2⟩:=lH h';obtain⟨ob',h4,h5⟩:=sC l y1 _ rfl h2;cases hg:bb s.ob n with
     |none=>rw[hg]at h1;simp[cv,e,wk]at h1
     | some o=>
       rw[hg]at h1;have hn:=sB _ _ _ hg;cases o with
       |box m cs=>simp[cv,e,wk]at h1
       |opn m t' d' l' i' cs'=>simp[cv,e,wk]at h1
       |spl m t' l' k'=>simp[cv,e,wk]at h1
       | arr m t' d' l' =>
         simp only[TO.name]at hn;subst hn;simp only[cv,e,wk,SV.own.injEq]at h1;refine⟨⟨m,t'.sz,l'.map (aO d' t'),ag⟩::ob',?_,?_⟩
         ·simp only[gn,OPat.name,dB]
          rw[kQ,hg,h4];rfl
         ·exact⟨rfl,h1.1,rfl,by simp only[h1.2];exact na _,h5⟩
   | opn n t d p=>
     obtain⟨y,i,z,hv,hmk⟩:=Hf n t d p x1
     have h':wkL (e (cv (bb s.ob n))::eL (nA s l)) (eL (bg (OPat.opn n t d p).pat x1)++eL (bg (cZ l) y1)):=by
      rw[<-ki];exact h
     rw[hv]at h';obtain⟨h1,h2⟩:=lH h';obtain⟨ob',h4,h5⟩:=sC l y1 _ rfl h2;cases hg:bb s.ob n with
     |none=>rw[hg]at h1;simp[cv,e,wk]at h1
     | some o=>
       rw[hg]at h1;have hn:=sB _ _ _ hg;cases o with
       |box m cs=>simp[cv,e,wk]at h1
       |arr m t' d' l'=>simp[cv,e,wk]at h1
       |spl m t' l' k'=>simp[cv,e,eL,wk,wkL]at h1
       | opn m t' d' l' i' cs' =>
         simp only[TO.name]at hn;subst hn;simp only[cv,e,eL,wk,wkL,SV.own.injEq,SV.p.injEq]at h1;obtain⟨⟨h6,h7⟩,⟨_,h8,hc⟩,h9,_⟩:=h1;refine⟨⟨m,t'.sz,(cn d' t' i' l').set i' (eL cs'),ae⟩::ob',?_,?_⟩
         ·simp only[gn,OPat.name,dB]
          rw[kQ,hg,h4];rfl
         ·rw[hv];refine⟨rfl,h6,rfl,?_,h5⟩;show wkRows _ ((cn d t i y).set i (eL (bg p z)));subst h8;rw[vT hc h7];exact uX h9 _ _
   | spl n t=>
     obtain⟨y,i,hv,hmk⟩:=Hg n t x1
     have h':wkL (e (cv (bb s.ob n))::eL (nA s l)) (eL (bg (OPat.spl n t).pat x1)++eL (bg (cZ l) y1)):=by
      rw[<-ki];exact h
     rw[hv]at h';obtain⟨h1,h2⟩:=lH h';obtain⟨ob',h4,h5⟩:=sC l y1 _ rfl h2;cases hg:bb s.ob n with
     |none=>rw[hg]at h1;simp[cv,e,wk]at h1
     | some o=>
       rw[hg]at h1;have hn:=sB _ _ _ hg;cases o with
       |box m cs=>simp[cv,e,wk]at h1
       |arr m t' d' l'=>simp[cv,e,wk]at h1
       |opn m t' d' l' i' cs'=>simp[cv,e,eL,wk,wkL]at h1
       | spl m t' l' k' =>
         simp only[TO.name]at hn;subst hn;simp only[cv,e,eL,wk,wkL,SV.own.injEq,SV.p.injEq]at h1;obtain⟨⟨h6,h7⟩,⟨_,h8,_⟩,_⟩:=h1;refine⟨⟨m,t'.sz,cn .spl t' k' l',ag⟩::ob',?_,?_⟩
         ·simp only[gn,OPat.name,dB]
          rw[kQ,hg,h4];rfl
         ·rw[hv];refine⟨rfl,h6,rfl,?_,h5⟩;show wkRows _ (cn .spl t i y);subst h8;rw[vT (d:=.spl) (d':=.spl) rfl h7];exact na _
def Bh:∀(p:Pat),(∀q q',p ≠ .cons q q')->p ≠ .nop->∀x:p.Den,∃v,bg p x=[v]:=by
 intro p h1 h2 x;cases p<;>first|exact⟨_,rfl⟩|exact absurd rfl h2|exact absurd rfl (h1 _ _)
def kV:List (Nat×Pat)->Bool
 |[]=>ae
 |p::l=>(match p.2 with|.cons _ _|.nop=>ag|_=>ae)&&kV l
def Hi {rest:List V}{q:Pat}:∀(l:List (Nat×Pat)) (x:(dU l q).Den),kV l=ae->wkL (eL (vS s l rest)) (eL (bg (dU l q) x)) ->
  vh (eA s.al) (eA (sA l (bg (dU l q) x)))/\∃y:q.Den,mu l (bg (dU l q) x)=bg q y/\wkL (eL rest) (eL (bg q y))
 |[],x,_,h=>⟨trivial,x,rfl,h⟩
 | p::l,x,ho,h=>by
   simp only[kV,aK]at ho;simp only[dU,bg]at h ⊢;generalize hx:kT p.2.cst (dU l q).cst p.2.dflt x=x1 at h ⊢;generalize hy:kU p.2.cst (dU l q).cst (dU l q).dflt x=y1 at h ⊢;obtain⟨v,hv⟩:=Bh p.2 (fun q q' hq=>by rw[hq]at ho;cases ho.1) (fun hq=>by rw[hq]at ho;cases ho.1) x1;rw[hv]at h ⊢;simp only[vS,cF,dy,eL]at h ⊢;obtain⟨h1,h2⟩:=lH h;obtain⟨h3,y,h4,h5⟩:=Hi l y1 ho.2 h2;exact⟨⟨Ou h1,h3⟩,y,h4,h5⟩
def Ox {p:SPat}{K:p.Den->Option R}(ho:kV p.al=ae)(h:He p s K=U r):∃x,K x=U r/\∀K':St->Prop,K' (eS (eb s.n p x))->gK K' (eS s):=by
 obtain⟨h0,h1⟩:=bj h;obtain⟨x,cs,rest,h2,h3,h4,_⟩:=nz p.pat ae _ _ h1;obtain⟨rfl,h5⟩:=qk h2;rw[cB]at h3;subst h3;obtain⟨h6,y,h7,h8⟩:=Hi p.al x ho h4;obtain⟨ob',h9,h10⟩:=sC p.ob y _ rfl h8;refine⟨x,h5,fun K' hk=>?_⟩;have hsel:dB (gn p.ob) (eS s).ob=U ob':=h9;refine gh (Nk (K:=fun st=>gK K' st) (gn p.ob) (p7 _ h0) hsel ?_);refine E8 _ ?_ ?_ hk
 ·exact Nt h6
 ·show wkObs ob' (bo (lG p.ob (mu p.al (bg (dU p.al (cZ p.ob)) x))));rw[h7];exact h10
end
end Go.TM
end
