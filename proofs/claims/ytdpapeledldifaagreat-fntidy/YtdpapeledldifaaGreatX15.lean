/- Part 16 of the proof of FnTidy; no condition. -/
import Derived.Test.YtdpapeledldifaaGreatX14
set_option autoImplicit true
set_option relaxedAutoImplicit true
set_option linter.all false
section
namespace Go.TM
open Go.AM
inductive OPat
 |box (n:Nat) (p:Pat)
 |arr (n:Nat) (t:GT) (d:Bool)
 |opn (n:Nat) (t:GT) (d:DM) (p:Pat)
 |spl (n:Nat) (t:GT)
structure SPat where
 al:List (Nat×Pat)
 ob:List OPat
def OPat.name:OPat→Nat
 |.box n _=>n
 |.arr n _ _=>n
 |.opn n _ _ _=>n
 |.spl n _=>n
def DM.c:DM→Nat
 |.all _=>0
 |.spl=>1
def OPat.pat:OPat→Pat
 |.box _ p=>.agg p
 |.arr _ t d=>.own t d
 |.opn n t d p=>.tup (.cons (.own t d.b) (.cons (.ptrI n d.c) (.cons (.agg p) .nop)))
 |.spl n t=>.tup (.cons (.own t true) (.cons (.ptrI n 2) .nop))
def zBU:List (Nat×Pat)→Pat→Pat
 |[],q=>q
 |p::l,q=>.cons p.2 (zBU l q)
def zBC:List OPat→Pat
 |[]=>.nop
 |o::l=>.cons o.pat (zBC l)
def SPat.pat (s:SPat):Pat:=zBU s.al (zBC s.ob)
abbrev SPat.Den (s:SPat):Type:=s.pat.Den
def mkA:List (Nat×Pat)→List V→List (Nat×V)
 |[],_=>[]
 | p::l,vs=>match vs with
   |v::vs=>(p.1,v)::mkA l vs
   |[]=>[]
def toO (o:OPat)(v:V):TO:=match o with
 |.box n _=>(match v with|.agg cs=>.box n cs|_=>.box n [])
 |.arr n t d=>(match v with|.own t d l=>.arr n t d l|_=>.arr n t d [])
 |.opn n t d _=>(match v with|.tup [.own t _ l,.p _ i _,.agg cs]=>.opn n t d l i cs|_=>.arr n t d.b [])
 |.spl n t=>(match v with|.tup [.own t _ l,.p _ k _]=>.spl n t l k|_=>.arr n t true [])
def mkO:List OPat→List V→List TO
 |[],_=>[]
 | o::l,vs=>match vs with
   |v::vs=>toO o v::mkO l vs
   |[]=>[]
def zNd:List (Nat×Pat)→List V→List V
 |[],vs=>vs
 | _::l,vs=>match vs with
   |_::vs=>zNd l vs
   |[]=>[]
def encS (n:Nat)(s:SPat)(x:s.Den):TS:=⟨n,mkA s.al (encP s.pat x),mkO s.ob (zNd s.al (encP s.pat x))⟩
def ofO:Option TO→V
 |some (.box _ cs)=>.agg cs
 |some (.arr _ t d l)=>.own t d l
 |some (.opn n t d l i cs)=>.tup [.own t d.b l,.p n i d.c,.agg cs]
 |some (.spl n t l k)=>.tup [.own t true l,.p n k 2]
 |none=>.u
def valsA (s:TS):List (Nat×Pat)→List V→List V
 |[],r=>r
 |p::l,r=>zBx s p.1::valsA s l r
def zOg (s:TS):List OPat→List V
 |[]=>[]
 |o::l=>ofO (getT s.ob o.name)::zOg s l
def zCY:List OPat→List Nat
 |[]=>[]
 |o::l=>o.name::zCY l
section
variable {R:Type}
def decS (p:SPat)(s:TS)(K:p.Den→Option R):Option R :=
 chkO (zHI (zCY p.ob)) (decP true p.pat (valsA s p.al (zOg s p.ob)) fun x q=>endT q (K x))
end
section
variable {R:Type}{r:R}{s:TS}
def zCr {x y:SV}{a b:List SV}(h:wkL (x::a) (y::b)):wk x y∧wkL a b:=h
def zUt:∀p:Pat,p.cst=p.cst→∀o:OPat,∀x:o.pat.Den,∃v,encP o.pat x=[v]:=by
 intro _ _ o x;cases o<;>exact⟨_,rfl⟩
def wk_of_u {y:SV}(h:wk .u y):y = .u:=by cases y<;>simp_all [wk]
def lookT_wk {t:Nat}{y:SV}(h:wk (e (zBx s t)) y):wk (AM.look (eA s.al) t) y:=by
 unfold zBx at h;split at h
 ·rw[←zRy];exact h
 ·have:=wk_of_u h;subst this;exact wk_u _
def ofO_box {n m:Nat}{p:Pat}{x:p.Den}{v:V}(h:wk (e (ofO (getT s.ob n))) (.agg (eL (encP p x)))) :
  ∃m cs,getT s.ob n=some (.box m cs)∧wkL (eL cs) (eL (encP p x)):=by
 cases hg:getT s.ob n with
 |none=>rw[hg]at h;simp[ofO,e,wk]at h
 | some o=>
   rw[hg]at h;cases o with
   |box m cs=>exact⟨m,cs,rfl,h⟩
   |arr m t d l=>simp[ofO,e,wk]at h
   |opn m t d l i cs=>simp[ofO,e,wk]at h
   |spl m t l k=>simp[ofO,e,wk]at h
def zFi:∀(l:List TO) (o:Nat) (x:TO),getT l o=some x→x.name=o
 |[],_,_,h=>by cases h
 | y::l,o,x,h=>by
   simp only[getT]at h;cases hy:y.name==o with
   |true=>rw[hy,cond_true]at h;simp only[zSe]at h;subst h;exact eq_of_beq hy
   |false=>rw[hy,cond_false]at h;exact zFi l o x h
def zHj:∀{a b:List SV},wkL a b→a.length=b.length
 |[],b,h=>by simp only[wkL]at h;subst h;rfl
 |_::_,[],h=>by simp only[wkL]at h
 |x::a,y::b,h=>by simp only[wkL]at h;simp[zHj h.2]
def zWf (n:Nat)(t:GT)(d:DM)(p:Pat)(x:(OPat.opn n t d p).pat.Den):∃(y:List t.Den) (i:Nat) (z:p.Den),encP (OPat.opn n t d p).pat x=[.tup [.own t d.b y,.p n i d.c,.agg (encP p z)]]∧True:=by
 exact⟨_,_,_,rfl,trivial⟩
def zWJ (n:Nat)(t:GT)(x:(OPat.spl n t).pat.Den):∃(y:List t.Den) (i:Nat),encP (OPat.spl n t).pat x=[.tup [.own t true y,.p n i 2]]∧True:=by
 exact⟨_,_,rfl,trivial⟩
def zKR (t:GT)(k:Nat)(l:List t.Den):encM .spl t k l=(l.map (encC true t)).take k++(zBX (l.map (encC true t))).drop k:=by
 simp only[encM,zBp,List.map_take,List.map_drop]
def zOO {d d':DM}{t t':GT}{i:Nat}{l:List t.Den}{l':List t'.Den}(hc:d'.c=d.c)(h:l'.map (encC d'.b t')=l.map (encC d.b t)):encM d' t' i l'=encM d t i l:=by
 cases d<;>cases d'
 ·exact h
 ·cases hc
 ·cases hc
 ·rw[zKR,zKR];have h:l'.map (encC true t')=l.map (encC true t):=h;rw[h]
def zGn:∀(l:List OPat) (x:(zBC l).Den) (cs:List V),cs=zOg s l→wkL (eL cs) (eL (encP (zBC l) x)) →
  ∃ob',zCR (zCY l) (eOs s.ob)=some ob'∧wkObs ob' (eOs (mkO l (encP (zBC l) x)))
 |[],x,cs,hc,h=>⟨[],rfl,rfl⟩
 | o::l,x,cs,hc,h=>by
   subst hc;simp only[zOg,eL]at h;simp only[zBC,encP]at h ⊢;generalize hx:fstD o.pat.cst (zBC l).cst o.pat.dflt x=x1 at h ⊢;generalize hy:sndD o.pat.cst (zBC l).cst (zBC l).dflt x=y1 at h ⊢;cases o with
   | box n p=>
     have h':wkL (e (ofO (getT s.ob n))::eL (zOg s l)) (SV.agg (eL (encP p x1))::eL (encP (zBC l) y1)):=h;obtain⟨h1,h2⟩:=zCr h';obtain⟨m,cs,hg,h3⟩:=ofO_box (v:=.u) (m:=0) h1;obtain⟨ob',h4,h5⟩:=zGn l y1 _ rfl h2;have hn:=zFi _ _ _ hg;simp only[TO.name]at hn;subst hn;refine⟨⟨m,cs.length,[eL cs],true⟩::ob',?_,?_⟩
     ·simp only[zCY,OPat.name,zCR]
      rw[zDi,hg,h4];rfl
     ·have hl:=zHj h3;simp only[zAN]at hl;exact⟨rfl,hl,rfl,⟨h3,rfl⟩,h5⟩
   | arr n t d=>
     have h':wkL (e (ofO (getT s.ob n))::eL (zOg s l)) (SV.own t.sz ((x1:List t.Den).map (encC d t))::eL (encP (zBC l) y1)):=h;obtain⟨h1,h2⟩:=zCr h';obtain⟨ob',h4,h5⟩:=zGn l y1 _ rfl h2;cases hg:getT s.ob n with
     |none=>rw[hg]at h1;simp[ofO,e,wk]at h1
     | some o=>
       rw[hg]at h1;have hn:=zFi _ _ _ hg;cases o with
       |box m cs=>simp[ofO,e,wk]at h1
       |opn m t' d' l' i' cs'=>simp[ofO,e,wk]at h1
       |spl m t' l' k'=>simp[ofO,e,wk]at h1
       | arr m t' d' l' =>
         simp only[TO.name]at hn;subst hn;simp only[ofO,e,wk,SV.own.injEq]at h1;refine⟨⟨m,t'.sz,l'.map (encC d' t'),false⟩::ob',?_,?_⟩
         ·simp only[zCY,OPat.name,zCR]
          rw[zDi,hg,h4];rfl
         ·exact⟨rfl,h1.1,rfl,by simp only[h1.2];exact zBk _,h5⟩
   | opn n t d p=>
     obtain⟨y,i,z,hv,hmk⟩:=zWf n t d p x1
     have h':wkL (e (ofO (getT s.ob n))::eL (zOg s l)) (eL (encP (OPat.opn n t d p).pat x1)++eL (encP (zBC l) y1)):=by
      rw[←zBe];exact h
     rw[hv]at h';obtain⟨h1,h2⟩:=zCr h';obtain⟨ob',h4,h5⟩:=zGn l y1 _ rfl h2;cases hg:getT s.ob n with
     |none=>rw[hg]at h1;simp[ofO,e,wk]at h1
     | some o=>
       rw[hg]at h1;have hn:=zFi _ _ _ hg;cases o with
       |box m cs=>simp[ofO,e,wk]at h1
       |arr m t' d' l'=>simp[ofO,e,wk]at h1
       |spl m t' l' k'=>simp[ofO,e,eL,wk,wkL]at h1
       | opn m t' d' l' i' cs' =>
         simp only[TO.name]at hn;subst hn;simp only[ofO,e,eL,wk,wkL,SV.own.injEq,SV.p.injEq]at h1;obtain⟨⟨h6,h7⟩,⟨_,h8,hc⟩,h9,_⟩:=h1;refine⟨⟨m,t'.sz,(encM d' t' i' l').set i' (eL cs'),true⟩::ob',?_,?_⟩
         ·simp only[zCY,OPat.name,zCR]
          rw[zDi,hg,h4];rfl
         ·rw[hv];refine⟨rfl,h6,rfl,?_,h5⟩;show wkRows _ ((encM d t i y).set i (eL (encP p z)));subst h8;rw[zOO hc h7];exact zFo h9 _ _
   | spl n t=>
     obtain⟨y,i,hv,hmk⟩:=zWJ n t x1
     have h':wkL (e (ofO (getT s.ob n))::eL (zOg s l)) (eL (encP (OPat.spl n t).pat x1)++eL (encP (zBC l) y1)):=by
      rw[←zBe];exact h
     rw[hv]at h';obtain⟨h1,h2⟩:=zCr h';obtain⟨ob',h4,h5⟩:=zGn l y1 _ rfl h2;cases hg:getT s.ob n with
     |none=>rw[hg]at h1;simp[ofO,e,wk]at h1
     | some o=>
       rw[hg]at h1;have hn:=zFi _ _ _ hg;cases o with
       |box m cs=>simp[ofO,e,wk]at h1
       |arr m t' d' l'=>simp[ofO,e,wk]at h1
       |opn m t' d' l' i' cs'=>simp[ofO,e,eL,wk,wkL]at h1
       | spl m t' l' k' =>
         simp only[TO.name]at hn;subst hn;simp only[ofO,e,eL,wk,wkL,SV.own.injEq,SV.p.injEq]at h1;obtain⟨⟨h6,h7⟩,⟨_,h8,_⟩,_⟩:=h1;refine⟨⟨m,t'.sz,encM .spl t' k' l',false⟩::ob',?_,?_⟩
         ·simp only[zCY,OPat.name,zCR]
          rw[zDi,hg,h4];rfl
         ·rw[hv];refine⟨rfl,h6,rfl,?_,h5⟩;show wkRows _ (encM .spl t i y);subst h8;rw[zOO (d:=.spl) (d':=.spl) rfl h7];exact zBk _
def zRw:∀(p:Pat),(∀q q',p ≠ .cons q q')→p ≠ .nop→∀x:p.Den,∃v,encP p x=[v]:=by
 intro p h1 h2 x;cases p<;>first|exact⟨_,rfl⟩|exact absurd rfl h2|exact absurd rfl (h1 _ _)
def okA:List (Nat×Pat)→Bool
 |[]=>true
 |p::l=>(match p.2 with|.cons _ _|.nop=>false|_=>true)&&okA l
def zSO {rest:List V}{q:Pat}:∀(l:List (Nat×Pat)) (x:(zBU l q).Den),okA l=true→wkL (eL (valsA s l rest)) (eL (encP (zBU l q) x)) →
  wkA (eA s.al) (eA (mkA l (encP (zBU l q) x)))∧∃y:q.Den,zNd l (encP (zBU l q) x)=encP q y∧wkL (eL rest) (eL (encP q y))
 |[],x,_,h=>⟨trivial,x,rfl,h⟩
 | p::l,x,ho,h=>by
   simp only[okA,zBa]at ho;simp only[zBU,encP]at h ⊢;generalize hx:fstD p.2.cst (zBU l q).cst p.2.dflt x=x1 at h ⊢;generalize hy:sndD p.2.cst (zBU l q).cst (zBU l q).dflt x=y1 at h ⊢;obtain⟨v,hv⟩:=zRw p.2 (fun q q' hq=>by rw[hq]at ho;cases ho.1) (fun hq=>by rw[hq]at ho;cases ho.1) x1;rw[hv]at h ⊢;simp only[valsA,zCa,zNa,eL]at h ⊢;obtain⟨h1,h2⟩:=zCr h;obtain⟨h3,y,h4,h5⟩:=zSO l y1 ho.2 h2;exact⟨⟨lookT_wk h1,h3⟩,y,h4,h5⟩
def zUu {p:SPat}{K:p.Den→Option R}(ho:okA p.al=true)(h:decS p s K=some r):∃x,K x=some r∧∀K':St→Prop,K' (eS (encS s.n p x))→gK K' (eS s):=by
 obtain⟨h0,h1⟩:=zAF h;obtain⟨x,cs,rest,h2,h3,h4,_⟩:=zFk p.pat true _ _ h1;obtain⟨rfl,h5⟩:=zEg h2;rw[zAn]at h3;subst h3;obtain⟨h6,y,h7,h8⟩:=zSO p.al x ho h4;obtain⟨ob',h9,h10⟩:=zGn p.ob y _ rfl h8;refine⟨x,h5,fun K' hk=>?_⟩;have hsel:zCR (zCY p.ob) (eS s).ob=some ob':=h9;refine zBQ (gK_sel (K:=fun st=>gK K' st) (zCY p.ob) (zDT _ h0) hsel ?_);refine gK_le _ ?_ ?_ hk
 ·exact wkL_den h6
 ·show wkObs ob' (eOs (mkO p.ob (zNd p.al (encP (zBU p.al (zBC p.ob)) x))));rw[h7];exact h10
end
end Go.TM
end
