/- Part 16 of the proof that the law FnRefs holds of every input; no condition. -/
import Derived.Test.YtdpapeledldifaaGreatX14
set_option autoImplicit true
set_option relaxedAutoImplicit true
set_option linter.all false
section
namespace Go.TM
open Go.AM
inductive OPat
 |box (n:Nat) (p:Pat)
 |arr (n:Nat) (t:GT) (d:Bool)
 |opn (n:Nat) (t:GT) (d:DM) (p:Pat)
 |spl (n:Nat) (t:GT)
structure SPat where
 al:List (Nat×Pat)
 ob:List OPat
def OPat.name:OPat→Nat
 |.box n _=>n
 |.arr n _ _=>n
 |.opn n _ _ _=>n
 |.spl n _=>n
def DM.c:DM→Nat
 |.all _=>0
 |.spl=>1
def OPat.pat:OPat→Pat
 |.box _ p=>.agg p
 |.arr _ t d=>.own t d
 |.opn n t d p=>.tup (.cons (.own t d.b) (.cons (.ptrI n d.c) (.cons (.agg p) .nop)))
 |.spl n t=>.tup (.cons (.own t true) (.cons (.ptrI n 2) .nop))
def zBP:List (Nat×Pat)→Pat→Pat
 |[],q=>q
 |p::l,q=>.cons p.2 (zBP l q)
def zAw:List OPat→Pat
 |[]=>.nop
 |o::l=>.cons o.pat (zAw l)
def SPat.pat (s:SPat):Pat:=zBP s.al (zAw s.ob)
abbrev SPat.Den (s:SPat):Type:=s.pat.Den
def mkA:List (Nat×Pat)→List V→List (Nat×V)
 |[],_=>[]
 | p::l,vs=>match vs with
   |v::vs=>(p.1,v)::mkA l vs
   |[]=>[]
def toO (o:OPat)(v:V):TO:=match o with
 |.box n _=>(match v with|.agg cs=>.box n cs|_=>.box n [])
 |.arr n t d=>(match v with|.own t d l=>.arr n t d l|_=>.arr n t d [])
 |.opn n t d _=>(match v with|.tup [.own t _ l,.p _ i _,.agg cs]=>.opn n t d l i cs|_=>.arr n t d.b [])
 |.spl n t=>(match v with|.tup [.own t _ l,.p _ k _]=>.spl n t l k|_=>.arr n t true [])
def mkO:List OPat→List V→List TO
 |[],_=>[]
 | o::l,vs=>match vs with
   |v::vs=>toO o v::mkO l vs
   |[]=>[]
def zMP:List (Nat×Pat)→List V→List V
 |[],vs=>vs
 | _::l,vs=>match vs with
   |_::vs=>zMP l vs
   |[]=>[]
def encS (n:Nat)(s:SPat)(x:s.Den):TS:=⟨n,mkA s.al (encP s.pat x),mkO s.ob (zMP s.al (encP s.pat x))⟩
def ofO:Option TO→V
 |some (.box _ cs)=>.agg cs
 |some (.arr _ t d l)=>.own t d l
 |some (.opn n t d l i cs)=>.tup [.own t d.b l,.p n i d.c,.agg cs]
 |some (.spl n t l k)=>.tup [.own t true l,.p n k 2]
 |none=>.u
def valsA (s:TS):List (Nat×Pat)→List V→List V
 |[],r=>r
 |p::l,r=>zBn s p.1::valsA s l r
def zNP (s:TS):List OPat→List V
 |[]=>[]
 |o::l=>ofO (getT s.ob o.name)::zNP s l
def zCN:List OPat→List Nat
 |[]=>[]
 |o::l=>o.name::zCN l
section
variable {R:Type}
def decS (p:SPat)(s:TS)(K:p.Den→Option R):Option R :=
 chkO (zGh (zCN p.ob)) (decP true p.pat (valsA s p.al (zNP s p.ob)) fun x q=>endT q (K x))
end
section
variable {R:Type}{r:R}{s:TS}
theorem zCg {x y:SV}{a b:List SV}(h:wkL (x::a) (y::b)):wk x y∧wkL a b:=h
theorem zTS:∀p:Pat,p.cst=p.cst→∀o:OPat,∀x:o.pat.Den,∃v,encP o.pat x=[v]:=by
 intro _ _ o x
 cases o<;>exact⟨_,rfl⟩
theorem wk_of_u {y:SV}(h:wk .u y):y = .u:=by cases y<;>simp_all [wk]
theorem lookT_wk {t:Nat}{y:SV}(h:wk (e (zBn s t)) y):wk (AM.look (eA s.al) t) y:=by
 unfold zBn at h
 split at h
 ·rw[←zQj];exact h
 ·have:=wk_of_u h
  subst this
  exact wk_u _
theorem ofO_box {n m:Nat}{p:Pat}{x:p.Den}{v:V}(h:wk (e (ofO (getT s.ob n))) (.agg (eL (encP p x)))) :
  ∃m cs,getT s.ob n=some (.box m cs)∧wkL (eL cs) (eL (encP p x)):=by
 cases hg:getT s.ob n with
 |none=>rw[hg]at h;simp[ofO,e,wk]at h
 | some o =>
   rw[hg]at h
   cases o with
   |box m cs=>exact⟨m,cs,rfl,h⟩
   |arr m t d l=>simp[ofO,e,wk]at h
   |opn m t d l i cs=>simp[ofO,e,wk]at h
   |spl m t l k=>simp[ofO,e,wk]at h
theorem zFM:∀(l:List TO) (o:Nat) (x:TO),getT l o=some x→x.name=o
 |[],_,_,h=>by cases h
 | y::l,o,x,h=>by
   simp only[getT]at h
   cases hy:y.name==o with
   |true=>rw[hy,cond_true]at h;simp only[zSe]at h;subst h;exact eq_of_beq hy
   |false=>rw[hy,cond_false]at h;exact zFM l o x h
theorem zHH:∀{a b:List SV},wkL a b→a.length=b.length
 |[],b,h=>by simp only[wkL]at h;subst h;rfl
 |_::_,[],h=>by simp only[wkL]at h
 |x::a,y::b,h=>by simp only[wkL]at h;simp[zHH h.2]
theorem zUt (n:Nat)(t:GT)(d:DM)(p:Pat)(x:(OPat.opn n t d p).pat.Den):∃(y:List t.Den) (i:Nat) (z:p.Den),encP (OPat.opn n t d p).pat x=[.tup [.own t d.b y,.p n i d.c,.agg (encP p z)]]∧True:=by
 exact⟨_,_,_,rfl,trivial⟩
theorem zUV (n:Nat)(t:GT)(x:(OPat.spl n t).pat.Den):∃(y:List t.Den) (i:Nat),encP (OPat.spl n t).pat x=[.tup [.own t true y,.p n i 2]]∧True:=by
 exact⟨_,_,rfl,trivial⟩
theorem zJf (t:GT)(k:Nat)(l:List t.Den):encM .spl t k l=(l.map (encC true t)).take k++(zBb (l.map (encC true t))).drop k:=by
 simp only[encM,zBv,List.map_take,List.map_drop]
theorem zMy {d d':DM}{t t':GT}{i:Nat}{l:List t.Den}{l':List t'.Den}(hc:d'.c=d.c)(h:l'.map (encC d'.b t')=l.map (encC d.b t)):encM d' t' i l'=encM d t i l:=by
 cases d<;>cases d'
 ·exact h
 ·cases hc
 ·cases hc
 ·rw[zJf,zJf]
  have h:l'.map (encC true t')=l.map (encC true t):=h
  rw[h]
theorem zGM:∀(l:List OPat) (x:(zAw l).Den) (cs:List V),cs=zNP s l→wkL (eL cs) (eL (encP (zAw l) x)) →
  ∃ob',zCH (zCN l) (eOs s.ob)=some ob'∧wkObs ob' (eOs (mkO l (encP (zAw l) x)))
 |[],x,cs,hc,h=>⟨[],rfl,rfl⟩
 | o::l,x,cs,hc,h=>by
   subst hc
   simp only[zNP,eL]at h
   simp only[zAw,encP]at h ⊢
   generalize hx:fstD o.pat.cst (zAw l).cst o.pat.dflt x=x1 at h ⊢
   generalize hy:sndD o.pat.cst (zAw l).cst (zAw l).dflt x=y1 at h ⊢
   cases o with
   | box n p =>
     have h':wkL (e (ofO (getT s.ob n))::eL (zNP s l)) (SV.agg (eL (encP p x1))::eL (encP (zAw l) y1)):=h
     obtain⟨h1,h2⟩:=zCg h'
     obtain⟨m,cs,hg,h3⟩:=ofO_box (v:=.u) (m:=0) h1
     obtain⟨ob',h4,h5⟩:=zGM l y1 _ rfl h2
     have hn:=zFM _ _ _ hg
     simp only[TO.name]at hn
     subst hn
     refine⟨⟨m,cs.length,[eL cs],true⟩::ob',?_,?_⟩
     ·simp only[zCN,OPat.name,zCH]
      rw[zDU,hg,h4]
      rfl
     ·have hl:=zHH h3
      simp only[zAO]at hl
      exact⟨rfl,hl,rfl,⟨h3,rfl⟩,h5⟩
   | arr n t d =>
     have h':wkL (e (ofO (getT s.ob n))::eL (zNP s l)) (SV.own t.sz ((x1:List t.Den).map (encC d t))::eL (encP (zAw l) y1)):=h
     obtain⟨h1,h2⟩:=zCg h'
     obtain⟨ob',h4,h5⟩:=zGM l y1 _ rfl h2
     cases hg:getT s.ob n with
     |none=>rw[hg]at h1;simp[ofO,e,wk]at h1
     | some o =>
       rw[hg]at h1
       have hn:=zFM _ _ _ hg
       cases o with
       |box m cs=>simp[ofO,e,wk]at h1
       |opn m t' d' l' i' cs'=>simp[ofO,e,wk]at h1
       |spl m t' l' k'=>simp[ofO,e,wk]at h1
       | arr m t' d' l' =>
         simp only[TO.name]at hn
         subst hn
         simp only[ofO,e,wk,SV.own.injEq]at h1
         refine⟨⟨m,t'.sz,l'.map (encC d' t'),false⟩::ob',?_,?_⟩
         ·simp only[zCN,OPat.name,zCH]
          rw[zDU,hg,h4]
          rfl
         ·exact⟨rfl,h1.1,rfl,by simp only[h1.2];exact zBe _,h5⟩
   | opn n t d p =>
     obtain⟨y,i,z,hv,hmk⟩:=zUt n t d p x1
     have h':wkL (e (ofO (getT s.ob n))::eL (zNP s l)) (eL (encP (OPat.opn n t d p).pat x1)++eL (encP (zAw l) y1)):=by
      rw[←zBW];exact h
     rw[hv]at h'
     obtain⟨h1,h2⟩:=zCg h'
     obtain⟨ob',h4,h5⟩:=zGM l y1 _ rfl h2
     cases hg:getT s.ob n with
     |none=>rw[hg]at h1;simp[ofO,e,wk]at h1
     | some o =>
       rw[hg]at h1
       have hn:=zFM _ _ _ hg
       cases o with
       |box m cs=>simp[ofO,e,wk]at h1
       |arr m t' d' l'=>simp[ofO,e,wk]at h1
       |spl m t' l' k'=>simp[ofO,e,eL,wk,wkL]at h1
       | opn m t' d' l' i' cs' =>
         simp only[TO.name]at hn
         subst hn
         simp only[ofO,e,eL,wk,wkL,SV.own.injEq,SV.p.injEq]at h1
         obtain⟨⟨h6,h7⟩,⟨_,h8,hc⟩,h9,_⟩:=h1
         refine⟨⟨m,t'.sz,(encM d' t' i' l').set i' (eL cs'),true⟩::ob',?_,?_⟩
         ·simp only[zCN,OPat.name,zCH]
          rw[zDU,hg,h4]
          rfl
         ·rw[hv]
          refine⟨rfl,h6,rfl,?_,h5⟩
          show wkRows _ ((encM d t i y).set i (eL (encP p z)))
          subst h8
          rw[zMy hc h7]
          exact zFT h9 _ _
   | spl n t =>
     obtain⟨y,i,hv,hmk⟩:=zUV n t x1
     have h':wkL (e (ofO (getT s.ob n))::eL (zNP s l)) (eL (encP (OPat.spl n t).pat x1)++eL (encP (zAw l) y1)):=by
      rw[←zBW];exact h
     rw[hv]at h'
     obtain⟨h1,h2⟩:=zCg h'
     obtain⟨ob',h4,h5⟩:=zGM l y1 _ rfl h2
     cases hg:getT s.ob n with
     |none=>rw[hg]at h1;simp[ofO,e,wk]at h1
     | some o =>
       rw[hg]at h1
       have hn:=zFM _ _ _ hg
       cases o with
       |box m cs=>simp[ofO,e,wk]at h1
       |arr m t' d' l'=>simp[ofO,e,wk]at h1
       |opn m t' d' l' i' cs'=>simp[ofO,e,eL,wk,wkL]at h1
       | spl m t' l' k' =>
         simp only[TO.name]at hn
         subst hn
         simp only[ofO,e,eL,wk,wkL,SV.own.injEq,SV.p.injEq]at h1
         obtain⟨⟨h6,h7⟩,⟨_,h8,_⟩,_⟩:=h1
         refine⟨⟨m,t'.sz,encM .spl t' k' l',false⟩::ob',?_,?_⟩
         ·simp only[zCN,OPat.name,zCH]
          rw[zDU,hg,h4]
          rfl
         ·rw[hv]
          refine⟨rfl,h6,rfl,?_,h5⟩
          show wkRows _ (encM .spl t i y)
          subst h8
          rw[zMy (d:=.spl) (d':=.spl) rfl h7]
          exact zBe _
theorem zQi:∀(p:Pat),(∀q q',p ≠ .cons q q')→p ≠ .nop→∀x:p.Den,∃v,encP p x=[v]:=by
 intro p h1 h2 x
 cases p<;>first|exact⟨_,rfl⟩|exact absurd rfl h2|exact absurd rfl (h1 _ _)
def okA:List (Nat×Pat)→Bool
 |[]=>true
 |p::l=>(match p.2 with|.cons _ _|.nop=>false|_=>true)&&okA l
theorem zQz {rest:List V}{q:Pat}:∀(l:List (Nat×Pat)) (x:(zBP l q).Den),okA l=true→wkL (eL (valsA s l rest)) (eL (encP (zBP l q) x)) →
  wkA (eA s.al) (eA (mkA l (encP (zBP l q) x)))∧∃y:q.Den,zMP l (encP (zBP l q) x)=encP q y∧wkL (eL rest) (eL (encP q y))
 |[],x,_,h=>⟨trivial,x,rfl,h⟩
 | p::l,x,ho,h=>by
   simp only[okA,zBa]at ho
   simp only[zBP,encP]at h ⊢
   generalize hx:fstD p.2.cst (zBP l q).cst p.2.dflt x=x1 at h ⊢
   generalize hy:sndD p.2.cst (zBP l q).cst (zBP l q).dflt x=y1 at h ⊢
   obtain⟨v,hv⟩:=zQi p.2 (fun q q' hq=>by rw[hq]at ho;cases ho.1) (fun hq=>by rw[hq]at ho;cases ho.1) x1
   rw[hv]at h ⊢
   simp only[valsA,List.cons_append,List.nil_append,eL]at h ⊢
   obtain⟨h1,h2⟩:=zCg h
   obtain⟨h3,y,h4,h5⟩:=zQz l y1 ho.2 h2
   exact⟨⟨lookT_wk h1,h3⟩,y,h4,h5⟩
theorem zTT {p:SPat}{K:p.Den→Option R}(ho:okA p.al=true)(h:decS p s K=some r):∃x,K x=some r∧∀K':St→Prop,K' (eS (encS s.n p x))→gK K' (eS s):=by
 obtain⟨h0,h1⟩:=zAD h
 obtain⟨x,cs,rest,h2,h3,h4,_⟩:=zFP p.pat true _ _ h1
 obtain⟨rfl,h5⟩:=zEL h2
 rw[List.append_nil]at h3
 subst h3
 obtain⟨h6,y,h7,h8⟩:=zQz p.al x ho h4
 obtain⟨ob',h9,h10⟩:=zGM p.ob y _ rfl h8
 refine⟨x,h5,fun K' hk=>?_⟩
 have hsel:zCH (zCN p.ob) (eS s).ob=some ob':=h9
 refine zBL (gK_sel (K:=fun st=>gK K' st) (zCN p.ob) (zDI _ h0) hsel ?_)
 refine gK_le _ ?_ ?_ hk
 ·exact wkL_den h6
 ·show wkObs ob' (eOs (mkO p.ob (zMP p.al (encP (zBP p.al (zAw p.ob)) x))))
  rw[h7]
  exact h10
end
end Go.TM
end
