/- Part 16 of the proof that the law FnCheck holds of every input; no condition. -/
import Derived.Test.YtdpapeledldifaaGreatX14
set_option autoImplicit true
set_option relaxedAutoImplicit true
set_option linter.all false
section
namespace Go.TM
open Go.AM
inductive OPat
 | box (n:Nat) (p:Pat)
 | arr (n:Nat) (t:GT) (d:Bool)
 | opn (n:Nat) (t:GT) (d:Bool) (p:Pat)
structure SPat where
 al:List (Nat×Pat)
 ob:List OPat
def OPat.name:OPat→Nat
 | .box n _=>n
 | .arr n _ _=>n
 | .opn n _ _ _=>n
def OPat.pat:OPat→Pat
 | .box _ p=>.agg p
 | .arr _ t d=>.own t d
 | .opn n t d p=>.tup (.cons (.own t d) (.cons (.ptrI n 0) (.cons (.agg p) .nop)))
def zBN:List (Nat×Pat)→Pat→Pat
 | [],q=>q
 | p :: l,q=>.cons p.2 (zBN l q)
def zBB:List OPat→Pat
 | []=>.nop
 | o :: l=>.cons o.pat (zBB l)
def SPat.pat (s:SPat):Pat:=zBN s.al (zBB s.ob)
abbrev SPat.Den (s:SPat):Type:=s.pat.Den
def mkA:List (Nat×Pat)→List V→List (Nat×V)
 | [],_=>[]
 | p :: l,vs=>match vs with
   | v :: vs=>(p.1,v) :: mkA l vs
   | []=>[]
def toO (o:OPat) (v:V):TO:=match o with
 | .box n _=>(match v with | .agg cs=>.box n cs | _=>.box n [])
 | .arr n t d=>(match v with | .own t d l=>.arr n t d l | _=>.arr n t d [])
 | .opn n t d _=>(match v with | .tup [.own t d l,.p _ i _,.agg cs]=>.opn n t d l i cs | _=>.arr n t d [])
def mkO:List OPat→List V→List TO
 | [],_=>[]
 | o :: l,vs=>match vs with
   | v :: vs=>toO o v :: mkO l vs
   | []=>[]
def zMU:List (Nat×Pat)→List V→List V
 | [],vs=>vs
 | _ :: l,vs=>match vs with
   | _ :: vs=>zMU l vs
   | []=>[]
def encS (n:Nat) (s:SPat) (x:s.Den):TS:=⟨n,mkA s.al (encP s.pat x),mkO s.ob (zMU s.al (encP s.pat x))⟩
def ofO:Option TO→V
 | some (.box _ cs)=>.agg cs
 | some (.arr _ t d l)=>.own t d l
 | some (.opn n t d l i cs)=>.tup [.own t d l,.p n i 0,.agg cs]
 | none=>.u
def valsA (s:TS):List (Nat×Pat)→List V→List V
 | [],r=>r
 | p :: l,r=>zBf s p.1 :: valsA s l r
def zQS (s:TS):List OPat→List V
 | []=>[]
 | o :: l=>ofO (getT s.ob o.name) :: zQS s l
def zCM:List OPat→List Nat
 | []=>[]
 | o :: l=>o.name :: zCM l
section
variable {R:Type}
def decS (p:SPat) (s:TS) (K:p.Den→Option R):Option R :=
 chkO (zFi (zCM p.ob)) (decP true p.pat (valsA s p.al (zQS s p.ob)) fun x q=>endT q (K x))
end
section
variable {R:Type} {r:R} {s:TS}
theorem zDP {x y:SV} {a b:List SV} (h:wkL (x :: a) (y :: b)):wk x y∧wkL a b:=h
theorem zTm:∀ p:Pat,p.cst=p.cst→∀ o:OPat,∀ x:o.pat.Den,∃ v,encP o.pat x=[v]:=by
 intro _ _ o x
 cases o <;> exact ⟨_,rfl⟩
theorem wk_of_u {y:SV} (h:wk .u y):y = .u:=by cases y <;> simp_all [wk]
theorem lookT_wk {t:Nat} {y:SV} (h:wk (e (zBf s t)) y):wk (AM.look (eA s.al) t) y:=by
 unfold zBf at h
 split at h
 ·rw [← zRe];exact h
 ·have:=wk_of_u h
  subst this
  exact wk_u _
theorem ofO_box {n m:Nat} {p:Pat} {x:p.Den} {v:V} (h:wk (e (ofO (getT s.ob n))) (.agg (eL (encP p x)))) :
  ∃ m cs,getT s.ob n=some (.box m cs)∧wkL (eL cs) (eL (encP p x)):=by
 cases hg:getT s.ob n with
 | none=>rw [hg] at h;simp [ofO,e,wk] at h
 | some o =>
   rw [hg] at h
   cases o with
   | box m cs=>exact ⟨m,cs,rfl,h⟩
   | arr m t d l=>simp [ofO,e,wk] at h
   | opn m t d l i cs=>simp [ofO,e,wk] at h
theorem zFo:∀ (l:List TO) (o:Nat) (x:TO),getT l o=some x→x.name=o
 | [],_,_,h=>by cases h
 | y :: l,o,x,h=>by
   simp only [getT] at h
   cases hy:y.name == o with
   | true=>rw [hy,cond_true] at h;simp only [Option.some.injEq] at h;subst h;exact eq_of_beq hy
   | false=>rw [hy,cond_false] at h;exact zFo l o x h
theorem zGH:∀ {a b:List SV},wkL a b→a.length=b.length
 | [],b,h=>by simp only [wkL] at h;subst h;rfl
 | _ :: _,[],h=>by simp only [wkL] at h
 | x :: a,y :: b,h=>by simp only [wkL] at h;simp [zGH h.2]
theorem zUx (n:Nat) (t:GT) (d:Bool) (p:Pat) (x:(OPat.opn n t d p).pat.Den):∃ (y:List t.Den) (i:Nat) (z:p.Den),encP (OPat.opn n t d p).pat x=[.tup [.own t d y,.p n i 0,.agg (encP p z)]]∧True:=by
 exact ⟨_,_,_,rfl,trivial⟩
theorem zHH:∀ (l:List OPat) (x:(zBB l).Den) (cs:List V),cs=zQS s l→wkL (eL cs) (eL (encP (zBB l) x)) →
  ∃ ob',zBy (zCM l) (eOs s.ob)=some ob'∧wkObs ob' (eOs (mkO l (encP (zBB l) x)))
 | [],x,cs,hc,h=>⟨[],rfl,rfl⟩
 | o :: l,x,cs,hc,h=>by
   subst hc
   simp only [zQS,eL] at h
   simp only [zBB,encP] at h ⊢
   generalize hx:fstD o.pat.cst (zBB l).cst o.pat.dflt x=x1 at h ⊢
   generalize hy:sndD o.pat.cst (zBB l).cst (zBB l).dflt x=y1 at h ⊢
   cases o with
   | box n p =>
     have h':wkL (e (ofO (getT s.ob n)) :: eL (zQS s l)) (SV.agg (eL (encP p x1)) :: eL (encP (zBB l) y1)):=h
     obtain ⟨h1,h2⟩:=zDP h'
     obtain ⟨m,cs,hg,h3⟩:=ofO_box (v:=.u) (m:=0) h1
     obtain ⟨ob',h4,h5⟩:=zHH l y1 _ rfl h2
     have hn:=zFo _ _ _ hg
     simp only [TO.name] at hn
     subst hn
     refine ⟨⟨m,cs.length,[eL cs],true⟩ :: ob',?_,?_⟩
     ·simp only [zCM,OPat.name,zBy]
      rw [zEE,hg,h4]
      rfl
     ·have hl:=zGH h3
      simp only [zAN] at hl
      exact ⟨rfl,hl,rfl,⟨h3,rfl⟩,h5⟩
   | arr n t d =>
     have h':wkL (e (ofO (getT s.ob n)) :: eL (zQS s l)) (SV.own t.sz ((x1:List t.Den).map (encC d t)) :: eL (encP (zBB l) y1)):=h
     obtain ⟨h1,h2⟩:=zDP h'
     obtain ⟨ob',h4,h5⟩:=zHH l y1 _ rfl h2
     cases hg:getT s.ob n with
     | none=>rw [hg] at h1;simp [ofO,e,wk] at h1
     | some o =>
       rw [hg] at h1
       have hn:=zFo _ _ _ hg
       cases o with
       | box m cs=>simp [ofO,e,wk] at h1
       | opn m t' d' l' i' cs'=>simp [ofO,e,wk] at h1
       | arr m t' d' l' =>
         simp only [TO.name] at hn
         subst hn
         simp only [ofO,e,wk,SV.own.injEq] at h1
         refine ⟨⟨m,t'.sz,l'.map (encC d' t'),false⟩ :: ob',?_,?_⟩
         ·simp only [zCM,OPat.name,zBy]
          rw [zEE,hg,h4]
          rfl
         ·exact ⟨rfl,h1.1,rfl,by simp only [h1.2];exact zCP _,h5⟩
   | opn n t d p =>
     obtain ⟨y,i,z,hv,hmk⟩:=zUx n t d p x1
     have h':wkL (e (ofO (getT s.ob n)) :: eL (zQS s l)) (eL (encP (OPat.opn n t d p).pat x1)++eL (encP (zBB l) y1)):=by
      rw [← zBp];exact h
     rw [hv] at h'
     obtain ⟨h1,h2⟩:=zDP h'
     obtain ⟨ob',h4,h5⟩:=zHH l y1 _ rfl h2
     cases hg:getT s.ob n with
     | none=>rw [hg] at h1;simp [ofO,e,wk] at h1
     | some o =>
       rw [hg] at h1
       have hn:=zFo _ _ _ hg
       cases o with
       | box m cs=>simp [ofO,e,wk] at h1
       | arr m t' d' l'=>simp [ofO,e,wk] at h1
       | opn m t' d' l' i' cs' =>
         simp only [TO.name] at hn
         subst hn
         simp only [ofO,e,eL,wk,wkL,SV.own.injEq,SV.p.injEq] at h1
         obtain ⟨⟨h6,h7⟩,⟨_,h8,_⟩,h9,_⟩:=h1
         refine ⟨⟨m,t'.sz,(l'.map (encC d' t')).set i' (eL cs'),true⟩ :: ob',?_,?_⟩
         ·simp only [zCM,OPat.name,zBy]
          rw [zEE,hg,h4]
          rfl
         ·rw [hv]
          refine ⟨rfl,h6,rfl,?_,h5⟩
          show wkRows _ ((y.map (encC d t)).set i (eL (encP p z)))
          rw [h7,h8]
          exact zEn h9 _ _
theorem zRd:∀ (p:Pat),(∀ q q',p ≠ .cons q q')→p ≠ .nop→∀ x:p.Den,∃ v,encP p x=[v]:=by
 intro p h1 h2 x
 cases p <;> first | exact ⟨_,rfl⟩ | exact absurd rfl h2 | exact absurd rfl (h1 _ _)
def okA:List (Nat×Pat)→Bool
 | []=>true
 | p :: l=>(match p.2 with | .cons _ _ | .nop=>false | _=>true) && okA l
theorem zRs {rest:List V} {q:Pat}:∀ (l:List (Nat×Pat)) (x:(zBN l q).Den),okA l=true→wkL (eL (valsA s l rest)) (eL (encP (zBN l q) x)) →
  wkA (eA s.al) (eA (mkA l (encP (zBN l q) x)))∧∃ y:q.Den,zMU l (encP (zBN l q) x)=encP q y∧wkL (eL rest) (eL (encP q y))
 | [],x,_,h=>⟨trivial,x,rfl,h⟩
 | p :: l,x,ho,h=>by
   simp only [okA,Bool.and_eq_true] at ho
   simp only [zBN,encP] at h ⊢
   generalize hx:fstD p.2.cst (zBN l q).cst p.2.dflt x=x1 at h ⊢
   generalize hy:sndD p.2.cst (zBN l q).cst (zBN l q).dflt x=y1 at h ⊢
   obtain ⟨v,hv⟩:=zRd p.2 (fun q q' hq=>by rw [hq] at ho;cases ho.1) (fun hq=>by rw [hq] at ho;cases ho.1) x1
   rw [hv] at h ⊢
   simp only [valsA,List.cons_append,List.nil_append,eL] at h ⊢
   obtain ⟨h1,h2⟩:=zDP h
   obtain ⟨h3,y,h4,h5⟩:=zRs l y1 ho.2 h2
   exact ⟨⟨lookT_wk h1,h3⟩,y,h4,h5⟩
theorem zTn {p:SPat} {K:p.Den→Option R} (ho:okA p.al=true) (h:decS p s K=some r):∃ x,K x=some r∧∀ K':St→Prop,K' (eS (encS s.n p x))→gK K' (eS s):=by
 obtain ⟨h0,h1⟩:=zAD h
 obtain ⟨x,cs,rest,h2,h3,h4,_⟩:=zEi p.pat true _ _ h1
 obtain ⟨rfl,h5⟩:=zDm h2
 rw [List.append_nil] at h3
 subst h3
 obtain ⟨h6,y,h7,h8⟩:=zRs p.al x ho h4
 obtain ⟨ob',h9,h10⟩:=zHH p.ob y _ rfl h8
 refine ⟨x,h5,fun K' hk=>?_⟩
 have hsel:zBy (zCM p.ob) (eS s).ob=some ob':=h9
 refine zBg (gK_sel (K:=fun st=>gK K' st) (zCM p.ob) (zCw _ h0) hsel ?_)
 refine gK_le _ ?_ ?_ hk
 ·exact wkL_den h6
 ·show wkObs ob' (eOs (mkO p.ob (zMU p.al (encP (zBN p.al (zBB p.ob)) x))))
  rw [h7]
  exact h10
end
end Go.TM
end
