/- Part 22 of the proof of FnTidyAll; no condition. -/
import Derived.Test.YtmjlecabpbiigaaGreatX20
open Option renaming some -> U
open Decidable renaming decide -> aa
open Bool renaming true -> ae
open Bool renaming false -> ag
open Option renaming none -> aj
open Sum renaming inr -> an
open Sum renaming inl -> ao
open List renaming length -> au
open Int renaming toNat -> aw
open List renaming drop -> cU
open List renaming take -> de
set_option autoImplicit true
set_option relaxedAutoImplicit true
set_option linter.all false
section
namespace Go.TM
open Go.AM
section
variable {P:Program}{R:Type}{T:Nat->TI}{s:TS}{K:TS->Option R}{K':St->Prop}{r:R}
def sY:∀(l:List OPat) (obs:List TO) (x:(cZ l).Den),qD (hU obs) (gn l)=ae->wkL (eL (nE obs)) (eL (bg (cZ l) x))->wkObs (bo obs) (bo (lG l (bg (cZ l) x)))
 |[],[],x,_,_=>rfl
 |[],_::_,x,h,_=>by simp[hU,gn,qD]at h
 |_::_,[],x,h,_=>by simp[hU,gn,qD]at h
 | o::l,t::obs,x,hn,h=>by
   simp only[hU,gn,qD,aK,beq_iff_eq]at hn;simp only[cZ,bg,nE,eL]at h ⊢;generalize hx:kT o.pat.cst (cZ l).cst o.pat.dflt x=x1 at h ⊢;generalize hy:kU o.pat.cst (cZ l).cst (cZ l).dflt x=y1 at h ⊢;cases o with
   | box n p=>
     have h':wkL (e (cv (U t))::eL (nE obs)) (SV.agg (eL (bg p x1))::eL (bg (cZ l) y1)):=h;obtain⟨h1,h2⟩:=lH h';have h3:=sY l obs y1 hn.2 h2;cases t with
     |arr m t d l=>simp[cv,e,wk]at h1
     |opn m t d l i cs=>simp[cv,e,wk]at h1
     |spl m t l k=>simp[cv,e,wk]at h1
     | box m cs=>
       have h1:wkL (eL cs) (eL (bg p x1)):=h1;have hl:=Bg h1;simp only[cN]at hl;exact⟨hn.1,hl,rfl,⟨h1,rfl⟩,h3⟩
   | arr n g d=>
     have h':wkL (e (cv (U t))::eL (nE obs)) (SV.own g.sz ((x1:List g.Den).map (aO d g))::eL (bg (cZ l) y1)):=h;obtain⟨h1,h2⟩:=lH h';have h3:=sY l obs y1 hn.2 h2;cases t with
     |box m cs=>simp[cv,e,wk]at h1
     |opn m g' d' l' i' cs'=>simp[cv,e,wk]at h1
     |spl m g' l' k'=>simp[cv,e,wk]at h1
     | arr m g' d' l' =>
       simp only[cv,e,wk,SV.own.injEq]at h1;have key:wkRows (l'.map (aO d' g')) ((x1:List g.Den).map (aO d g)):=by rw[h1.2];exact na _
       exact⟨hn.1,h1.1,rfl,key,h3⟩
   | opn n g d p=>
     obtain⟨y,i,z,hv,hmk⟩:=Hf n g d p x1
     have h':wkL (e (cv (U t))::eL (nE obs)) (eL (bg (OPat.opn n g d p).pat x1)++eL (bg (cZ l) y1)):=by
      rw[<-ki];exact h
     rw[hv]at h';obtain⟨h1,h2⟩:=lH h';have h3:=sY l obs y1 hn.2 h2;cases t with
     |box m cs=>simp[cv,e,wk]at h1
     |arr m g' d' l'=>simp[cv,e,wk]at h1
     |spl m g' l' k'=>simp[cv,e,eL,wk,wkL]at h1
     | opn m g' d' l' i' cs' =>
       simp only[cv,e,eL,wk,wkL,SV.own.injEq,SV.p.injEq]at h1;obtain⟨⟨h6,h7⟩,⟨_,h8,hc⟩,h9,_⟩:=h1;rw[hv];refine⟨hn.1,h6,rfl,?_,h3⟩;show wkRows ((cn d' g' i' l').set i' (eL cs')) ((cn d g i y).set i (eL (bg p z)));subst h8;rw[vT hc h7];exact uX h9 _ _
   | spl n g=>
     obtain⟨y,i,hv,hmk⟩:=Hg n g x1
     have h':wkL (e (cv (U t))::eL (nE obs)) (eL (bg (OPat.spl n g).pat x1)++eL (bg (cZ l) y1)):=by
      rw[<-ki];exact h
     rw[hv]at h';obtain⟨h1,h2⟩:=lH h';have h3:=sY l obs y1 hn.2 h2;cases t with
     |box m cs=>simp[cv,e,wk]at h1
     |arr m g' d' l'=>simp[cv,e,wk]at h1
     |opn m g' d' l' i' cs'=>simp[cv,e,eL,wk,wkL]at h1
     | spl m g' l' k' =>
       simp only[cv,e,eL,wk,wkL,SV.own.injEq,SV.p.injEq]at h1;obtain⟨⟨h6,h7⟩,⟨_,h8,_⟩,_⟩:=h1;rw[hv];refine⟨hn.1,h6,rfl,?_,h3⟩;show wkRows (cn .spl g' k' l') (cn .spl g i y);subst h8;rw[vT (d:=.spl) (d':=.spl) rfl h7];exact na _
def Ic {rest:List V}{q:Pat}:∀(l:List (Nat×Pat)) (args:List V) (x:(dU l q).Den),kV l=ae->args.length=l.length->wkL (eL (args++rest)) (eL (bg (dU l q) x)) ->
  wkL (eL args) (eL (pa l (bg (dU l q) x)))/\∃y:q.Den,mu l (bg (dU l q) x)=bg q y/\wkL (eL rest) (eL (bg q y))
 |[],[],x,_,_,h=>⟨rfl,x,rfl,h⟩
 |[],_::_,x,_,hl,_=>by simp at hl
 |_::_,[],x,_,hl,_=>by simp at hl
 | p::l,a::args,x,ho,hl,h=>by
   simp only[kV,aK]at ho;simp only[dU,bg]at h ⊢;generalize hx:kT p.2.cst (dU l q).cst p.2.dflt x=x1 at h ⊢;generalize hy:kU p.2.cst (dU l q).cst (dU l q).dflt x=y1 at h ⊢;obtain⟨v,hv⟩:=Bh p.2 (fun q q' hq=>by rw[hq]at ho;cases ho.1) (fun hq=>by rw[hq]at ho;cases ho.1) x1;rw[hv]at h ⊢;simp only[cF,dy,eL]at h ⊢;obtain⟨h1,h2⟩:=lH h;obtain⟨h3,y,h4,h5⟩:=Ic l args y1 ho.2 (by simpa using hl) h2;exact⟨⟨h1,h3⟩,y,h4,h5⟩
def Ie {p:SPat}{args:List V}{obs:List TO}{K:p.Den->Option R}(h:B_ p args obs K=U r) :
  ∃x,K x=U r/\wkL (eL args) (eL (qB p x))/\wkObs (bo obs) (bo (qC p x)):=by
 obtain⟨h0,h1⟩:=bj h;simp only[aK]at h0;obtain⟨x,cs,rest,h2,h3,h4,_⟩:=nz p.pat ae _ _ h1;obtain⟨rfl,h5⟩:=qk h2;rw[cB]at h3;subst h3;obtain⟨h6,y,h7,h8⟩:=Ic p.al args x h0.1.1 (eq_of_beq h0.1.2) h4;refine⟨x,h5,h6,?_⟩;show wkObs (bo obs) (bo (lG p.ob (mu p.al (bg (dU p.al (cZ p.ob)) x))));rw[h7];exact sY p.ob obs y h0.2 h8
def If {en:TEnt}{y:en.Y}{K:V->List TO->Option R}(h:wB en y K=U r):∃v obs,en.res y=U (v,obs)/\K v obs=U r:=by
 unfold wB at h;split at h
 ·exact⟨_,_,by assumption,h⟩
 ·cases h
def Ig:∀a b:List TO,bo (a++b)=bo a++bo b
 |[],_=>rfl
 |x::a,b=>by simp only[cF,bo,Ig a b]
def Ih:∀(ns:List Nat) (s:TS),(o7 ns s).n=s.n
 |[],_=>rfl
 |o::ns,s=>by simp only[o7,Ih ns];rfl
def O9 {ns:List Nat}{d:Option Tmp}{v:V}{obs:List TO}(hK:∀ s,K s=U r->K' (eS s))(h:Ia ns d K s v obs=U r):AB ns d K' (eS s) (e v) (bo obs):=by
 obtain⟨h1,h2⟩:=bj h;unfold AB;refine bG ?_ ?_
 ·unfold u5;simp only[H_,aK]at h1;rw[wx,H0,B3 _ _ h1.1.2];simp only[h1.1.1.1,h1.1.1.2,h1.1.2,h1.2,ba]
 ·have he:rZ (iA (i4 d) 100000 ns) (kh 100000 ns) (eS s) (bo obs) (e v) d=eS (Ca (iA (i4 d) 100000 ns) (kh 100000 ns) s obs v d):=by
   unfold rZ Ca;rw[HV,wx]
   have h3:(⟨(eS s).env,kM ((kh 100000 ns).map (iA (i4 d) 100000 ns)) (eS s).ob⟩:St)=eS ⟨s.n,s.al,qx ((kh 100000 ns).map (iA (i4 d) 100000 ns)) s.ob⟩:=by
    simp only[eS,H5]
   rw[h3,H6,<-bP];congr 1;simp only[eS,B1,Ig,Ih]
  rw[he];exact hK _ h2
def O_ {en:TEnt}{ns:List Nat}{xs:List Operand}{caps:List V}{d:Option Tmp}(hK:∀ s,K s=U r->K' (eS s))(h:Cb en ns xs caps d K s=U r):vm en.W ns xs (eL caps) d K' (eS s):=by
 unfold Cb at h;unfold vm;split at h
 ·rename_i obs hobs;have hs:dB ns (eS s).ob=U (bo obs):=B4 _ _ _ hobs;rw[hs];simp only
  obtain⟨h1,h2⟩:=bj h;have h1':=h1;simp only[aK]at h1';rw[wA,<-ki,o_,B3 _ _ h1'.1.2,oM];refine bG (by simp only[h1'.1.1.1,h1'.1.1.2,h1'.2,ba]) ?_;obtain⟨x,h3,h4,h5⟩:=Ie h2;obtain⟨y,h6,h7⟩:=GK h3;obtain⟨v,obs',h8,h9⟩:=If h7;rw[o9,B1];exact⟨x,y,v,obs',h4,h5,h6,h8,O9 hK h9⟩
 ·cases h
def Pa {en:TEnt}{ns:List Nat}{n:Nat}{f:Operand}{xs:List Operand}{d:Option Tmp}(hK:∀ s,K s=U r->K' (eS s))(h:Cc en ns n f xs d K s=U r):vo en.W ns n f xs d K' (eS s):=by
 unfold Cc at h;unfold vo;rw[bV];split at h
 ·rename_i n' caps hv;rw[hv];obtain⟨h1,h2⟩:=bj h;exact bG h1 (O_ hK h2)
 ·cases h
def Ii {Q:St->Prop}:∀(l:List Nat) {s:TS},(∀s,K s=U r->Q (eS s))->wC l K s=U r->se l Q (eS s)
 |[],s,hK,h=>hK _ h
 | o::l,s,hK,h=>by
   unfold wC nB at h;unfold se rY;split at h
   ·rename_i n g d l' hg;rw[jw hg];refine⟨rfl,?_⟩;have:=Ii l hK h;simp only[kS]
    simp only[eS]at this ⊢;rw[F0,show SV.sl g.sz (l'.map (aO ag g))=e (.sl g l')from rfl,BE,qf];exact this
   ·cases h
def Pb {tbl:Nat->Option TEnt}(htb:jy P tbl):lI (Cg tbl) (wD P):=by
 intro R f xs d s K K' r hK h;unfold Cg at h;split at h
 ·rename_i n caps hv;split at h
  ·rename_i en hen;obtain⟨hfid,h⟩:=bj h;have hfid:=eq_of_beq hfid;obtain⟨k,hen⟩:=O8 hen;have hok:=htb _ _ hen;rw[hfid]at hok;refine⟨Ch n (en.ent (wv en.ps (hJ (nD s xs) xs++caps) (nD s xs).ob)),nk.ins nk.nil hok,?_⟩;unfold oI AD;rw[bV,hv];simp only[e]
   have ht:∀e:Ent,Ch n e n=U e:=fun e=>by simp only[Ch,ins,beq_self_eq_true,cond_true]
   rw[ht];simp only[TEnt.ent]
   split at h
   ·rename_i hp;rw[hp];simp only
    rw[wA,<-ki];obtain⟨x,h3,h4,h5⟩:=Ie h;obtain⟨y,h6,h7⟩:=GK h3;obtain⟨v,obs',h8,h9⟩:=If h7;obtain⟨h10,h11⟩:=bj h9;refine⟨x,y,v,obs',?_,h5,h6,h8,?_⟩
    ·show wkL (brwL (bo s.ob) _) _;rw[wy];exact h4
    ·unfold Gk;rw[bP];exact bG (H9 _ h10) (hK _ h11)
   ·rename_i hp;rw[hp];simp only
    rw[H7];unfold Ib at h;unfold vq;split at h
    ·rename_i ns hns;rw[wA,<-ki];have hns':wv en.ps (hJ (nD s xs) xs++caps) (nD s xs).ob=U ns:=hns;rw[hns'];simp only
     rw[B5];exact Ii _ (fun s h=>Pa hK h) h
    ·cases h
  ·cases h
 ·cases h
end
def Pc:V->V
 |.own _ _ _=>.u
 |.emp _=>.u
 |v=>v
def qE:List V->List V
 |[]=>[]
 |x::l=>Pc x::qE l
def Ci:∀l:List V,kI (eL l)=eL (qE l)
 |[]=>rfl
 | x::l=>by
   simp only[eL,kI,qE,Ci l]
   congr 1;cases x<;>rfl
section
variable {R:Type}
def wE (T:Nat->TI)(a t:Nat)(s:TS)(K:TS->Option R):Option R:=match cQ s a with
 | .p o i off=>match bb s.ob o with
   | some (.box _ cs)=>(match i with
     | 0=>aX ((T t).known&&ble (off+(T t).size) cs.length) (match eJ (dt T t (dm off (T t).size cs))with
       |true=>aX (dT T t&&lD (dm off (T t).size cs)) (K (dk ⟨s.n,s.al,du s.ob o (bz cs off (qE (dm off (T t).size cs)))⟩ a (dt T t (dm off (T t).size cs))))
       |false=>K (dk s a (dt T t (dm off (T t).size cs))))
     |_+1=>aj)
   |_=>aj
 |_=>aj
def nF (xs:List Operand)(s:TS)(K:V->TS->Option R):Option R:=match xs with
 |[x]=>K (bp s x) (cY s x)
 |xs=>K (.tup (lE s xs)) (oK s xs)
def Cj (T:Nat->TI)(rs:List ResultVar)(s:TS)(K:V->TS->Option R):Option R:=match rs with
 |[]=>nF [] s K
 |[.tmp a]=>nF [.tmp a] s K
 |[.tmp a,.tmp b]=>nF [.tmp a,.tmp b] s K
 |[.tmp a,.tmp b,.tmp c]=>nF [.tmp a,.tmp b,.tmp c] s K
 |[.cell a t]=>wE T a t s fun s=>nF [.tmp a] s K
 |[.cell a t,.tmp b]=>aX (a != b) (wE T a t s fun s=>nF [.tmp a,.tmp b] s K)
 |_=>aj
end
def wF (T:Nat->TI)(rs:List ResultVar)(N:Nat)(out:SPat)(ns:List Nat)(y:out.Den):Option (V×List TO) :=
 Cj T rs (eb N out y) fun v s=>match qw ns s.ob with
  |some obs=>U (v,obs)
  |none=>aj
def Pd (N:Nat)(out:SPat):AX->TS->Option out.Den
 |.normal,s=>km N out U s
 |.ret,s=>km N out U s
 |.exit _,_=>aj
noncomputable def sZ (T:Nat->TI)(tbl:Nat->Option TEnt)(pl:Nat->List Nat×a_)(N:Nat)(iv:Nat->Option SPat)(c:Code)(inS out:SPat)(x:inS.Den):Option out.Den :=
 ed T (Cg tbl) pl N iv c out.Den (Pd N out) (eb N inS x)
section
variable {R:Type}{T:Nat->TI}{s:TS}{r:R}
def Ij {a t:Nat}{K:TS->Option R}{K':St->Prop}(hK:∀ s,K s=U r->K' (eS s))(h:wE T a t s K=U r):iY T t (bx (eS s).env a) (U a) (eS s) K':=by
 unfold wE at h;unfold iY;rw[i6];split at h
 ·rename_i o i off hv;rw[hv];simp only[e]
  split at h
  ·rename_i n cs hg;rw[jV hg];simp only
   cases i with
   |succ i=>cases h
   | zero=>
     simp only at h;obtain⟨h1,h2⟩:=bj h;simp only[aK]at h1;have hoff:off+(T t).size<=cs.length:=dZ h1.2;refine⟨h1.1,by simp,?_⟩;rw[MB];refine⟨by rw[cN];exact hoff,?_⟩;rw[<-oS,oT]
     have hnotown:(∀k rows,e (dt T t (dm off (T t).size cs)) ≠ .own k rows)\/dT T t=ag:=by
      cases hs:dT T t with
      |false=>exact .inr rfl
      | true=>
        refine .inl fun k rows hq=>?_
        unfold dt at hq;unfold dT at hs;split at hq
        ·simp[e]at hq
        ·rename_i hne;split at hs
         ·rename_i fs hfs;exact hne fs hfs
         ·cases hs
     cases ho:eJ (dt T t (dm off (T t).size cs))with
     | false=>
       rw[ho]at h2;simp only at h2;have hne:=NV ho;split
       ·rename_i heq;exact absurd heq (hne _ _)
       ·rw[iB,ho];simp only[cV,if_false]
        have:=hK _ h2;rw[<-fJ]at this;exact this
     | true=>
       rw[ho]at h2;simp only at h2;obtain⟨h3,h4⟩:=bj h2;simp only[aK]at h3
       have hst:dt T t (dm off (T t).size cs) = .agg (dm off (T t).size cs):=by
        unfold dt;have hs:=h3.1;unfold dT at hs;split at hs
        ·rename_i hk;rw[hk]
        ·cases hs
       rw[hst]at h4 ho ⊢;simp only[e]
       have ho':cu (SV.agg (eL (dm off (T t).size cs)))=ae:=by
        have:=iB (.agg (dm off (T t).size cs));rw[ho]at this;exact this
       rw[ho'];simp only[if_true]
       refine⟨h3.1,by show fG (eL _)=ae;rw[nr];exact h3.2,?_⟩;have:=hK _ h4;rw[<-fJ]at this
       have hlen:(bz cs off (qE (dm off (T t).size cs))).length=cs.length:=by
        refine oL _ _ _ ?_
        have:(qE (dm off (T t).size cs)).length<=(T t).size:=by
         rw[<-cN,<-Ci,uO,cN];simp only[dm,bT]
         omega
        omega
       have hsc:=oR (s:=s) hg hlen;rw[g9,<-Ci]at hsc;have e1:cellsOf (SV.agg (eL (dm off (T t).size cs)))=eL (dm off (T t).size cs):=rfl;rw[e1,hsc];exact this
  ·cases h
 ·cases h
def qF {xs:List Operand}{K:V->TS->Option R}{K':SV->St->Prop}(hK:∀ v s,K v s=U r->K' (e v) (eS s))(h:nF xs s K=U r):mf xs (eS s) K':=by
 unfold nF at h;unfold mf;split at h
 ·show K' (AM.ev (eS s).env _) (dA (eS s) _);rw[bV,jT];exact hK _ _ h
 ·rename_i hn;split
  ·rename_i x;exact absurd rfl (hn x)
  ·rw[vB,vA];exact hK _ _ h
def Pe {rs:List ResultVar}{K:V->TS->Option R}{K':SV->St->Prop}(hK:∀ v s,K v s=U r->K' (e v) (eS s))(h:Cj T rs s K=U r):ng T rs (eS s) K':=by
 unfold Cj at h;unfold ng;split at h
 ·exact qF hK h
 ·exact qF hK h
 ·exact qF hK h
 ·exact qF hK h
 ·exact Ij (fun s h=>qF hK h) h
 ·obtain⟨h1,h2⟩:=bj h;exact⟨by simpa using h1,Ij (fun s h=>qF hK h) h2⟩
 ·cases h
end
end Go.TM
end
