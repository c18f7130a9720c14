/- Part 22 of the proof of FnDeep; no condition. -/
import Derived.Test.YtdpapeledldifaaGreatX20
open Option renaming some -> U
open Decidable renaming decide -> aa
open Bool renaming true -> ad
open Bool renaming false -> ag
open Option renaming none -> aj
open Sum renaming inl -> an
open Sum renaming inr -> ao
open List renaming length -> au
open Int renaming toNat -> aH
open List renaming drop -> kZ
open List renaming take -> nY
set_option autoImplicit true
set_option relaxedAutoImplicit true
set_option linter.all false
section
namespace Go.TM
open Go.AM
section
variable {P:Program}{R:Type}{T:Nat->TI}{s:TS}{K:TS->Option R}{K':St->Prop}{r:R}
def sI:∀(l:List OPat) (obs:List TO) (x:(cV l).Den),qp (gN obs) (fU l)=ad->wkL (eL (nu obs)) (eL (bg (cV l) x))->wkObs (bo obs) (bo (lp l (bg (cV l) x)))
 |[],[],x,_,_=>rfl
 |[],_::_,x,h,_=>by simp[gN,fU,qp]at h
 |_::_,[],x,h,_=>by simp[gN,fU,qp]at h
 | o::l,t::obs,x,hn,h=>by
   simp only[gN,fU,qp,aG,beq_iff_eq]at hn;simp only[cV,bg,nu,eL]at h ⊢;generalize hx:kG o.pat.cst (cV l).cst o.pat.dflt x=x1 at h ⊢;generalize hy:kH o.pat.cst (cV l).cst (cV l).dflt x=y1 at h ⊢;cases o with
   | box n p=>
     have h':wkL (e (cu (U t))::eL (nu obs)) (SV.agg (eL (bg p x1))::eL (bg (cV l) y1)):=h;obtain⟨h1,h2⟩:=lq h';have h3:=sI l obs y1 hn.2 h2;cases t with
     |arr m t d l=>simp[cu,e,wk]at h1
     |opn m t d l i cs=>simp[cu,e,wk]at h1
     |spl m t l k=>simp[cu,e,wk]at h1
     | box m cs=>
       have h1:wkL (eL cs) (eL (bg p x1)):=h1;have hl:=AF h1;simp only[cF]at hl;exact⟨hn.1,hl,rfl,⟨h1,rfl⟩,h3⟩
   | arr n g d=>
     have h':wkL (e (cu (U t))::eL (nu obs)) (SV.own g.sz ((x1:List g.Den).map (aM d g))::eL (bg (cV l) y1)):=h;obtain⟨h1,h2⟩:=lq h';have h3:=sI l obs y1 hn.2 h2;cases t with
     |box m cs=>simp[cu,e,wk]at h1
     |opn m g' d' l' i' cs'=>simp[cu,e,wk]at h1
     |spl m g' l' k'=>simp[cu,e,wk]at h1
     | arr m g' d' l' =>
       simp only[cu,e,wk,SV.own.injEq]at h1;have key:wkRows (l'.map (aM d' g')) ((x1:List g.Den).map (aM d g)):=by rw[h1.2];exact mV _
       exact⟨hn.1,h1.1,rfl,key,h3⟩
   | opn n g d p=>
     obtain⟨y,i,z,hv,hmk⟩:=Gx n g d p x1
     have h':wkL (e (cu (U t))::eL (nu obs)) (eL (bg (OPat.opn n g d p).pat x1)++eL (bg (cV l) y1)):=by
      rw[<-j6];exact h
     rw[hv]at h';obtain⟨h1,h2⟩:=lq h';have h3:=sI l obs y1 hn.2 h2;cases t with
     |box m cs=>simp[cu,e,wk]at h1
     |arr m g' d' l'=>simp[cu,e,wk]at h1
     |spl m g' l' k'=>simp[cu,e,eL,wk,wkL]at h1
     | opn m g' d' l' i' cs' =>
       simp only[cu,e,eL,wk,wkL,SV.own.injEq,SV.p.injEq]at h1;obtain⟨⟨h6,h7⟩,⟨_,h8,hc⟩,h9,_⟩:=h1;rw[hv];refine⟨hn.1,h6,rfl,?_,h3⟩;show wkRows ((cp d' g' i' l').set i' (eL cs')) ((cp d g i y).set i (eL (bg p z)));subst h8;rw[vE hc h7];exact uI h9 _ _
   | spl n g=>
     obtain⟨y,i,hv,hmk⟩:=Gy n g x1
     have h':wkL (e (cu (U t))::eL (nu obs)) (eL (bg (OPat.spl n g).pat x1)++eL (bg (cV l) y1)):=by
      rw[<-j6];exact h
     rw[hv]at h';obtain⟨h1,h2⟩:=lq h';have h3:=sI l obs y1 hn.2 h2;cases t with
     |box m cs=>simp[cu,e,wk]at h1
     |arr m g' d' l'=>simp[cu,e,wk]at h1
     |opn m g' d' l' i' cs'=>simp[cu,e,eL,wk,wkL]at h1
     | spl m g' l' k' =>
       simp only[cu,e,eL,wk,wkL,SV.own.injEq,SV.p.injEq]at h1;obtain⟨⟨h6,h7⟩,⟨_,h8,_⟩,_⟩:=h1;rw[hv];refine⟨hn.1,h6,rfl,?_,h3⟩;show wkRows (cp .spl g' k' l') (cp .spl g i y);subst h8;rw[vE (d:=.spl) (d':=.spl) rfl h7];exact mV _
def Hz {rest:List V}{q:Pat}:∀(l:List (Nat×Pat)) (args:List V) (x:(dK l q).Den),kI l=ad->args.length=l.length->wkL (eL (args++rest)) (eL (bg (dK l q) x)) ->
  wkL (eL args) (eL (oQ l (bg (dK l q) x)))/\∃y:q.Den,mb l (bg (dK l q) x)=bg q y/\wkL (eL rest) (eL (bg q y))
 |[],[],x,_,_,h=>⟨rfl,x,rfl,h⟩
 |[],_::_,x,_,hl,_=>by simp at hl
 |_::_,[],x,_,hl,_=>by simp at hl
 | p::l,a::args,x,ho,hl,h=>by
   simp only[kI,aG]at ho;simp only[dK,bg]at h ⊢;generalize hx:kG p.2.cst (dK l q).cst p.2.dflt x=x1 at h ⊢;generalize hy:kH p.2.cst (dK l q).cst (dK l q).dflt x=y1 at h ⊢;obtain⟨v,hv⟩:=AG p.2 (fun q q' hq=>by rw[hq]at ho;cases ho.1) (fun hq=>by rw[hq]at ho;cases ho.1) x1;rw[hv]at h ⊢;simp only[cD,dz,eL]at h ⊢;obtain⟨h1,h2⟩:=lq h;obtain⟨h3,y,h4,h5⟩:=Hz l args y1 ho.2 (by simpa using hl) h2;exact⟨⟨h1,h3⟩,y,h4,h5⟩
def HA {p:SPat}{args:List V}{obs:List TO}{K:p.Den->Option R}(h:BD p args obs K=U r) :
  ∃x,K x=U r/\wkL (eL args) (eL (qn p x))/\wkObs (bo obs) (bo (qo p x)):=by
 obtain⟨h0,h1⟩:=bl h;simp only[aG]at h0;obtain⟨x,cs,rest,h2,h3,h4,_⟩:=nn p.pat ad _ _ h1;obtain⟨rfl,h5⟩:=p8 h2;rw[cN]at h3;subst h3;obtain⟨h6,y,h7,h8⟩:=Hz p.al args x h0.1.1 (eq_of_beq h0.1.2) h4;refine⟨x,h5,h6,?_⟩;show wkObs (bo obs) (bo (lp p.ob (mb p.al (bg (dK p.al (cV p.ob)) x))));rw[h7];exact sI p.ob obs y h0.2 h8
def HB {en:TEnt}{y:en.Y}{K:V->List TO->Option R}(h:we en y K=U r):∃v obs,en.res y=U (v,obs)/\K v obs=U r:=by
 unfold we at h;split at h
 ·exact⟨_,_,by assumption,h⟩
 ·cases h
def HC:∀a b:List TO,bo (a++b)=bo a++bo b
 |[],_=>rfl
 |x::a,b=>by simp only[cD,bo,HC a b]
def HD:∀(ns:List Nat) (s:TS),(oM ns s).n=s.n
 |[],_=>rfl
 |o::ns,s=>by simp only[oM,HD ns];rfl
def Oe {ns:List Nat}{d:Option Tmp}{v:V}{obs:List TO}(hK:∀ s,K s=U r->K' (eS s))(h:Hx ns d K s v obs=U r):zW ns d K' (eS s) (e v) (bo obs):=by
 obtain⟨h1,h2⟩:=bl h;unfold zW;refine bF ?_ ?_
 ·unfold uN;simp only[Hw,aG]at h1;rw[v9,Hm,Bw _ _ h1.1.2];simp only[h1.1.1.1,h1.1.1.2,h1.1.2,h1.2,bp]
 ·have he:rK (il (iL d) 100000 ns) (j5 100000 ns) (eS s) (bo obs) (e v) d=eS (BE (il (iL d) 100000 ns) (j5 100000 ns) s obs v d):=by
   unfold rK BE;rw[Hh,v9]
   have h3:(⟨(eS s).env,kv ((j5 100000 ns).map (il (iL d) 100000 ns)) (eS s).ob⟩:St)=eS ⟨s.n,s.al,qj ((j5 100000 ns).map (il (iL d) 100000 ns)) s.ob⟩:=by
    simp only[eS,Hr]
   rw[h3,Hs,<-bP];congr 1;simp only[eS,Bs,HC,HD]
  rw[he];exact hK _ h2
def Of {en:TEnt}{ns:List Nat}{xs:List Operand}{caps:List V}{d:Option Tmp}(hK:∀ s,K s=U r->K' (eS s))(h:BF en ns xs caps d K s=U r):uZ en.W ns xs (eL caps) d K' (eS s):=by
 unfold BF at h;unfold uZ;split at h
 ·rename_i obs hobs;have hs:dq ns (eS s).ob=U (bo obs):=Bx _ _ _ hobs;rw[hs];simp only
  obtain⟨h1,h2⟩:=bl h;have h1':=h1;simp only[aG]at h1';rw[wc,<-j6,oP,Bw _ _ h1'.1.2,ow];refine bF (by simp only[h1'.1.1.1,h1'.1.1.2,h1'.2,bp]) ?_;obtain⟨x,h3,h4,h5⟩:=HA h2;obtain⟨y,h6,h7⟩:=F1 h3;obtain⟨v,obs',h8,h9⟩:=HB h7;rw[oO,Bs];exact⟨x,y,v,obs',h4,h5,h6,h8,Oe hK h9⟩
 ·cases h
def Og {en:TEnt}{ns:List Nat}{n:Nat}{f:Operand}{xs:List Operand}{d:Option Tmp}(hK:∀ s,K s=U r->K' (eS s))(h:BG en ns n f xs d K s=U r):u0 en.W ns n f xs d K' (eS s):=by
 unfold BG at h;unfold u0;rw[bW];split at h
 ·rename_i n' caps hv;rw[hv];obtain⟨h1,h2⟩:=bl h;exact bF h1 (Of hK h2)
 ·cases h
def HE {Q:St->Prop}:∀(l:List Nat) {s:TS},(∀s,K s=U r->Q (eS s))->wg l K s=U r->rP l Q (eS s)
 |[],s,hK,h=>hK _ h
 | o::l,s,hK,h=>by
   unfold wg nq at h;unfold rP rJ;split at h
   ·rename_i n g d l' hg;rw[jf hg];refine⟨rfl,?_⟩;have:=HE l hK h;simp only[kF]
    simp only[eS]at this ⊢;rw[Fq,show SV.sl g.sz (l'.map (aM ag g))=e (.sl g l')from rfl,A4,pZ];exact this
   ·cases h
def Oh {tbl:Nat->Option TEnt}(htb:ir P tbl):lr (BK tbl) (wh P):=by
 intro R f xs d s K K' r hK h;unfold BK at h;split at h
 ·rename_i n caps hv;split at h
  ·rename_i en hen;obtain⟨hfid,h⟩:=bl h;have hfid:=eq_of_beq hfid;obtain⟨k,hen⟩:=Od hen;have hok:=htb _ _ hen;rw[hfid]at hok;refine⟨BL n (en.ent (vZ en.ps (gL (nt s xs) xs++caps) (nt s xs).ob)),na.ins na.nil hok,?_⟩;unfold oq zX;rw[bW,hv];simp only[e]
   have ht:∀e:Ent,BL n e n=U e:=fun e=>by simp only[BL,ins,beq_self_eq_true,cond_true]
   rw[ht];simp only[TEnt.ent]
   split at h
   ·rename_i hp;rw[hp];simp only
    rw[wc,<-j6];obtain⟨x,h3,h4,h5⟩:=HA h;obtain⟨y,h6,h7⟩:=F1 h3;obtain⟨v,obs',h8,h9⟩:=HB h7;obtain⟨h10,h11⟩:=bl h9;refine⟨x,y,v,obs',?_,h5,h6,h8,?_⟩
    ·show wkL (brwL (bo s.ob) _) _;rw[v_];exact h4
    ·unfold FD;rw[bP];exact bF (Hv _ h10) (hK _ h11)
   ·rename_i hp;rw[hp];simp only
    rw[Ht];unfold Hy at h;unfold u4;split at h
    ·rename_i ns hns;rw[wc,<-j6];have hns':vZ en.ps (gL (nt s xs) xs++caps) (nt s xs).ob=U ns:=hns;rw[hns'];simp only
     rw[By];exact HE _ (fun s h=>Og hK h) h
    ·cases h
  ·cases h
 ·cases h
end
def Oi:V->V
 |.own _ _ _=>.u
 |.emp _=>.u
 |v=>v
def qq:List V->List V
 |[]=>[]
 |x::l=>Oi x::qq l
def BM:∀l:List V,kr (eL l)=eL (qq l)
 |[]=>rfl
 | x::l=>by
   simp only[eL,kr,qq,BM l]
   congr 1;cases x<;>rfl
section
variable {R:Type}
def wi (T:Nat->TI)(a t:Nat)(s:TS)(K:TS->Option R):Option R:=match cT s a with
 | .p o i off=>match ba s.ob o with
   | some (.box _ cs)=>(match i with
     | 0=>aX ((T t).known&&ble (off+(T t).size) cs.length) (match eu (dh T t (c_ off (T t).size cs))with
       |true=>aX (dJ T t&&lk (c_ off (T t).size cs)) (K (dT ⟨s.n,s.al,di s.ob o (bA cs off (qq (c_ off (T t).size cs)))⟩ a (dh T t (c_ off (T t).size cs))))
       |false=>K (dT s a (dh T t (c_ off (T t).size cs))))
     |_+1=>aj)
   |_=>aj
 |_=>aj
def nv (xs:List Operand)(s:TS)(K:V->TS->Option R):Option R:=match xs with
 |[x]=>K (bw s x) (cU s x)
 |xs=>K (.tup (ll s xs)) (ou s xs)
def BN (T:Nat->TI)(rs:List ResultVar)(s:TS)(K:V->TS->Option R):Option R:=match rs with
 |[]=>nv [] s K
 |[.tmp a]=>nv [.tmp a] s K
 |[.tmp a,.tmp b]=>nv [.tmp a,.tmp b] s K
 |[.tmp a,.tmp b,.tmp c]=>nv [.tmp a,.tmp b,.tmp c] s K
 |[.cell a t]=>wi T a t s fun s=>nv [.tmp a] s K
 |[.cell a t,.tmp b]=>aX (a != b) (wi T a t s fun s=>nv [.tmp a,.tmp b] s K)
 |_=>aj
end
def sJ (T:Nat->TI)(rs:List ResultVar)(N:Nat)(out:SPat)(ns:List Nat)(y:out.Den):Option (V×List TO) :=
 BN T rs (dW N out y) fun v s=>match qi ns s.ob with
  |some obs=>U (v,obs)
  |none=>aj
def Oj (N:Nat)(out:SPat):AX->TS->Option out.Den
 |.normal,s=>j9 N out U s
 |.ret,s=>j9 N out U s
 |.exit _,_=>aj
noncomputable def qs (T:Nat->TI)(tbl:Nat->Option TEnt)(pl:Nat->List Nat×bc)(N:Nat)(iv:Nat->Option SPat)(c:Code)(inS out:SPat)(x:inS.Den):Option out.Den :=
 dY T (BK tbl) pl N iv c out.Den (Oj N out) (dW N inS x)
section
variable {R:Type}{T:Nat->TI}{s:TS}{r:R}
def HF {a t:Nat}{K:TS->Option R}{K':St->Prop}(hK:∀ s,K s=U r->K' (eS s))(h:wi T a t s K=U r):iJ T t (bB (eS s).env a) (U a) (eS s) K':=by
 unfold wi at h;unfold iJ;rw[jD];split at h
 ·rename_i o i off hv;rw[hv];simp only[e]
  split at h
  ·rename_i n cs hg;rw[jG hg];simp only
   cases i with
   |succ i=>cases h
   | zero=>
     simp only at h;obtain⟨h1,h2⟩:=bl h;simp only[aG]at h1;have hoff:off+(T t).size<=cs.length:=dQ h1.2;refine⟨h1.1,by simp,?_⟩;rw[LI];refine⟨by rw[cF];exact hoff,?_⟩;rw[<-oD,oE]
     have hnotown:(∀k rows,e (dh T t (c_ off (T t).size cs)) ≠ .own k rows)\/dJ T t=ag:=by
      cases hs:dJ T t with
      |false=>exact .inr rfl
      | true=>
        refine .inl fun k rows hq=>?_
        unfold dh at hq;unfold dJ at hs;split at hq
        ·simp[e]at hq
        ·rename_i hne;split at hs
         ·rename_i fs hfs;exact hne fs hfs
         ·cases hs
     cases ho:eu (dh T t (c_ off (T t).size cs))with
     | false=>
       rw[ho]at h2;simp only at h2;have hne:=M1 ho;split
       ·rename_i heq;exact absurd heq (hne _ _)
       ·rw[im,ho];simp only[cS,if_false]
        have:=hK _ h2;rw[<-gI]at this;exact this
     | true=>
       rw[ho]at h2;simp only at h2;obtain⟨h3,h4⟩:=bl h2;simp only[aG]at h3
       have hst:dh T t (c_ off (T t).size cs) = .agg (c_ off (T t).size cs):=by
        unfold dh;have hs:=h3.1;unfold dJ at hs;split at hs
        ·rename_i hk;rw[hk]
        ·cases hs
       rw[hst]at h4 ho ⊢;simp only[e]
       have ho':ct (SV.agg (eL (c_ off (T t).size cs)))=ad:=by
        have:=im (.agg (c_ off (T t).size cs));rw[ho]at this;exact this
       rw[ho'];simp only[if_true]
       refine⟨h3.1,by show fj (eL _)=ad;rw[nf];exact h3.2,?_⟩;have:=hK _ h4;rw[<-gI]at this
       have hlen:(bA cs off (qq (c_ off (T t).size cs))).length=cs.length:=by
        refine ov _ _ _ ?_
        have:(qq (c_ off (T t).size cs)).length<=(T t).size:=by
         rw[<-cF,<-BM,uy,cF];simp only[c_,cA]
         omega
        omega
       have hsc:=oC (s:=s) hg hlen;rw[gH,<-BM]at hsc;have e1:cellsOf (SV.agg (eL (c_ off (T t).size cs)))=eL (c_ off (T t).size cs):=rfl;rw[e1,hsc];exact this
  ·cases h
 ·cases h
def qt {xs:List Operand}{K:V->TS->Option R}{K':SV->St->Prop}(hK:∀ v s,K v s=U r->K' (e v) (eS s))(h:nv xs s K=U r):lS xs (eS s) K':=by
 unfold nv at h;unfold lS;split at h
 ·show K' (AM.ev (eS s).env _) (dp (eS s) _);rw[bW,jE];exact hK _ _ h
 ·rename_i hn;split
  ·rename_i x;exact absurd rfl (hn x)
  ·rw[vb,va];exact hK _ _ h
def Ok {rs:List ResultVar}{K:V->TS->Option R}{K':SV->St->Prop}(hK:∀ v s,K v s=U r->K' (e v) (eS s))(h:BN T rs s K=U r):mZ T rs (eS s) K':=by
 unfold BN at h;unfold mZ;split at h
 ·exact qt hK h
 ·exact qt hK h
 ·exact qt hK h
 ·exact qt hK h
 ·exact HF (fun s h=>qt hK h) h
 ·obtain⟨h1,h2⟩:=bl h;exact⟨by simpa using h1,HF (fun s h=>qt hK h) h2⟩
 ·cases h
end
end Go.TM
end
