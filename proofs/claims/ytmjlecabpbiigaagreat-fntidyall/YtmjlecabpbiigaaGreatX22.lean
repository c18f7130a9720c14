/- Part 23 of the proof of FnTidyAll; no condition. -/
import Derived.Test.YtmjlecabpbiigaaGreatX21
open Option renaming some -> U
open Decidable renaming decide -> aa
open Bool renaming true -> ae
open Bool renaming false -> ag
open Option renaming none -> aj
open Sum renaming inr -> an
open Sum renaming inl -> ao
open List renaming length -> au
open Int renaming toNat -> aw
open List renaming drop -> cU
open List renaming take -> de
set_option autoImplicit true
set_option relaxedAutoImplicit true
set_option linter.all false
section
namespace Go.TM
open Go.AM
section
variable {P:Program}{T:Nat->TI}
def wG:Nat->List (Nat×Pat)->Bool
 |_,[]=>ae
 |k,p::l=>p.1==k&&wG (k+1) l
def Ik:∀(al:List (Nat×Pat)) (k:Nat) (vs:List V),wG k al=ae->eA (sA al vs)=oG k (eL (pa al vs))
 |[],k,vs,_=>rfl
 |p::l,k,[],_=>rfl
 | p::l,k,v::vs,h=>by
   simp only[wG,aK,beq_iff_eq]at h;simp only[sA,pa,eA,eL,oG,Ik l (k+1) vs h.2,h.1]
def Il:∀(al:List (Nat×Pat)) (vs:List V),(pa al vs).length<=al.length
 |[],vs=>bJ _
 |p::l,[]=>Nat.zero_le _
 |p::l,v::vs=>by have:=Il l vs;simp only[pa,bL];omega
def Im {q:Pat}:∀(l:List (Nat×Pat)) (x:(dU l q).Den),kV l=ae->∃y:q.Den,mu l (bg (dU l q) x)=bg q y
 |[],x,_=>⟨x,rfl⟩
 | p::l,x,ho=>by
   simp only[kV,aK]at ho;simp only[dU,bg]
   generalize hx:kT p.2.cst (dU l q).cst p.2.dflt x=x1;generalize hy:kU p.2.cst (dU l q).cst (dU l q).dflt x=y1;obtain⟨v,hv⟩:=Bh p.2 (fun q q' hq=>by rw[hq]at ho;cases ho.1) (fun hq=>by rw[hq]at ho;cases ho.1) x1;rw[hv];exact Im l y1 ho.2
def Pf (o:OPat)(v:V):(vR o v).name=o.name:=by
 cases o with
 | opn n t d p=>
   unfold vR;simp only
   split<;>rfl
 | spl n t=>
   unfold vR;simp only
   split<;>rfl
 |_=>cases v<;>rfl
def Io:∀(l:List OPat) (x:(cZ l).Den),hU (lG l (bg (cZ l) x))=gn l
 |[],x=>rfl
 | o::l,x=>by
   simp only[cZ,bg]
   generalize hx:kT o.pat.cst (cZ l).cst o.pat.dflt x=x1;generalize hy:kU o.pat.cst (cZ l).cst (cZ l).dflt x=y1;obtain⟨v,hv⟩:=Oq .nop rfl o x1;rw[hv];simp only[cF,dy,lG,hU,gn,Pf,Io l y1]
def Ck (n:Nat)(inS:SPat)(ns:List Nat):Bool :=
 wG 0 inS.al&&kV inS.al&&js (gn inS.ob)&&vg (gn inS.ob)&&js ns&&ble inS.al.length n
def Cl {tbl:Nat->Option TEnt}(htbl:jy P tbl)(hT:bU P T)(hm:P.follows .mixedOrders=ae)
  {f:FuncId} {fn:Func} {c:Code} {rs:List ResultVar} {n:Nat} (pure:Bool) (ps:List (Nat×List Nat)) (inS out:SPat) (ns:List Nat) (pl:Nat->List Nat×a_) (iv:Nat->Option SPat)
  (hf:P.funcs[f]? = U fn) (hb:fn.body=U c) (hrs:fn.results=rs.toArray) (hn:fn.ntmps=n) (hp:jS T pl c=ae) (hin:Ck n inS ns=ae)
  (hc:∀(vs:Array Value) (w:World),(callFunc f vs).run P w = .ok (.enter f vs) w)
  (F:inS.Den->Option out.Den) (hF:∀x y,F x=U y->sZ T tbl pl n iv c inS out x=U y):kg P f (TEnt.W ⟨f,pure,ps,inS,out.Den,F,wF T rs n out ns⟩):=by
 rintro args ob K ⟨x,y,v,obs,h1,h2,h3,h4,h5⟩;simp only[Ck,aK]at hin;obtain⟨⟨⟨⟨⟨hsl,hok⟩,hnd⟩,hge⟩,hns⟩,hle⟩:=hin;refine AC.le h1 h2 (p5.call ?_ hc);obtain⟨z,hz⟩:=Im (q:=cZ inS.ob) inS.al x hok
 have hnames:aQ (bo (qC inS x))=gn inS.ob:=by
  rw[wx];show hU (lG inS.ob (mu inS.al (bg (dU inS.al (cZ inS.ob)) x)))=_;rw[hz,Io]
 refine zei ns hT hf hb (by rw[hrs]) hn (by rw[hnames];exact p7 _ hnd) (by rw[hnames];exact FS _ hge) (p7 _ hns) ?_
 have hlen:(eL (qB inS x)).length<=n:=by
  rw[cN];exact Nat.le_trans (Il _ _) (dZ hle)
 have hst:oA n (eL (qB inS x)) (bo (qC inS x))=eS (eb n inS x):=by
  rw[Ns hlen];simp only[eS,eb,Ik _ _ _ hsl,qB,qC]
 rw[hst];have hfun:=hF x y h3;unfold sZ at hfun;refine lJ hT zeq hm (Pb htbl) c _ _ _ _ y hp (fun e s hq=>?_) hfun
 have hres:∀{s},km n out U s=U y->gK (fun st=>ng T rs st fun sv st2=>∃ext',dB ns st2.ob=U ext'/\K sv ext') (eS s):=by
  intro s hq;refine sP hq fun z hz=>?_
  simp only[aF]at hz;subst hz;refine Pe (r:=(v,obs)) (fun v' s' hv=>?_) h4;split at hv
  ·rename_i obs' hsel;simp only[aF,bm]at hv;obtain⟨rfl,rfl⟩:=hv;exact⟨_,B4 _ _ _ hsel,h5⟩
  ·cases hv
 cases e with
 |normal=>exact hres hq
 |ret=>exact hres hq
 |exit id=>cases hq
end
def Ip (f:Func):Code:=match f.body with
 |some c=>c
 |none=>.skip
def aR:Nat->Option SPat:=fun _=>aj
def aI:Nat->List Nat×a_:=fun _=>([],.fin)
def tbT0:Nat->Option TEnt:=fun _=>aj
def az (f:Nat)(en:TEnt)(tbl:Nat->Option TEnt):Nat->Option TEnt:=fun n=>match n==f with
 |true=>U en
 |false=>tbl n
def jy.nil {P:Program}:jy P tbT0:=fun _ _ h=>by cases h
def jy.ins {P:Program}{f:Nat}{en:TEnt}{tbl:Nat->Option TEnt}(ht:jy P tbl)(h:kg P en.fid en.W):jy P (az f en tbl):=by
 intro n e' hn;unfold az at hn;split at hn
 ·rename_i hq;simp only[aF]at hn;subst hn;exact h
 ·exact ht n e' hn
end Go.TM
end
