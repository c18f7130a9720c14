/- Part 23 of the proof of FnDeep; no condition. -/
import Derived.Test.YtdpapeledldifaaGreatX21
open Option renaming some -> U
open Decidable renaming decide -> aa
open Bool renaming true -> ad
open Bool renaming false -> ag
open Option renaming none -> aj
open Sum renaming inl -> an
open Sum renaming inr -> ao
open List renaming length -> au
open Int renaming toNat -> aH
open List renaming drop -> kZ
open List renaming take -> nY
set_option autoImplicit true
set_option relaxedAutoImplicit true
set_option linter.all false
section
namespace Go.TM
open Go.AM
section
variable {P:Program}{T:Nat->TI}
def wj:Nat->List (Nat×Pat)->Bool
 |_,[]=>ad
 |k,p::l=>p.1==k&&wj (k+1) l
def HG:∀(al:List (Nat×Pat)) (k:Nat) (vs:List V),wj k al=ad->eA (r9 al vs)=om k (eL (oQ al vs))
 |[],k,vs,_=>rfl
 |p::l,k,[],_=>rfl
 | p::l,k,v::vs,h=>by
   simp only[wj,aG,beq_iff_eq]at h;simp only[r9,oQ,eA,eL,om,HG l (k+1) vs h.2,h.1]
def HH:∀(al:List (Nat×Pat)) (vs:List V),(oQ al vs).length<=al.length
 |[],vs=>bI _
 |p::l,[]=>Nat.zero_le _
 |p::l,v::vs=>by have:=HH l vs;simp only[oQ,bD];omega
def HI {q:Pat}:∀(l:List (Nat×Pat)) (x:(dK l q).Den),kI l=ad->∃y:q.Den,mb l (bg (dK l q) x)=bg q y
 |[],x,_=>⟨x,rfl⟩
 | p::l,x,ho=>by
   simp only[kI,aG]at ho;simp only[dK,bg]
   generalize hx:kG p.2.cst (dK l q).cst p.2.dflt x=x1;generalize hy:kH p.2.cst (dK l q).cst (dK l q).dflt x=y1;obtain⟨v,hv⟩:=AG p.2 (fun q q' hq=>by rw[hq]at ho;cases ho.1) (fun hq=>by rw[hq]at ho;cases ho.1) x1;rw[hv];exact HI l y1 ho.2
def Ol (o:OPat)(v:V):(vC o v).name=o.name:=by
 cases o with
 | opn n t d p=>
   unfold vC;simp only
   split<;>rfl
 | spl n t=>
   unfold vC;simp only
   split<;>rfl
 |_=>cases v<;>rfl
def HJ:∀(l:List OPat) (x:(cV l).Den),gN (lp l (bg (cV l) x))=fU l
 |[],x=>rfl
 | o::l,x=>by
   simp only[cV,bg]
   generalize hx:kG o.pat.cst (cV l).cst o.pat.dflt x=x1;generalize hy:kH o.pat.cst (cV l).cst (cV l).dflt x=y1;obtain⟨v,hv⟩:=Nz .nop rfl o x1;rw[hv];simp only[cD,dz,lp,gN,fU,Ol,HJ l y1]
def BO (n:Nat)(inS:SPat)(ns:List Nat):Bool :=
 wj 0 inS.al&&kI inS.al&&jb (fU inS.ob)&&uV (fU inS.ob)&&jb ns&&ble inS.al.length n
def wm {tbl:Nat->Option TEnt}(htbl:ir P tbl)(hT:bV P T)(hm:P.follows .mixedOrders=ad)
  {f:FuncId} {fn:Func} {c:Code} {rs:List ResultVar} {n:Nat} (pure:Bool) (ps:List (Nat×List Nat)) (inS out:SPat) (ns:List Nat) (pl:Nat->List Nat×bc) (iv:Nat->Option SPat)
  (hf:P.funcs[f]? = U fn) (hb:fn.body=U c) (hrs:fn.results=rs.toArray) (hn:fn.ntmps=n) (hp:jB T pl c=ad) (hin:BO n inS ns=ad)
  (hc:∀(vs:Array Value) (w:World),(callFunc f vs).run P w = .ok (.enter f vs) w)
  (F:inS.Den->Option out.Den) (hF:∀x y,F x=U y->qs T tbl pl n iv c inS out x=U y):jC P f (TEnt.W ⟨f,pure,ps,inS,out.Den,F,sJ T rs n out ns⟩):=by
 rintro args ob K ⟨x,y,v,obs,h1,h2,h3,h4,h5⟩;simp only[BO,aG]at hin;obtain⟨⟨⟨⟨⟨hsl,hok⟩,hnd⟩,hge⟩,hns⟩,hle⟩:=hin;refine AC.le h1 h2 (pO.call ?_ hc);obtain⟨z,hz⟩:=HI (q:=cV inS.ob) inS.al x hok
 have hnames:aV (bo (qo inS x))=fU inS.ob:=by
  rw[v9];show gN (lp inS.ob (mb inS.al (bg (dK inS.al (cV inS.ob)) x)))=_;rw[hz,HJ]
 refine zc3 ns hT hf hb (by rw[hrs]) hn (by rw[hnames];exact pQ _ hnd) (by rw[hnames];exact Fh _ hge) (pQ _ hns) ?_
 have hlen:(eL (qn inS x)).length<=n:=by
  rw[cF];exact Nat.le_trans (HH _ _) (dQ hle)
 have hst:n_ n (eL (qn inS x)) (bo (qo inS x))=eS (dW n inS x):=by
  rw[MA hlen];simp only[eS,dW,HG _ _ _ hsl,qn,qo]
 rw[hst];have hfun:=hF x y h3;unfold qs at hfun;refine lu hT zdb hm (Oh htbl) c _ _ _ _ y hp (fun e s hq=>?_) hfun
 have hres:∀{s},j9 n out U s=U y->gK (fun st=>mZ T rs st fun sv st2=>∃ext',dq ns st2.ob=U ext'/\K sv ext') (eS s):=by
  intro s hq;refine sw hq fun z hz=>?_
  simp only[aK]at hz;subst hz;refine Ok (r:=(v,obs)) (fun v' s' hv=>?_) h4;split at hv
  ·rename_i obs' hsel;simp only[aK,bH]at hv;obtain⟨rfl,rfl⟩:=hv;exact⟨_,Bx _ _ _ hsel,h5⟩
  ·cases hv
 cases e with
 |normal=>exact hres hq
 |ret=>exact hres hq
 |exit id=>cases hq
end
def BP (f:Func):Code:=match f.body with
 |some c=>c
 |none=>.skip
def aU:Nat->Option SPat:=fun _=>aj
def aL:Nat->List Nat×bc:=fun _=>([],.fin)
def tbT0:Nat->Option TEnt:=fun _=>aj
def ax (f:Nat)(en:TEnt)(tbl:Nat->Option TEnt):Nat->Option TEnt:=fun n=>match n==f with
 |true=>U en
 |false=>tbl n
def ir.nil {P:Program}:ir P tbT0:=fun _ _ h=>by cases h
def ir.ins {P:Program}{f:Nat}{en:TEnt}{tbl:Nat->Option TEnt}(ht:ir P tbl)(h:jC P en.fid en.W):ir P (ax f en tbl):=by
 intro n e' hn;unfold ax at hn;split at hn
 ·rename_i hq;simp only[aK]at hn;subst hn;exact h
 ·exact ht n e' hn
end Go.TM
end
