/- Part 23 of the proof of FnTidy; no condition. -/
import Derived.Test.YtdpapeledldifaaGreatX21
set_option autoImplicit true
set_option relaxedAutoImplicit true
set_option linter.all false
section
namespace Go.TM
open Go.AM
section
variable {P:Program}{T:Nat→TI}
def zNV:Nat→List (Nat×Pat)→Bool
 |_,[]=>true
 |k,p::l=>p.1==k&&zNV (k+1) l
def zPb:∀(al:List (Nat×Pat)) (k:Nat) (vs:List V),zNV k al=true→eA (mkA al vs)=idx k (eL (zRo al vs))
 |[],k,vs,_=>rfl
 |p::l,k,[],_=>rfl
 | p::l,k,v::vs,h=>by
   simp only[zNV,zBa,beq_iff_eq]at h;simp only[mkA,zRo,eA,eL,idx,zPb l (k+1) vs h.2,h.1]
def zIR:∀(al:List (Nat×Pat)) (vs:List V),(zRo al vs).length≤al.length
 |[],vs=>zLr _
 |p::l,[]=>Nat.zero_le _
 |p::l,v::vs=>by have:=zIR l vs;simp only[zRo,zLc];omega
def zPk {q:Pat}:∀(l:List (Nat×Pat)) (x:(zBU l q).Den),okA l=true→∃y:q.Den,zNd l (encP (zBU l q) x)=encP q y
 |[],x,_=>⟨x,rfl⟩
 | p::l,x,ho=>by
   simp only[okA,zBa]at ho;simp only[zBU,encP]
   generalize hx:fstD p.2.cst (zBU l q).cst p.2.dflt x=x1;generalize hy:sndD p.2.cst (zBU l q).cst (zBU l q).dflt x=y1;obtain⟨v,hv⟩:=zRw p.2 (fun q q' hq=>by rw[hq]at ho;cases ho.1) (fun hq=>by rw[hq]at ho;cases ho.1) x1;rw[hv];exact zPk l y1 ho.2
def toO_name (o:OPat)(v:V):(toO o v).name=o.name:=by
 cases o with
 | opn n t d p=>
   unfold toO;simp only
   split<;>rfl
 | spl n t=>
   unfold toO;simp only
   split<;>rfl
 |_=>cases v<;>rfl
def zPy:∀(l:List OPat) (x:(zBC l).Den),zCz (mkO l (encP (zBC l) x))=zCY l
 |[],x=>rfl
 | o::l,x=>by
   simp only[zBC,encP]
   generalize hx:fstD o.pat.cst (zBC l).cst o.pat.dflt x=x1;generalize hy:sndD o.pat.cst (zBC l).cst (zBC l).dflt x=y1;obtain⟨v,hv⟩:=zUt .nop rfl o x1;rw[hv];simp only[zCa,zNa,mkO,zCz,zCY,toO_name,zPy l y1]
def inOk (n:Nat)(inS:SPat)(ns:List Nat):Bool :=
 zNV 0 inS.al&&okA inS.al&&zHI (zCY inS.ob)&&allGe (zCY inS.ob)&&zHI ns&&ble inS.al.length n
def zXO {tbl:Nat→Option TEnt}(htbl:TbOk P tbl)(hT:LayOk P T)(hm:P.follows .mixedOrders=true)
  {f:FuncId} {fn:Func} {c:Code} {rs:List ResultVar} {n:Nat} (pure:Bool) (ps:List (Nat×List Nat)) (inS out:SPat) (ns:List Nat) (pl:Nat→List Nat×Plan) (iv:Nat→Option SPat)
  (hf:P.funcs[f]? = some fn) (hb:fn.body=some c) (hrs:fn.results=rs.toArray) (hn:fn.ntmps=n) (hp:zBw T pl c=true) (hin:inOk n inS ns=true)
  (hc:∀(vs:Array Value) (w:World),(callFunc f vs).run P w = .ok (.enter f vs) w)
  (F:inS.Den→Option out.Den) (hF:∀x y,F x=some y→funT T tbl pl n iv c inS out x=some y):zIk P f (TEnt.W ⟨f,pure,ps,inS,out.Den,F,resF T rs n out ns⟩):=by
 rintro args ob K ⟨x,y,v,obs,h1,h2,h3,h4,h5⟩;simp only[inOk,zBa]at hin;obtain⟨⟨⟨⟨⟨hsl,hok⟩,hnd⟩,hge⟩,hns⟩,hle⟩:=hin;refine AC.le h1 h2 (ACb.call ?_ hc);obtain⟨z,hz⟩:=zPk (q:=zBC inS.ob) inS.al x hok
 have hnames:names (eOs (zUj inS x))=zCY inS.ob:=by
  rw[zNu];show zCz (mkO inS.ob (zNd inS.al (encP (zBU inS.al (zBC inS.ob)) x)))=_;rw[hz,zPy]
 refine ACb.of_code ns hT hf hb (by rw[hrs]) hn (by rw[hnames];exact zDT _ hnd) (by rw[hnames];exact zLg _ hge) (zDT _ hns) ?_
 have hlen:(eL (zLe inS x)).length≤n:=by
  rw[zAN];exact Nat.le_trans (zIR _ _) (zBY hle)
 have hst:st0 n (eL (zLe inS x)) (eOs (zUj inS x))=eS (encS n inS x):=by
  rw[st0_den hlen];simp only[eS,encS,zPb _ _ _ hsl,zLe,zUj]
 rw[hst];have hfun:=hF x y h3;unfold funT at hfun;refine zCC hT CallV.sound hm (zQh htbl) c _ _ _ _ y hp (fun e s hq=>?_) hfun
 have hres:∀{s},zId n out some s=some y→gK (fun st=>resK T rs st fun sv st2=>∃ext',zCR ns st2.ob=some ext'∧K sv ext') (eS s):=by
  intro s hq;refine zDY hq fun z hz=>?_
  simp only[zSe]at hz;subst hz;refine zUe (r:=(v,obs)) (fun v' s' hv=>?_) h4;split at hv
  ·rename_i obs' hsel;simp only[zSe,zPi]at hv;obtain⟨rfl,rfl⟩:=hv;exact⟨_,zWP _ _ _ hsel,h5⟩
  ·cases hv
 cases e with
 |normal=>exact hres hq
 |ret=>exact hres hq
 |exit id=>cases hq
end
def bodyOf (f:Func):Code:=match f.body with
 |some c=>c
 |none=>.skip
def noIv:Nat→Option SPat:=fun _=>none
def noPl:Nat→List Nat×Plan:=fun _=>([],.fin)
def tbT0:Nat→Option TEnt:=fun _=>none
def insT (f:Nat)(en:TEnt)(tbl:Nat→Option TEnt):Nat→Option TEnt:=fun n=>match n==f with
 |true=>some en
 |false=>tbl n
def TbOk.nil {P:Program}:TbOk P tbT0:=fun _ _ h=>by cases h
def TbOk.ins {P:Program}{f:Nat}{en:TEnt}{tbl:Nat→Option TEnt}(ht:TbOk P tbl)(h:zIk P en.fid en.W):TbOk P (insT f en tbl):=by
 intro n e' hn;unfold insT at hn;split at hn
 ·rename_i hq;simp only[zSe]at hn;subst hn;exact h
 ·exact ht n e' hn
end Go.TM
end
