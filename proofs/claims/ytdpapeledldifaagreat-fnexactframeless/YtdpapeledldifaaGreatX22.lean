/- Part 23 of the proof that the law FnExactFrameLess holds of every input; no condition. -/
import Derived.Test.YtdpapeledldifaaGreatX21
set_option autoImplicit true
set_option relaxedAutoImplicit true
set_option linter.all false
section
namespace Go.TM
open Go.AM
section
variable {P:Program}{T:Nat→TI}
def zMC:Nat→List (Nat×Pat)→Bool
 |_,[]=>true
 |k,p::l=>p.1==k&&zMC (k+1) l
theorem zPH:∀(al:List (Nat×Pat)) (k:Nat) (vs:List V),zMC k al=true→eA (mkA al vs)=idx k (eL (zQt al vs))
 |[],k,vs,_=>rfl
 |p::l,k,[],_=>rfl
 | p::l,k,v::vs,h=>by
   simp only[zMC,Bool.and_eq_true,beq_iff_eq]at h
   simp only[mkA,zQt,eA,eL,idx,zPH l (k+1) vs h.2,h.1]
theorem zHD:∀(al:List (Nat×Pat)) (vs:List V),(zQt al vs).length≤al.length
 |[],vs=>Nat.le_refl _
 |p::l,[]=>Nat.zero_le _
 |p::l,v::vs=>by have:=zHD l vs;simp only[zQt,List.length_cons];omega
theorem zPP {q:Pat}:∀(l:List (Nat×Pat)) (x:(zBS l q).Den),okA l=true→∃y:q.Den,zMH l (encP (zBS l q) x)=encP q y
 |[],x,_=>⟨x,rfl⟩
 | p::l,x,ho=>by
   simp only[okA,Bool.and_eq_true]at ho
   simp only[zBS,encP]
   generalize hx:fstD p.2.cst (zBS l q).cst p.2.dflt x=x1
   generalize hy:sndD p.2.cst (zBS l q).cst (zBS l q).dflt x=y1
   obtain⟨v,hv⟩:=zRB p.2 (fun q q' hq=>by rw[hq]at ho;cases ho.1) (fun hq=>by rw[hq]at ho;cases ho.1) x1
   rw[hv]
   exact zPP l y1 ho.2
theorem toO_name (o:OPat)(v:V):(toO o v).name=o.name:=by
 cases o with
 | opn n t d p =>
   unfold toO
   simp only
   split<;>rfl
 | spl n t =>
   unfold toO
   simp only
   split<;>rfl
 |_=>cases v<;>rfl
theorem zPc:∀(l:List OPat) (x:(zAy l).Den),zCU (mkO l (encP (zAy l) x))=zCL l
 |[],x=>rfl
 | o::l,x=>by
   simp only[zAy,encP]
   generalize hx:fstD o.pat.cst (zAy l).cst o.pat.dflt x=x1
   generalize hy:sndD o.pat.cst (zAy l).cst (zAy l).dflt x=y1
   obtain⟨v,hv⟩:=zTL .nop rfl o x1
   rw[hv]
   simp only[List.cons_append,List.nil_append,mkO,zCU,zCL,toO_name,zPc l y1]
def inOk (n:Nat)(inS:SPat)(ns:List Nat):Bool :=
 zMC 0 inS.al&&okA inS.al&&zFz (zCL inS.ob)&&allGe (zCL inS.ob)&&zFz ns&&ble inS.al.length n
theorem zUe {tbl:Nat→Option TEnt}(htbl:TbOk P tbl)(hT:LayOk P T)(hm:P.follows .mixedOrders=true)
  {f:FuncId} {fn:Func} {c:Code} {rs:List ResultVar} {n:Nat} (pure:Bool) (ps:List (Nat×List Nat)) (inS out:SPat) (ns:List Nat) (pl:Nat→List Nat×Plan) (iv:Nat→Option SPat)
  (hf:P.funcs[f]? = some fn) (hb:fn.body=some c) (hrs:fn.results=rs.toArray) (hn:fn.ntmps=n) (hp:zBj T pl c=true) (hin:inOk n inS ns=true)
  (hc:∀(vs:Array Value) (w:World),(callFunc f vs).run P w = .ok (.enter f vs) w)
  (F:inS.Den→Option out.Den) (hF:∀x y,F x=some y→funT T tbl pl n iv c inS out x=some y):zHY P f (TEnt.W ⟨f,pure,ps,inS,out.Den,F,resF T rs n out ns⟩):=by
 rintro args ob K ⟨x,y,v,obs,h1,h2,h3,h4,h5⟩
 simp only[inOk,Bool.and_eq_true]at hin
 obtain⟨⟨⟨⟨⟨hsl,hok⟩,hnd⟩,hge⟩,hns⟩,hle⟩:=hin
 refine AC.le h1 h2 (ACb.call ?_ hc)
 obtain⟨z,hz⟩:=zPP (q:=zAy inS.ob) inS.al x hok
 have hnames:names (eOs (zTD inS x))=zCL inS.ob:=by
  rw[zMW]
  show zCU (mkO inS.ob (zMH inS.al (encP (zBS inS.al (zAy inS.ob)) x)))=_
  rw[hz,zPc]
 refine ACb.of_code ns hT hf hb (by rw[hrs]) hn (by rw[hnames];exact zDC _ hnd) (by rw[hnames];exact zJl _ hge) (zDC _ hns) ?_
 have hlen:(eL (zJj inS x)).length≤n:=by
  rw[zAO]
  exact Nat.le_trans (zHD _ _) (zBU hle)
 have hst:st0 n (eL (zJj inS x)) (eOs (zTD inS x))=eS (encS n inS x):=by
  rw[st0_den hlen]
  simp only[eS,encS,zPH _ _ _ hsl,zJj,zTD]
 rw[hst]
 have hfun:=hF x y h3
 unfold funT at hfun
 refine zBr hT CallV.sound hm (zQJ htbl) c _ _ _ _ y hp (fun e s hq=>?_) hfun
 have hres:∀{s},zHQ n out some s=some y→gK (fun st=>resK T rs st fun sv st2=>∃ext',zCE ns st2.ob=some ext'∧K sv ext') (eS s):=by
  intro s hq
  refine zDH hq fun z hz=>?_
  simp only[Option.some.injEq]at hz
  subst hz
  refine zSy (r:=(v,obs)) (fun v' s' hv=>?_) h4
  split at hv
  ·rename_i obs' hsel
   simp only[Option.some.injEq,Prod.mk.injEq]at hv
   obtain⟨rfl,rfl⟩:=hv
   exact⟨_,zTn _ _ _ hsel,h5⟩
  ·cases hv
 cases e with
 |normal=>exact hres hq
 |ret=>exact hres hq
 |exit id=>cases hq
end
def bodyOf (f:Func):Code:=match f.body with
 |some c=>c
 |none=>.skip
def noIv:Nat→Option SPat:=fun _=>none
def noPl:Nat→List Nat×Plan:=fun _=>([],.fin)
def tbT0:Nat→Option TEnt:=fun _=>none
def insT (f:Nat)(en:TEnt)(tbl:Nat→Option TEnt):Nat→Option TEnt:=fun n=>match n==f with
 |true=>some en
 |false=>tbl n
theorem TbOk.nil {P:Program}:TbOk P tbT0:=fun _ _ h=>by cases h
theorem TbOk.ins {P:Program}{f:Nat}{en:TEnt}{tbl:Nat→Option TEnt}(ht:TbOk P tbl)(h:zHY P en.fid en.W):TbOk P (insT f en tbl):=by
 intro n e' hn
 unfold insT at hn
 split at hn
 ·rename_i hq
  simp only[Option.some.injEq]at hn
  subst hn
  exact h
 ·exact ht n e' hn
end Go.TM
end
