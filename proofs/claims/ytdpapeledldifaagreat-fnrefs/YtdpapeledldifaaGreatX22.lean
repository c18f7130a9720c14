/- Part 23 of the proof that the law FnRefs holds of every input; no condition. -/
import Derived.Test.YtdpapeledldifaaGreatX21
set_option autoImplicit true
set_option relaxedAutoImplicit true
set_option linter.all false
section
namespace Go.TM
open Go.AM
section
variable {P:Program}{T:Nat→TI}
def zMJ:Nat→List (Nat×Pat)→Bool
 |_,[]=>true
 |k,p::l=>p.1==k&&zMJ (k+1) l
theorem zOJ:∀(al:List (Nat×Pat)) (k:Nat) (vs:List V),zMJ k al=true→eA (mkA al vs)=idx k (eL (zQb al vs))
 |[],k,vs,_=>rfl
 |p::l,k,[],_=>rfl
 | p::l,k,v::vs,h=>by
   simp only[zMJ,zBa,beq_iff_eq]at h
   simp only[mkA,zQb,eA,eL,idx,zOJ l (k+1) vs h.2,h.1]
theorem zHq:∀(al:List (Nat×Pat)) (vs:List V),(zQb al vs).length≤al.length
 |[],vs=>Nat.le_refl _
 |p::l,[]=>Nat.zero_le _
 |p::l,v::vs=>by have:=zHq l vs;simp only[zQb,List.length_cons];omega
theorem zOR {q:Pat}:∀(l:List (Nat×Pat)) (x:(zBP l q).Den),okA l=true→∃y:q.Den,zMP l (encP (zBP l q) x)=encP q y
 |[],x,_=>⟨x,rfl⟩
 | p::l,x,ho=>by
   simp only[okA,zBa]at ho
   simp only[zBP,encP]
   generalize hx:fstD p.2.cst (zBP l q).cst p.2.dflt x=x1
   generalize hy:sndD p.2.cst (zBP l q).cst (zBP l q).dflt x=y1
   obtain⟨v,hv⟩:=zQi p.2 (fun q q' hq=>by rw[hq]at ho;cases ho.1) (fun hq=>by rw[hq]at ho;cases ho.1) x1
   rw[hv]
   exact zOR l y1 ho.2
theorem toO_name (o:OPat)(v:V):(toO o v).name=o.name:=by
 cases o with
 | opn n t d p =>
   unfold toO
   simp only
   split<;>rfl
 | spl n t =>
   unfold toO
   simp only
   split<;>rfl
 |_=>cases v<;>rfl
theorem zOf:∀(l:List OPat) (x:(zAw l).Den),zCn (mkO l (encP (zAw l) x))=zCN l
 |[],x=>rfl
 | o::l,x=>by
   simp only[zAw,encP]
   generalize hx:fstD o.pat.cst (zAw l).cst o.pat.dflt x=x1
   generalize hy:sndD o.pat.cst (zAw l).cst (zAw l).dflt x=y1
   obtain⟨v,hv⟩:=zTS .nop rfl o x1
   rw[hv]
   simp only[List.cons_append,List.nil_append,mkO,zCn,zCN,toO_name,zOf l y1]
def inOk (n:Nat)(inS:SPat)(ns:List Nat):Bool :=
 zMJ 0 inS.al&&okA inS.al&&zGh (zCN inS.ob)&&allGe (zCN inS.ob)&&zGh ns&&ble inS.al.length n
theorem zVi {tbl:Nat→Option TEnt}(htbl:TbOk P tbl)(hT:LayOk P T)(hm:P.follows .mixedOrders=true)
  {f:FuncId} {fn:Func} {c:Code} {rs:List ResultVar} {n:Nat} (pure:Bool) (ps:List (Nat×List Nat)) (inS out:SPat) (ns:List Nat) (pl:Nat→List Nat×Plan) (iv:Nat→Option SPat)
  (hf:P.funcs[f]? = some fn) (hb:fn.body=some c) (hrs:fn.results=rs.toArray) (hn:fn.ntmps=n) (hp:zBm T pl c=true) (hin:inOk n inS ns=true)
  (hc:∀(vs:Array Value) (w:World),(callFunc f vs).run P w = .ok (.enter f vs) w)
  (F:inS.Den→Option out.Den) (hF:∀x y,F x=some y→funT T tbl pl n iv c inS out x=some y):zHG P f (TEnt.W ⟨f,pure,ps,inS,out.Den,F,resF T rs n out ns⟩):=by
 rintro args ob K ⟨x,y,v,obs,h1,h2,h3,h4,h5⟩
 simp only[inOk,zBa]at hin
 obtain⟨⟨⟨⟨⟨hsl,hok⟩,hnd⟩,hge⟩,hns⟩,hle⟩:=hin
 refine AC.le h1 h2 (ACb.call ?_ hc)
 obtain⟨z,hz⟩:=zOR (q:=zAw inS.ob) inS.al x hok
 have hnames:names (eOs (zTK inS x))=zCN inS.ob:=by
  rw[zMg]
  show zCn (mkO inS.ob (zMP inS.al (encP (zBP inS.al (zAw inS.ob)) x)))=_
  rw[hz,zOf]
 refine ACb.of_code ns hT hf hb (by rw[hrs]) hn (by rw[hnames];exact zDI _ hnd) (by rw[hnames];exact zKn _ hge) (zDI _ hns) ?_
 have hlen:(eL (zKl inS x)).length≤n:=by
  rw[zAO]
  exact Nat.le_trans (zHq _ _) (zBS hle)
 have hst:st0 n (eL (zKl inS x)) (eOs (zTK inS x))=eS (encS n inS x):=by
  rw[st0_den hlen]
  simp only[eS,encS,zOJ _ _ _ hsl,zKl,zTK]
 rw[hst]
 have hfun:=hF x y h3
 unfold funT at hfun
 refine zBr hT CallV.sound hm (zPP htbl) c _ _ _ _ y hp (fun e s hq=>?_) hfun
 have hres:∀{s},zID n out some s=some y→gK (fun st=>resK T rs st fun sv st2=>∃ext',zCH ns st2.ob=some ext'∧K sv ext') (eS s):=by
  intro s hq
  refine zDO hq fun z hz=>?_
  simp only[zSe]at hz
  subst hz
  refine zTF (r:=(v,obs)) (fun v' s' hv=>?_) h4
  split at hv
  ·rename_i obs' hsel
   simp only[zSe,Prod.mk.injEq]at hv
   obtain⟨rfl,rfl⟩:=hv
   exact⟨_,zUb _ _ _ hsel,h5⟩
  ·cases hv
 cases e with
 |normal=>exact hres hq
 |ret=>exact hres hq
 |exit id=>cases hq
end
def bodyOf (f:Func):Code:=match f.body with
 |some c=>c
 |none=>.skip
def noIv:Nat→Option SPat:=fun _=>none
def noPl:Nat→List Nat×Plan:=fun _=>([],.fin)
def tbT0:Nat→Option TEnt:=fun _=>none
def insT (f:Nat)(en:TEnt)(tbl:Nat→Option TEnt):Nat→Option TEnt:=fun n=>match n==f with
 |true=>some en
 |false=>tbl n
theorem TbOk.nil {P:Program}:TbOk P tbT0:=fun _ _ h=>by cases h
theorem TbOk.ins {P:Program}{f:Nat}{en:TEnt}{tbl:Nat→Option TEnt}(ht:TbOk P tbl)(h:zHG P en.fid en.W):TbOk P (insT f en tbl):=by
 intro n e' hn
 unfold insT at hn
 split at hn
 ·rename_i hq
  simp only[zSe]at hn
  subst hn
  exact h
 ·exact ht n e' hn
end Go.TM
end
