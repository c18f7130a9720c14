/- Part 23 of the proof that the law FnFilePut holds of every input; no condition. -/
import Derived.Test.YtdpapeledldifaaGreatX21
set_option autoImplicit true
set_option relaxedAutoImplicit true
set_option linter.all false
section
namespace Go.TM
open Go.AM
section
variable {P:Program} {T:Nat→TI}
def zMI:Nat→List (Nat×Pat)→Bool
 | _,[]=>true
 | k,p :: l=>p.1 == k && zMI (k+1) l
theorem zOl:∀ (al:List (Nat×Pat)) (k:Nat) (vs:List V),zMI k al=true→eA (mkA al vs)=idx k (eL (zQp al vs))
 | [],k,vs,_=>rfl
 | p :: l,k,[],_=>rfl
 | p :: l,k,v :: vs,h=>by
   simp only [zMI,Bool.and_eq_true,beq_iff_eq] at h
   simp only [mkA,zQp,eA,eL,idx,zOl l (k+1) vs h.2,h.1]
theorem zGf:∀ (al:List (Nat×Pat)) (vs:List V),(zQp al vs).length≤al.length
 | [],vs=>Nat.le_refl _
 | p :: l,[]=>Nat.zero_le _
 | p :: l,v :: vs=>by have:=zGf l vs;simp only [zQp,List.length_cons];omega
theorem zOu {q:Pat}:∀ (l:List (Nat×Pat)) (x:(zBI l q).Den),okA l=true→∃ y:q.Den,zMO l (encP (zBI l q) x)=encP q y
 | [],x,_=>⟨x,rfl⟩
 | p :: l,x,ho=>by
   simp only [okA,Bool.and_eq_true] at ho
   simp only [zBI,encP]
   generalize hx:fstD p.2.cst (zBI l q).cst p.2.dflt x=x1
   generalize hy:sndD p.2.cst (zBI l q).cst (zBI l q).dflt x=y1
   obtain ⟨v,hv⟩:=zQw p.2 (fun q q' hq=>by rw [hq] at ho;cases ho.1) (fun hq=>by rw [hq] at ho;cases ho.1) x1
   rw [hv]
   exact zOu l y1 ho.2
theorem toO_name (o:OPat) (v:V):(toO o v).name=o.name:=by
 cases o with
 | opn n t d p =>
   unfold toO
   simp only
   split <;> rfl
 | _=>cases v <;> rfl
theorem zPF:∀ (l:List OPat) (x:(zAu l).Den),zCB (mkO l (encP (zAu l) x))=zCC l
 | [],x=>rfl
 | o :: l,x=>by
   simp only [zAu,encP]
   generalize hx:fstD o.pat.cst (zAu l).cst o.pat.dflt x=x1
   generalize hy:sndD o.pat.cst (zAu l).cst (zAu l).dflt x=y1
   obtain ⟨v,hv⟩:=zSs .nop rfl o x1
   rw [hv]
   simp only [List.cons_append,List.nil_append,mkO,zCB,zCC,toO_name,zPF l y1]
def inOk (n:Nat) (inS:SPat) (ns:List Nat):Bool :=
 zMI 0 inS.al && okA inS.al && zFe (zCC inS.ob) && allGe (zCC inS.ob) && zFe ns && ble inS.al.length n
theorem zUR {tbl:Nat→Option TEnt} (htbl:TbOk P tbl) (hT:LayOk P T) (hm:P.follows .mixedOrders=true)
  {f:FuncId} {fn:Func} {c:Code} {rs:List ResultVar} {n:Nat} (pure:Bool) (ps:List (Nat×List Nat)) (inS out:SPat) (ns:List Nat) (pl:Nat→List Nat×Plan) (iv:Nat→Option SPat)
  (hf:P.funcs[f]? = some fn) (hb:fn.body=some c) (hrs:fn.results=rs.toArray) (hn:fn.ntmps=n) (hp:zBW T pl c=true) (hin:inOk n inS ns=true)
  (hc:∀ (vs:Array Value) (w:World),(callFunc f vs).run P w = .ok (.enter f vs) w)
  (F:inS.Den→Option out.Den) (hF:∀ x y,F x=some y→funT T tbl pl n iv c inS out x=some y):zGt P f (TEnt.W ⟨f,pure,ps,inS,out.Den,F,resF T rs n out ns⟩):=by
 rintro args ob K ⟨x,y,v,obs,h1,h2,h3,h4,h5⟩
 simp only [inOk,Bool.and_eq_true] at hin
 obtain ⟨⟨⟨⟨⟨hsl,hok⟩,hnd⟩,hge⟩,hns⟩,hle⟩:=hin
 refine AC.le h1 h2 (ACb.call ?_ hc)
 obtain ⟨z,hz⟩:=zOu (q:=zAu inS.ob) inS.al x hok
 have hnames:names (eOs (zSk inS x))=zCC inS.ob:=by
  rw [zMd]
  show zCB (mkO inS.ob (zMO inS.al (encP (zBI inS.al (zAu inS.ob)) x)))=_
  rw [hz,zPF]
 refine ACb.of_code ns hT hf hb (by rw [hrs]) hn (by rw [hnames];exact zCk _ hnd) (by rw [hnames];exact zJP _ hge) (zCk _ hns) ?_
 have hlen:(eL (zJN inS x)).length≤n:=by
  rw [zAN]
  exact Nat.le_trans (zGf _ _) (zBN hle)
 have hst:st0 n (eL (zJN inS x)) (eOs (zSk inS x))=eS (encS n inS x):=by
  rw [st0_den hlen]
  simp only [eS,encS,zOl _ _ _ hsl,zJN,zSk]
 rw [hst]
 have hfun:=hF x y h3
 unfold funT at hfun
 refine zBc hT CallV.sound hm (zPp htbl) c _ _ _ _ y hp (fun e s hq=>?_) hfun
 have hres:∀ {s},zGn n out some s=some y→gK (fun st=>resK T rs st fun sv st2=>∃ ext',zBp ns st2.ob=some ext'∧K sv ext') (eS s):=by
  intro s hq
  refine zCr hq fun z hz=>?_
  simp only [Option.some.injEq] at hz
  subst hz
  refine zSZ (r:=(v,obs)) (fun v' s' hv=>?_) h4
  split at hv
  ·rename_i obs' hsel
   simp only [Option.some.injEq,Prod.mk.injEq] at hv
   obtain ⟨rfl,rfl⟩:=hv
   exact ⟨_,zTZ _ _ _ hsel,h5⟩
  ·cases hv
 cases e with
 | normal=>exact hres hq
 | ret=>exact hres hq
 | exit id=>cases hq
end
def zAD (f:Func):Code:=match f.body with
 | some c=>c
 | none=>.skip
def noIv:Nat→Option SPat:=fun _=>none
def noPl:Nat→List Nat×Plan:=fun _=>([],.fin)
def tbT0:Nat→Option TEnt:=fun _=>none
def insT (f:Nat) (en:TEnt) (tbl:Nat→Option TEnt):Nat→Option TEnt:=fun n=>match n == f with
 | true=>some en
 | false=>tbl n
theorem TbOk.nil {P:Program}:TbOk P tbT0:=fun _ _ h=>by cases h
theorem TbOk.ins {P:Program} {f:Nat} {en:TEnt} {tbl:Nat→Option TEnt} (ht:TbOk P tbl) (h:zGt P en.fid en.W):TbOk P (insT f en tbl):=by
 intro n e' hn
 unfold insT at hn
 split at hn
 ·rename_i hq
  simp only [Option.some.injEq] at hn
  subst hn
  exact h
 ·exact ht n e' hn
end Go.TM
end
