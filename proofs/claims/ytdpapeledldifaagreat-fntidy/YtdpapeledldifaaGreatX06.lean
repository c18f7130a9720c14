/- Part 7 of the proof of FnTidy; no condition. -/
import Derived.Test.YtdpapeledldifaaGreatX05
import Derived.Orders
set_option autoImplicit true
set_option relaxedAutoImplicit true
set_option linter.all false
section
namespace Go.AM
inductive Plan
 |fin
 |br (e:Nat) (pr rc fs:List Nat) (sub alt:Plan)
def preds (ops:Array Oper)(i:Nat):List Nat:=match ops[i]? with
 |some o=>(o.after.toList.filter (Region.binds .any ·)).map (·.on)
 |none=>[]
def flI (T:Nat→TI)(ops:Array Oper)(i:Nat):Bool:=match ops[i]? with
 |some o=>zDk T o.op
 |none=>false
def dstI (ops:Array Oper)(i:Nat):Option Tmp:=(ops[i]?).bind (·.dst)
def zDW (ops:Array Oper)(i:Nat)(d:Option Tmp):Bool:=match ops[i]?,d with
 | some o,some t=>(o.op.operands.toList.any fun x=>match x with|.tmp u=>u==t|_=>false)||(match o.guard with
   |some (j,_)=>dstI ops j==some t
   |none=>false)
 |_,_=>false
def clash (ops:Array Oper)(i j:Nat):Bool:=zDW ops j (dstI ops i)||((dstI ops i).isSome&&dstI ops i==dstI ops j)
def alts:Plan→List Nat
 |.fin=>[]
 |.br e _ _ _ _ alt=>e::alts alt
def fsOk (T:Nat→TI)(ops:Array Oper):List Nat→List Nat→Bool
 |_,[]=>true
 |done,i::l=>flI T ops i&&!done.contains i&&!zDW ops i (dstI ops i)&&(done.all fun k=>!flI T ops k||!clash ops i k)&&fsOk T ops (i::done) l
def rcOk (ops:Array Oper):List Nat→Bool
 |[]=>true
 |j::l=>!zDW ops j (dstI ops j)&&(l.all fun k=>!clash ops k j)&&rcOk ops l
def zOX (ops:Array Oper):List Nat→List Nat→Bool
 |_,[]=>true
 |seen,j::l=>(seen.any fun i=>(preds ops i).contains j)&&zOX ops (j::seen) l
def brOk (T:Nat→TI)(ops:Array Oper)(done:List Nat)(e:Nat)(pr rc fs:List Nat):Bool :=
 !flI T ops e&&decide (e<ops.size)&&!done.contains e&&zOX ops [e] pr&&(done.all fun j=>!flI T ops j||pr.contains j||rc.contains j) &&
 (rc.all fun j=>done.contains j&&flI T ops j&&!clash ops e j)&&rcOk ops rc&&fsOk T ops (e::done) fs
def zUT (T:Nat→TI)(ops:Array Oper)(done:List Nat)(p:Plan):Bool :=
 ((List.range ops.size).all fun i=>done.contains i||!((preds ops i).all done.contains)||(!flI T ops i&&(alts p).contains i)) &&
 (match p with|.fin=>(List.range ops.size).all done.contains|_=>true)
def okBr (T:Nat→TI)(ops:Array Oper):List Nat→Plan→Bool
 |_,.fin=>true
 |done,.br e pr rc fs sub alt=>brOk T ops done e pr rc fs&&zUT T ops (fs.reverse++e::done) sub&&okBr T ops (fs.reverse++e::done) sub&&okBr T ops done alt
def zTi (T:Nat→TI)(ops:Array Oper):Bool :=
 Region.noSelect ops&&((List.range ops.size).all fun i=>(preds ops i).all fun j=>decide (j<i)) &&
 ((List.range ops.size).all fun k=>!flI T ops k||(List.range ops.size).all fun j=>!zDW ops j (dstI ops k)||(preds ops j).contains k)
def zWd (T:Nat→TI)(ops:Array Oper)(fs0:List Nat)(p:Plan):Bool :=
 zTi T ops&&fsOk T ops [] fs0&&zUT T ops fs0.reverse p&&okBr T ops fs0.reverse p
def gstep (T:Nat→TI)(C:zAx)(ops:Array Oper)(o:Oper)(K:St→Prop)(st:St):Prop:=zEa ops o st (stepF T C o K) (kSk o.dst K)
def flK (T:Nat→TI)(C:zAx)(ops:Array Oper):List Nat→(St→Prop)→St→Prop
 |[],K,st=>K st
 | i::l,K,st=>match ops[i]? with
   |some o=>gstep T C ops o (flK T C ops l K) st
   |none=>False
def isSk:SV→Bool
 |.sk=>true
 |_=>false
def skOk (d:Option Tmp)(st:St):Prop:=match d with
 |some t=>chk (isSk (lkp st.env t)) True
 |none=>True
def reKF (T:Nat→TI)(C:zAx)(o:Oper)(st:St):Prop:=reK T C o st
def rcK (T:Nat→TI)(C:zAx)(ops:Array Oper):List Nat→St→Prop
 |[],_=>True
 | i::l,st=>(match ops[i]? with
   |some o=>zEa ops o st (reKF T C o) (skOk o.dst)
   |none=>False)∧rcK T C ops l st
def rfK (T:Nat→TI)(C:zAx)(ops:Array Oper)(rc fs:List Nat)(K:St→Prop)(st1:St):Prop:=rcK T C ops rc st1∧flK T C ops fs K st1
def planK (T:Nat→TI)(C:zAx)(ops:Array Oper)(K:St→Prop):Plan→St→Prop
 |.fin,st=>K st
 | .br e _ rc fs sub alt,st=>(match ops[e]? with
   |some o=>gstep T C ops o (rfK T C ops rc fs (planK T C ops K sub)) st
   |none=>False)∧(match alt with|.fin=>True|alt=>planK T C ops K alt st)
section
variable {P:Program}{T:Nat→TI}{C:zAx}{w0 w w':World}{L:Lv}{st st1:St}{a b:Act}{G G':Gh}{ops:Array Oper}{K:St→Prop}{Q:Exit→Act→World→Prop}
def zHV {o:Oper}{i:Nat}(ho:ops[i]? = some o):dstI ops i=o.dst:=by simp[dstI,ho]
def zDU {o:Oper}{i:Nat}(ho:ops[i]? = some o)(hs:Region.noSelect ops=true)(h:∀ t,zDW ops i (some t)=true→a.tmps[t]? = b.tmps[t]?):execOp a.eval o=execOp b.eval o :=
 execOp_congr o (fun cs q=>Region.noSelect_spec hs i o cs q ho) fun x hx=>by
  cases x with
  | tmp t=>
    have:=h t (by simp only[zDW,ho,Bool.or_eq_true];exact .inl (List.any_eq_true.2 ⟨.tmp t,by simpa using hx,by simp⟩));simp only[Act.eval,Array.getD_eq_getD_getElem?,this]
  |_=>rfl
def zDa {d:Option Tmp}{v:Value}{t:Nat}(h:d≠some t):(a.put d v).tmps[t]? = a.tmps[t]?:=by
 cases d with
 |none=>rfl
 |some d=>simp only[Act.put];exact Array.getElem?_setIfInBounds_ne (fun e=>h (by rw[e]))
def zCT {d:Option Tmp}{v:Value}:(a.put d v).tmps.size=a.tmps.size:=by cases d<;>simp[Act.put]
def zFZ {d:Option Tmp}{v:Value}(h:a.tmps.size=b.tmps.size){t:Nat}(hd:d=some t):(a.put d v).tmps[t]? = (b.put d v).tmps[t]?:=by
 subst hd;simp only[Act.put,Array.getElem?_setIfInBounds,h]
 by_cases ht:t<b.tmps.size
 ·simp[ht]
 ·have h1:a.tmps[t]? = none:=Array.getElem?_eq_none (by omega);have h2:b.tmps[t]? = none:=Array.getElem?_eq_none (by omega);simp[ht]
def zBl {o:Oper}{i:Nat}(ho:ops[i]? = some o)(h:∀ t,zDW ops i (some t)=true→a.tmps[t]? = b.tmps[t]?):Region.wanted o (yielded ops a.tmps)=Region.wanted o (yielded ops b.tmps):=by
 unfold Region.wanted;cases hg:o.guard with
 |none=>rfl
 | some q=>
   obtain⟨j,w⟩:=q;simp only
   have:yielded ops a.tmps j=yielded ops b.tmps j:=by
    unfold yielded;cases hd:(ops[j]?).bind (·.dst)with
    |none=>rfl
    | some t=>
      simp only[zOb]
      rw[h t (by simp only[zDW,ho,hg,Bool.or_eq_true];right;simp[dstI,hd])]
   rw[this]
def Pend (P:Program)(ops:Array Oper)(b:Act)(w:World)(i:Nat):Prop:=∃o v,ops[i]? = some o∧(Region.wanted o (yielded ops b.tmps)=true∧(execOp b.eval o).run P w = .ok (.value v) w∨Region.wanted o (yielded ops b.tmps)=false∧v=undef) ∧
 ∀t,o.dst=some t→t<b.tmps.size→b.tmps[t]? = some v
structure Sim (P:Program)(T:Nat→TI)(w0:World)(L:Lv)(ds:List Deferred)(ops:Array Oper)(A:Array Bool)(done:List Nat)(st:St)(a b:Act)(w:World):Prop where
 sr:∃G,SR w0 L st b.tmps w G
 db:b.defers=ds
 da:a.defers=ds
 size:a.tmps.size=b.tmps.size
 same:∀t,(∀i∈done,flI T ops i=true→A.getD i false=false→dstI ops i≠some t)→a.tmps[t]? = b.tmps[t]?
 pend:∀i∈done,flI T ops i=true→A.getD i false=false→Pend P ops b w i
 asize:A.size=ops.size
 sub:∀i,A.getD i false=true→i∈done
 eff:∀i∈done,flI T ops i=false→A.getD i false=true
 clo:∀i,A.getD i false=true→∀j∈preds ops i,A.getD j false=true
def Pend.put {i:Nat}{d:Option Tmp}{v:Value}(hs:Region.noSelect ops=true)(h:Pend P ops b w i)(hu:zDW ops i d=false)(hd:∀ t,d=some t→dstI ops i≠some t):Pend P ops (b.put d v) w i:=by
 obtain⟨o,u,ho,hr,hv⟩:=h;have hcg:∀t,zDW ops i (some t)=true→(b.put d v).tmps[t]? = b.tmps[t]?:=fun t ht=>zDa (fun e=>by rw[e,ht]at hu;cases hu)
 refine⟨o,u,ho,?_,fun t ht hlt=>?_⟩
 ·rw[zBl (a:=b.put d v) (b:=b) ho hcg,zDU (a:=b.put d v) (b:=b) ho hs hcg];exact hr
 ·rw[zDa (fun e=>hd t e (by rw[zHV ho];exact ht))];exact hv t ht (by rw[zCT]at hlt;exact hlt)
def SR.sk (h:SR w0 L st b.tmps w G)(d:Option Tmp):SR w0 L (setD st d .sk) (b.put d undef).tmps w G:=by
 obtain⟨fE,fO,hc⟩:=h;obtain⟨fE1,h1⟩:=hc.putD (fX':=zf) (sv:=.sk) (v:=undef) (fV:=zf) (by simp[R]) (fun j=>by simp[zf]) d b rfl;exact⟨fE1,fO,h1⟩
end
end Go.AM
end
section
namespace Go.AM
section
variable {P:Program}{T:Nat→TI}{C:zAx}{w0 w w':World}{L:Lv}{st st1:St}{a b:Act}{G G':Gh}{ops:Array Oper}{K:St→Prop}{Q:Exit→Act→World→Prop}{ds:List Deferred}
end
end Go.AM
end
section
namespace Go.AM
section
variable {P:Program}{T:Nat→TI}{C:zAx}{w0 w w':World}{L:Lv}{st st1:St}{a:Act}{G G':Gh}{Q Q':AQ}{K K':St→Prop}{ds:List Deferred}{pl:Nat→List Nat×Plan}
end
end Go.AM
end
section
namespace Go.AM
def allGe:List Nat→Bool
 |[]=>true
 |n::l=>decide (100000≤n)&&allGe l
section
variable {P:Program}{T:Nat→TI}{C:zAx}{pl:Nat→List Nat×Plan}
def zLg:∀l:List Nat,allGe l=true→∀n∈l,100000≤n
 |[],_,n,hn=>by simp at hn
 | x::l,h,n,hn=>by
   simp only[allGe,zBa,zDe]at h;rcases List.mem_cons.1 hn with rfl|hn
   ·exact h.1
   ·exact zLg l h.2 n hn
def ACb.call {f:FuncId}{args:List SV}{ext:List Ob}{Post:SV→List Ob→Prop}(h:ACb P f args ext Post)(hc:∀ (vs:Array Value) (w:World),(callFunc f vs).run P w = .ok (.enter f vs) w):AC P f args ext Post :=
 fun w G vs fO h1 h2 h3 h4=>.inl ⟨hc vs w,h w G vs fO h1 h2 h3 h4⟩
end
end Go.AM
end
namespace Go.AM
section
def look:List (Nat×SV)→Nat→SV
 |[],_=>.u
 |p::l,t=>bif p.1==t then p.2 else look l t
def den (n:Nat)(al:List (Nat×SV)):List SV:=(List.range n).map (look al)
def zUo (o:Nat):List (Nat×SV)→List (Nat×SV)
 |[]=>[]
 |p::l=>(p.1,kill o p.2)::zUo o l
def zKw (o:Nat)(y:SV):List (Nat×SV)→List (Nat×SV)
 |[]=>[]
 |p::l=>(p.1,subV o y p.2)::zKw o y l
def idx:Nat→List SV→List (Nat×SV)
 |_,[]=>[]
 |i,v::l=>(i,v)::idx (i+1) l
def wkA (al:List (Nat×SV)):List (Nat×SV)→Prop
 |[]=>True
 |p::l=>wk (look al p.1) p.2∧wkA al l
def zWy (f:Nat→SV):∀(l:List Nat) (t:Nat),lkp (l.map f) t=match l[t]? with|some k=>f k|none=>.u
 |[],t=>rfl
 |x::l,0=>rfl
 |x::l,t+1=>by simp only[zMc,lkp,zWy f l t,List.getElem?_cons_succ]
def lkp_den {n t:Nat}{al:List (Nat×SV)}(h:t<n):lkp (den n al) t=look al t:=by
 simp only[den,zWy,List.getElem?_range h]
def zVB (f:Nat→SV):∀(m k t:Nat) (v:SV),upd ((List.range' k m).map f) t v=(List.range' k m).map (fun i=>bif k+t==i then v else f i)
 |0,k,t,v=>rfl
 | m+1,k,0,v=>by
   simp only[List.range'_succ,zMc,upd,Nat.add_zero,beq_self_eq_true,cond_true,List.cons.injEq,true_and]
   apply List.map_congr_left;intro i hi;have:=List.mem_range'.1 hi;have:(k==i)=false:=by simp;omega
   rw[this];rfl
 | m+1,k,t+1,v=>by
   simp only[List.range'_succ,zMc,upd]
   rw[zVB f m (k+1) t v];have e:k+(t+1)=k+1+t:=by omega
   have:(k+1+t==k)=false:=by simp;omega
   rw[e,this];rfl
def upd_den {n t:Nat}{al:List (Nat×SV)}{v:SV}:upd (den n al) t v=den n ((t,v)::al):=by
 simp only[den,List.range_eq_range',zVB,Nat.zero_add]
 rfl
def zQG (o:Nat):∀(al:List (Nat×SV)) (t:Nat),kill o (look al t)=look (zUo o al) t
 |[],t=>rfl
 | p::l,t=>by
   simp only[look,zUo]
   cases p.1==t with
   |true=>rfl
   |false=>exact zQG o l t
def zQH (o:Nat)(f:Nat→SV):∀l:List Nat,zCF o (l.map f)=l.map fun i=>kill o (f i)
 |[]=>rfl
 |x::l=>by simp only[zMc,zCF,zQH o f l]
def zQI {n o:Nat}{al:List (Nat×SV)}:zCF o (den n al)=den n (zUo o al):=by
 simp only[den,zQH]
 exact List.map_congr_left fun i _=>zQG o al i
def zTB (o:Nat)(y:SV):∀(al:List (Nat×SV)) (t:Nat),subV o y (look al t)=look (zKw o y al) t
 |[],t=>rfl
 | p::l,t=>by
   simp only[look,zKw]
   cases p.1==t with
   |true=>rfl
   |false=>exact zTB o y l t
def zPT (o:Nat)(y:SV)(f:Nat→SV):∀l:List Nat,zKk o y (l.map f)=l.map fun i=>subV o y (f i)
 |[]=>rfl
 |x::l=>by simp only[zMc,zKk,zPT o y f l]
def zPU {n o:Nat}{y:SV}{al:List (Nat×SV)}:zKk o y (den n al)=den n (zKw o y al):=by
 simp only[den,zPT]
 exact List.map_congr_left fun i _=>zTB o y al i
def zTf:∀(l:List SV) (i t:Nat),look (idx i l) t=if i≤t then lkp l (t-i)else .u
 |[],i,t=>by simp[idx,look,lkp]
 | v::l,i,t=>by
   simp only[idx,look]
   by_cases h:i=t
   ·subst h;simp[lkp]
   ·have:(i==t)=false:=by simpa using h
    rw[this,cond_false,zTf l (i+1) t];by_cases h2:i+1≤t
    ·have e:t-i=(t-(i+1))+1:=by omega
     rw[if_pos h2,if_pos (by omega),e];rfl
    ·rw[if_neg h2,if_neg (by omega)]
def st0_den {n:Nat}{args:List SV}{ext:List Ob}(h:args.length≤n):st0 n args ext=⟨den n (idx 0 args),ext⟩:=by
 simp only[st0,St.mk.injEq,and_true]
 apply List.ext_getElem?;intro i;simp only[den,List.getElem?_map]
 by_cases hi:i<n
 ·rw[List.getElem?_range hi];simp only[Option.map_some,zTf,Nat.zero_le,if_true,Nat.sub_zero]
  by_cases h2:i<args.length
  ·rw[List.getElem?_append_left h2,zLL _ _ h2,zGe h2]
  ·rw[List.getElem?_append_right (by omega),List.getElem?_replicate,if_pos (by omega),zIL _ _ (by omega)]
 ·rw[List.getElem?_eq_none (by simp;omega),List.getElem?_eq_none (by simp;omega)];rfl
def zVA (f g:Nat→SV):∀l:List Nat,(∀t∈l,wk (f t) (g t))→wkL (l.map f) (l.map g)
 |[],_=>rfl
 | x::l,h=>by
   simp only[zMc,wkL]
   exact⟨h x (by simp),zVA f g l fun t ht=>h t (by simp[ht])⟩
def wk_u (x:SV):wk x .u:=by cases x<;>trivial
def zSN {al:List (Nat×SV)}:∀(al':List (Nat×SV)),wkA al al'→∀t,wk (look al t) (look al' t)
 |[],_,t=>wk_u _
 | p::l,h,t=>by
   obtain⟨h1,h2⟩:=h;simp only[look]
   by_cases hp:p.1=t
   ·subst hp;simp only[beq_self_eq_true,cond_true];exact h1
   ·have:(p.1==t)=false:=by simpa using hp
    rw[this,cond_false];exact zSN l h2 t
def wkL_den {n:Nat}{al al':List (Nat×SV)}(h:wkA al al'):wkL (den n al) (den n al'):=zVA _ _ _ fun t _=>zSN al' h t
end
end Go.AM
section
namespace Go.AM
def zOW (t j:Nat)(K:St→Prop)(st:St):Prop:=match lkp st.env t with
 | .agg cs=>match lkp cs j with
   | .ar o=>match zAZ (strip st (.tmp t)).ob o with
     | some y=>match y.nm with
       |false=>K (setE (killSt o (strip st (.tmp t))) t (.agg (upd (zCF o cs) j (.own y.k y.rows))))
       |true=>False
     |none=>False
   |_=>K st
 |_=>K st
def zUC (ob off:Nat)(K:St→Prop)(st:St):Prop:=match zAZ st.ob ob with
 | some x=>match x.rows[0]? with
   | some row=>match lkp row off with
     | .ar o=>match zAZ st.ob o with
       | some y=>chk (!y.nm&&x.nm&&ble (off+1) row.length) (match zAZ (killSt o st).ob ob with
         | some x1=>match x1.rows[0]? with
           |some row1=>chk (x1.nm&&ble (off+1) row1.length) (K (zAT (killSt o st) ob x1.rows 0 (wr row1 off [.own y.k y.rows])))
           |none=>False
         |none=>False)
       |none=>False
     |_=>K st
   |none=>K st
 |none=>K st
mutual
def brw (ob:List Ob):SV→SV
 |.own k rows=>.sl k (zBX rows)
 | .ar o=>match zAZ ob o with
   | some y=>match y.nm with
     |false=>.sl y.k (zBX y.rows)
     |true=>.u
   |none=>.u
 |.agg cs=>.agg (brwL ob cs)
 |.tup cs=>.tup (brwL ob cs)
 |.u=>.u
 |.sk=>.sk
 |.i k n=>.i k n
 |.b x=>.b x
 |.s x=>.s x
 |.sl k r=>.sl k r
 |.p n i off=>.p n i off
 |.ro c=>.ro c
 |.nilp=>.nilp
 |.nil=>.nil
 |.fn f caps=>.fn f caps
def brwL (ob:List Ob):List SV→List SV
 |[]=>[]
 |x::l=>brw ob x::brwL ob l
end
mutual
def zIi:SV→Bool
 |.i _ _=>true
 |.b _=>true
 |.s _=>true
 |.nil=>true
 |.own _ rows=>zLJ rows
 |.agg cs=>zDA cs
 |.tup cs=>zDA cs
 |_=>false
def zDA:List SV→Bool
 |[]=>true
 |x::l=>zIi x&&zDA l
def zLJ:List (List SV)→Bool
 |[]=>true
 |r::l=>zDA r&&zLJ l
end
mutual
def leqV:SV→SV→Prop→Prop
 |_,.u,K=>K
 |.i k n,.i k' n',K=>chk (decide (k=k')) (n=n'∧K)
 |.b x,.b y,K=>x=y∧K
 |.s x,.s y,K=>x=y∧K
 |.sl k r,.sl k' r',K=>chk (k==k') (r=r'∧K)
 |.own k r,.own k' r',K=>chk (k==k') (r=r'∧K)
 |.nil,.sl _ r,K=>r=[]∧K
 |.nil,.own _ r,K=>r=[]∧K
 |.ar a,.ar b,K=>chk (a==b) K
 |.p a b c,.p a' b' c',K=>chk (a==a'&&b==b'&&c==c') K
 |.agg xs,.agg ys,K=>leqL xs ys K
 |.tup xs,.tup ys,K=>leqL xs ys K
 |x,y,K=>x=y∧K
def leqL:List SV→List SV→Prop→Prop
 | [],ys,K=>match ys with
   |[]=>K
   |_=>False
 | x::xs,ys,K=>match ys with
   |[]=>False
   |y::ys=>leqV x y (leqL xs ys K)
end
def leqR:List (List SV)→List (List SV)→Prop→Prop
 | [],ys,K=>match ys with
   |[]=>K
   |_=>False
 | x::xs,ys,K=>match ys with
   |[]=>False
   |y::ys=>leqL x y (leqR xs ys K)
def leqO:List Ob→List Ob→Prop→Prop
 | [],ys,K=>match ys with
   |[]=>K
   |_=>False
 | x::xs,ys,K=>match ys with
   |[]=>False
   | y::ys=>chk (x.name==y.name&&x.k==y.k&&x.nm==y.nm) (match x.nm with
     |true=>leqR x.rows y.rows (leqO xs ys K)
     |false=>x.rows=y.rows∧leqO xs ys K)
def wk_u' (x:SV):wk x .u:=by cases x<;>trivial
mutual
def leqV_wk:∀(x y:SV) (K:Prop),leqV x y K→wk x y∧K
 | x,y,K,h=>by
   cases y with
   |u=>exact⟨wk_u' x,by cases x<;>exact h⟩
   | i k n=>cases x with
     |i k' n'=>obtain⟨h1,h2,h3⟩:=zAO h;have:=of_decide_eq_true h1;subst this;subst h2;exact⟨rfl,h3⟩
     |_=>exact absurd h.1 (by simp)
   | b z=>cases x with
     |b z'=>obtain⟨h2,h3⟩:=h;subst h2;exact⟨rfl,h3⟩
     |_=>exact absurd h.1 (by simp)
   | s z=>cases x with
     |s z'=>obtain⟨h2,h3⟩:=h;subst h2;exact⟨rfl,h3⟩
     |_=>exact absurd h.1 (by simp)
   | sl k r=>cases x with
     |sl k' r'=>obtain⟨h1,h2,h3⟩:=zAO h;have:=eq_of_beq h1;subst this;subst h2;exact⟨rfl,h3⟩
     |nil=>obtain⟨h2,h3⟩:=h;subst h2;exact⟨rfl,h3⟩
     |_=>exact absurd h.1 (by simp)
   | own k r=>cases x with
     |own k' r'=>obtain⟨h1,h2,h3⟩:=zAO h;have:=eq_of_beq h1;subst this;subst h2;exact⟨rfl,h3⟩
     |nil=>obtain⟨h2,h3⟩:=h;subst h2;exact⟨rfl,h3⟩
     |_=>exact absurd h.1 (by simp)
   | ar a=>cases x with
     |ar b=>obtain⟨h1,h3⟩:=zAO h;have:=eq_of_beq h1;subst this;exact⟨rfl,h3⟩
     |_=>exact absurd h.1 (by simp)
   | p a b c=>cases x with
     | p a' b' c' =>
       obtain⟨h1,h3⟩:=zAO h;simp only[zBa,beq_iff_eq]at h1;obtain⟨⟨rfl,rfl⟩,rfl⟩:=h1;exact⟨rfl,h3⟩
     |_=>exact absurd h.1 (by simp)
   | agg ys=>cases x with
     |agg xs=>exact zRj xs ys K h
     |_=>exact absurd h.1 (by simp)
   | tup ys=>cases x with
     |tup xs=>exact zRj xs ys K h
     |_=>exact absurd h.1 (by simp)
   |_=>cases x<;>first|exact⟨h.1,h.2⟩|exact absurd h.1 (by simp)
def zRj:∀(xs ys:List SV) (K:Prop),leqL xs ys K→wkL xs ys∧K
 |[],[],K,h=>⟨rfl,h⟩
 |[],_::_,K,h=>h.elim
 |x::xs,[],K,h=>h.elim
 | x::xs,y::ys,K,h=>by
   obtain⟨h1,h2⟩:=leqV_wk x y _ h;obtain⟨h3,h4⟩:=zRj xs ys K h2;exact⟨⟨h1,h3⟩,h4⟩
end
def AC.le {P:Program}{f:FuncId}{args args':List SV}{ext ext':List Ob}{Post:SV→List Ob→Prop}(ha:wkL args args')(ho:wkObs ext ext')(h:AC P f args' ext' Post):AC P f args ext Post:=by
 intro w G vs fO hs hr hO hown;obtain⟨f1,hr1,hle1,hlen⟩:=RL.wk _ _ _ _ ha hr;have hz:f1=zf:=by funext j;have:=hle1 j;simp only[zf]at this ⊢;omega
 subst hz;obtain⟨fO',hO',hleO,hnames⟩:=ROs.wk _ _ _ ho hO;refine(h w G vs fO' (by rw[hs,hlen]) hr1 hO' ⟨fun g=>by have:=hown.1 g;have:=hleO g;omega,fun g hg=>by have:=hown.2.1 g hg;have:=hleO g;omega,hown.2.2.1,fun g hg=>hown.2.2.2 g (by have:=hleO g;omega)⟩).mono ?_;rintro v w' ⟨sv,e,G',fV,fO2,q1,q2,q3,q4,q5,q6,q7,q8,q9,q10⟩;refine⟨sv,e,G',fV,fO2,q1,q2,q3,q4,q5,fun g hg hF=>?_,fun g hg h1=>?_,fun g hg h0=>q8 g hg (by have:=hleO g;omega),by rw[hnames];exact q9,q10⟩
 ·rcases q6 g hg hF with h|h
  ·exact .inl h
  ·exact .inr (by have:=hleO g;omega)
 ·have:=q7 g hg h1;have:=hleO g;omega
section
variable {P:Program}{w0 w w':World}{L:Lv}{st st1:St}{a:Act}{G G':Gh}{fE fO fX:FP}{K:St→Prop}{tmps:Array Value}
def Core.release (hc:Core w0 L st tmps w G fE fO fX){o:Nat}{y:Ob}(hy:zAZ st.ob o=some y)(hnm:y.nm=false) :
  ∃(fO' fV:FP),Core w0 L (AM.killSt o st) tmps w G fE fO' (fun g=>fX g+fV g)∧∀v,R w G (.ar o) v zf→R w G (.own y.k y.rows) v fV:=by
 obtain⟨fO',fV,hO,hle,hv⟩:=hc.takeAr hy hnm;refine⟨fO',fV,?_,hv⟩
 exact
  {size:=by simp[AM.killSt,zAb,hc.size]
   E:=RL.kill (G':=G) rfl (fun _ _=>rfl) _ _ _ hc.E
   O:=hO
   le:=fun g=>by have:=hc.le g;have:=hle g;omega
   fz:=fun g hg=>by have:=hc.fz g hg;have:=hle g;omega
   lf:=fun g hg=>by have:=hc.lf g hg;have:=hle g;omega
   lt:=fun g hg=>hc.lt g (by have:=hle g;omega)
   nodup:=zCx o hc.nodup
   fl:=hc.fl,fm:=hc.fm,bk:=hc.bk,fsize:=hc.fsize,keep:=hc.keep,lsize:=hc.lsize,grow:=hc.grow,os:=hc.os,tape:=hc.tape,output:=hc.output}
def zQE (o:Nat):∀(l:List SV) (n:Nat),lkp (zCF o l) n=kill o (lkp l n)
 |[],n=>by simp[zCF,lkp,kill]
 |x::l,0=>rfl
 |x::l,n+1=>zQE o l n
def zRp {t j:Nat}(hk:zOW t j K st):gK K st:=by
 unfold zOW at hk;split at hk
 ·rename_i cs hcs;split at hk
  ·rename_i o ho;split at hk
   ·rename_i y hy;split at hk
    ·rename_i hnm;intro w0 w L tmps G ⟨fE,fO,hc⟩;obtain⟨fE1,f1,hr,h1⟩:=hc.take ⟨tmps,[]⟩ rfl (.tmp t);simp only[AM.ev,Act.eval]at hr;rw[hcs]at hr;obtain⟨fO',fV,h2,hv⟩:=h1.release hy hnm;simp only[R]at hr;obtain⟨vs,hvs,hsz,hrl⟩:=hr
     have hj:j<cs.length:=by
      rcases Nat.lt_or_ge j cs.length with h|h
      ·exact h
      ·rw[zIL _ _ h]at ho;simp at ho
     obtain⟨vj,g1,g2,hvj,hrj,_,_⟩:=RL.split cs vs.toList f1 j hj hrl;rw[ho]at hrj;have hz:=R.zf_of _ _ _ rfl hrj;rw[hz]at hrj;have hown:=hv vj hrj;have hkl:=RL.kill (o:=o) (G':=G) rfl (fun _ _=>rfl) _ _ _ hrl;obtain⟨vj',p1,p2,hvj',hrj',hff,hput⟩:=RL.split (zCF o cs) vs.toList f1 j (by rw[zAb];exact hj) hkl;rw[hvj]at hvj';simp at hvj';subst hvj'
     have hp1:p1=zf:=by
      rw[zQE,ho]at hrj';simp only[AM.kill,if_true]at hrj';exact R.zf_of _ _ _ rfl hrj'
     have hset:=hput (.own y.k y.rows) vj fV hown
     have e1:vs.toList.set j vj=vs.toList:=by
      apply List.ext_getElem?;intro i;rw[List.getElem?_set];split
      ·rename_i h;subst h;split
       ·exact hvj.symm
       ·rename_i h2;exact absurd (by rw[Array.length_toList,hsz];exact hj) h2
      ·rfl
     rw[e1]at hset
     have hagg:R w G (.agg (upd (zCF o cs) j (.own y.k y.rows))) (tmps.getD t undef) (fun h=>fV h+p2 h):=by
      simp only[R]
      exact⟨vs,hvs,by rw[zKt,zAb];exact hsz,hset⟩
     obtain⟨fE2,h3⟩:=h2.put (fX':=zf) hagg (fun g=>by have:=fpa hff g;simp only[zf];omega) t;have e3:tmps.setIfInBounds t (tmps.getD t undef)=tmps:=zIp ⟨tmps,[]⟩ t;rw[e3]at h3;exact⟨_,G,hk,fE2,fO',h3⟩
    ·exact hk.elim
   ·exact hk.elim
  ·exact zDB hk
 ·exact zDB hk
def zXL {ob off:Nat}(hk:zUC ob off K st):gK K st:=by
 unfold zUC at hk;split at hk
 ·rename_i x hg;split at hk
  ·rename_i row hrow;split at hk
   ·rename_i o hcl;split at hk
    ·rename_i y hy;obtain⟨h1,hk⟩:=zAO hk;simp only[zBa,Bool.not_eq_true']at h1;obtain⟨⟨hynm,hxnm⟩,hoff0⟩:=h1;have hoff:=zBY hoff0;intro w0 w L tmps G ⟨fE,fO,h⟩
     have hcell:(row.drop off).take 1=[.ar o]:=by
      rw[zLL row off (by omega)]at hcl;rw[List.drop_eq_getElem_cons (by omega)];simp[hcl]
     obtain⟨f1,f2,hro,_⟩:=ROs.rem' _ _ _ hg h.O;obtain⟨r,hr,hrk,hrn,hl,hm⟩:=hro;rw[zBN _ _ _ hg]at hr;obtain⟨blk,rk,rn⟩:=r;cases blk with
     |none=>simp only at hm;rw[hm.1]at hrow;simp at hrow
     |some q=>
     obtain⟨g0,base0,csz0⟩:=q
     have hp:R w G (.p ob 0 off) (.pointer (some ⟨g0,base0+0*rk+off,none⟩)) zf:=by
      simp only[R]
      exact⟨trivial,g0,base0,csz0,rk,rn,hr,rfl⟩
     obtain⟨g,b,c,e,fr,f,hv,hh,hle,hr,hput⟩:=h.row (m:=1) hg hrow hoff hp;simp only[hxnm,if_true]at hr hput;rw[hcell]at hr;have hlt:b<c.size:=by omega
     have hu:(c.toList.drop b).take 1=[c[b]]:=by rw[List.drop_eq_getElem_cons (by simpa using hlt)];simp
     have hdrop:c.toList.drop b=c[b]::c.toList.drop (b+1):=by rw[List.drop_eq_getElem_cons (by simpa using hlt)];simp
     rw[hu]at hr;simp only[RL]at hr;obtain⟨u',us,f1,f2,hu',hru,hz,hff⟩:=hr;simp only[List.cons.injEq]at hu';obtain⟨rfl,rfl⟩:=hu';have hz0:=R.zf_of _ _ _ rfl hru;rw[hz0]at hru;obtain⟨fO',fV,h2,hov⟩:=h.release hy hynm;have hown:=hov _ hru;split at hk
     ·rename_i x1 hx1;split at hk
      ·rename_i row1 hrow1;obtain⟨h1,hk⟩:=zAO hk;simp only[zBa]at h1;obtain⟨hnm1,hoff1⟩:=h1;have hoff1:=zBY hoff1;obtain⟨g',b',c',e',fr',f',hv',hh',hle',hr',hput'⟩:=h2.row (m:=1) hx1 hrow1 hoff1 hp;rw[hv]at hv';simp only[Value.pointer.injEq,zSe,Addr.mk.injEq,and_true]at hv';obtain⟨rfl,rfl⟩:=hv';rw[hh]at hh';simp only[zSe,Obj.cells.injEq]at hh';obtain⟨rfl,rfl,rfl⟩:=hh';simp only[hnm1,if_true]at hput';obtain⟨fO4,h4⟩:=hput' [.own y.k y.rows] fV zf rfl (by simp only[RL];exact⟨c[b],c.toList.drop (b+1),fV,zf,hdrop,hown,rfl,by funext j;simp[zf]⟩) (fun j=>by simp only[zf];omega);exact⟨_,G,hk,_,fO4,h4⟩
      ·exact hk.elim
     ·exact hk.elim
    ·exact hk.elim
   ·exact zDB hk
  ·exact zDB hk
 ·exact zDB hk
def zFH (ob:List Ob):∀l:List SV,(brwL ob l).length=l.length
 |[]=>rfl
 |x::l=>by simp[brwL,zFH ob l]
mutual
def R.brw {ob:List Ob}(hF:∀ g,G.F g→G'.F g)(hβ:G'.β=G.β)(hob:∀ o y,zAZ ob o=some y→y.nm=false→∀ v,R w G (.ar o) v zf→R w G' (.sl y.k (zBX y.rows)) v zf) :
  ∀(x:SV) (v:Value) (f:FP),(∀g,1≤f g→G'.F g)→R w G x v f→R w G' (AM.brw ob x) v zf
 |.own k rows,v,f,hf,h=>R.freeze hF hβ (.own k rows) v f hf h
 | .ar o,v,f,hf,h=>by
   have hz:=R.zf_of _ _ _ rfl h;rw[hz]at h;simp only[AM.brw]
   split
   ·rename_i y hy;split
    ·rename_i hnm;exact hob o y hy hnm v h
    ·exact R_u _ _ _
   ·exact R_u _ _ _
 | .agg cs,v,f,hf,h=>by
   simp only[R,AM.brw]at h ⊢;obtain⟨vs,hv,hs,hr⟩:=h;exact⟨vs,hv,by rw[zFH];exact hs,RL.brw hF hβ hob cs _ f hf hr⟩
 | .tup cs,v,f,hf,h=>by
   simp only[R,AM.brw]at h ⊢;obtain⟨vs,hv,hs,hr⟩:=h;exact⟨vs,hv,by rw[zFH];exact hs,RL.brw hF hβ hob cs _ f hf hr⟩
 |.u,v,f,hf,h=>R_u _ _ _
 |.sk,v,f,hf,h=>R.freeze hF hβ .sk v f hf h
 |.i k n,v,f,hf,h=>R.freeze hF hβ (.i k n) v f hf h
 |.b x,v,f,hf,h=>R.freeze hF hβ (.b x) v f hf h
 |.s x,v,f,hf,h=>R.freeze hF hβ (.s x) v f hf h
 |.sl k r,v,f,hf,h=>R.freeze hF hβ (.sl k r) v f hf h
 |.p n i off,v,f,hf,h=>R.freeze hF hβ (.p n i off) v f hf h
 |.ro c,v,f,hf,h=>R.freeze hF hβ (.ro c) v f hf h
 |.nilp,v,f,hf,h=>R.freeze hF hβ .nilp v f hf h
 |.nil,v,f,hf,h=>R.freeze hF hβ .nil v f hf h
 |.fn g caps,v,f,hf,h=>R.freeze hF hβ (.fn g caps) v f hf h
def RL.brw {ob:List Ob}(hF:∀ g,G.F g→G'.F g)(hβ:G'.β=G.β)(hob:∀ o y,zAZ ob o=some y→y.nm=false→∀ v,R w G (.ar o) v zf→R w G' (.sl y.k (zBX y.rows)) v zf) :
  ∀(l:List SV) (vs:List Value) (f:FP),(∀g,1≤f g→G'.F g)→RL w G l vs f→RL w G' (AM.brwL ob l) vs zf
 |[],vs,f,hf,h=>by simp[AM.brwL,RL]
 | x::l,vs,f,hf,h=>by
   simp only[RL,AM.brwL]at h ⊢;obtain⟨v,vs',f1,f2,hv,h1,h2,hff⟩:=h;exact⟨v,vs',zf,zf,hv,R.brw hF hβ hob x v f1 (fun g hg=>hf g (by have:=fpa hff g;omega)) h1,RL.brw hF hβ hob l vs' f2 (fun g hg=>hf g (by have:=fpa hff g;omega)) h2,by funext j;simp[zf]⟩
end
mutual
def R.lone {w:World}{G G':Gh}:∀(x:SV) (v:Value) (f:FP),zIi x=true→R w G x v f→R w G' x v f
 |.i _ _,v,f,_,h=>by simpa[R]using h
 |.b _,v,f,_,h=>by simpa[R]using h
 |.s _,v,f,_,h=>by simpa[R]using h
 |.nil,v,f,_,h=>by simpa[R]using h
 | .own k rows,v,f,hf,h=>by
   simp only[R]at h ⊢;rcases h with h|⟨g,base,cap,c,e,f',hv,hc,hh,hb,hl,hr,hff⟩
   ·exact .inl h
   ·exact .inr ⟨g,base,cap,c,e,f',hv,hc,hh,hb,hl,RLL.lone (G:=G.pure) (G':=G'.pure) rows _ f' (by simpa[zIi]using hf) hr,hff⟩
 | .agg cs,v,f,hf,h=>by
   simp only[R]at h ⊢;obtain⟨vs,hv,hs,hr⟩:=h;exact⟨vs,hv,hs,RL.lone cs _ _ (by simpa[zIi]using hf) hr⟩
 | .tup cs,v,f,hf,h=>by
   simp only[R]at h ⊢;obtain⟨vs,hv,hs,hr⟩:=h;exact⟨vs,hv,hs,RL.lone cs _ _ (by simpa[zIi]using hf) hr⟩
def RL.lone {w:World}{G G':Gh}:∀(l:List SV) (vs:List Value) (f:FP),zDA l=true→RL w G l vs f→RL w G' l vs f
 |[],vs,f,_,h=>by simpa[RL]using h
 | x::l,vs,f,hf,h=>by
   simp only[zDA,zBa]at hf;simp only[RL]at h ⊢;obtain⟨v,vs',f1,f2,hv,h1,h2,hff⟩:=h;exact⟨v,vs',f1,f2,hv,R.lone x v f1 hf.1 h1,RL.lone l vs' f2 hf.2 h2,hff⟩
def RLL.lone {w:World}{G G':Gh}:∀(l:List (List SV)) (vs:List Value) (f:FP),zLJ l=true→RLL w G l vs f→RLL w G' l vs f
 |[],vs,f,_,h=>by simpa[RLL]using h
 | r::l,vs,f,hf,h=>by
   simp only[zLJ,zBa]at hf;simp only[RLL]at h ⊢;obtain⟨f1,f2,h1,ho,h2,hff⟩:=h;exact⟨f1,f2,RL.lone r vs f1 hf.1 h1,ho,RLL.lone l _ f2 hf.2 h2,hff⟩
end
def zFR.borrow {f:Operand}{n:FuncId}{caps:List SV}{xs:List Operand}{d:Option Tmp}{Post:SV→List Ob→Prop}(hac:AC P n (brwL st.ob (xs.map (AM.ev st.env)++caps)) [] Post)
  (hf:AM.ev st.env f = .fn n caps) (hk:∀sv ext',Post sv ext'→zIi sv=true∧K (setD st d sv)):zFR P f xs d st K:=by
 intro o c ho hc hxs hd a w0 w L G Q ⟨fE,fO,h⟩;have hfv:=h.ev0 a rfl f (by rw[hf];rfl);rw[hf]at hfv;simp only[R]at hfv;obtain⟨_,cvs,hfv,hcs,hcr⟩:=hfv
 let G2:=G.frozen (fun g=>fE g+fO g)
 have hF:∀g,G.F g→G2.F g:=fun _ hg=>.inl hg
 have hob:∀o y,zAZ st.ob o=some y→y.nm=false→∀v,R w G (.ar o) v zf→R w G2 (.sl y.k (zBX y.rows)) v zf:=by
  intro o y hy hnm v hv;obtain⟨fO',fV,_,hle,hov⟩:=h.takeAr hy hnm;exact R.freeze (G':=G2) hF rfl (.own y.k y.rows) v fV (fun g hg=>.inr (by have:=hle g;show 1≤fE g+fO g;omega)) (hov v hv)
 have hone:∀x:Operand,R w G2 (brw st.ob (AM.ev st.env x)) (a.eval x) zf:=by
  intro x;cases x with
  | tmp t=>
    obtain⟨f1,hr,hle⟩:=h.look t;exact R.brw hF rfl hob _ _ f1 (fun g hg=>.inr (by have:=hle g;show 1≤fE g+fO g;omega)) hr
  |const v=>exact R.brw hF rfl hob _ _ zf (fun g hg=>by simp[zf]at hg) (R.const _ _ _)
  |global g=>simp only[AM.ev,brw];exact R_u _ _ _
  |func f=>exact R.brw hF rfl hob _ _ zf (fun g hg=>by simp[zf]at hg) (h.ev0 a rfl (.func f) rfl)
 have hall:RL w G2 (brwL st.ob (xs.map (AM.ev st.env)++caps)) (xs.map a.eval++cvs.toList) zf:=by
  have hcap:=RL.brw (G':=G2) (ob:=st.ob) hF rfl hob caps cvs.toList zf (fun g hg=>by simp[zf]at hg) hcr
  have:∀l:List Operand,RL w G2 (brwL st.ob (l.map (AM.ev st.env)++caps)) (l.map a.eval++cvs.toList) zf:=by
   intro l
   induction l with
   |nil=>simpa using hcap
   | cons x l ih=>
     simp only[zMc,zCa,brwL,RL]
     exact⟨_,_,zf,zf,rfl,hone x,ih,by funext j;simp[zf]⟩
  exact this xs
 have hlen:((c.args.map a.eval)++cvs).size=(brwL st.ob (xs.map (AM.ev st.env)++caps)).length:=by
  rw[zFH,←hxs];simp[hcs]
 have hgoes:=hac w G2 ((c.args.map a.eval)++cvs) zf hlen (by rw[←hxs]at hall;simpa[hxs]using hall) rfl ⟨fun g=>by simp[zf],fun g hg=>rfl,fun g hg=>by
  rcases hg with hg|hg
  ·exact h.fsize g hg
  ·exact h.lt g (by show 1≤fE g+fO g+zf g;simp only[zf];exact hg),fun g hg=>by simp[zf]at hg⟩
 have hexec:(execOp a.eval o).run P w=(callFunc n ((c.args.map a.eval)++cvs)).run P w:=by
  simp[execOp,ho,hc,resolve,hfv,Deferred.ofValue,invoke]
 have key:∀v w',zXy w G2 zf (names []) Post v w'→Nx w0 L a.defers K (a.put o.dst v) w':=by
  rintro v w' ⟨sv,ext',G',fV,fO',hpost,hrv,hro,hown',hmono,hnewF,hnewO,hkeep,hβ,hnd',hgrow,hos,htape,hout⟩;obtain⟨hflat,hK⟩:=hk sv ext' hpost;have same:∀g,g<w.heap.size→w'.heap[g]? = w.heap[g]?:=fun g hg=>hkeep g hg rfl
  have sF:∀g,G.F g→w'.heap[g]? = w.heap[g]?:=fun g hg=>same g (h.fsize g hg)
  have hz:∀g,g<w.heap.size→fV g=0:=fun g hg=>by
   have h1:1≤fV g+fO' g→1≤zf g:=hnewO g hg;simp only[zf]at h1;omega
  have hA:Core w0 L st a.tmps w' G fE fO fV :=
   {size:=h.size
    E:=RL.frame (G:=G) (G':=G) (fun _ h=>h) rfl sF _ _ _ (fun g hg=>same g (h.lt g (by omega))) h.E
    O:=ROs.frame (G:=G) (G':=G) (fun _ h=>h) rfl sF _ _ (fun g hg=>same g (h.lt g (by omega))) h.O
    le:=fun g=>by
     have h1:=h.le g;have h3:fV g+fO' g≤1:=hown'.1 g;simp only[zf]at h1;by_cases hg:g<w.heap.size
     ·have:=hz g hg;omega
     ·have h5:=h.lt g;simp only[zf]at h5;omega
    fz:=fun g hg=>by have h1:=h.fz g hg;simp only[zf]at h1;have:=hz g (h.fsize g hg);omega
    lf:=fun g hg=>by have h1:=h.lf g hg;simp only[zf]at h1;have h3:=h.lsize g hg;have h4:=h.grow;have:=hz g (by omega);omega
    lt:=fun g hg=>by
     by_cases h1:1≤fV g
     ·exact hown'.2.2.2 g (by show 1≤fV g+fO' g;omega)
     ·exact Nat.lt_of_lt_of_le (h.lt g (by simp only[zf];omega)) hgrow
    nodup:=h.nodup,fl:=h.fl,fm:=h.fm,bk:=h.bk
    fsize:=fun g hg=>Nat.lt_of_lt_of_le (h.fsize g hg) hgrow
    keep:=fun g hg=>by rw[same g (Nat.lt_of_lt_of_le (h.lsize g hg) h.grow)];exact h.keep g hg
    lsize:=h.lsize
    grow:=Nat.le_trans h.grow hgrow
    os:=hos.trans h.os,tape:=htape.trans h.tape,output:=hout.trans h.output}
  obtain⟨fE4,hD⟩:=hA.putD (fX':=zf) (R.lone (w:=w') (G:=G') (G':=G) sv v fV hflat hrv) (fun g=>by simp[zf]) o.dst a rfl;refine⟨_,G,hK,⟨fE4,fO,?_⟩,Act.put_defers _ _ _⟩;rw[←hd];exact hD
 unfold Oper.wp;rw[hexec];rcases hgoes with⟨hrun,hcalls⟩|⟨v,w',hrun,hafter⟩
 ·rw[hrun,Oper.upon_enter];refine Calls.mono hcalls ?_;rintro e w' ⟨v,rfl,hv⟩;exact key v w' hv
 ·rw[hrun,Oper.upon_value];exact key v w' hafter
end
end Go.AM
end
section
namespace Go.AM
inductive LInv:Type 1
 |var (α:Type) (k:α→LInv)
 |st (al:List (Nat×SV)) (ob:List Ob) (ok:Prop) (μ:Nat)
 |here (k:LInv)
def LInv.allK (N:Nat)(B:Nat→St→Prop):LInv→Prop
 |.var _ k=>∀x,(k x).allK N B
 |.st al ob ok μ=>ok→B μ ⟨den N al,ob⟩
 |.here k=>k.allK N B
def zPn:List (Nat×SV)→(St→Prop)→St→Prop
 |[],K,s=>K s
 | (t,.own _ _)::l,K,s=>match lkp s.env t with
   |.ar _=>zOV s t (zPn l K)
   |_=>zPn l K s
 |_::l,K,s=>zPn l K s
def zJo (o:Nat):Nat→List SV→(St→Prop)→St→Prop
 |_,[],K,s=>K s
 |j,.own _ _::l,K,s=>zUC o j (zJo o (j+1) l K) s
 |j,_::l,K,s=>zJo o (j+1) l K s
def zIh:List Ob→(St→Prop)→St→Prop
 |[],K,s=>K s
 | y::l,K,s=>match y.nm with
   | true=>match y.rows with
     |[row]=>zJo y.name 0 row (zIh l K) s
     |_=>zIh l K s
   |false=>zIh l K s
def leqAt (env:List SV):List (Nat×SV)→Prop→Prop
 |[],K=>K
 |p::l,K=>leqV (lkp env p.1) p.2 (leqAt env l K)
def leStK (N:Nat)(al:List (Nat×SV))(ob:List Ob)(B:Prop)(s:St):Prop :=
 chk (s.env.length==N&&zHI (names ob)) (match zCR (names ob) s.ob with
  |some ob'=>leqAt s.env al (leqO ob' ob B)
  |none=>False)
def LInv.exK (N:Nat)(lt:Nat→Prop)(s:St):LInv→Prop
 |.var _ k=>∃x,(k x).exK N lt s
 |.st al ob ok μ=>zIh ob (zPn al (leStK N al ob (ok∧lt μ))) s
 |.here k=>k.exK N lt s
def sp_loopN {P:Program}{c:Code}{Q:AQ}{st:St}(J:Nat→St→Prop)(h0:gK (fun s=>∃ n,J n s) st)(hr:∀ n s,J n s→sp P c (zNU (gK fun s'=>∃ n',n'<n∧J n' s') Q) s):sp P (.loop c) Q st:=by
 let μ:St→Nat:=fun s=>Classical.epsilon fun n=>J n s∧∀k,J k s→n≤k
 have hm:∀s,(∃n,J n s)→J (μ s) s∧∀k,J k s→μ s≤k:=fun s h=>
  Classical.epsilon_spec (p:=fun n=>J n s∧∀k,J k s→n≤k) (least _ h)
 refine sp_loop (fun s=>∃n,J n s) μ h0 fun s hs=>?_
 obtain⟨h1,h2⟩:=hm s hs;refine zRM (hr _ _ h1) fun x s' hq=>?_
 cases x with
 |normal=>exact zFj hq fun s'' ⟨n',hlt,hj⟩=>⟨⟨n',hj⟩,Nat.lt_of_le_of_lt ((hm s'' ⟨n',hj⟩).2 _ hj) hlt⟩
 |_=>exact hq
def cid:Code→Nat
 |.region id _ _=>id
 |.seq x _=>cid x
 |.cond _ x _=>cid x
 |.block _ c=>cid c
 |.loop c=>cid c
 |_=>0
def zXt:Nat→Prop:=fun _=>True
def ltN (μ:Nat):Nat→Prop:=fun n=>n<μ
def exIK (N:Nat)(lt:Nat→Prop)(iv:LInv)(s:St):Prop:=iv.exK N lt s
def cutK (K:St→Prop)(_:Nat)(s:St):Prop:=K s
def setB (st:St)(c:Operand)(b:Bool):St:=match c with
 |.tmp s=>setE st s (.b b)
 |_=>st
def zPf {st:St}{c:Operand}{b:Bool}(h:ev st.env c = .b b):setB st c b=st:=by
 unfold setB;split
 ·rename_i s;simp only[setE]
  rw[←(show lkp st.env s = .b b from h),zFp]
 ·rfl
def awpI (T:Nat→TI)(C:zAx)(pl:Nat→List Nat×Plan)(N:Nat)(iv:Nat→LInv):Code→AQ→St→Prop
 |.skip,Q,st=>Q .normal st
 | .region id ops draw,Q,st=>match draw with
   |false=>opsK T C ops ops.toList (Q .normal) st
   |true=>flK T C ops (pl id).1 (planK T C ops (Q .normal) (pl id).2) st
 | .seq x y,Q,st=>match iv (cid y)with
   |.here k=>awpI T C pl N iv x (zNU (exIK N zXt k) Q) st∧k.allK N (cutK (awpI T C pl N iv y Q))
   |_=>awpI T C pl N iv x (zNU (awpI T C pl N iv y Q) Q) st
 | .cond c x y,Q,st=>match ev st.env c with
   |.b t=>cnd t (awpI T C pl N iv x Q (setB st c true)) (awpI T C pl N iv y Q (setB st c false))
   |_=>False
 |.block id c,Q,st=>awpI T C pl N iv c (zKa id Q) st
 |.loop c,Q,st=>(iv (cid c)).exK N zXt st∧(iv (cid c)).allK N fun μ s=>awpI T C pl N iv c (zNU (exIK N (ltN μ) (iv (cid c))) Q) s
 |.exit id,Q,st=>Q (.exit id) st
 |.ret,Q,st=>Q .ret st
 |_,_,_=>False
def zBw (T:Nat→TI)(pl:Nat→List Nat×Plan):Code→Bool
 | .region id ops draw=>match draw with
   |false=>true
   |true=>zWd T ops (pl id).1 (pl id).2
 |.seq x y=>zBw T pl x&&zBw T pl y
 |.cond _ x y=>zBw T pl x&&zBw T pl y
 |.block _ c=>zBw T pl c
 |.loop c=>zBw T pl c
 |_=>true
section
variable {P:Program}{T:Nat→TI}{C:zAx}{pl:Nat→List Nat×Plan}{N:Nat}{iv:Nat→LInv}
end
section
variable {P:Program}{T:Nat→TI}{C:zAx}{pl:Nat→List Nat×Plan}
end
end Go.AM
end
section
namespace Go.AM
abbrev WP:=List SV→List Ob→(SV→List Ob→Prop)→Prop
structure Ent where
 pure:Bool
 loc:List SV→List Ob→Option (List Nat)
 W:WP
def zIk (P:Program)(f:FuncId)(W:WP):Prop:=∀args ob K,W args ob K→AC P f args ob K
def inN:Nat→List Nat→Nat→Nat
 |k,[],_=>k
 |k,n::ns,m=>bif n==m then k else inN (k+1) ns m
def outN (d:Nat):Nat→List Nat→Nat→Nat
 |_,[],_=>d
 |k,n::ns,m=>bif m==k then n else outN d (k+1) ns m
def zFN:Nat→List Nat→List Nat
 |_,[]=>[]
 |k,_::ns=>k::zFN (k+1) ns
def zDZ:Option Tmp→Nat
 |some t=>t
 |none=>997
def zQT:List Nat→(St→Prop)→St→Prop
 |[],K,st=>K st
 |o::l,K,st=>zXU st o (zQT l K)
def zSH (ns:List Nat):List SV→List Nat
 |[]=>[]
 |.ar o::l=>bif ns.contains o then zSH ns l else o::zSH (o::ns) l
 |_::l=>zSH ns l
def evs (env:List SV):List Operand→List SV
 |[]=>[]
 |x::l=>ev env x::evs env l
def goOn (ns:List Nat)(d:Option Tmp)(K:St→Prop)(st:St)(sv:SV)(ext':List Ob):Prop :=
 chk (zUE (outN (zDZ d) 100000 ns) (zFN 100000 ns) ext' sv) (K (zFn (outN (zDZ d) 100000 ns) (zFN 100000 ns) st ext' sv d))
def callW (W:WP)(ns:List Nat)(xs:List Operand)(caps:List SV)(d:Option Tmp)(K:St→Prop)(st:St):Prop :=
 match zCR ns st.ob with
 |some obs=>chk (zHI ns&&zCM ns (evs st.env xs++caps)&&zCe ns obs&&!zBH (evs st.env xs))
   (W (renL (inN 100000 ns) (evs st.env xs++caps)) (zCS (inN 100000 ns) obs) (goOn ns d K st))
 |none=>False
def zUF (W:WP)(ns:List Nat)(n:Nat)(f:Operand)(xs:List Operand)(d:Option Tmp)(K:St→Prop)(st:St):Prop:=match ev st.env f with
 |.fn n' caps=>chk (n'==n) (callW W ns xs caps d K st)
 |_=>False
def callE (e:Ent)(n:Nat)(caps:List SV)(f:Operand)(xs:List Operand)(d:Option Tmp)(K:St→Prop)(st:St):Prop :=
 match e.loc (evs st.env xs++caps) st.ob with
 |some ns=>zQT (zSH ns (evs st.env xs++caps)) (zUF e.W ns n f xs d K) st
 |none=>False
def goFlat (d:Option Tmp)(K:St→Prop)(st:St)(sv:SV)(_:List Ob):Prop:=chk (zIi sv) (K (setD st d sv))
def callT (tbl:Nat→Option Ent)(f:Operand)(xs:List Operand)(d:Option Tmp)(K:St→Prop)(st:St):Prop :=
 match ev st.env f with
 | .fn n caps=>match tbl n with
   | some e=>match e.pure with
     |true=>e.W (brwL st.ob (evs st.env xs++caps)) [] (goFlat d K st)
     |false=>callE e n caps f xs d K (frzTL st xs)
   |none=>False
 |_=>False
def zSK (tbl:Nat→Option Ent):zAx:=fun f xs d st K=>callT tbl f xs d K st
section
variable {P:Program}{st:St}{K:St→Prop}{d:Option Tmp}
def zOL (env:List SV):∀xs:List Operand,evs env xs=xs.map (AM.ev env)
 |[]=>rfl
 |x::l=>by simp only[evs,zMc,zOL env l]
mutual
def ren_ren {σ τ:Nat→Nat}{ns:List Nat}(h:∀ n∈ns,σ (τ n)=n):∀x:SV,closed ns x=true→ren σ (ren τ x)=x
 |.ar n,hc=>by simp only[ren];rw[h n (by simpa[closed]using hc)]
 |.p n i off,hc=>by simp only[ren];rw[h n (by simpa[closed]using hc)]
 |.fn f caps,hc=>by simp only[ren];rw[zFu h caps (by simpa[closed]using hc)]
 |.agg cs,hc=>by simp only[ren];rw[zFu h cs (by simpa[closed]using hc)]
 |.tup cs,hc=>by simp only[ren];rw[zFu h cs (by simpa[closed]using hc)]
 |.u,_=>rfl
 |.sk,_=>rfl
 |.i _ _,_=>rfl
 |.b _,_=>rfl
 |.s _,_=>rfl
 |.sl _ _,_=>rfl
 |.own _ _,_=>rfl
 |.ro _,_=>rfl
 |.nilp,_=>rfl
 |.nil,_=>rfl
def zFu {σ τ:Nat→Nat}{ns:List Nat}(h:∀ n∈ns,σ (τ n)=n):∀l:List SV,zCM ns l=true→renL σ (renL τ l)=l
 |[],_=>rfl
 | x::l,hc=>by
   simp only[zCM,zBa]at hc;simp only[renL]
   rw[ren_ren h x hc.1,zFu h l hc.2]
end
def zJg {σ τ:Nat→Nat}{ns:List Nat}(h:∀ n∈ns,σ (τ n)=n):∀l:List (List SV),zAc ns l=true→zAm σ (zAm τ l)=l
 |[],_=>rfl
 | x::l,hc=>by
   simp only[zAc,zBa]at hc;simp only[zAm]
   rw[zFu h x hc.1,zJg h l hc.2]
def zLB {σ τ:Nat→Nat}{ns:List Nat}(h:∀ n∈ns,σ (τ n)=n):∀l:List Ob,(∀n∈names l,n∈ns)→zCe ns l=true→zCS σ (zCS τ l)=l
 |[],_,_=>rfl
 | x::l,hn,hc=>by
   simp only[zCe,zBa]at hc;simp only[zCS]
   rw[zLB h l (fun n hn'=>hn n (by simp[names]at hn' ⊢;exact .inr hn')) hc.2];congr 1;obtain⟨name,k,rows,nm⟩:=x;simp only[zHq]
   rw[h name (hn name (by simp[names]))];cases nm with
   |true=>simp only[if_true]at hc ⊢;rw[zJg h rows (by simpa using hc.1)]
   |false=>simp
def inN_ge:∀(ns:List Nat) (k m:Nat),k≤inN k ns m
 |[],k,m=>zLr _
 | n::ns,k,m=>by
   simp only[inN]
   cases n==m with
   |true=>exact zLr _
   |false=>have:=inN_ge ns (k+1) m;simp only[cond_false];omega
def zTV {d:Nat}:∀(ns:List Nat) (k n:Nat),n∈ns→outN d k ns (inN k ns n)=n
 |[],k,n,h=>by simp at h
 | m::ns,k,n,h=>by
   simp only[inN]
   by_cases hm:m=n
   ·subst hm;simp[outN]
   ·have e:(m==n)=false:=by simpa using hm
    rw[e,cond_false];have hge:=inN_ge ns (k+1) n;have e2:(inN (k+1) ns n==k)=false:=by simp;omega
    simp only[outN,e2,cond_false]
    exact zTV ns (k+1) n (by rcases List.mem_cons.1 h with h|h;exact absurd h.symm hm;exact h)
def zPw (σ:Nat→Nat)(l:List Ob):names (zCS σ l)=(names l).map σ:=zEB l
def zLO:∀(ns:List Nat) (k:Nat),zHI ns=true→ns.map (inN k ns)=zFN k ns
 |[],k,_=>rfl
 | n::ns,k,h=>by
   simp only[zHI,zBa,Bool.not_eq_true',List.contains_eq_mem,zDn]at h;simp only[zMc,zFN,inN,beq_self_eq_true,cond_true,List.cons.injEq,true_and]
   rw[←zLO ns (k+1) h.2];apply List.map_congr_left;intro m hm;have:(n==m)=false:=by simp;intro e;subst e;exact h.1 hm
   rw[this];rfl
def zFR.ghost {P:Program}{f:Operand}{xs:List Operand}(h:gK (fun s=>zFR P f xs d s K) st):zFR P f xs d st K:=by
 intro o c ho hc hx hd a w0 w L G Q hs;obtain⟨s',G',h1,h2⟩:=h w0 w L a.tmps G hs;exact h1 o c ho hc hx hd a w0 w L G' Q h2
def zFR.frz {P:Program}{f:Operand}{xs:List Operand}(h:∀ s,s=frzTL st xs→zFR P f xs d s K):zFR P f xs d st K:=by
 refine zFR.ghost ?_;intro w0 w L tmps G ⟨fE,fO,hc⟩;obtain⟨G',fE',h'⟩:=Core.frzTL (a:=⟨tmps,[]⟩) xs hc;exact⟨_,G',h _ rfl,fE',fO,h'⟩
def zQS:∀(l:List Nat) (s:St),zQT l K s→gK K s
 |[],s,h=>zDB h
 |o::l,s,h=>zBQ (zFj (zTm o h) fun s' h'=>zQS l s' h')
def zXP {st:St}:∀(x:Operand),zAg (AM.ev st.env x)=false→frzT st x=st
 |.tmp t,h=>by simp only[frzT,AM.ev]at h ⊢;rw[h];rfl
 |.const _,_=>rfl
 |.global _,_=>rfl
 |.func _,_=>rfl
def zLR {st:St}:∀(xs:List Operand),zBH (evs st.env xs)=false→frzTL st xs=st
 |[],_=>rfl
 | x::l,h=>by
   simp only[evs,zBH,Bool.or_eq_false_iff]at h;simp only[frzTL,zXP x h.1,zLR l h.2]
def zSF {e:Ent}{n:Nat}{caps:List SV}(he:zIk P n e.W){f:Operand}{xs:List Operand}(h:callE e n caps f xs d K st):zFR P f xs d st K:=by
 unfold callE at h;split at h
 ·rename_i ns hns;refine zFR.ghost (zFj (zQS _ _ h) ?_);intro s1 hs1;unfold zUF at hs1;split at hs1
  case h_2=>exact hs1.elim
  rename_i n' caps hf1;obtain⟨hn',h1⟩:=zAO hs1;have hn':=eq_of_beq hn';subst hn';unfold callW at h1;split at h1
  ·rename_i obs hobs;obtain⟨hb,hw⟩:=zAO h1;simp only[zBa,Bool.not_eq_true']at hb;obtain⟨⟨⟨hnd,hcl⟩,hclo⟩,hown⟩:=hb;have hsame:=zLR xs hown;have hnames:=zEq _ _ _ hobs;have hσ:∀n∈ns,outN (zDZ d) 100000 ns (inN 100000 ns n)=n:=fun n hn=>zTV ns 100000 n hn
   have hcn:names (zCS (inN 100000 ns) obs)=zFN 100000 ns:=by rw[zPw,hnames,zLO _ _ hnd]
   have hback:(names (zCS (inN 100000 ns) obs)).map (outN (zDZ d) 100000 ns)=ns:=by
    rw[zPw,hnames,List.map_map]
    have:∀l:List Nat,(∀n∈l,n∈ns)→l.map (outN (zDZ d) 100000 ns∘inN 100000 ns)=l:=by
     intro l
     induction l with
     |nil=>intro _;rfl
     |cons m l ih=>intro hl;simp only[zMc,Function.comp];rw[hσ m (hl m (by simp))];congr 1;exact ih fun n hn=>hl n (by simp[hn])
    exact this ns fun _ h=>h
   refine callF (outN (zDZ d) 100000 ns) (he _ _ _ hw) (by rw[hsame];exact hf1) ?_ ?_ ?_ ?_ ?_
   ·rw[hsame,zFu hσ _ hcl,zOL]
   ·rw[hsame,←zOL];exact hown
   ·rw[hsame,hback,hobs,zLB hσ obs (fun n hn=>by rw[←hnames];exact hn) hclo]
   ·rw[hback];exact hnd
   ·intro sv ext' hp;rw[hcn,hsame];exact zAO hp
  ·exact h1.elim
 ·exact h.elim
def zSJ {tbl:Nat→Option Ent}(ht:∀ n e,tbl n=some e→zIk P n e.W){f:Operand}{xs:List Operand}(h:zSK tbl f xs d st K):zFR P f xs d st K:=by
 unfold zSK callT at h;split at h
 ·rename_i n caps hf;split at h
  ·rename_i e he;split at h
   ·refine zFR.borrow (ht n e he _ _ _ (by rw[←zOL];exact h)) hf fun sv ext' hg=>zAO hg
   ·exact zFR.frz fun s hs=>by subst hs;exact zSF (ht n e he) h
  ·exact h.elim
 ·exact h.elim
def zSK.sound {tbl:Nat→Option Ent}(ht:∀ n e,tbl n=some e→zIk P n e.W):zGN P (zSK tbl) :=
 fun o c f a w0 w L st G K Q ho hc hk h=>zFR.sound P o c f a w0 w L st G K Q ho hc (zSJ ht hk) h
end
def tbl0:Nat→Option Ent:=fun _=>none
def ins (f:Nat)(e:Ent)(tbl:Nat→Option Ent):Nat→Option Ent:=fun n=>bif n==f then some e else tbl n
def zQk (P:Program)(tbl:Nat→Option Ent):Prop:=∀n e,tbl n=some e→zIk P n e.W
def zQk.nil {P:Program}:zQk P tbl0:=fun _ _ h=>by cases h
def zQk.ins {P:Program}{f:Nat}{e:Ent}{tbl:Nat→Option Ent}(ht:zQk P tbl)(h:zIk P f e.W):zQk P (ins f e tbl):=by
 intro n e' hn;simp only[AM.ins]at hn;by_cases hf:n=f
 ·subst hf;simp at hn;subst hn;exact h
 ·have:(n==f)=false:=by simpa using hf
  rw[this]at hn;exact ht n e' hn
end Go.AM
end
namespace Go.AM
section
def wrapI {x:Int}(h1 : -9223372036854775808≤x)(h2:x≤9223372036854775807):IntKind.wrap .i64 x=x:=by
 simp[IntKind.wrap,IntKind.bits,IntKind.signed];omega
end
end Go.AM
section
namespace Go.AM
section
variable {w0 w:World}{L:Lv}{st:St}{G:Gh}{K:St→Prop}
def zBL:List (List SV)→Bool
 |[]=>true
 |r::l=>zBz r&&zBL l
def R.unplain:∀(x:SV) {v:Value} {f:FP},AM.plain x=true→R w G.pure x v f→R w G x v f
 |.i _ _,_,_,_,h=>by simpa only[R]using h
 |.b _,_,_,_,h=>by simpa only[R]using h
 |.s _,_,_,_,h=>by simpa only[R]using h
 |.sl _ _,_,_,_,h=>by simp only[R]at h ⊢;exact h
 |.own _ _,_,_,_,h=>by simp only[R]at h ⊢;exact h
 |.nil,_,_,_,h=>by simpa only[R]using h
 |.u,_,_,_,h=>by simpa only[R]using h
 |.sk,_,_,_,h=>by simpa only[R]using h
 |.nilp,_,_,_,h=>by simpa only[R]using h
 |.ar _,_,_,hp,_=>by simp[AM.plain]at hp
 |.p _ _ _,_,_,hp,_=>by simp[AM.plain]at hp
 |.ro _,_,_,hp,_=>by simp[AM.plain]at hp
 |.fn _ _,_,_,hp,_=>by simp[AM.plain]at hp
 |.agg _,_,_,hp,_=>by simp[AM.plain]at hp
 |.tup _,_,_,hp,_=>by simp[AM.plain]at hp
def RL.unplain:∀(xs:List SV) (vs:List Value) (f:FP),zBz xs=true→RL w G.pure xs vs f→RL w G xs vs f
 |[],_,_,_,h=>by simpa only[RL]using h
 | x::l,vs,f,hp,h=>by
   simp only[zBz,zBa]at hp;simp only[RL]at h ⊢;obtain⟨v,vs',f1,f2,e,h1,h2,hf⟩:=h;exact⟨v,vs',f1,f2,e,R.unplain x hp.1 h1,RL.unplain l vs' f2 hp.2 h2,hf⟩
def RLL.unplain:∀(xs:List (List SV)) (vs:List Value) (f:FP),zBL xs=true→RLL w G.pure xs vs f→RLL w G xs vs f
 |[],_,_,_,h=>by simpa only[RLL]using h
 | x::l,vs,f,hp,h=>by
   simp only[zBL,zBa]at hp;simp only[RLL]at h ⊢;obtain⟨f1,f2,h1,ho,h2,hf⟩:=h;exact⟨f1,f2,RL.unplain x vs f1 hp.1 h1,ho,RLL.unplain l _ f2 hp.2 h2,hf⟩
def RLL.plain:∀(xs:List (List SV)) (vs:List Value) (f:FP),zBL xs=true→RLL w G xs vs f→RLL w G.pure xs vs f
 |[],_,_,_,h=>by simpa only[RLL]using h
 | x::l,vs,f,hp,h=>by
   simp only[zBL,zBa]at hp;simp only[RLL]at h ⊢;obtain⟨f1,f2,h1,ho,h2,hf⟩:=h;exact⟨f1,f2,RL.plain _ _ _ hp.1 h1,ho,RLL.plain l _ f2 hp.2 h2,hf⟩
def zPe:List Ob→Nat→Bool→List Ob
 |[],_,_=>[]
 |x::l,o,b=>if x.name=o then{x with nm:=b}::l else x::zPe l o b
def zJZ (o:Nat)(b:Bool):∀l:List Ob,names (zPe l o b)=names l
 |[]=>rfl
 | x::l=>by
   unfold zPe;split
   ·rfl
   ·have:=zJZ o b l;simp only[names,zMc]at this ⊢;rw[this]
def RO.nm {x:Ob}{f:FP}(b:Bool)(hp:zBL x.rows=true)(h:RO w G x f):RO w G {x with nm:=b} f:=by
 obtain⟨r,h1,h2,h3,h4,h5⟩:=h;refine⟨r,h1,h2,h3,h4,?_⟩;cases hb:r.blk with
 |none=>rw[hb]at h5;exact h5
 | some q=>
   obtain⟨g,base,csz⟩:=q;rw[hb]at h5;obtain⟨c,e,f',k1,k2,k3,k4,k5⟩:=h5;refine⟨c,e,f',k1,k2,k3,?_,k5⟩
   have hpure:RLL w G.pure x.rows (c.toList.drop base) f':=by
    cases hn:x.nm with
    |true=>rw[hn,if_pos rfl]at k4;exact RLL.plain _ _ _ hp k4
    |false=>rw[hn,if_neg (by simp)]at k4;exact k4
   cases b with
   |true=>simp only[if_true];exact RLL.unplain _ _ _ hp hpure
   |false=>simp only[zFt,if_false];exact hpure
def ROs.nm (o:Nat)(b:Bool):∀(l:List Ob) (f:FP),(∀x,zAZ l o=some x→zBL x.rows=true)→ROs w G l f→ROs w G (zPe l o b) f
 |[],_,_,h=>h
 | x::l,f,hp,h=>by
   obtain⟨f1,f2,h1,h2,hf⟩:=h;unfold zPe;by_cases hx:x.name=o
   ·rw[if_pos hx];exact⟨f1,f2,RO.nm b (hp x (by simp[zAZ,hx])) h1,h2,hf⟩
   ·rw[if_neg hx];exact⟨f1,f2,h1,ROs.nm o b l f2 (fun y hy=>hp y (by simp[zAZ,hx,hy])) h2,hf⟩
def gK_nm (o:Nat)(b:Bool)(hp:∀ x,zAZ st.ob o=some x→zBL x.rows=true)(h:K ⟨st.env,zPe st.ob o b⟩):gK K st:=by
 intro w0 w L tmps G ⟨fE,fO,hc⟩;refine⟨_,G,h,fE,fO,?_⟩
 exact
  {size:=hc.size
   E:=hc.E,O:=ROs.nm o b _ _ hp hc.O
   le:=hc.le,fz:=hc.fz,lf:=hc.lf,lt:=hc.lt
   nodup:=by rw[zJZ];exact hc.nodup
   fl:=hc.fl,fm:=hc.fm,bk:=hc.bk,fsize:=hc.fsize,keep:=hc.keep,lsize:=hc.lsize,grow:=hc.grow,os:=hc.os,tape:=hc.tape,output:=hc.output}
end
end Go.AM
end
section
namespace Go.AM
def zXh (ob i off:Nat)(K:St→Prop)(st:St):Prop:=match zAZ st.ob ob with
 | some x=>match x.rows[i]? with
   | some row=>match lkp row off with
     | .ar o=>match zAZ st.ob o with
       | some y=>chk (!y.nm&&x.nm&&ble (off+1) row.length) (match zAZ (killSt o st).ob ob with
         | some x1=>match x1.rows[i]? with
           |some row1=>chk (x1.nm&&ble (off+1) row1.length) (K (zAT (killSt o st) ob x1.rows i (wr row1 off [.own y.k y.rows])))
           |none=>False
         |none=>False)
       |none=>False
     |_=>K st
   |none=>K st
 |none=>K st
def frzI (ob i off:Nat)(K:St→Prop)(st:St):Prop:=match zAZ st.ob ob with
 | some x=>match x.rows[i]? with
   | some row=>match lkp row off with
     | .own k rows=>chk (x.nm&&ble (off+1) row.length) (match zAZ (zAT st ob x.rows i (wr row off [.u])).ob ob with
       | some x1=>match x1.rows[i]? with
         |some row1=>chk (x1.nm&&ble (off+1) row1.length) (K (zAT (zAT st ob x.rows i (wr row off [.u])) ob x1.rows i (wr row1 off [.sl k (zBX rows)])))
         |none=>False
       |none=>False)
     |_=>K st
   |none=>K st
 |none=>K st
section
variable {w0 w:World}{L:Lv}{st:St}{G:Gh}{fE fO fX:FP}{K:St→Prop}{tmps:Array Value}
def zXK {ob i off:Nat}(hk:zXh ob i off K st):gK K st:=by
 unfold zXh at hk;split at hk
 ·rename_i x hg;split at hk
  ·rename_i row hrow;split at hk
   ·rename_i o hcl;split at hk
    ·rename_i y hy;obtain⟨h1,hk⟩:=zAO hk;simp only[zBa,Bool.not_eq_true']at h1;obtain⟨⟨hynm,hxnm⟩,hoff0⟩:=h1;have hoff:=zBY hoff0;intro w0 w L tmps G ⟨fE,fO,h⟩
     have hcell:(row.drop off).take 1=[.ar o]:=by
      rw[zLL row off (by omega)]at hcl;rw[List.drop_eq_getElem_cons (by omega)];simp[hcl]
     obtain⟨f1,f2,hro,_⟩:=ROs.rem' _ _ _ hg h.O;obtain⟨r,hr,hrk,hrn,hl,hm⟩:=hro;rw[zBN _ _ _ hg]at hr;obtain⟨blk,rk,rn⟩:=r;cases blk with
     |none=>simp only at hm;rw[hm.1]at hrow;simp at hrow
     |some q=>
     obtain⟨g0,base0,csz0⟩:=q
     have hp:R w G (.p ob i off) (.pointer (some ⟨g0,base0+i*rk+off,none⟩)) zf:=by
      simp only[R]
      exact⟨trivial,g0,base0,csz0,rk,rn,hr,rfl⟩
     obtain⟨g,b,c,e,fr,f,hv,hh,hle,hr,hput⟩:=h.row (m:=1) hg hrow hoff hp;simp only[hxnm,if_true]at hr hput;rw[hcell]at hr;have hlt:b<c.size:=by omega
     have hu:(c.toList.drop b).take 1=[c[b]]:=by rw[List.drop_eq_getElem_cons (by simpa using hlt)];simp
     have hdrop:c.toList.drop b=c[b]::c.toList.drop (b+1):=by rw[List.drop_eq_getElem_cons (by simpa using hlt)];simp
     rw[hu]at hr;simp only[RL]at hr;obtain⟨u',us,f1,f2,hu',hru,hz,hff⟩:=hr;simp only[List.cons.injEq]at hu';obtain⟨rfl,rfl⟩:=hu';have hz0:=R.zf_of _ _ _ rfl hru;rw[hz0]at hru;obtain⟨fO',fV,h2,hov⟩:=h.release hy hynm;have hown:=hov _ hru;split at hk
     ·rename_i x1 hx1;split at hk
      ·rename_i row1 hrow1;obtain⟨h1,hk⟩:=zAO hk;simp only[zBa]at h1;obtain⟨hnm1,hoff1⟩:=h1;have hoff1:=zBY hoff1;obtain⟨g',b',c',e',fr',f',hv',hh',hle',hr',hput'⟩:=h2.row (m:=1) hx1 hrow1 hoff1 hp;rw[hv]at hv';simp only[Value.pointer.injEq,zSe,Addr.mk.injEq,and_true]at hv';obtain⟨rfl,rfl⟩:=hv';rw[hh]at hh';simp only[zSe,Obj.cells.injEq]at hh';obtain⟨rfl,rfl,rfl⟩:=hh';simp only[hnm1,if_true]at hput';obtain⟨fO4,h4⟩:=hput' [.own y.k y.rows] fV zf rfl (by simp only[RL];exact⟨c[b],c.toList.drop (b+1),fV,zf,hdrop,hown,rfl,by funext j;simp[zf]⟩) (fun j=>by simp only[zf];omega);exact⟨_,G,hk,_,fO4,h4⟩
      ·exact hk.elim
     ·exact hk.elim
    ·exact hk.elim
   ·exact zDB hk
  ·exact zDB hk
 ·exact zDB hk
def zXJ {ob i off:Nat}(hk:frzI ob i off K st):gK K st:=by
 unfold frzI at hk;split at hk
 ·rename_i x hg;split at hk
  ·rename_i row hrow;split at hk
   ·rename_i k rows hcl;obtain⟨h0,hk⟩:=zAO hk;simp only[zBa]at h0;have hoff:=zBY h0.2;split at hk
    ·rename_i x1 hx1;split at hk
     ·rename_i row1 hrow1;obtain⟨h1',hk⟩:=zAO hk;simp only[zBa]at h1';have hoff1:=zBY h1'.2;intro w0 w L tmps G ⟨fE,fO,h⟩
      have hcell:(row.drop off).take 1=[.own k rows]:=by
       rw[zLL row off (by omega)]at hcl;rw[List.drop_eq_getElem_cons (by omega)];simp[hcl]
      obtain⟨f1,f2,hro,_⟩:=ROs.rem' _ _ _ hg h.O;obtain⟨r,hr,hrk,hrn,hl,hm⟩:=hro;rw[zBN _ _ _ hg]at hr;obtain⟨blk,rk,rn⟩:=r;cases blk with
      |none=>simp only at hm;rw[hm.1]at hrow;simp at hrow
      |some q=>
      obtain⟨g0,base0,csz0⟩:=q
      have hp:R w G (.p ob i off) (.pointer (some ⟨g0,base0+i*rk+off,none⟩)) zf:=by
       simp only[R]
       exact⟨trivial,g0,base0,csz0,rk,rn,hr,rfl⟩
      obtain⟨g,b,c,e,fr,f,hv,hh,hle,hr1,hput⟩:=h.row (m:=1) hg hrow hoff hp;rw[hcell]at hr1;have hlt:b<c.size:=by omega
      have hu:(c.toList.drop b).take 1=[c[b]]:=by rw[List.drop_eq_getElem_cons (by simpa using hlt)];simp
      have hdrop:c.toList.drop b=c[b]::c.toList.drop (b+1):=by rw[List.drop_eq_getElem_cons (by simpa using hlt)];simp
      rw[hu]at hr1;simp only[RL]at hr1;obtain⟨u',us,f3,f4,hu',hru,hz,hff⟩:=hr1;simp only[List.cons.injEq]at hu';obtain⟨rfl,rfl⟩:=hu';subst hz;simp only[h0.1,if_true]at hru hput;obtain⟨fO1,h1⟩:=hput [.u] zf f rfl (by simp only[RL,R];exact⟨c[b],c.toList.drop (b+1),zf,zf,hdrop,rfl,rfl,by funext j;simp[zf]⟩) (fun j=>by simp only[zf];omega);have h2:=h1.freezeX (f:=f) (fX':=zf) (fun j=>by simp only[zf];omega);have hp':R w (G.frozen f) (.p ob i off) (.pointer (some ⟨g0,base0+i*rk+off,none⟩)) zf:=R.more (G:=G) (G':=G.frozen f) (fun _ hg=>Or.inl hg) rfl _ _ _ hp;obtain⟨g',b',c',e',fr',f',hv',hh',hle',hr',hput'⟩:=h2.row (m:=1) hx1 hrow1 hoff1 hp';rw[hv]at hv';simp only[Value.pointer.injEq,zSe,Addr.mk.injEq,and_true]at hv';obtain⟨rfl,rfl⟩:=hv';rw[hh]at hh';simp only[zSe,Obj.cells.injEq]at hh';obtain⟨rfl,rfl,rfl⟩:=hh';simp only[h1'.1,if_true]at hput';have hfz:R w (G.frozen f) (.sl k (zBX rows)) c[b] zf:=R.freeze (G':=G.frozen f) (fun _ hg=>.inl hg) rfl (.own k rows) _ f3 (fun j hj=>.inr (by rw[hff];simp only[zf];omega)) hru;obtain⟨fO4,h4⟩:=hput' [.sl k (zBX rows)] zf zf rfl (by simp only[RL];exact⟨c[b],c.toList.drop (b+1),zf,zf,hdrop,hfz,rfl,by funext j;simp[zf]⟩) (fun j=>by simp only[zf];omega);exact⟨_,_,hk,_,fO4,h4⟩
     ·exact hk.elim
    ·exact hk.elim
   ·exact zDB hk
  ·exact zDB hk
 ·exact zDB hk
end
end Go.AM
end
