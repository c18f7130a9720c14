/- Part 7 of the proof of FnTidyAll; no condition. -/
import Derived.Test.YtmjlecabpbiigaaGreatX05
import Derived.Orders
open Option renaming some -> U
open Decidable renaming decide -> aa
open Bool renaming true -> ae
open Bool renaming false -> ag
open Option renaming none -> aj
open Sum renaming inr -> an
open Sum renaming inl -> ao
open List renaming length -> au
open Int renaming toNat -> aw
open List renaming drop -> cU
open List renaming take -> de
set_option autoImplicit true
set_option relaxedAutoImplicit true
set_option linter.all false
section
namespace Go.AM
inductive a_
 |fin
 |br (e:Nat) (pr rc fs:List Nat) (sub alt:a_)
def gY (ops:Array Oper)(i:Nat):List Nat:=match ops[i]? with
 |some o=>(o.after.toList.filter (Region.binds .any ·)).map (·.on)
 |none=>[]
def eI (T:Nat->TI)(ops:Array Oper)(i:Nat):Bool:=match ops[i]? with
 |some o=>kL T o.op
 |none=>ag
def dD (ops:Array Oper)(i:Nat):Option Tmp:=(ops[i]?).bind (·.dst)
def eR (ops:Array Oper)(i:Nat)(d:Option Tmp):Bool:=match ops[i]?,d with
 | some o,U t=>(o.op.operands.toList.any fun x=>match x with|.tmp u=>u==t|_=>ag)||(match o.guard with
   |some (j,_)=>dD ops j==U t
   |none=>ag)
 |_,_=>ag
def oC (ops:Array Oper)(i j:Nat):Bool:=eR ops j (dD ops i)||((dD ops i).isSome&&dD ops i==dD ops j)
def oD:a_->List Nat
 |.fin=>[]
 |.br e _ _ _ _ alt=>e::oD alt
def r8 (T:Nat->TI)(ops:Array Oper):List Nat->List Nat->Bool
 |_,[]=>ae
 |done,i::l=>eI T ops i&&!done.contains i&&!eR ops i (dD ops i)&&(done.all fun k=>!eI T ops k||!oC ops i k)&&r8 T ops (i::done) l
def u_ (ops:Array Oper):List Nat->Bool
 |[]=>ae
 |j::l=>!eR ops j (dD ops j)&&(l.all fun k=>!oC ops k j)&&u_ ops l
def va (ops:Array Oper):List Nat->List Nat->Bool
 |_,[]=>ae
 |seen,j::l=>(seen.any fun i=>(gY ops i).contains j)&&va ops (j::seen) l
def vb (T:Nat->TI)(ops:Array Oper)(done:List Nat)(e:Nat)(pr rc fs:List Nat):Bool :=
 !eI T ops e&&aa (e<ops.size)&&!done.contains e&&va ops [e] pr&&(done.all fun j=>!eI T ops j||pr.contains j||rc.contains j) &&
 (rc.all fun j=>done.contains j&&eI T ops j&&!oC ops e j)&&u_ ops rc&&r8 T ops (e::done) fs
def p8 (T:Nat->TI)(ops:Array Oper)(done:List Nat)(p:a_):Bool :=
 ((List.range ops.size).all fun i=>done.contains i||!((gY ops i).all done.contains)||(!eI T ops i&&(oD p).contains i)) &&
 (match p with|.fin=>(List.range ops.size).all done.contains|_=>ae)
def mh (T:Nat->TI)(ops:Array Oper):List Nat->a_->Bool
 |_,.fin=>ae
 |done,.br e pr rc fs sub alt=>vb T ops done e pr rc fs&&p8 T ops (fs.reverse++e::done) sub&&mh T ops (fs.reverse++e::done) sub&&mh T ops done alt
def ve (T:Nat->TI)(ops:Array Oper):Bool :=
 Region.noSelect ops&&((List.range ops.size).all fun i=>(gY ops i).all fun j=>aa (j<i)) &&
 ((List.range ops.size).all fun k=>!eI T ops k||(List.range ops.size).all fun j=>!eR ops j (dD ops k)||(gY ops j).contains k)
def At (T:Nat->TI)(ops:Array Oper)(fs0:List Nat)(p:a_):Bool :=
 ve T ops&&r8 T ops [] fs0&&p8 T ops fs0.reverse p&&mh T ops fs0.reverse p
def gstep (T:Nat->TI)(C:zAz)(ops:Array Oper)(o:Oper)(K:St->Prop)(st:St):Prop:=jO ops o st (EB T C o K) (kJ o.dst K)
def flK (T:Nat->TI)(C:zAz)(ops:Array Oper):List Nat->(St->Prop)->St->Prop
 |[],K,st=>K st
 | i::l,K,st=>match ops[i]? with
   |some o=>gstep T C ops o (flK T C ops l K) st
   |none=>False
def FR:SV->Bool
 |.sk=>ae
 |_=>ag
def oE (d:Option Tmp)(st:St):Prop:=match d with
 |some t=>chk (FR (bx st.env t)) True
 |none=>True
def p9 (T:Nat->TI)(C:zAz)(o:Oper)(st:St):Prop:=uY T C o st
def rcK (T:Nat->TI)(C:zAz)(ops:Array Oper):List Nat->St->Prop
 |[],_=>True
 | i::l,st=>(match ops[i]? with
   |some o=>jO ops o st (p9 T C o) (oE o.dst)
   |none=>False)/\rcK T C ops l st
def rfK (T:Nat->TI)(C:zAz)(ops:Array Oper)(rc fs:List Nat)(K:St->Prop)(st1:St):Prop:=rcK T C ops rc st1/\flK T C ops fs K st1
def planK (T:Nat->TI)(C:zAz)(ops:Array Oper)(K:St->Prop):a_->St->Prop
 |.fin,st=>K st
 | .br e _ rc fs sub alt,st=>(match ops[e]? with
   |some o=>gstep T C ops o (rfK T C ops rc fs (planK T C ops K sub)) st
   |none=>False)/\(match alt with|.fin=>True|alt=>planK T C ops K alt st)
section
variable {P:Program}{T:Nat->TI}{C:zAz}{w0 w w':World}{L:Lv}{st st1:St}{a b:Act}{G G':Gh}{ops:Array Oper}{K:St->Prop}{Q:Exit->Act->World->Prop}
def mi {o:Oper}{i:Nat}(ho:ops[i]? = U o):dD ops i=o.dst:=by simp[dD,ho]
def p_ {o:Oper}{i:Nat}(ho:ops[i]? = U o)(hs:Region.noSelect ops=ae)(h:∀ t,eR ops i (U t)=ae->a.tmps[t]? = b.tmps[t]?):execOp a.eval o=execOp b.eval o :=
 execOp_congr o (fun cs q=>Region.noSelect_spec hs i o cs q ho) fun x hx=>by
  cases x with
  | tmp t=>
    have:=h t (by simp only[eR,ho,Bool.or_eq_true];exact .inl (List.any_eq_true.2 ⟨.tmp t,by simpa using hx,by simp⟩));simp only[Act.eval,Array.getD_eq_getD_getElem?,this]
  |_=>rfl
def kN {d:Option Tmp}{v:Value}{t:Nat}(h:d≠U t):(a.put d v).tmps[t]? = a.tmps[t]?:=by
 cases d with
 |none=>rfl
 |some d=>simp only[Act.put];exact Array.getElem?_setIfInBounds_ne (fun e=>h (by rw[e]))
def kO {d:Option Tmp}{v:Value}:(a.put d v).tmps.size=a.tmps.size:=by cases d<;>simp[Act.put]
def Au {d:Option Tmp}{v:Value}(h:a.tmps.size=b.tmps.size){t:Nat}(hd:d=U t):(a.put d v).tmps[t]? = (b.put d v).tmps[t]?:=by
 subst hd;simp only[Act.put,Array.getElem?_setIfInBounds,h]
 by_cases ht:t<b.tmps.size
 ·simp[ht]
 ·have h1:a.tmps[t]? = aj:=Array.getElem?_eq_none (by omega);have h2:b.tmps[t]? = aj:=Array.getElem?_eq_none (by omega);simp[ht]
def oF {o:Oper}{i:Nat}(ho:ops[i]? = U o)(h:∀ t,eR ops i (U t)=ae->a.tmps[t]? = b.tmps[t]?):Region.wanted o (yielded ops a.tmps)=Region.wanted o (yielded ops b.tmps):=by
 unfold Region.wanted;cases hg:o.guard with
 |none=>rfl
 | some q=>
   obtain⟨j,w⟩:=q;simp only
   have:yielded ops a.tmps j=yielded ops b.tmps j:=by
    unfold yielded;cases hd:(ops[j]?).bind (·.dst)with
    |none=>rfl
    | some t=>
      simp only[bh]
      rw[h t (by simp only[eR,ho,hg,Bool.or_eq_true];right;simp[dD,hd])]
   rw[this]
def jt (P:Program)(ops:Array Oper)(b:Act)(w:World)(i:Nat):Prop:=∃o v,ops[i]? = U o/\(Region.wanted o (yielded ops b.tmps)=ae/\(execOp b.eval o).run P w = .ok (.value v) w\/Region.wanted o (yielded ops b.tmps)=ag/\v=undef) /\
 ∀t,o.dst=U t->t<b.tmps.size->b.tmps[t]? = U v
structure Av (P:Program)(T:Nat->TI)(w0:World)(L:Lv)(ds:List Deferred)(ops:Array Oper)(A:Array Bool)(done:List Nat)(st:St)(a b:Act)(w:World):Prop where
 sr:∃G,SR w0 L st b.tmps w G
 db:b.defers=ds
 da:a.defers=ds
 size:a.tmps.size=b.tmps.size
 same:∀t,(∀i∈done,eI T ops i=ae->A.getD i ag=ag->dD ops i≠U t)->a.tmps[t]? = b.tmps[t]?
 pend:∀i∈done,eI T ops i=ae->A.getD i ag=ag->jt P ops b w i
 asize:A.size=ops.size
 sub:∀i,A.getD i ag=ae->i∈done
 eff:∀i∈done,eI T ops i=ag->A.getD i ag=ae
 clo:∀i,A.getD i ag=ae->∀j∈gY ops i,A.getD j ag=ae
def jt.put {i:Nat}{d:Option Tmp}{v:Value}(hs:Region.noSelect ops=ae)(h:jt P ops b w i)(hu:eR ops i d=ag)(hd:∀ t,d=U t->dD ops i≠U t):jt P ops (b.put d v) w i:=by
 obtain⟨o,u,ho,hr,hv⟩:=h;have hcg:∀t,eR ops i (U t)=ae->(b.put d v).tmps[t]? = b.tmps[t]?:=fun t ht=>kN (fun e=>by rw[e,ht]at hu;cases hu)
 refine⟨o,u,ho,?_,fun t ht hlt=>?_⟩
 ·rw[oF (a:=b.put d v) (b:=b) ho hcg,p_ (a:=b.put d v) (b:=b) ho hs hcg];exact hr
 ·rw[kN (fun e=>hd t e (by rw[mi ho];exact ht))];exact hv t ht (by rw[kO]at hlt;exact hlt)
def SR.sk (h:SR w0 L st b.tmps w G)(d:Option Tmp):SR w0 L (aZ st d .sk) (b.put d undef).tmps w G:=by
 obtain⟨fE,fO,hc⟩:=h;obtain⟨fE1,h1⟩:=hc.putD (fX':=zf) (sv:=.sk) (v:=undef) (fV:=zf) (by simp[R]) (fun j=>by simp[zf]) d b rfl;exact⟨fE1,fO,h1⟩
end
end Go.AM
end
section
namespace Go.AM
section
variable {P:Program}{T:Nat->TI}{C:zAz}{w0 w w':World}{L:Lv}{st st1:St}{a b:Act}{G G':Gh}{ops:Array Oper}{K:St->Prop}{Q:Exit->Act->World->Prop}{ds:List Deferred}
end
end Go.AM
end
section
namespace Go.AM
section
variable {P:Program}{T:Nat->TI}{C:zAz}{w0 w w':World}{L:Lv}{st st1:St}{a:Act}{G G':Gh}{Q Q':AQ}{K K':St->Prop}{ds:List Deferred}{pl:Nat->List Nat×a_}
end
end Go.AM
end
section
namespace Go.AM
def vg:List Nat->Bool
 |[]=>ae
 |n::l=>aa (100000<=n)&&vg l
section
variable {P:Program}{T:Nat->TI}{C:zAz}{pl:Nat->List Nat×a_}
def FS:∀l:List Nat,vg l=ae->∀n∈l,100000<=n
 |[],_,n,hn=>by simp at hn
 | x::l,h,n,hn=>by
   simp only[vg,aK,aL]at h;rcases List.mem_cons.1 hn with rfl|hn
   ·exact h.1
   ·exact FS l h.2 n hn
def p5.call {f:FuncId}{args:List SV}{ext:List Ob}{Post:SV->List Ob->Prop}(h:p5 P f args ext Post)(hc:∀ (vs:Array Value) (w:World),(callFunc f vs).run P w = .ok (.enter f vs) w):AC P f args ext Post :=
 fun w G vs fO h1 h2 h3 h4=>.inl ⟨hc vs w,h w G vs fO h1 h2 h3 h4⟩
end
end Go.AM
end
namespace Go.AM
section
def look:List (Nat×SV)->Nat->SV
 |[],_=>.u
 |p::l,t=>bif p.1==t then p.2 else look l t
def gm (n:Nat)(al:List (Nat×SV)):List SV:=(List.range n).map (look al)
def qa (o:Nat):List (Nat×SV)->List (Nat×SV)
 |[]=>[]
 |p::l=>(p.1,kill o p.2)::qa o l
def qb (o:Nat)(y:SV):List (Nat×SV)->List (Nat×SV)
 |[]=>[]
 |p::l=>(p.1,subV o y p.2)::qb o y l
def oG:Nat->List SV->List (Nat×SV)
 |_,[]=>[]
 |i,v::l=>(i,v)::oG (i+1) l
def vh (al:List (Nat×SV)):List (Nat×SV)->Prop
 |[]=>True
 |p::l=>wk (look al p.1) p.2/\vh al l
def FT (f:Nat->SV):∀(l:List Nat) (t:Nat),bx (l.map f) t=match l[t]? with|some k=>f k|none=>.u
 |[],t=>rfl
 |x::l,0=>rfl
 |x::l,t+1=>by simp only[bF,bx,FT f l t,List.getElem?_cons_succ]
def Nq {n t:Nat}{al:List (Nat×SV)}(h:t<n):bx (gm n al) t=look al t:=by
 simp only[gm,FT,List.getElem?_range h]
def FU (f:Nat->SV):∀(m k t:Nat) (v:SV),cI ((List.range' k m).map f) t v=(List.range' k m).map (fun i=>bif k+t==i then v else f i)
 |0,k,t,v=>rfl
 | m+1,k,0,v=>by
   simp only[List.range'_succ,bF,cI,Nat.add_zero,beq_self_eq_true,cond_true,List.cons.injEq,true_and]
   apply List.map_congr_left;intro i hi;have:=List.mem_range'.1 hi;have:(k==i)=ag:=by simp;omega
   rw[this];rfl
 | m+1,k,t+1,v=>by
   simp only[List.range'_succ,bF,cI]
   rw[FU f m (k+1) t v];have e:k+(t+1)=k+1+t:=by omega
   have:(k+1+t==k)=ag:=by simp;omega
   rw[e,this];rfl
def Nr {n t:Nat}{al:List (Nat×SV)}{v:SV}:cI (gm n al) t v=gm n ((t,v)::al):=by
 simp only[gm,List.range_eq_range',FU,Nat.zero_add]
 rfl
def FV (o:Nat):∀(al:List (Nat×SV)) (t:Nat),kill o (look al t)=look (qa o al) t
 |[],t=>rfl
 | p::l,t=>by
   simp only[look,qa]
   cases p.1==t with
   |true=>rfl
   |false=>exact FV o l t
def FW (o:Nat)(f:Nat->SV):∀l:List Nat,di o (l.map f)=l.map fun i=>kill o (f i)
 |[]=>rfl
 |x::l=>by simp only[bF,di,FW o f l]
def FX {n o:Nat}{al:List (Nat×SV)}:di o (gm n al)=gm n (qa o al):=by
 simp only[gm,FW]
 exact List.map_congr_left fun i _=>FV o al i
def FY (o:Nat)(y:SV):∀(al:List (Nat×SV)) (t:Nat),subV o y (look al t)=look (qb o y al) t
 |[],t=>rfl
 | p::l,t=>by
   simp only[look,qb]
   cases p.1==t with
   |true=>rfl
   |false=>exact FY o y l t
def FZ (o:Nat)(y:SV)(f:Nat->SV):∀l:List Nat,lB o y (l.map f)=l.map fun i=>subV o y (f i)
 |[]=>rfl
 |x::l=>by simp only[bF,lB,FZ o y f l]
def F0 {n o:Nat}{y:SV}{al:List (Nat×SV)}:lB o y (gm n al)=gm n (qb o y al):=by
 simp only[gm,FZ]
 exact List.map_congr_left fun i _=>FY o y al i
def F1:∀(l:List SV) (i t:Nat),look (oG i l) t=if i<=t then bx l (t-i)else .u
 |[],i,t=>by simp[oG,look,bx]
 | v::l,i,t=>by
   simp only[oG,look]
   by_cases h:i=t
   ·subst h;simp[bx]
   ·have:(i==t)=ag:=by simpa using h
    rw[this,cond_false,F1 l (i+1) t];by_cases h2:i+1<=t
    ·have e:t-i=(t-(i+1))+1:=by omega
     rw[if_pos h2,if_pos (by omega),e];rfl
    ·rw[if_neg h2,if_neg (by omega)]
def Ns {n:Nat}{args:List SV}{ext:List Ob}(h:args.length<=n):oA n args ext=⟨gm n (oG 0 args),ext⟩:=by
 simp only[oA,St.mk.injEq,and_true]
 apply List.ext_getElem?;intro i;simp only[gm,List.getElem?_map]
 by_cases hi:i<n
 ·rw[List.getElem?_range hi];simp only[Option.map_some,F1,Nat.zero_le,if_true,Nat.sub_zero]
  by_cases h2:i<args.length
  ·rw[List.getElem?_append_left h2,pV _ _ h2,bI h2]
  ·rw[List.getElem?_append_right (by omega),List.getElem?_replicate,if_pos (by omega),m_ _ _ (by omega)]
 ·rw[List.getElem?_eq_none (by simp;omega),List.getElem?_eq_none (by simp;omega)];rfl
def F2 (f g:Nat->SV):∀l:List Nat,(∀t∈l,wk (f t) (g t))->wkL (l.map f) (l.map g)
 |[],_=>rfl
 | x::l,h=>by
   simp only[bF,wkL]
   exact⟨h x (by simp),F2 f g l fun t ht=>h t (by simp[ht])⟩
def F_ (x:SV):wk x .u:=by cases x<;>trivial
def Ga {al:List (Nat×SV)}:∀(al':List (Nat×SV)),vh al al'->∀t,wk (look al t) (look al' t)
 |[],_,t=>F_ _
 | p::l,h,t=>by
   obtain⟨h1,h2⟩:=h;simp only[look]
   by_cases hp:p.1=t
   ·subst hp;simp only[beq_self_eq_true,cond_true];exact h1
   ·have:(p.1==t)=ag:=by simpa using hp
    rw[this,cond_false];exact Ga l h2 t
def Nt {n:Nat}{al al':List (Nat×SV)}(h:vh al al'):wkL (gm n al) (gm n al'):=F2 _ _ _ fun t _=>Ga al' h t
end
end Go.AM
section
namespace Go.AM
def Aw (t j:Nat)(K:St->Prop)(st:St):Prop:=match bx st.env t with
 | .agg cs=>match bx cs j with
   | .ar o=>match bu (dA st (.tmp t)).ob o with
     | some y=>match y.nm with
       |false=>K (b_ (killSt o (dA st (.tmp t))) t (.agg (cI (di o cs) j (.own y.k y.rows))))
       |true=>False
     |none=>False
   |_=>K st
 |_=>K st
def vi (ob off:Nat)(K:St->Prop)(st:St):Prop:=match bu st.ob ob with
 | some x=>match x.rows[0]? with
   | some row=>match bx row off with
     | .ar o=>match bu st.ob o with
       | some y=>chk (!y.nm&&x.nm&&ble (off+1) row.length) (match bu (killSt o st).ob ob with
         | some x1=>match x1.rows[0]? with
           |some row1=>chk (x1.nm&&ble (off+1) row1.length) (K (eG (killSt o st) ob x1.rows 0 (wr row1 off [.own y.k y.rows])))
           |none=>False
         |none=>False)
       |none=>False
     |_=>K st
   |none=>K st
 |none=>K st
mutual
def brw (ob:List Ob):SV->SV
 |.own k rows=>.sl k (cC rows)
 | .ar o=>match bu ob o with
   | some y=>match y.nm with
     |false=>.sl y.k (cC y.rows)
     |true=>.u
   |none=>.u
 |.agg cs=>.agg (brwL ob cs)
 |.tup cs=>.tup (brwL ob cs)
 |.u=>.u
 |.sk=>.sk
 |.i k n=>.i k n
 |.b x=>.b x
 |.s x=>.s x
 |.sl k r=>.sl k r
 |.p n i off=>.p n i off
 |.ro c=>.ro c
 |.nilp=>.nilp
 |.nil=>.nil
 |.fn f caps=>.fn f caps
def brwL (ob:List Ob):List SV->List SV
 |[]=>[]
 |x::l=>brw ob x::brwL ob l
end
mutual
def ke:SV->Bool
 |.i _ _=>ae
 |.b _=>ae
 |.s _=>ae
 |.nil=>ae
 |.own _ rows=>qc rows
 |.agg cs=>gZ cs
 |.tup cs=>gZ cs
 |_=>ag
def gZ:List SV->Bool
 |[]=>ae
 |x::l=>ke x&&gZ l
def qc:List (List SV)->Bool
 |[]=>ae
 |r::l=>gZ r&&qc l
end
mutual
def Ax:SV->SV->Prop->Prop
 |_,.u,K=>K
 |.i k n,.i k' n',K=>chk (aa (k=k')) (n=n'/\K)
 |.b x,.b y,K=>x=y/\K
 |.s x,.s y,K=>x=y/\K
 |.sl k r,.sl k' r',K=>chk (k==k') (r=r'/\K)
 |.own k r,.own k' r',K=>chk (k==k') (r=r'/\K)
 |.nil,.sl _ r,K=>r=[]/\K
 |.nil,.own _ r,K=>r=[]/\K
 |.ar a,.ar b,K=>chk (a==b) K
 |.p a b c,.p a' b' c',K=>chk (a==a'&&b==b'&&c==c') K
 |.agg xs,.agg ys,K=>r9 xs ys K
 |.tup xs,.tup ys,K=>r9 xs ys K
 |x,y,K=>x=y/\K
def r9:List SV->List SV->Prop->Prop
 | [],ys,K=>match ys with
   |[]=>K
   |_=>False
 | x::xs,ys,K=>match ys with
   |[]=>False
   |y::ys=>Ax x y (r9 xs ys K)
end
def Gb:List (List SV)->List (List SV)->Prop->Prop
 | [],ys,K=>match ys with
   |[]=>K
   |_=>False
 | x::xs,ys,K=>match ys with
   |[]=>False
   |y::ys=>r9 x y (Gb xs ys K)
def Ay:List Ob->List Ob->Prop->Prop
 | [],ys,K=>match ys with
   |[]=>K
   |_=>False
 | x::xs,ys,K=>match ys with
   |[]=>False
   | y::ys=>chk (x.name==y.name&&x.k==y.k&&x.nm==y.nm) (match x.nm with
     |true=>Gb x.rows y.rows (Ay xs ys K)
     |false=>x.rows=y.rows/\Ay xs ys K)
def Gc (x:SV):wk x .u:=by cases x<;>trivial
mutual
def Nu:∀(x y:SV) (K:Prop),Ax x y K->wk x y/\K
 | x,y,K,h=>by
   cases y with
   |u=>exact⟨Gc x,by cases x<;>exact h⟩
   | i k n=>cases x with
     |i k' n'=>obtain⟨h1,h2,h3⟩:=bX h;have:=of_decide_eq_true h1;subst this;subst h2;exact⟨rfl,h3⟩
     |_=>exact absurd h.1 (by simp)
   | b z=>cases x with
     |b z'=>obtain⟨h2,h3⟩:=h;subst h2;exact⟨rfl,h3⟩
     |_=>exact absurd h.1 (by simp)
   | s z=>cases x with
     |s z'=>obtain⟨h2,h3⟩:=h;subst h2;exact⟨rfl,h3⟩
     |_=>exact absurd h.1 (by simp)
   | sl k r=>cases x with
     |sl k' r'=>obtain⟨h1,h2,h3⟩:=bX h;have:=eq_of_beq h1;subst this;subst h2;exact⟨rfl,h3⟩
     |nil=>obtain⟨h2,h3⟩:=h;subst h2;exact⟨rfl,h3⟩
     |_=>exact absurd h.1 (by simp)
   | own k r=>cases x with
     |own k' r'=>obtain⟨h1,h2,h3⟩:=bX h;have:=eq_of_beq h1;subst this;subst h2;exact⟨rfl,h3⟩
     |nil=>obtain⟨h2,h3⟩:=h;subst h2;exact⟨rfl,h3⟩
     |_=>exact absurd h.1 (by simp)
   | ar a=>cases x with
     |ar b=>obtain⟨h1,h3⟩:=bX h;have:=eq_of_beq h1;subst this;exact⟨rfl,h3⟩
     |_=>exact absurd h.1 (by simp)
   | p a b c=>cases x with
     | p a' b' c' =>
       obtain⟨h1,h3⟩:=bX h;simp only[aK,beq_iff_eq]at h1;obtain⟨⟨rfl,rfl⟩,rfl⟩:=h1;exact⟨rfl,h3⟩
     |_=>exact absurd h.1 (by simp)
   | agg ys=>cases x with
     |agg xs=>exact Az xs ys K h
     |_=>exact absurd h.1 (by simp)
   | tup ys=>cases x with
     |tup xs=>exact Az xs ys K h
     |_=>exact absurd h.1 (by simp)
   |_=>cases x<;>first|exact⟨h.1,h.2⟩|exact absurd h.1 (by simp)
def Az:∀(xs ys:List SV) (K:Prop),r9 xs ys K->wkL xs ys/\K
 |[],[],K,h=>⟨rfl,h⟩
 |[],_::_,K,h=>h.elim
 |x::xs,[],K,h=>h.elim
 | x::xs,y::ys,K,h=>by
   obtain⟨h1,h2⟩:=Nu x y _ h;obtain⟨h3,h4⟩:=Az xs ys K h2;exact⟨⟨h1,h3⟩,h4⟩
end
def AC.le {P:Program}{f:FuncId}{args args':List SV}{ext ext':List Ob}{Post:SV->List Ob->Prop}(ha:wkL args args')(ho:wkObs ext ext')(h:AC P f args' ext' Post):AC P f args ext Post:=by
 intro w G vs fO hs hr hO hown;obtain⟨f1,hr1,hle1,hlen⟩:=RL.wk _ _ _ _ ha hr;have hz:f1=zf:=by funext j;have:=hle1 j;simp only[zf]at this ⊢;omega
 subst hz;obtain⟨fO',hO',hleO,hnames⟩:=aW.wk _ _ _ ho hO;refine(h w G vs fO' (by rw[hs,hlen]) hr1 hO' ⟨fun g=>by have:=hown.1 g;have:=hleO g;omega,fun g hg=>by have:=hown.2.1 g hg;have:=hleO g;omega,hown.2.2.1,fun g hg=>hown.2.2.2 g (by have:=hleO g;omega)⟩).mono ?_;rintro v w' ⟨sv,e,G',fV,fO2,q1,q2,q3,q4,q5,q6,q7,q8,q9,q10⟩;refine⟨sv,e,G',fV,fO2,q1,q2,q3,q4,q5,fun g hg hF=>?_,fun g hg h1=>?_,fun g hg h0=>q8 g hg (by have:=hleO g;omega),by rw[hnames];exact q9,q10⟩
 ·rcases q6 g hg hF with h|h
  ·exact .inl h
  ·exact .inr (by have:=hleO g;omega)
 ·have:=q7 g hg h1;have:=hleO g;omega
section
variable {P:Program}{w0 w w':World}{L:Lv}{st st1:St}{a:Act}{G G':Gh}{fE fO fX:FP}{K:St->Prop}{tmps:Array Value}
def aU.release (hc:aU w0 L st tmps w G fE fO fX){o:Nat}{y:Ob}(hy:bu st.ob o=U y)(hnm:y.nm=ag) :
  ∃(fO' fV:FP),aU w0 L (AM.killSt o st) tmps w G fE fO' (fun g=>fX g+fV g)/\∀v,R w G (.ar o) v zf->R w G (.own y.k y.rows) v fV:=by
 obtain⟨fO',fV,hO,hle,hv⟩:=hc.takeAr hy hnm;refine⟨fO',fV,?_,hv⟩
 exact
  {size:=by simp[AM.killSt,iy,hc.size]
   E:=RL.kill (G':=G) rfl (fun _ _=>rfl) _ _ _ hc.E
   O:=hO
   le:=fun g=>by have:=hc.le g;have:=hle g;omega
   fz:=fun g hg=>by have:=hc.fz g hg;have:=hle g;omega
   lf:=fun g hg=>by have:=hc.lf g hg;have:=hle g;omega
   lt:=fun g hg=>hc.lt g (by have:=hle g;omega)
   nodup:=rP o hc.nodup
   fl:=hc.fl,fm:=hc.fm,bk:=hc.bk,fsize:=hc.fsize,keep:=hc.keep,lsize:=hc.lsize,grow:=hc.grow,os:=hc.os,tape:=hc.tape,output:=hc.output}
def Gd (o:Nat):∀(l:List SV) (n:Nat),bx (di o l) n=kill o (bx l n)
 |[],n=>by simp[di,bx,kill]
 |x::l,0=>rfl
 |x::l,n+1=>Gd o l n
def Nv {t j:Nat}(hk:Aw t j K st):gK K st:=by
 unfold Aw at hk;split at hk
 ·rename_i cs hcs;split at hk
  ·rename_i o ho;split at hk
   ·rename_i y hy;split at hk
    ·rename_i hnm;intro w0 w L tmps G ⟨fE,fO,hc⟩;obtain⟨fE1,f1,hr,h1⟩:=hc.take ⟨tmps,[]⟩ rfl (.tmp t);simp only[AM.ev,Act.eval]at hr;rw[hcs]at hr;obtain⟨fO',fV,h2,hv⟩:=h1.release hy hnm;simp only[R]at hr;obtain⟨vs,hvs,hsz,hrl⟩:=hr
     have hj:j<cs.length:=by
      rcases Nat.lt_or_ge j cs.length with h|h
      ·exact h
      ·rw[m_ _ _ h]at ho;simp at ho
     obtain⟨vj,g1,g2,hvj,hrj,_,_⟩:=mU cs vs.toList f1 j hj hrl;rw[ho]at hrj;have hz:=jm _ _ _ rfl hrj;rw[hz]at hrj;have hown:=hv vj hrj;have hkl:=RL.kill (o:=o) (G':=G) rfl (fun _ _=>rfl) _ _ _ hrl;obtain⟨vj',p1,p2,hvj',hrj',hff,hput⟩:=mU (di o cs) vs.toList f1 j (by rw[iy];exact hj) hkl;rw[hvj]at hvj';simp at hvj';subst hvj'
     have hp1:p1=zf:=by
      rw[Gd,ho]at hrj';simp only[AM.kill,if_true]at hrj';exact jm _ _ _ rfl hrj'
     have hset:=hput (.own y.k y.rows) vj fV hown
     have e1:vs.toList.set j vj=vs.toList:=by
      apply List.ext_getElem?;intro i;rw[List.getElem?_set];split
      ·rename_i h;subst h;split
       ·exact hvj.symm
       ·rename_i h2;exact absurd (by rw[Array.length_toList,hsz];exact hj) h2
      ·rfl
     rw[e1]at hset
     have hagg:R w G (.agg (cI (di o cs) j (.own y.k y.rows))) (tmps.getD t undef) (fun h=>fV h+p2 h):=by
      simp only[R]
      exact⟨vs,hvs,by rw[EC,iy];exact hsz,hset⟩
     obtain⟨fE2,h3⟩:=h2.put (fX':=zf) hagg (fun g=>by have:=bK hff g;simp only[zf];omega) t;have e3:tmps.setIfInBounds t (tmps.getD t undef)=tmps:=rR ⟨tmps,[]⟩ t;rw[e3]at h3;exact⟨_,G,hk,fE2,fO',h3⟩
    ·exact hk.elim
   ·exact hk.elim
  ·exact d_ hk
 ·exact d_ hk
def Nw {ob off:Nat}(hk:vi ob off K st):gK K st:=by
 unfold vi at hk;split at hk
 ·rename_i x hg;split at hk
  ·rename_i row hrow;split at hk
   ·rename_i o hcl;split at hk
    ·rename_i y hy;obtain⟨h1,hk⟩:=bX hk;simp only[aK,Bool.not_eq_true']at h1;obtain⟨⟨hynm,hxnm⟩,hoff0⟩:=h1;have hoff:=dZ hoff0;intro w0 w L tmps G ⟨fE,fO,h⟩
     have hcell:(row.drop off).take 1=[.ar o]:=by
      rw[pV row off (by omega)]at hcl;rw[List.drop_eq_getElem_cons (by omega)];simp[hcl]
     obtain⟨f1,f2,hro,_⟩:=uJ _ _ _ hg h.O;obtain⟨r,hr,hrk,hrn,hl,hm⟩:=hro;rw[kc _ _ _ hg]at hr;obtain⟨blk,rk,rn⟩:=r;cases blk with
     |none=>simp only at hm;rw[hm.1]at hrow;simp at hrow
     |some q=>
     obtain⟨g0,base0,csz0⟩:=q
     have hp:R w G (.p ob 0 off) (.pointer (U ⟨g0,base0+0*rk+off,aj⟩)) zf:=by
      simp only[R]
      exact⟨trivial,g0,base0,csz0,rk,rn,hr,rfl⟩
     obtain⟨g,b,c,e,fr,f,hv,hh,hle,hr,hput⟩:=h.row (m:=1) hg hrow hoff hp;simp only[hxnm,if_true]at hr hput;rw[hcell]at hr;have hlt:b<c.size:=by omega
     have hu:(c.toList.drop b).take 1=[c[b]]:=by rw[List.drop_eq_getElem_cons (by simpa using hlt)];simp
     have hdrop:c.toList.drop b=c[b]::c.toList.drop (b+1):=by rw[List.drop_eq_getElem_cons (by simpa using hlt)];simp
     rw[hu]at hr;simp only[RL]at hr;obtain⟨u',us,f1,f2,hu',hru,hz,hff⟩:=hr;simp only[List.cons.injEq]at hu';obtain⟨rfl,rfl⟩:=hu';have hz0:=jm _ _ _ rfl hru;rw[hz0]at hru;obtain⟨fO',fV,h2,hov⟩:=h.release hy hynm;have hown:=hov _ hru;split at hk
     ·rename_i x1 hx1;split at hk
      ·rename_i row1 hrow1;obtain⟨h1,hk⟩:=bX hk;simp only[aK]at h1;obtain⟨hnm1,hoff1⟩:=h1;have hoff1:=dZ hoff1;obtain⟨g',b',c',e',fr',f',hv',hh',hle',hr',hput'⟩:=h2.row (m:=1) hx1 hrow1 hoff1 hp;rw[hv]at hv';simp only[Value.pointer.injEq,aF,Addr.mk.injEq,and_true]at hv';obtain⟨rfl,rfl⟩:=hv';rw[hh]at hh';simp only[aF,Obj.cells.injEq]at hh';obtain⟨rfl,rfl,rfl⟩:=hh';simp only[hnm1,if_true]at hput';obtain⟨fO4,h4⟩:=hput' [.own y.k y.rows] fV zf rfl (by simp only[RL];exact⟨c[b],c.toList.drop (b+1),fV,zf,hdrop,hown,rfl,by funext j;simp[zf]⟩) (fun j=>by simp only[zf];omega);exact⟨_,G,hk,_,fO4,h4⟩
      ·exact hk.elim
     ·exact hk.elim
    ·exact hk.elim
   ·exact d_ hk
  ·exact d_ hk
 ·exact d_ hk
def vk (ob:List Ob):∀l:List SV,(brwL ob l).length=l.length
 |[]=>rfl
 |x::l=>by simp[brwL,vk ob l]
mutual
def R.brw {ob:List Ob}(hF:∀ g,G.F g->G'.F g)(hβ:G'.β=G.β)(hob:∀ o y,bu ob o=U y->y.nm=ag->∀ v,R w G (.ar o) v zf->R w G' (.sl y.k (cC y.rows)) v zf) :
  ∀(x:SV) (v:Value) (f:FP),(∀g,1<=f g->G'.F g)->R w G x v f->R w G' (AM.brw ob x) v zf
 |.own k rows,v,f,hf,h=>iw hF hβ (.own k rows) v f hf h
 | .ar o,v,f,hf,h=>by
   have hz:=jm _ _ _ rfl h;rw[hz]at h;simp only[AM.brw]
   split
   ·rename_i y hy;split
    ·rename_i hnm;exact hob o y hy hnm v h
    ·exact gJ _ _ _
   ·exact gJ _ _ _
 | .agg cs,v,f,hf,h=>by
   simp only[R,AM.brw]at h ⊢;obtain⟨vs,hv,hs,hr⟩:=h;exact⟨vs,hv,by rw[vk];exact hs,RL.brw hF hβ hob cs _ f hf hr⟩
 | .tup cs,v,f,hf,h=>by
   simp only[R,AM.brw]at h ⊢;obtain⟨vs,hv,hs,hr⟩:=h;exact⟨vs,hv,by rw[vk];exact hs,RL.brw hF hβ hob cs _ f hf hr⟩
 |.u,v,f,hf,h=>gJ _ _ _
 |.sk,v,f,hf,h=>iw hF hβ .sk v f hf h
 |.i k n,v,f,hf,h=>iw hF hβ (.i k n) v f hf h
 |.b x,v,f,hf,h=>iw hF hβ (.b x) v f hf h
 |.s x,v,f,hf,h=>iw hF hβ (.s x) v f hf h
 |.sl k r,v,f,hf,h=>iw hF hβ (.sl k r) v f hf h
 |.p n i off,v,f,hf,h=>iw hF hβ (.p n i off) v f hf h
 |.ro c,v,f,hf,h=>iw hF hβ (.ro c) v f hf h
 |.nilp,v,f,hf,h=>iw hF hβ .nilp v f hf h
 |.nil,v,f,hf,h=>iw hF hβ .nil v f hf h
 |.fn g caps,v,f,hf,h=>iw hF hβ (.fn g caps) v f hf h
def RL.brw {ob:List Ob}(hF:∀ g,G.F g->G'.F g)(hβ:G'.β=G.β)(hob:∀ o y,bu ob o=U y->y.nm=ag->∀ v,R w G (.ar o) v zf->R w G' (.sl y.k (cC y.rows)) v zf) :
  ∀(l:List SV) (vs:List Value) (f:FP),(∀g,1<=f g->G'.F g)->RL w G l vs f->RL w G' (AM.brwL ob l) vs zf
 |[],vs,f,hf,h=>by simp[AM.brwL,RL]
 | x::l,vs,f,hf,h=>by
   simp only[RL,AM.brwL]at h ⊢;obtain⟨v,vs',f1,f2,hv,h1,h2,hff⟩:=h;exact⟨v,vs',zf,zf,hv,R.brw hF hβ hob x v f1 (fun g hg=>hf g (by have:=bK hff g;omega)) h1,RL.brw hF hβ hob l vs' f2 (fun g hg=>hf g (by have:=bK hff g;omega)) h2,by funext j;simp[zf]⟩
end
mutual
def Mw {w:World}{G G':Gh}:∀(x:SV) (v:Value) (f:FP),ke x=ae->R w G x v f->R w G' x v f
 |.i _ _,v,f,_,h=>by simpa[R]using h
 |.b _,v,f,_,h=>by simpa[R]using h
 |.s _,v,f,_,h=>by simpa[R]using h
 |.nil,v,f,_,h=>by simpa[R]using h
 | .own k rows,v,f,hf,h=>by
   simp only[R]at h ⊢;rcases h with h|⟨g,base,cap,c,e,f',hv,hc,hh,hb,hl,hr,hff⟩
   ·exact .inl h
   ·exact .inr ⟨g,base,cap,c,e,f',hv,hc,hh,hb,hl,Mx (G:=G.pure) (G':=G'.pure) rows _ f' (by simpa[ke]using hf) hr,hff⟩
 | .agg cs,v,f,hf,h=>by
   simp only[R]at h ⊢;obtain⟨vs,hv,hs,hr⟩:=h;exact⟨vs,hv,hs,zV cs _ _ (by simpa[ke]using hf) hr⟩
 | .tup cs,v,f,hf,h=>by
   simp only[R]at h ⊢;obtain⟨vs,hv,hs,hr⟩:=h;exact⟨vs,hv,hs,zV cs _ _ (by simpa[ke]using hf) hr⟩
def zV {w:World}{G G':Gh}:∀(l:List SV) (vs:List Value) (f:FP),gZ l=ae->RL w G l vs f->RL w G' l vs f
 |[],vs,f,_,h=>by simpa[RL]using h
 | x::l,vs,f,hf,h=>by
   simp only[gZ,aK]at hf;simp only[RL]at h ⊢;obtain⟨v,vs',f1,f2,hv,h1,h2,hff⟩:=h;exact⟨v,vs',f1,f2,hv,Mw x v f1 hf.1 h1,zV l vs' f2 hf.2 h2,hff⟩
def Mx {w:World}{G G':Gh}:∀(l:List (List SV)) (vs:List Value) (f:FP),qc l=ae->aH w G l vs f->aH w G' l vs f
 |[],vs,f,_,h=>by simpa[aH]using h
 | r::l,vs,f,hf,h=>by
   simp only[qc,aK]at hf;simp only[aH]at h ⊢;obtain⟨f1,f2,h1,ho,h2,hff⟩:=h;exact⟨f1,f2,zV r vs f1 hf.1 h1,ho,Mx l _ f2 hf.2 h2,hff⟩
end
def zem {f:Operand}{n:FuncId}{caps:List SV}{xs:List Operand}{d:Option Tmp}{Post:SV->List Ob->Prop}(hac:AC P n (brwL st.ob (xs.map (AM.ev st.env)++caps)) [] Post)
  (hf:AM.ev st.env f = .fn n caps) (hk:∀sv ext',Post sv ext'->ke sv=ae/\K (aZ st d sv)):gO P f xs d st K:=by
 intro o c ho hc hxs hd a w0 w L G Q ⟨fE,fO,h⟩;have hfv:=h.ev0 a rfl f (by rw[hf];rfl);rw[hf]at hfv;simp only[R]at hfv;obtain⟨_,cvs,hfv,hcs,hcr⟩:=hfv
 let G2:=G.frozen (fun g=>fE g+fO g)
 have hF:∀g,G.F g->G2.F g:=fun _ hg=>.inl hg
 have hob:∀o y,bu st.ob o=U y->y.nm=ag->∀v,R w G (.ar o) v zf->R w G2 (.sl y.k (cC y.rows)) v zf:=by
  intro o y hy hnm v hv;obtain⟨fO',fV,_,hle,hov⟩:=h.takeAr hy hnm;exact iw (G':=G2) hF rfl (.own y.k y.rows) v fV (fun g hg=>.inr (by have:=hle g;show 1<=fE g+fO g;omega)) (hov v hv)
 have hone:∀x:Operand,R w G2 (brw st.ob (AM.ev st.env x)) (a.eval x) zf:=by
  intro x;cases x with
  | tmp t=>
    obtain⟨f1,hr,hle⟩:=h.look t;exact R.brw hF rfl hob _ _ f1 (fun g hg=>.inr (by have:=hle g;show 1<=fE g+fO g;omega)) hr
  |const v=>exact R.brw hF rfl hob _ _ zf (fun g hg=>by simp[zf]at hg) (R.const _ _ _)
  |global g=>simp only[AM.ev,brw];exact gJ _ _ _
  |func f=>exact R.brw hF rfl hob _ _ zf (fun g hg=>by simp[zf]at hg) (h.ev0 a rfl (.func f) rfl)
 have hall:RL w G2 (brwL st.ob (xs.map (AM.ev st.env)++caps)) (xs.map a.eval++cvs.toList) zf:=by
  have hcap:=RL.brw (G':=G2) (ob:=st.ob) hF rfl hob caps cvs.toList zf (fun g hg=>by simp[zf]at hg) hcr
  have:∀l:List Operand,RL w G2 (brwL st.ob (l.map (AM.ev st.env)++caps)) (l.map a.eval++cvs.toList) zf:=by
   intro l
   induction l with
   |nil=>simpa using hcap
   | cons x l ih=>
     simp only[bF,cF,brwL,RL]
     exact⟨_,_,zf,zf,rfl,hone x,ih,by funext j;simp[zf]⟩
  exact this xs
 have hlen:((c.args.map a.eval)++cvs).size=(brwL st.ob (xs.map (AM.ev st.env)++caps)).length:=by
  rw[vk,<-hxs];simp[hcs]
 have hgoes:=hac w G2 ((c.args.map a.eval)++cvs) zf hlen (by rw[<-hxs]at hall;simpa[hxs]using hall) rfl ⟨fun g=>by simp[zf],fun g hg=>rfl,fun g hg=>by
  rcases hg with hg|hg
  ·exact h.fsize g hg
  ·exact h.lt g (by show 1<=fE g+fO g+zf g;simp only[zf];exact hg),fun g hg=>by simp[zf]at hg⟩
 have hexec:(execOp a.eval o).run P w=(callFunc n ((c.args.map a.eval)++cvs)).run P w:=by
  simp[execOp,ho,hc,resolve,hfv,Deferred.ofValue,invoke]
 have key:∀v w',rX w G2 zf (aQ []) Post v w'->Nx w0 L a.defers K (a.put o.dst v) w':=by
  rintro v w' ⟨sv,ext',G',fV,fO',hpost,hrv,hro,hown',hmono,hnewF,hnewO,hkeep,hβ,hnd',hgrow,hos,htape,hout⟩;obtain⟨hflat,hK⟩:=hk sv ext' hpost;have same:∀g,g<w.heap.size->w'.heap[g]? = w.heap[g]?:=fun g hg=>hkeep g hg rfl
  have sF:∀g,G.F g->w'.heap[g]? = w.heap[g]?:=fun g hg=>same g (h.fsize g hg)
  have hz:∀g,g<w.heap.size->fV g=0:=fun g hg=>by
   have h1:1<=fV g+fO' g->1<=zf g:=hnewO g hg;simp only[zf]at h1;omega
  have hA:aU w0 L st a.tmps w' G fE fO fV :=
   {size:=h.size
    E:=RL.frame (G:=G) (G':=G) (fun _ h=>h) rfl sF _ _ _ (fun g hg=>same g (h.lt g (by omega))) h.E
    O:=aW.frame (G:=G) (G':=G) (fun _ h=>h) rfl sF _ _ (fun g hg=>same g (h.lt g (by omega))) h.O
    le:=fun g=>by
     have h1:=h.le g;have h3:fV g+fO' g<=1:=hown'.1 g;simp only[zf]at h1;by_cases hg:g<w.heap.size
     ·have:=hz g hg;omega
     ·have h5:=h.lt g;simp only[zf]at h5;omega
    fz:=fun g hg=>by have h1:=h.fz g hg;simp only[zf]at h1;have:=hz g (h.fsize g hg);omega
    lf:=fun g hg=>by have h1:=h.lf g hg;simp only[zf]at h1;have h3:=h.lsize g hg;have h4:=h.grow;have:=hz g (by omega);omega
    lt:=fun g hg=>by
     by_cases h1:1<=fV g
     ·exact hown'.2.2.2 g (by show 1<=fV g+fO' g;omega)
     ·exact Nat.lt_of_lt_of_le (h.lt g (by simp only[zf];omega)) hgrow
    nodup:=h.nodup,fl:=h.fl,fm:=h.fm,bk:=h.bk
    fsize:=fun g hg=>Nat.lt_of_lt_of_le (h.fsize g hg) hgrow
    keep:=fun g hg=>by rw[same g (Nat.lt_of_lt_of_le (h.lsize g hg) h.grow)];exact h.keep g hg
    lsize:=h.lsize
    grow:=Nat.le_trans h.grow hgrow
    os:=hos.trans h.os,tape:=htape.trans h.tape,output:=hout.trans h.output}
  obtain⟨fE4,hD⟩:=hA.putD (fX':=zf) (Mw (w:=w') (G:=G') (G':=G) sv v fV hflat hrv) (fun g=>by simp[zf]) o.dst a rfl;refine⟨_,G,hK,⟨fE4,fO,?_⟩,Act.put_defers _ _ _⟩;rw[<-hd];exact hD
 unfold Oper.wp;rw[hexec];rcases hgoes with⟨hrun,hcalls⟩|⟨v,w',hrun,hafter⟩
 ·rw[hrun,Oper.upon_enter];refine Calls.mono hcalls ?_;rintro e w' ⟨v,rfl,hv⟩;exact key v w' hv
 ·rw[hrun,Oper.upon_value];exact key v w' hafter
end
end Go.AM
end
section
namespace Go.AM
inductive mj:Type 1
 |var (α:Type) (k:α->mj)
 |st (al:List (Nat×SV)) (ob:List Ob) (ok:Prop) (μ:Nat)
 |here (k:mj)
def mj.allK (N:Nat)(B:Nat->St->Prop):mj->Prop
 |.var _ k=>∀x,(k x).allK N B
 |.st al ob ok μ=>ok->B μ ⟨gm N al,ob⟩
 |.here k=>k.allK N B
def ni:List (Nat×SV)->(St->Prop)->St->Prop
 |[],K,s=>K s
 | (t,.own _ _)::l,K,s=>match bx s.env t with
   |.ar _=>u4 s t (ni l K)
   |_=>ni l K s
 |_::l,K,s=>ni l K s
def AA (o:Nat):Nat->List SV->(St->Prop)->St->Prop
 |_,[],K,s=>K s
 |j,.own _ _::l,K,s=>vi o j (AA o (j+1) l K) s
 |j,_::l,K,s=>AA o (j+1) l K s
def kf:List Ob->(St->Prop)->St->Prop
 |[],K,s=>K s
 | y::l,K,s=>match y.nm with
   | true=>match y.rows with
     |[row]=>AA y.name 0 row (kf l K) s
     |_=>kf l K s
   |false=>kf l K s
def Gf (env:List SV):List (Nat×SV)->Prop->Prop
 |[],K=>K
 |p::l,K=>Ax (bx env p.1) p.2 (Gf env l K)
def Ny (N:Nat)(al:List (Nat×SV))(ob:List Ob)(B:Prop)(s:St):Prop :=
 chk (s.env.length==N&&js (aQ ob)) (match dB (aQ ob) s.ob with
  |some ob'=>Gf s.env al (Ay ob' ob B)
  |none=>False)
def mj.exK (N:Nat)(lt:Nat->Prop)(s:St):mj->Prop
 |.var _ k=>∃x,(k x).exK N lt s
 |.st al ob ok μ=>kf ob (ni al (Ny N al ob (ok/\lt μ))) s
 |.here k=>k.exK N lt s
def Nz {P:Program}{c:Code}{Q:AQ}{st:St}(J:Nat->St->Prop)(h0:gK (fun s=>∃ n,J n s) st)(hr:∀ n s,J n s->sp P c (mc (gK fun s'=>∃ n',n'<n/\J n' s') Q) s):sp P (.loop c) Q st:=by
 let μ:St->Nat:=fun s=>Classical.epsilon fun n=>J n s/\∀k,J k s->n<=k
 have hm:∀s,(∃n,J n s)->J (μ s) s/\∀k,J k s->μ s<=k:=fun s h=>
  Classical.epsilon_spec (p:=fun n=>J n s/\∀k,J k s->n<=k) (FB _ h)
 refine Nd (fun s=>∃n,J n s) μ h0 fun s hs=>?_
 obtain⟨h1,h2⟩:=hm s hs;refine Ap (hr _ _ h1) fun x s' hq=>?_
 cases x with
 |normal=>exact nb hq fun s'' ⟨n',hlt,hj⟩=>⟨⟨n',hj⟩,Nat.lt_of_le_of_lt ((hm s'' ⟨n',hj⟩).2 _ hj) hlt⟩
 |_=>exact hq
def lC:Code->Nat
 |.region id _ _=>id
 |.seq x _=>lC x
 |.cond _ x _=>lC x
 |.block _ c=>lC c
 |.loop c=>lC c
 |_=>0
def Gg:Nat->Prop:=fun _=>True
def NA (μ:Nat):Nat->Prop:=fun n=>n<μ
def Gi (N:Nat)(lt:Nat->Prop)(iv:mj)(s:St):Prop:=iv.exK N lt s
def NB (K:St->Prop)(_:Nat)(s:St):Prop:=K s
def r_ (st:St)(c:Operand)(b:Bool):St:=match c with
 |.tmp s=>b_ st s (.b b)
 |_=>st
def Gj {st:St}{c:Operand}{b:Bool}(h:ev st.env c = .b b):r_ st c b=st:=by
 unfold r_;split
 ·rename_i s;simp only[b_]
  rw[<-(show bx st.env s = .b b from h),p4]
 ·rfl
def nj (T:Nat->TI)(C:zAz)(pl:Nat->List Nat×a_)(N:Nat)(iv:Nat->mj):Code->AQ->St->Prop
 |.skip,Q,st=>Q .normal st
 | .region id ops draw,Q,st=>match draw with
   |false=>z6 T C ops ops.toList (Q .normal) st
   |true=>flK T C ops (pl id).1 (planK T C ops (Q .normal) (pl id).2) st
 | .seq x y,Q,st=>match iv (lC y)with
   |.here k=>nj T C pl N iv x (mc (Gi N Gg k) Q) st/\k.allK N (NB (nj T C pl N iv y Q))
   |_=>nj T C pl N iv x (mc (nj T C pl N iv y Q) Q) st
 | .cond c x y,Q,st=>match ev st.env c with
   |.b t=>cnd t (nj T C pl N iv x Q (r_ st c ae)) (nj T C pl N iv y Q (r_ st c ag))
   |_=>False
 |.block id c,Q,st=>nj T C pl N iv c (oz id Q) st
 |.loop c,Q,st=>(iv (lC c)).exK N Gg st/\(iv (lC c)).allK N fun μ s=>nj T C pl N iv c (mc (Gi N (NA μ) (iv (lC c))) Q) s
 |.exit id,Q,st=>Q (.exit id) st
 |.ret,Q,st=>Q .ret st
 |_,_,_=>False
def jS (T:Nat->TI)(pl:Nat->List Nat×a_):Code->Bool
 | .region id ops draw=>match draw with
   |false=>ae
   |true=>At T ops (pl id).1 (pl id).2
 |.seq x y=>jS T pl x&&jS T pl y
 |.cond _ x y=>jS T pl x&&jS T pl y
 |.block _ c=>jS T pl c
 |.loop c=>jS T pl c
 |_=>ae
section
variable {P:Program}{T:Nat->TI}{C:zAz}{pl:Nat->List Nat×a_}{N:Nat}{iv:Nat->mj}
end
section
variable {P:Program}{T:Nat->TI}{C:zAz}{pl:Nat->List Nat×a_}
end
end Go.AM
end
section
namespace Go.AM
abbrev WP:=List SV->List Ob->(SV->List Ob->Prop)->Prop
structure Ent where
 pure:Bool
 loc:List SV->List Ob->Option (List Nat)
 W:WP
def kg (P:Program)(f:FuncId)(W:WP):Prop:=∀args ob K,W args ob K->AC P f args ob K
def iz:Nat->List Nat->Nat->Nat
 |k,[],_=>k
 |k,n::ns,m=>bif n==m then k else iz (k+1) ns m
def iA (d:Nat):Nat->List Nat->Nat->Nat
 |_,[],_=>d
 |k,n::ns,m=>bif m==k then n else iA d (k+1) ns m
def kh:Nat->List Nat->List Nat
 |_,[]=>[]
 |k,_::ns=>k::kh (k+1) ns
def i4:Option Tmp->Nat
 |some t=>t
 |none=>997
def se:List Nat->(St->Prop)->St->Prop
 |[],K,st=>K st
 |o::l,K,st=>rY st o (se l K)
def oH (ns:List Nat):List SV->List Nat
 |[]=>[]
 |.ar o::l=>bif ns.contains o then oH ns l else o::oH (o::ns) l
 |_::l=>oH ns l
def evs (env:List SV):List Operand->List SV
 |[]=>[]
 |x::l=>ev env x::evs env l
def AB (ns:List Nat)(d:Option Tmp)(K:St->Prop)(st:St)(sv:SV)(ext':List Ob):Prop :=
 chk (u5 (iA (i4 d) 100000 ns) (kh 100000 ns) ext' sv) (K (rZ (iA (i4 d) 100000 ns) (kh 100000 ns) st ext' sv d))
def vm (W:WP)(ns:List Nat)(xs:List Operand)(caps:List SV)(d:Option Tmp)(K:St->Prop)(st:St):Prop :=
 match dB ns st.ob with
 |some obs=>chk (js ns&&iZ ns (evs st.env xs++caps)&&mg ns obs&&!eF (evs st.env xs))
   (W (eH (iz 100000 ns) (evs st.env xs++caps)) (gj (iz 100000 ns) obs) (AB ns d K st))
 |none=>False
def vo (W:WP)(ns:List Nat)(n:Nat)(f:Operand)(xs:List Operand)(d:Option Tmp)(K:St->Prop)(st:St):Prop:=match ev st.env f with
 |.fn n' caps=>chk (n'==n) (vm W ns xs caps d K st)
 |_=>False
def vq (e:Ent)(n:Nat)(caps:List SV)(f:Operand)(xs:List Operand)(d:Option Tmp)(K:St->Prop)(st:St):Prop :=
 match e.loc (evs st.env xs++caps) st.ob with
 |some ns=>se (oH ns (evs st.env xs++caps)) (vo e.W ns n f xs d K) st
 |none=>False
def Gk (d:Option Tmp)(K:St->Prop)(st:St)(sv:SV)(_:List Ob):Prop:=chk (ke sv) (K (aZ st d sv))
def AD (tbl:Nat->Option Ent)(f:Operand)(xs:List Operand)(d:Option Tmp)(K:St->Prop)(st:St):Prop :=
 match ev st.env f with
 | .fn n caps=>match tbl n with
   | some e=>match e.pure with
     |true=>e.W (brwL st.ob (evs st.env xs++caps)) [] (Gk d K st)
     |false=>vq e n caps f xs d K (frzTL st xs)
   |none=>False
 |_=>False
def oI (tbl:Nat->Option Ent):zAz:=fun f xs d st K=>AD tbl f xs d K st
section
variable {P:Program}{st:St}{K:St->Prop}{d:Option Tmp}
def vr (env:List SV):∀xs:List Operand,evs env xs=xs.map (AM.ev env)
 |[]=>rfl
 |x::l=>by simp only[evs,bF,vr env l]
mutual
def NC {σ τ:Nat->Nat}{ns:List Nat}(h:∀ n∈ns,σ (τ n)=n):∀x:SV,gk ns x=ae->ren σ (ren τ x)=x
 |.ar n,hc=>by simp only[ren];rw[h n (by simpa[gk]using hc)]
 |.p n i off,hc=>by simp only[ren];rw[h n (by simpa[gk]using hc)]
 |.fn f caps,hc=>by simp only[ren];rw[qd h caps (by simpa[gk]using hc)]
 |.agg cs,hc=>by simp only[ren];rw[qd h cs (by simpa[gk]using hc)]
 |.tup cs,hc=>by simp only[ren];rw[qd h cs (by simpa[gk]using hc)]
 |.u,_=>rfl
 |.sk,_=>rfl
 |.i _ _,_=>rfl
 |.b _,_=>rfl
 |.s _,_=>rfl
 |.sl _ _,_=>rfl
 |.own _ _,_=>rfl
 |.ro _,_=>rfl
 |.nilp,_=>rfl
 |.nil,_=>rfl
def qd {σ τ:Nat->Nat}{ns:List Nat}(h:∀ n∈ns,σ (τ n)=n):∀l:List SV,iZ ns l=ae->eH σ (eH τ l)=l
 |[],_=>rfl
 | x::l,hc=>by
   simp only[iZ,aK]at hc;simp only[eH]
   rw[NC h x hc.1,qd h l hc.2]
end
def Gl {σ τ:Nat->Nat}{ns:List Nat}(h:∀ n∈ns,σ (τ n)=n):∀l:List (List SV),fN ns l=ae->dC σ (dC τ l)=l
 |[],_=>rfl
 | x::l,hc=>by
   simp only[fN,aK]at hc;simp only[dC]
   rw[qd h x hc.1,Gl h l hc.2]
def Gm {σ τ:Nat->Nat}{ns:List Nat}(h:∀ n∈ns,σ (τ n)=n):∀l:List Ob,(∀n∈aQ l,n∈ns)->mg ns l=ae->gj σ (gj τ l)=l
 |[],_,_=>rfl
 | x::l,hn,hc=>by
   simp only[mg,aK]at hc;simp only[gj]
   rw[Gm h l (fun n hn'=>hn n (by simp[aQ]at hn' ⊢;exact .inr hn')) hc.2];congr 1;obtain⟨name,k,rows,nm⟩:=x;simp only[jQ]
   rw[h name (hn name (by simp[aQ]))];cases nm with
   |true=>simp only[if_true]at hc ⊢;rw[Gl h rows (by simpa using hc.1)]
   |false=>simp
def Gp:∀(ns:List Nat) (k m:Nat),k<=iz k ns m
 |[],k,m=>bJ _
 | n::ns,k,m=>by
   simp only[iz]
   cases n==m with
   |true=>exact bJ _
   |false=>have:=Gp ns (k+1) m;simp only[cond_false];omega
def Gq {d:Nat}:∀(ns:List Nat) (k n:Nat),n∈ns->iA d k ns (iz k ns n)=n
 |[],k,n,h=>by simp at h
 | m::ns,k,n,h=>by
   simp only[iz]
   by_cases hm:m=n
   ·subst hm;simp[iA]
   ·have e:(m==n)=ag:=by simpa using hm
    rw[e,cond_false];have hge:=Gp ns (k+1) n;have e2:(iz (k+1) ns n==k)=ag:=by simp;omega
    simp only[iA,e2,cond_false]
    exact Gq ns (k+1) n (by rcases List.mem_cons.1 h with h|h;exact absurd h.symm hm;exact h)
def Gr (σ:Nat->Nat)(l:List Ob):aQ (gj σ l)=(aQ l).map σ:=u7 l
def Gs:∀(ns:List Nat) (k:Nat),js ns=ae->ns.map (iz k ns)=kh k ns
 |[],k,_=>rfl
 | n::ns,k,h=>by
   simp only[js,aK,Bool.not_eq_true',List.contains_eq_mem,bS]at h;simp only[bF,kh,iz,beq_self_eq_true,cond_true,List.cons.injEq,true_and]
   rw[<-Gs ns (k+1) h.2];apply List.map_congr_left;intro m hm;have:(n==m)=ag:=by simp;intro e;subst e;exact h.1 hm
   rw[this];rfl
def My {P:Program}{f:Operand}{xs:List Operand}(h:gK (fun s=>gO P f xs d s K) st):gO P f xs d st K:=by
 intro o c ho hc hx hd a w0 w L G Q hs;obtain⟨s',G',h1,h2⟩:=h w0 w L a.tmps G hs;exact h1 o c ho hc hx hd a w0 w L G' Q h2
def zen {P:Program}{f:Operand}{xs:List Operand}(h:∀ s,s=frzTL st xs->gO P f xs d s K):gO P f xs d st K:=by
 refine My ?_;intro w0 w L tmps G ⟨fE,fO,hc⟩;obtain⟨G',fE',h'⟩:=aU.frzTL (a:=⟨tmps,[]⟩) xs hc;exact⟨_,G',h _ rfl,fE',fO,h'⟩
def Gu:∀(l:List Nat) (s:St),se l K s->gK K s
 |[],s,h=>d_ h
 |o::l,s,h=>gh (nb (FF o h) fun s' h'=>Gu l s' h')
def ND {st:St}:∀(x:Operand),cu (AM.ev st.env x)=ag->kH st x=st
 |.tmp t,h=>by simp only[kH,AM.ev]at h ⊢;rw[h];rfl
 |.const _,_=>rfl
 |.global _,_=>rfl
 |.func _,_=>rfl
def Gv {st:St}:∀(xs:List Operand),eF (evs st.env xs)=ag->frzTL st xs=st
 |[],_=>rfl
 | x::l,h=>by
   simp only[evs,eF,Bool.or_eq_false_iff]at h;simp only[frzTL,ND x h.1,Gv l h.2]
def NF {e:Ent}{n:Nat}{caps:List SV}(he:kg P n e.W){f:Operand}{xs:List Operand}(h:vq e n caps f xs d K st):gO P f xs d st K:=by
 unfold vq at h;split at h
 ·rename_i ns hns;refine My (nb (Gu _ _ h) ?_);intro s1 hs1;unfold vo at hs1;split at hs1
  case h_2=>exact hs1.elim
  rename_i n' caps hf1;obtain⟨hn',h1⟩:=bX hs1;have hn':=eq_of_beq hn';subst hn';unfold vm at h1;split at h1
  ·rename_i obs hobs;obtain⟨hb,hw⟩:=bX h1;simp only[aK,Bool.not_eq_true']at hb;obtain⟨⟨⟨hnd,hcl⟩,hclo⟩,hown⟩:=hb;have hsame:=Gv xs hown;have hnames:=u0 _ _ _ hobs;have hσ:∀n∈ns,iA (i4 d) 100000 ns (iz 100000 ns n)=n:=fun n hn=>Gq ns 100000 n hn
   have hcn:aQ (gj (iz 100000 ns) obs)=kh 100000 ns:=by rw[Gr,hnames,Gs _ _ hnd]
   have hback:(aQ (gj (iz 100000 ns) obs)).map (iA (i4 d) 100000 ns)=ns:=by
    rw[Gr,hnames,List.map_map]
    have:∀l:List Nat,(∀n∈l,n∈ns)->l.map (iA (i4 d) 100000 ns∘iz 100000 ns)=l:=by
     intro l
     induction l with
     |nil=>intro _;rfl
     |cons m l ih=>intro hl;simp only[bF,Function.comp];rw[hσ m (hl m (by simp))];congr 1;exact ih fun n hn=>hl n (by simp[hn])
    exact this ns fun _ h=>h
   refine Np (iA (i4 d) 100000 ns) (he _ _ _ hw) (by rw[hsame];exact hf1) ?_ ?_ ?_ ?_ ?_
   ·rw[hsame,qd hσ _ hcl,vr]
   ·rw[hsame,<-vr];exact hown
   ·rw[hsame,hback,hobs,Gm hσ obs (fun n hn=>by rw[<-hnames];exact hn) hclo]
   ·rw[hback];exact hnd
   ·intro sv ext' hp;rw[hcn,hsame];exact bX hp
  ·exact h1.elim
 ·exact h.elim
def NG {tbl:Nat->Option Ent}(ht:∀ n e,tbl n=U e->kg P n e.W){f:Operand}{xs:List Operand}(h:oI tbl f xs d st K):gO P f xs d st K:=by
 unfold oI AD at h;split at h
 ·rename_i n caps hf;split at h
  ·rename_i e he;split at h
   ·refine zem (ht n e he _ _ _ (by rw[<-vr];exact h)) hf fun sv ext' hg=>bX hg
   ·exact zen fun s hs=>by subst hs;exact NF (ht n e he) h
  ·exact h.elim
 ·exact h.elim
def zeo {tbl:Nat->Option Ent}(ht:∀ n e,tbl n=U e->kg P n e.W):lA P (oI tbl) :=
 fun o c f a w0 w L st G K Q ho hc hk h=>zej P o c f a w0 w L st G K Q ho hc (NG ht hk) h
end
def tbl0:Nat->Option Ent:=fun _=>aj
def ins (f:Nat)(e:Ent)(tbl:Nat->Option Ent):Nat->Option Ent:=fun n=>bif n==f then U e else tbl n
def nk (P:Program)(tbl:Nat->Option Ent):Prop:=∀n e,tbl n=U e->kg P n e.W
def nk.nil {P:Program}:nk P tbl0:=fun _ _ h=>by cases h
def nk.ins {P:Program}{f:Nat}{e:Ent}{tbl:Nat->Option Ent}(ht:nk P tbl)(h:kg P f e.W):nk P (ins f e tbl):=by
 intro n e' hn;simp only[AM.ins]at hn;by_cases hf:n=f
 ·subst hf;simp at hn;subst hn;exact h
 ·have:(n==f)=ag:=by simpa using hf
  rw[this]at hn;exact ht n e' hn
end Go.AM
end
namespace Go.AM
section
def wrapI {x:Int}(h1 : -9223372036854775808<=x)(h2:x<=9223372036854775807):IntKind.wrap .i64 x=x:=by
 simp[IntKind.wrap,IntKind.bits,IntKind.signed];omega
end
end Go.AM
section
namespace Go.AM
section
variable {w0 w:World}{L:Lv}{st:St}{G:Gh}{K:St->Prop}
def i5:List (List SV)->Bool
 |[]=>ae
 |r::l=>fu r&&i5 l
def zep:∀(x:SV) {v:Value} {f:FP},AM.plain x=ae->R w G.pure x v f->R w G x v f
 |.i _ _,_,_,_,h=>by simpa only[R]using h
 |.b _,_,_,_,h=>by simpa only[R]using h
 |.s _,_,_,_,h=>by simpa only[R]using h
 |.sl _ _,_,_,_,h=>by simp only[R]at h ⊢;exact h
 |.own _ _,_,_,_,h=>by simp only[R]at h ⊢;exact h
 |.nil,_,_,_,h=>by simpa only[R]using h
 |.u,_,_,_,h=>by simpa only[R]using h
 |.sk,_,_,_,h=>by simpa only[R]using h
 |.nilp,_,_,_,h=>by simpa only[R]using h
 |.ar _,_,_,hp,_=>by simp[AM.plain]at hp
 |.p _ _ _,_,_,hp,_=>by simp[AM.plain]at hp
 |.ro _,_,_,hp,_=>by simp[AM.plain]at hp
 |.fn _ _,_,_,hp,_=>by simp[AM.plain]at hp
 |.agg _,_,_,hp,_=>by simp[AM.plain]at hp
 |.tup _,_,_,hp,_=>by simp[AM.plain]at hp
def Mz:∀(xs:List SV) (vs:List Value) (f:FP),fu xs=ae->RL w G.pure xs vs f->RL w G xs vs f
 |[],_,_,_,h=>by simpa only[RL]using h
 | x::l,vs,f,hp,h=>by
   simp only[fu,aK]at hp;simp only[RL]at h ⊢;obtain⟨v,vs',f1,f2,e,h1,h2,hf⟩:=h;exact⟨v,vs',f1,f2,e,zep x hp.1 h1,Mz l vs' f2 hp.2 h2,hf⟩
def MA:∀(xs:List (List SV)) (vs:List Value) (f:FP),i5 xs=ae->aH w G.pure xs vs f->aH w G xs vs f
 |[],_,_,_,h=>by simpa only[aH]using h
 | x::l,vs,f,hp,h=>by
   simp only[i5,aK]at hp;simp only[aH]at h ⊢;obtain⟨f1,f2,h1,ho,h2,hf⟩:=h;exact⟨f1,f2,Mz x vs f1 hp.1 h1,ho,MA l _ f2 hp.2 h2,hf⟩
def aH.plain:∀(xs:List (List SV)) (vs:List Value) (f:FP),i5 xs=ae->aH w G xs vs f->aH w G.pure xs vs f
 |[],_,_,_,h=>by simpa only[aH]using h
 | x::l,vs,f,hp,h=>by
   simp only[i5,aK]at hp;simp only[aH]at h ⊢;obtain⟨f1,f2,h1,ho,h2,hf⟩:=h;exact⟨f1,f2,RL.plain _ _ _ hp.1 h1,ho,aH.plain l _ f2 hp.2 h2,hf⟩
def nn:List Ob->Nat->Bool->List Ob
 |[],_,_=>[]
 |x::l,o,b=>if x.name=o then{x with nm:=b}::l else x::nn l o b
def Gw (o:Nat)(b:Bool):∀l:List Ob,aQ (nn l o b)=aQ l
 |[]=>rfl
 | x::l=>by
   unfold nn;split
   ·rfl
   ·have:=Gw o b l;simp only[aQ,bF]at this ⊢;rw[this]
def RO.nm {x:Ob}{f:FP}(b:Bool)(hp:i5 x.rows=ae)(h:RO w G x f):RO w G {x with nm:=b} f:=by
 obtain⟨r,h1,h2,h3,h4,h5⟩:=h;refine⟨r,h1,h2,h3,h4,?_⟩;cases hb:r.blk with
 |none=>rw[hb]at h5;exact h5
 | some q=>
   obtain⟨g,base,csz⟩:=q;rw[hb]at h5;obtain⟨c,e,f',k1,k2,k3,k4,k5⟩:=h5;refine⟨c,e,f',k1,k2,k3,?_,k5⟩
   have hpure:aH w G.pure x.rows (c.toList.drop base) f':=by
    cases hn:x.nm with
    |true=>rw[hn,if_pos rfl]at k4;exact aH.plain _ _ _ hp k4
    |false=>rw[hn,if_neg (by simp)]at k4;exact k4
   cases b with
   |true=>simp only[if_true];exact MA _ _ _ hp hpure
   |false=>simp only[cV,if_false];exact hpure
def aW.nm (o:Nat)(b:Bool):∀(l:List Ob) (f:FP),(∀x,bu l o=U x->i5 x.rows=ae)->aW w G l f->aW w G (nn l o b) f
 |[],_,_,h=>h
 | x::l,f,hp,h=>by
   obtain⟨f1,f2,h1,h2,hf⟩:=h;unfold nn;by_cases hx:x.name=o
   ·rw[if_pos hx];exact⟨f1,f2,RO.nm b (hp x (by simp[bu,hx])) h1,h2,hf⟩
   ·rw[if_neg hx];exact⟨f1,f2,h1,aW.nm o b l f2 (fun y hy=>hp y (by simp[bu,hx,hy])) h2,hf⟩
def vu (o:Nat)(b:Bool)(hp:∀ x,bu st.ob o=U x->i5 x.rows=ae)(h:K ⟨st.env,nn st.ob o b⟩):gK K st:=by
 intro w0 w L tmps G ⟨fE,fO,hc⟩;refine⟨_,G,h,fE,fO,?_⟩
 exact
  {size:=hc.size
   E:=hc.E,O:=aW.nm o b _ _ hp hc.O
   le:=hc.le,fz:=hc.fz,lf:=hc.lf,lt:=hc.lt
   nodup:=by rw[Gw];exact hc.nodup
   fl:=hc.fl,fm:=hc.fm,bk:=hc.bk,fsize:=hc.fsize,keep:=hc.keep,lsize:=hc.lsize,grow:=hc.grow,os:=hc.os,tape:=hc.tape,output:=hc.output}
end
end Go.AM
end
section
namespace Go.AM
def AE (ob i off:Nat)(K:St->Prop)(st:St):Prop:=match bu st.ob ob with
 | some x=>match x.rows[i]? with
   | some row=>match bx row off with
     | .ar o=>match bu st.ob o with
       | some y=>chk (!y.nm&&x.nm&&ble (off+1) row.length) (match bu (killSt o st).ob ob with
         | some x1=>match x1.rows[i]? with
           |some row1=>chk (x1.nm&&ble (off+1) row1.length) (K (eG (killSt o st) ob x1.rows i (wr row1 off [.own y.k y.rows])))
           |none=>False
         |none=>False)
       |none=>False
     |_=>K st
   |none=>K st
 |none=>K st
def vv (ob i off:Nat)(K:St->Prop)(st:St):Prop:=match bu st.ob ob with
 | some x=>match x.rows[i]? with
   | some row=>match bx row off with
     | .own k rows=>chk (x.nm&&ble (off+1) row.length) (match bu (eG st ob x.rows i (wr row off [.u])).ob ob with
       | some x1=>match x1.rows[i]? with
         |some row1=>chk (x1.nm&&ble (off+1) row1.length) (K (eG (eG st ob x.rows i (wr row off [.u])) ob x1.rows i (wr row1 off [.sl k (cC rows)])))
         |none=>False
       |none=>False)
     |_=>K st
   |none=>K st
 |none=>K st
section
variable {w0 w:World}{L:Lv}{st:St}{G:Gh}{fE fO fX:FP}{K:St->Prop}{tmps:Array Value}
def NH {ob i off:Nat}(hk:AE ob i off K st):gK K st:=by
 unfold AE at hk;split at hk
 ·rename_i x hg;split at hk
  ·rename_i row hrow;split at hk
   ·rename_i o hcl;split at hk
    ·rename_i y hy;obtain⟨h1,hk⟩:=bX hk;simp only[aK,Bool.not_eq_true']at h1;obtain⟨⟨hynm,hxnm⟩,hoff0⟩:=h1;have hoff:=dZ hoff0;intro w0 w L tmps G ⟨fE,fO,h⟩
     have hcell:(row.drop off).take 1=[.ar o]:=by
      rw[pV row off (by omega)]at hcl;rw[List.drop_eq_getElem_cons (by omega)];simp[hcl]
     obtain⟨f1,f2,hro,_⟩:=uJ _ _ _ hg h.O;obtain⟨r,hr,hrk,hrn,hl,hm⟩:=hro;rw[kc _ _ _ hg]at hr;obtain⟨blk,rk,rn⟩:=r;cases blk with
     |none=>simp only at hm;rw[hm.1]at hrow;simp at hrow
     |some q=>
     obtain⟨g0,base0,csz0⟩:=q
     have hp:R w G (.p ob i off) (.pointer (U ⟨g0,base0+i*rk+off,aj⟩)) zf:=by
      simp only[R]
      exact⟨trivial,g0,base0,csz0,rk,rn,hr,rfl⟩
     obtain⟨g,b,c,e,fr,f,hv,hh,hle,hr,hput⟩:=h.row (m:=1) hg hrow hoff hp;simp only[hxnm,if_true]at hr hput;rw[hcell]at hr;have hlt:b<c.size:=by omega
     have hu:(c.toList.drop b).take 1=[c[b]]:=by rw[List.drop_eq_getElem_cons (by simpa using hlt)];simp
     have hdrop:c.toList.drop b=c[b]::c.toList.drop (b+1):=by rw[List.drop_eq_getElem_cons (by simpa using hlt)];simp
     rw[hu]at hr;simp only[RL]at hr;obtain⟨u',us,f1,f2,hu',hru,hz,hff⟩:=hr;simp only[List.cons.injEq]at hu';obtain⟨rfl,rfl⟩:=hu';have hz0:=jm _ _ _ rfl hru;rw[hz0]at hru;obtain⟨fO',fV,h2,hov⟩:=h.release hy hynm;have hown:=hov _ hru;split at hk
     ·rename_i x1 hx1;split at hk
      ·rename_i row1 hrow1;obtain⟨h1,hk⟩:=bX hk;simp only[aK]at h1;obtain⟨hnm1,hoff1⟩:=h1;have hoff1:=dZ hoff1;obtain⟨g',b',c',e',fr',f',hv',hh',hle',hr',hput'⟩:=h2.row (m:=1) hx1 hrow1 hoff1 hp;rw[hv]at hv';simp only[Value.pointer.injEq,aF,Addr.mk.injEq,and_true]at hv';obtain⟨rfl,rfl⟩:=hv';rw[hh]at hh';simp only[aF,Obj.cells.injEq]at hh';obtain⟨rfl,rfl,rfl⟩:=hh';simp only[hnm1,if_true]at hput';obtain⟨fO4,h4⟩:=hput' [.own y.k y.rows] fV zf rfl (by simp only[RL];exact⟨c[b],c.toList.drop (b+1),fV,zf,hdrop,hown,rfl,by funext j;simp[zf]⟩) (fun j=>by simp only[zf];omega);exact⟨_,G,hk,_,fO4,h4⟩
      ·exact hk.elim
     ·exact hk.elim
    ·exact hk.elim
   ·exact d_ hk
  ·exact d_ hk
 ·exact d_ hk
def Gx {ob i off:Nat}(hk:vv ob i off K st):gK K st:=by
 unfold vv at hk;split at hk
 ·rename_i x hg;split at hk
  ·rename_i row hrow;split at hk
   ·rename_i k rows hcl;obtain⟨h0,hk⟩:=bX hk;simp only[aK]at h0;have hoff:=dZ h0.2;split at hk
    ·rename_i x1 hx1;split at hk
     ·rename_i row1 hrow1;obtain⟨h1',hk⟩:=bX hk;simp only[aK]at h1';have hoff1:=dZ h1'.2;intro w0 w L tmps G ⟨fE,fO,h⟩
      have hcell:(row.drop off).take 1=[.own k rows]:=by
       rw[pV row off (by omega)]at hcl;rw[List.drop_eq_getElem_cons (by omega)];simp[hcl]
      obtain⟨f1,f2,hro,_⟩:=uJ _ _ _ hg h.O;obtain⟨r,hr,hrk,hrn,hl,hm⟩:=hro;rw[kc _ _ _ hg]at hr;obtain⟨blk,rk,rn⟩:=r;cases blk with
      |none=>simp only at hm;rw[hm.1]at hrow;simp at hrow
      |some q=>
      obtain⟨g0,base0,csz0⟩:=q
      have hp:R w G (.p ob i off) (.pointer (U ⟨g0,base0+i*rk+off,aj⟩)) zf:=by
       simp only[R]
       exact⟨trivial,g0,base0,csz0,rk,rn,hr,rfl⟩
      obtain⟨g,b,c,e,fr,f,hv,hh,hle,hr1,hput⟩:=h.row (m:=1) hg hrow hoff hp;rw[hcell]at hr1;have hlt:b<c.size:=by omega
      have hu:(c.toList.drop b).take 1=[c[b]]:=by rw[List.drop_eq_getElem_cons (by simpa using hlt)];simp
      have hdrop:c.toList.drop b=c[b]::c.toList.drop (b+1):=by rw[List.drop_eq_getElem_cons (by simpa using hlt)];simp
      rw[hu]at hr1;simp only[RL]at hr1;obtain⟨u',us,f3,f4,hu',hru,hz,hff⟩:=hr1;simp only[List.cons.injEq]at hu';obtain⟨rfl,rfl⟩:=hu';subst hz;simp only[h0.1,if_true]at hru hput;obtain⟨fO1,h1⟩:=hput [.u] zf f rfl (by simp only[RL,R];exact⟨c[b],c.toList.drop (b+1),zf,zf,hdrop,rfl,rfl,by funext j;simp[zf]⟩) (fun j=>by simp only[zf];omega);have h2:=h1.freezeX (f:=f) (fX':=zf) (fun j=>by simp only[zf];omega);have hp':R w (G.frozen f) (.p ob i off) (.pointer (U ⟨g0,base0+i*rk+off,aj⟩)) zf:=om (G:=G) (G':=G.frozen f) (fun _ hg=>Or.inl hg) rfl _ _ _ hp;obtain⟨g',b',c',e',fr',f',hv',hh',hle',hr',hput'⟩:=h2.row (m:=1) hx1 hrow1 hoff1 hp';rw[hv]at hv';simp only[Value.pointer.injEq,aF,Addr.mk.injEq,and_true]at hv';obtain⟨rfl,rfl⟩:=hv';rw[hh]at hh';simp only[aF,Obj.cells.injEq]at hh';obtain⟨rfl,rfl,rfl⟩:=hh';simp only[h1'.1,if_true]at hput';have hfz:R w (G.frozen f) (.sl k (cC rows)) c[b] zf:=iw (G':=G.frozen f) (fun _ hg=>.inl hg) rfl (.own k rows) _ f3 (fun j hj=>.inr (by rw[hff];simp only[zf];omega)) hru;obtain⟨fO4,h4⟩:=hput' [.sl k (cC rows)] zf zf rfl (by simp only[RL];exact⟨c[b],c.toList.drop (b+1),zf,zf,hdrop,hfz,rfl,by funext j;simp[zf]⟩) (fun j=>by simp only[zf];omega);exact⟨_,_,hk,_,fO4,h4⟩
     ·exact hk.elim
    ·exact hk.elim
   ·exact d_ hk
  ·exact d_ hk
 ·exact d_ hk
end
end Go.AM
end
