/- Part 17 of the proof of FnTidyAll; no condition. -/
import Derived.Test.YtmjlecabpbiigaaGreatX15
open Option renaming some -> U
open Decidable renaming decide -> aa
open Bool renaming true -> ae
open Bool renaming false -> ag
open Option renaming none -> aj
open Sum renaming inr -> an
open Sum renaming inl -> ao
open List renaming length -> au
open Int renaming toNat -> aw
open List renaming drop -> cU
open List renaming take -> de
set_option autoImplicit true
set_option relaxedAutoImplicit true
set_option linter.all false
section
namespace Go.AX
open Go Go.AM
def stepX (T:Nat->TI)(C:zAz)(o:Oper)(K:St->Prop)(st:St):Prop:=gK (fun s=>bO T C o s (gK K)) st
section
variable {P:Program}{T:Nat->TI}{C:zAz}{w0 w w':World}{L:Lv}{st st1:St}{a:Act}{G G':Gh}{o:Oper}{K:St->Prop}{Q:Exit->Act->World->Prop}{ops:Array Oper}
def Hj (hT:bU P T)(hC:lA P C)(h:SR w0 L st a.tmps w G)(hk:stepX T C o K st):o.wp P a w (Nx w0 L a.defers K) Q:=by
 obtain⟨st',G',h1,h2⟩:=hk w0 w L a.tmps G h;exact Oper.wp_mono (fun _ _ hn=>Nx.gK hn) (M8 hT hC h2 h1)
def Oy (hT:bU P T)(hf:kL T o.op=ae)(h:SR w0 L st a.tmps w G)(hk:stepX T C o K st):∃v,(execOp a.eval o).run P w = .ok (.value v) w/\Nx w0 L a.defers K (a.put o.dst v) w:=by
 obtain⟨st',G',h1,h2⟩:=hk w0 w L a.tmps G h;obtain⟨v,h3,h4⟩:=AM.sound_float hT hf h2 h1;exact⟨v,h3,Nx.gK h4⟩
def Oz (h:uY T C o st):stepX T C o (fun st'=>st'=st) st:=by
 refine d_ ?_;have h1:=M7 h;obtain⟨h2,_⟩:=bX h;exact Fs h2 h1 fun v hv=>d_ hv
def opsX (T:Nat->TI)(C:zAz)(ops:Array Oper):List Oper->(St->Prop)->St->Prop
 |[],K,st=>K st
 |o::rest,K,st=>jO ops o st (stepX T C o (opsX T C ops rest K)) (kJ o.dst (opsX T C ops rest K))
def Bi (hT:bU P T)(hC:lA P C):∀(l:List Oper) (K:St->Prop) (st:St) (a:Act) (w:World) (G:Gh),SR w0 L st a.tmps w G->opsX T C ops l K st ->
  (∀a' w',Nx w0 L a.defers K a' w'->Q .normal a' w')->wpList P ops Q l a w
 |[],K,st,a,w,G,h,hk,hQ=>hQ a w ⟨st,G,hk,h,rfl⟩
 | o::l,K,st,a,w,G,h,hk,hQ=>by
   have hyes:∀st,SR w0 L st a.tmps w G->Region.wanted o (yielded ops a.tmps)=ae->stepX T C o (opsX T C ops l K) st->wpList P ops Q (o::l) a w:=by
    intro st h hw hk;refine wpList_step fun K' hK'=>?_
    rw[if_pos hw];refine Oper.wp_mono ?_ (Hj hT hC h hk);rintro a1 w1 ⟨st1,G1,hk1,h1,hd1⟩;exact hK' _ _ (Bi hT hC l K st1 a1 w1 G1 h1 hk1 (by rw[hd1];exact hQ))
   have hno:∀st,SR w0 L st a.tmps w G->Region.wanted o (yielded ops a.tmps)=ag->opsX T C ops l K (aZ st o.dst .sk)->wpList P ops Q (o::l) a w:=by
    intro st h hw hk;refine wpList_step fun K' hK'=>?_
    rw[if_neg (by rw[hw];simp)];obtain⟨fE,fO,hc⟩:=h;obtain⟨fE1,h1⟩:=hc.putD (fX':=zf) (sv:=.sk) (v:=undef) (fV:=zf) (by simp[R]) (fun j=>by simp[zf]) o.dst a rfl;exact hK' _ _ (Bi hT hC l K _ _ w G ⟨fE1,fO,h1⟩ hk (by rw[AM.Act.put_defers];exact hQ))
   simp only[opsX,jO]at hk;cases hg:o.guard with
   | none=>
     rw[hg]at hk;exact hyes st h (by simp[Region.wanted,hg]) hk
   | some q=>
     obtain⟨j,cK⟩:=q;rw[hg]at hk;simp only at hk;cases hd:(ops[j]?).bind (·.dst)with
     |none=>rw[hd]at hk;exact hk.elim
     | some d=>
       rw[hd]at hk;simp only at hk;have h0:=h;obtain⟨fE,fO,hc⟩:=h0;split at hk
       ·rename_i hl;exact hno st h (by simp[Region.wanted,hg,Fy hd hc.E hc.size hl]) hk
       ·rename_i x hl;have hsame:b_ st d (.b x)=st:=by simp only[b_];rw[<-hl,p4]
        have hy:=Fx hd hc.E hc.size hl;by_cases hx:x=cK
        ·have:=uH hk (by simp[hx]);rw[<-hx,hsame]at this;exact hyes st h (by simp[Region.wanted,hg,hy,hx]) this
        ·have hx':x = !cK:=by cases x<;>cases cK<;>simp_all
         have:=cnd.no hk (by simpa using hx);rw[<-hx',hsame]at this;exact hno st h (by simp[Region.wanted,hg,hy,hx]) this
       ·exact hk.elim
end
def gstep (T:Nat->TI)(C:zAz)(ops:Array Oper)(o:Oper)(K:St->Prop)(st:St):Prop:=jO ops o st (stepX T C o K) (kJ o.dst K)
def flK (T:Nat->TI)(C:zAz)(ops:Array Oper):List Nat->(St->Prop)->St->Prop
 |[],K,st=>K st
 | i::l,K,st=>match ops[i]? with
   |some o=>gstep T C ops o (flK T C ops l K) st
   |none=>False
def rcK (T:Nat->TI)(C:zAz)(ops:Array Oper):List Nat->St->Prop
 |[],_=>True
 | i::l,st=>(match ops[i]? with
   |some o=>jO ops o st (p9 T C o) (oE o.dst)
   |none=>False)/\rcK T C ops l st
def rfK (T:Nat->TI)(C:zAz)(ops:Array Oper)(rc fs:List Nat)(K:St->Prop)(st1:St):Prop:=rcK T C ops rc st1/\flK T C ops fs K st1
def planK (T:Nat->TI)(C:zAz)(ops:Array Oper)(K:St->Prop):a_->St->Prop
 |.fin,st=>K st
 | .br e _ rc fs sub alt,st=>(match ops[e]? with
   |some o=>gstep T C ops o (rfK T C ops rc fs (planK T C ops K sub)) st
   |none=>False)/\(match alt with|.fin=>True|alt=>planK T C ops K alt st)
section
variable {P:Program}{T:Nat->TI}{C:zAz}{w0 w w':World}{L:Lv}{st st1:St}{a b:Act}{G G':Gh}{ops:Array Oper}{K:St->Prop}{Q:Exit->Act->World->Prop}
def mi {o:Oper}{i:Nat}(ho:ops[i]? = U o):dD ops i=o.dst:=by simp[dD,ho]
def p_ {o:Oper}{i:Nat}(ho:ops[i]? = U o)(hs:Region.noSelect ops=ae)(h:∀ t,eR ops i (U t)=ae->a.tmps[t]? = b.tmps[t]?):execOp a.eval o=execOp b.eval o :=
 execOp_congr o (fun cs q=>Region.noSelect_spec hs i o cs q ho) fun x hx=>by
  cases x with
  | tmp t=>
    have:=h t (by simp only[eR,ho,Bool.or_eq_true];exact .inl (List.any_eq_true.2 ⟨.tmp t,by simpa using hx,by simp⟩));simp only[Act.eval,Array.getD_eq_getD_getElem?,this]
  |_=>rfl
def kN {d:Option Tmp}{v:Value}{t:Nat}(h:d≠U t):(a.put d v).tmps[t]? = a.tmps[t]?:=by
 cases d with
 |none=>rfl
 |some d=>simp only[Act.put];exact Array.getElem?_setIfInBounds_ne (fun e=>h (by rw[e]))
def kO {d:Option Tmp}{v:Value}:(a.put d v).tmps.size=a.tmps.size:=by cases d<;>simp[Act.put]
def Au {d:Option Tmp}{v:Value}(h:a.tmps.size=b.tmps.size){t:Nat}(hd:d=U t):(a.put d v).tmps[t]? = (b.put d v).tmps[t]?:=by
 subst hd;simp only[Act.put,Array.getElem?_setIfInBounds,h]
 by_cases ht:t<b.tmps.size
 ·simp[ht]
 ·have h1:a.tmps[t]? = aj:=Array.getElem?_eq_none (by omega);have h2:b.tmps[t]? = aj:=Array.getElem?_eq_none (by omega);simp[ht]
def OA {o:Oper}{N:Act->World->Prop}(he:execOp a.eval o=execOp b.eval o)(hd:a.defers=b.defers)(h:o.wp P b w N (fun _ _ _=>False))(hN:∀ b' w',N b' w'->b'.defers=b.defers) :
  o.wp P a w (fun a' w'=>∃v,a'=a.put o.dst v/\N (b.put o.dst v) w') Q:=by
 unfold Oper.wp at *;rw[he];generalize (execOp b.eval o).run P w=r at *;cases r with
 | ok n w' =>
   cases n<;>simp only[Oper.upon]at h ⊢
   case value v=>exact⟨v,rfl,h⟩
   case skip=>exact⟨_,rfl,h⟩
   case defer d=>
    exfalso;have:=hN _ _ h;rw[AM.Act.put_defers]at this;have:=congrArg au this;simp at this
   case enter f args=>
    refine Calls.mono h fun e w'' he=>?_
    cases e with
    |returned u=>exact⟨u,rfl,he⟩
    |panicked c=>exact he.elim
    |outgrown=>obtain⟨_,_,he⟩:=he;exact he.elim
   case row row args=>exact Rows.mono h fun u w'' he=>⟨u,rfl,he⟩
 | halt x w' =>
   cases x<;>simp only[Oper.upon]at h ⊢
def oF {o:Oper}{i:Nat}(ho:ops[i]? = U o)(h:∀ t,eR ops i (U t)=ae->a.tmps[t]? = b.tmps[t]?):Region.wanted o (yielded ops a.tmps)=Region.wanted o (yielded ops b.tmps):=by
 unfold Region.wanted;cases hg:o.guard with
 |none=>rfl
 | some q=>
   obtain⟨j,w⟩:=q;simp only
   have:yielded ops a.tmps j=yielded ops b.tmps j:=by
    unfold yielded;cases hd:(ops[j]?).bind (·.dst)with
    |none=>rfl
    | some t=>
      simp only[bh]
      rw[h t (by simp only[eR,ho,hg,Bool.or_eq_true];right;simp[dD,hd])]
   rw[this]
def Hk {o:Oper}{yes no:St->Prop}(h:SR w0 L st b.tmps w G)(hk:jO ops o st yes no) :
  (Region.wanted o (yielded ops b.tmps)=ae/\yes st)\/(Region.wanted o (yielded ops b.tmps)=ag/\no st):=by
 obtain⟨fE,fO,hc⟩:=h;simp only[jO]at hk;cases hg:o.guard with
 |none=>rw[hg]at hk;exact .inl ⟨by simp[Region.wanted,hg],hk⟩
 | some q=>
   obtain⟨j,cK⟩:=q;rw[hg]at hk;simp only at hk;cases hd:(ops[j]?).bind (·.dst)with
   |none=>rw[hd]at hk;exact hk.elim
   | some d=>
     rw[hd]at hk;simp only at hk;split at hk
     ·rename_i hl;exact .inr ⟨by simp[Region.wanted,hg,Fy hd hc.E hc.size hl],hk⟩
     ·rename_i x hl;have hsame:b_ st d (.b x)=st:=by simp only[b_];rw[<-hl,p4]
      have hy:=Fx hd hc.E hc.size hl;by_cases hx:x=cK
      ·have:=uH hk (by simp[hx]);rw[<-hx,hsame]at this;exact .inl ⟨by simp[Region.wanted,hg,hy,hx],this⟩
      ·have hx':x = !cK:=by cases x<;>cases cK<;>simp_all
       have:=cnd.no hk (by simpa using hx);rw[<-hx',hsame]at this;exact .inr ⟨by simp[Region.wanted,hg,hy,hx],this⟩
     ·exact hk.elim
def jt (P:Program)(ops:Array Oper)(b:Act)(w:World)(i:Nat):Prop:=∃o v,ops[i]? = U o/\(Region.wanted o (yielded ops b.tmps)=ae/\(execOp b.eval o).run P w = .ok (.value v) w\/Region.wanted o (yielded ops b.tmps)=ag/\v=undef) /\
 ∀t,o.dst=U t->t<b.tmps.size->b.tmps[t]? = U v
structure Av (P:Program)(T:Nat->TI)(w0:World)(L:Lv)(ds:List Deferred)(ops:Array Oper)(A:Array Bool)(done:List Nat)(st:St)(a b:Act)(w:World):Prop where
 sr:∃G,SR w0 L st b.tmps w G
 db:b.defers=ds
 da:a.defers=ds
 size:a.tmps.size=b.tmps.size
 same:∀t,(∀i∈done,eI T ops i=ae->A.getD i ag=ag->dD ops i≠U t)->a.tmps[t]? = b.tmps[t]?
 pend:∀i∈done,eI T ops i=ae->A.getD i ag=ag->jt P ops b w i
 asize:A.size=ops.size
 sub:∀i,A.getD i ag=ae->i∈done
 eff:∀i∈done,eI T ops i=ag->A.getD i ag=ae
 clo:∀i,A.getD i ag=ae->∀j∈gY ops i,A.getD j ag=ae
def Hl {i j:Nat}(h:oC ops i j=ag):eR ops j (dD ops i)=ag/\(∀t,dD ops i=U t->dD ops j≠U t):=by
 simp only[oC,Bool.or_eq_false_iff,Bool.and_eq_false_iff]at h;refine⟨h.1,fun t ht hj=>?_⟩;rcases h.2 with h2|h2
 ·rw[ht]at h2;simp at h2
 ·rw[ht,hj]at h2;simp at h2
def jt.put {i:Nat}{d:Option Tmp}{v:Value}(hs:Region.noSelect ops=ae)(h:jt P ops b w i)(hu:eR ops i d=ag)(hd:∀ t,d=U t->dD ops i≠U t):jt P ops (b.put d v) w i:=by
 obtain⟨o,u,ho,hr,hv⟩:=h;have hcg:∀t,eR ops i (U t)=ae->(b.put d v).tmps[t]? = b.tmps[t]?:=fun t ht=>kN (fun e=>by rw[e,ht]at hu;cases hu)
 refine⟨o,u,ho,?_,fun t ht hlt=>?_⟩
 ·rw[oF (a:=b.put d v) (b:=b) ho hcg,p_ (a:=b.put d v) (b:=b) ho hs hcg];exact hr
 ·rw[kN (fun e=>hd t e (by rw[mi ho];exact ht))];exact hv t ht (by rw[kO]at hlt;exact hlt)
def Hm (hT:bU P T)(hs:Region.noSelect ops=ae){i:Nat}{K':St->Prop}{o:Oper}(ho:ops[i]? = U o)(hf:kL T o.op=ae)(h:SR w0 L st b.tmps w G)(hk:gstep T C ops o K' st)(hself:eR ops i (dD ops i)=ag) :
  ∃v st' G',K' st'/\SR w0 L st' (b.put o.dst v).tmps w G'/\jt P ops (b.put o.dst v) w i:=by
 have hcg:∀(v:Value) t,eR ops i (U t)=ae->(b.put o.dst v).tmps[t]? = b.tmps[t]?:=fun v t ht=>kN (fun e=>by rw[mi ho,e,ht]at hself;cases hself)
 rcases Hk h hk with⟨hw,hk⟩|⟨hw,hk⟩
 ·obtain⟨v,hr,st',G',hk',hsr,_⟩:=Oy hT hf h hk;refine⟨v,st',G',hk',hsr,o,v,ho,.inl ⟨?_,?_⟩,fun t ht hlt=>?_⟩
  ·rw[oF (a:=b.put o.dst v) (b:=b) ho (hcg v)];exact hw
  ·rw[p_ (a:=b.put o.dst v) (b:=b) ho hs (hcg v)];exact hr
  ·rw[kO]at hlt;rw[ht];simp[Act.put,hlt]
 ·refine⟨undef,_,G,hk,h.sk o.dst,o,undef,ho,.inr ⟨?_,rfl⟩,fun t ht hlt=>?_⟩
  ·rw[oF (a:=b.put o.dst undef) (b:=b) ho (hcg undef)];exact hw
  ·rw[kO]at hlt;rw[ht];simp[Act.put,hlt]
def Bj (hT:bU P T)(hs:Region.noSelect ops=ae):∀(fs:List Nat) (done:List Nat) (st:St) (b:Act) (G:Gh) (K':St->Prop),r8 T ops done fs=ae->flK T C ops fs K' st->SR w0 L st b.tmps w G ->
  ∃b' st' G',K' st'/\SR w0 L st' b'.tmps w G'/\b'.defers=b.defers/\b'.tmps.size=b.tmps.size/\(∀t,(∀i∈fs,dD ops i≠U t)->b'.tmps[t]? = b.tmps[t]?)/\(∀i∈fs,eI T ops i=ae/\i ∉ done/\jt P ops b' w i) /\
   ∀i∈done,eI T ops i=ae->jt P ops b w i->jt P ops b' w i
 |[],done,st,b,G,K',_,hk,h=>⟨b,st,G,hk,h,rfl,rfl,fun _ _=>rfl,fun i hi=>by simp at hi,fun _ _ _ h=>h⟩
 | i::fs,done,st,b,G,K',hok,hk,h=>by
   simp only[r8,aK,Bool.not_eq_true',List.all_eq_true,Bool.or_eq_true]at hok;obtain⟨⟨⟨⟨hfl,hnd⟩,hself⟩,hcl⟩,hrest⟩:=hok;simp only[flK]at hk;cases ho:ops[i]? with
   |none=>rw[ho]at hk;exact hk.elim
   | some o=>
     rw[ho]at hk;have hf:kL T o.op=ae:=by simpa[eI,ho]using hfl
     obtain⟨v,st1,G1,hk1,h1,hp1⟩:=Hm hT hs ho hf h hk hself;obtain⟨b',st',G',hk',h',hd,hsz,hsame,hnew,hold⟩:=Bj hT hs fs (i::done) st1 (b.put o.dst v) G1 K' hrest hk1 h1;refine⟨b',st',G',hk',h',by rw[hd,AM.Act.put_defers],by rw[hsz,kO],fun t ht=>?_,fun j hj=>?_,fun j hj hfj hpj=>?_⟩
     ·rw[hsame t (fun j hj=>ht j (by simp[hj])),kN (by rw[<-mi ho];exact ht i (by simp))]
     ·rcases List.mem_cons.1 hj with rfl|hj
      ·exact⟨hfl,by simpa using hnd,hold j (by simp) hfl hp1⟩
      ·obtain⟨q1,q2,q3⟩:=hnew j hj;exact⟨q1,fun hm=>q2 (by simp[hm]),q3⟩
     ·have hc:oC ops i j=ag:=by
       rcases hcl j hj with h|h
       ·rw[hfj]at h;cases h
       ·exact h
      obtain⟨hu,hdd⟩:=Hl hc;rw[mi ho]at hu hdd;exact hold j (by simp[hj]) hfj (hpj.put hs hu hdd)
def Bk (hT:bU P T)(hs:Region.noSelect ops=ae){A:Array Bool}:∀(rc:List Nat) (b:Act) (G:Gh),u_ ops rc=ae->(∀j∈rc,eI T ops j=ae)->rcK T C ops rc st->SR w0 L st b.tmps w G ->
  ∃b' G',SR w0 L st b'.tmps w G'/\b'.defers=b.defers/\b'.tmps.size=b.tmps.size/\(∀t,(∀i∈rc,A.getD i ag=ag->dD ops i≠U t)->b'.tmps[t]? = b.tmps[t]?)/\(∀i∈rc,A.getD i ag=ag->jt P ops b' w i)
 |[],b,G,_,_,_,h=>⟨b,G,h,rfl,rfl,fun _ _=>rfl,fun i hi=>by simp at hi⟩
 | j::rc,b,G,hok,hfl,hk,h=>by
   simp only[u_,aK,Bool.not_eq_true',List.all_eq_true]at hok;obtain⟨⟨hself,hcl⟩,hrest⟩:=hok;simp only[rcK]at hk;obtain⟨hkj,hk⟩:=hk;cases hA:A.getD j ag with
   | true=>
     obtain⟨b',G',h',hd,hsz,hsame,hp⟩:=Bk hT hs (A:=A) rc b G hrest (fun i hi=>hfl i (by simp[hi])) hk h;refine⟨b',G',h',hd,hsz,fun t ht=>hsame t (fun i hi=>ht i (by simp[hi])),fun i hi hAi=>?_⟩;rcases List.mem_cons.1 hi with rfl|hi
     ·rw[hA]at hAi;cases hAi
     ·exact hp i hi hAi
   | false=>
     cases ho:ops[j]? with
     |none=>rw[ho]at hkj;exact hkj.elim
     | some o=>
       rw[ho]at hkj
       replace hkj:jO ops o st (p9 T C o) (oE o.dst):=hkj
       have hf:kL T o.op=ae:=by have:=hfl j (by simp);simpa[eI,ho]using this
       have hkj':gstep T C ops o (fun s=>s=st) st:=by
        unfold gstep;unfold jO at hkj ⊢;have hyes:p9 T C o st->stepX T C o (fun s=>s=st) st:=fun h=>Oz h
        have hno:oE o.dst st->kJ o.dst (fun s=>s=st) st:=by
         intro h;unfold oE at h;unfold kJ;cases hd:o.dst with
         |none=>rfl
         | some t=>
           rw[hd]at h;have h1:=(bX h).1;simp only[aZ,b_]
           have:bx st.env t = .sk:=by
            revert h1;cases bx st.env t<;>simp[FR]
           rw[<-this,p4]
        cases hg:o.guard with
        |none=>rw[hg]at hkj;exact hyes hkj
        | some q=>
          obtain⟨j',cK⟩:=q;rw[hg]at hkj;simp only at hkj ⊢;cases hd:(ops[j']?).bind (·.dst)with
          |none=>rw[hd]at hkj;exact hkj.elim
          | some d=>
            rw[hd]at hkj;simp only at hkj ⊢;split at hkj
            ·exact hno hkj
            ·rename_i x hl;have hsame:b_ st d (.b x)=st:=by simp only[b_];rw[<-hl,p4]
             by_cases hx:x=cK
             ·have:=uH hkj (by simp[hx]);rw[<-hx,hsame]at this;refine cnd.mk (fun _=>?_) (fun e=>by simp[hx]at e);rw[<-hx,hsame];exact hyes this
             ·have hx':x = !cK:=by cases x<;>cases cK<;>simp_all
              have:=cnd.no hkj (by simpa using hx);rw[<-hx',hsame]at this;refine cnd.mk (fun e=>absurd (by simpa using e) hx) (fun _=>?_);rw[<-hx',hsame];exact hno this
            ·exact hkj.elim
       obtain⟨v,st1,G1,e,h1,hp1⟩:=Hm hT hs ho hf h hkj' hself;rw[e]at h1;obtain⟨b',G',h',hd,hsz,hsame,hp⟩:=Bk hT hs (A:=A) rc (b.put o.dst v) G1 hrest (fun i hi=>hfl i (by simp[hi])) hk h1;refine⟨b',G',h',by rw[hd,AM.Act.put_defers],by rw[hsz,kO],fun t ht=>?_,fun i hi hAi=>?_⟩
       ·rw[hsame t (fun i hi=>ht i (by simp[hi])),kN (by rw[<-mi ho];exact ht j (by simp) hA)]
       ·rcases List.mem_cons.1 hi with rfl|hi
        ·obtain⟨o',u,ho',hr,hv⟩:=hp1;have hk':∀k∈rc,eR ops i (dD ops k)=ag/\∀t,dD ops k=U t->dD ops i≠U t:=fun k hk=>Hl (hcl k hk)
         refine⟨o',u,ho',?_,fun t ht hlt=>?_⟩
         ·have hcg:∀t,eR ops i (U t)=ae->b'.tmps[t]? = (b.put o.dst v).tmps[t]?:=fun t ht=>hsame t (fun k hk _ e=>by have:=(hk' k hk).1;rw[e,ht]at this;cases this)
          rw[oF (a:=b') (b:=b.put o.dst v) ho' hcg,p_ (a:=b') (b:=b.put o.dst v) ho' hs hcg];exact hr
         ·rw[hsame t (fun k hk _ e=>(hk' k hk).2 t e (by rw[mi ho'];exact ht))];exact hv t ht (by rw[<-hsz];exact hlt)
        ·exact hp i hi hAi
end
section
variable {P:Program}{T:Nat->TI}{C:zAz}{w0 w w':World}{L:Lv}{st st1:St}{a b:Act}{G G':Gh}{ops:Array Oper}{K:St->Prop}{Q:Exit->Act->World->Prop}{ds:List Deferred}
def ql (ops:Array Oper)(A:Array Bool):Nat:=((List.range ops.size).filter fun i=>!A.getD i ag).length
def Hn {A:Array Bool}{i:Nat}(hs:A.size=ops.size)(hi:i<ops.size)(hA:A.getD i ag=ag):ql ops A=ql ops (A.setIfInBounds i ae)+1:=by
 unfold ql
 have key:∀(l:List Nat),l.Nodup->i∈l->((l.filter fun j=>!A.getD j ag).length=(l.filter fun j=>!(A.setIfInBounds i ae).getD j ag).length+1):=by
  have aj:∀l:List Nat,i ∉ l->l.filter (fun j=>!(A.setIfInBounds i ae).getD j ag)=l.filter (fun j=>!A.getD j ag):=by
   intro l hl;apply List.filter_congr;intro j hj;rw[getD_set_ne ag (fun e=>hl (by rw[e];exact hj))]
  intro l
  induction l with
  |nil=>intro _ h;simp at h
  | cons x l ih=>
    intro hnd hm;obtain⟨h1,h2⟩:=List.nodup_cons.1 hnd;by_cases hx:x=i
    ·subst hx;have e1:(A.setIfInBounds x ae).getD x ag=ae:=by simp[hs,hi]
     rw[List.filter_cons_of_pos (by simp only[hA,Bool.not_false]),List.filter_cons_of_neg (by simp only[e1,Bool.not_true];simp),aj l h1];simp
    ·have hm':i∈l:=by rcases List.mem_cons.1 hm with h|h;exact absurd h.symm hx;exact h
     have e1:(A.setIfInBounds i ae).getD x ag=A.getD x ag:=getD_set_ne ag (fun e=>hx e.symm);have:=ih h2 hm';cases hA2:A.getD x ag with
     |true=>rw[List.filter_cons_of_neg (by simp[hA2]),List.filter_cons_of_neg (by rw[e1,hA2];simp)];exact this
     |false=>rw[List.filter_cons_of_pos (by simp[hA2]),List.filter_cons_of_pos (by rw[e1,hA2];rfl)];simp only[bL];omega
 exact key _ List.nodup_range (List.mem_range.2 hi)
def Bl {A:Array Bool}{i:Nat}(hs:A.size=ops.size):i∈Region.ready .any ops A↔i<ops.size/\A.getD i ag=ag/\∀j∈gY ops i,A.getD j ag=ae:=by
 rw[mem_ready];constructor
 ·rintro⟨h0,o,ho,h⟩;have hlt:i<ops.size:=(Array.getElem?_eq_some_iff.1 ho).1;refine⟨hlt,?_,fun j hj=>?_⟩
  ·simp only[Array.getD_eq_getD_getElem?]at h0 ⊢;rw[Array.getElem?_eq_getElem (by omega)]at h0 ⊢;simpa using h0
  ·simp only[gY,ho,List.mem_map,List.mem_filter]at hj;obtain⟨e,⟨he,hb⟩,rfl⟩:=hj;exact h e (by simpa using he) hb
 ·rintro⟨hlt,h0,h⟩;refine⟨?_,ops[i],Array.getElem?_eq_getElem hlt,fun e he hb=>h _ ?_⟩
  ·simp only[Array.getD_eq_getD_getElem?]at h0 ⊢;rw[Array.getElem?_eq_getElem (by omega)]at h0 ⊢;simpa using h0
  ·simp only[gY,Array.getElem?_eq_getElem hlt,List.mem_map,List.mem_filter]
   exact⟨e,⟨by simpa using he,hb⟩,rfl⟩
def Ho {A:Array Bool}{e:Nat}(hclo:∀ i,A.getD i ag=ae->∀ j∈gY ops i,A.getD j ag=ae)(he:∀ j∈gY ops e,A.getD j ag=ae):∀(pr seen:List Nat),va ops seen pr=ae ->
  (∀i∈seen,i=e\/A.getD i ag=ae)->∀j∈pr,A.getD j ag=ae
 |[],_,_,_,j,hj=>by simp at hj
 | x::pr,seen,hok,hseen,j,hj=>by
   simp only[va,aK,List.any_eq_true]at hok;obtain⟨⟨i,hi,hx⟩,hrest⟩:=hok
   have hAx:A.getD x ag=ae:=by
    have hx':x∈gY ops i:=by simpa using hx
    rcases hseen i hi with rfl|h
    ·exact he x hx'
    ·exact hclo i h x hx'
   rcases List.mem_cons.1 hj with rfl|hj
   ·exact hAx
   ·exact Ho hclo he pr (x::seen) hrest (fun i hi=>by rcases List.mem_cons.1 hi with rfl|hi;exact .inr hAx;exact hseen i hi) j hj
def Hp {e:Nat}{done:List Nat}:∀(p:a_),e∈oD p->mh T ops done p=ae->planK T C ops K p st->∃(pr rc fs:List Nat) (sub:a_) (o:Oper),ops[e]? = U o/\vb T ops done e pr rc fs=ae /\
  p8 T ops (fs.reverse++e::done) sub=ae/\mh T ops (fs.reverse++e::done) sub=ae/\gstep T C ops o (fun st1=>rcK T C ops rc st1/\flK T C ops fs (planK T C ops K sub) st1) st
 |.fin,h,_,_=>by simp[oD]at h
 | .br e' pr rc fs sub alt,h,hok,hk=>by
   simp only[mh,aK]at hok;obtain⟨⟨⟨h1,h2⟩,h3⟩,h4⟩:=hok;unfold planK at hk;obtain⟨hk1,hk2⟩:=hk;simp only[oD]at h;rcases List.mem_cons.1 h with rfl|h
   ·cases ho:ops[e]? with
    |none=>rw[ho]at hk1;exact hk1.elim
    |some o=>rw[ho]at hk1;exact⟨pr,rc,fs,sub,o,rfl,h1,h2,h3,hk1⟩
   ·cases alt with
    |fin=>simp[oD]at h
    |br e2 pr2 rc2 fs2 sub2 alt2=>exact Hp _ h h4 hk2
def OB (hT:bU P T)(hC:lA P C)(hglob:ve T ops=ae)(hQ:∀ a w,a.defers=ds->Nx w0 L ds K a w->Q .normal a w) :
  ∀(fuel:Nat) (A:Array Bool) (done:List Nat) (p:a_) (st:St) (a b:Act) (w:World),ql ops A=fuel->Av P T w0 L ds ops A done st a b w->p8 T ops done p=ae->mh T ops done p=ae->planK T C ops K p st ->
   wpAny P .any ops Q fuel A a w:=by
 have hglob0:=hglob;simp only[ve,aK]at hglob;obtain⟨⟨hns,hlt⟩,hsee⟩:=hglob
 have hlt:∀i,∀j∈gY ops i,j<i:=by
  intro i j hj;by_cases hi:i<ops.size
  ·have:=List.all_eq_true.1 hlt i (List.mem_range.2 hi);exact of_decide_eq_true (List.all_eq_true.1 this j hj)
  ·simp[gY,Array.getElem?_eq_none (Nat.le_of_not_lt hi)]at hj
 have hsee:∀k j,eI T ops k=ae->k<ops.size->j<ops.size->eR ops j (dD ops k)=ae->k∈gY ops j:=by
  intro k j hf hk hj hu;have h1:=List.all_eq_true.1 hsee k (List.mem_range.2 hk);simp only[hf,Bool.not_true,Bool.false_or]at h1;have h2:=List.all_eq_true.1 h1 j (List.mem_range.2 hj);simp only[hu,Bool.not_true,Bool.false_or]at h2;simpa using h2
 have flt:∀k,eI T ops k=ae->k<ops.size:=by
  intro k hk;rcases Nat.lt_or_ge k ops.size with h|h
  ·exact h
  ·simp[eI,Array.getElem?_eq_none h]at hk
 intro fuel
 have hend:∀(A:Array Bool) (done:List Nat) (p:a_) (st:St) (a b:Act) (w:World),Av P T w0 L ds ops A done st a b w->p8 T ops done p=ae->mh T ops done p=ae->planK T C ops K p st ->
   Region.ready .any ops A=[]->Q .normal a w:=by
  intro A done p st a b w hsim htop hbr hk hnil
  have hall:∀i,i<ops.size->A.getD i ag=ae:=by
   intro i
   induction i using Nat.strongRecOn with
   | _ i ih=>
     intro hi;cases hA:A.getD i ag with
     |true=>rfl
     | false=>
       have:i∈Region.ready .any ops A:=(Bl hsim.asize).2 ⟨hi,hA,fun j hj=>ih j (hlt i j hj) (by have:=hlt i j hj;omega)⟩;rw[hnil]at this;cases this
  cases p with
  | br e pr rc fs sub alt=>
    exfalso;simp only[mh,aK]at hbr;have h1:=hbr.1.1.1;simp only[vb,aK,aL,Bool.not_eq_true']at h1;have hlt':=h1.1.1.1.1.1.1.2;have hnd:=h1.1.1.1.1.1.2;have:=hsim.sub e (hall e hlt');simp at hnd;exact hnd this
  | fin=>
    obtain⟨G,hsr⟩:=hsim.sr
    have heq:a.tmps=b.tmps:=by
     apply Array.ext_getElem?;intro t;refine hsim.same t fun i hi hf hA=>?_
     rw[hall i (flt i hf)]at hA;cases hA
    refine hQ a w hsim.da ⟨st,G,hk,?_,hsim.da⟩;rw[heq];exact hsr
 induction fuel with
 | zero=>
   intro A done p st a b w hf hsim htop hbr hk
   have hnil:Region.ready .any ops A=[]:=by
    cases hr:Region.ready .any ops A with
    |nil=>rfl
    | cons i l=>
      exfalso;have hi:i∈Region.ready .any ops A:=by rw[hr];simp
      obtain⟨h1,h2,_⟩:=(Bl hsim.asize).1 hi;have:=Hn hsim.asize h1 h2;omega
   exact⟨hnil,hend A done p st a b w hsim htop hbr hk hnil⟩
 | succ fuel ih=>
   intro A done p st a b w hf hsim htop hbr hk;refine⟨hend A done p st a b w hsim htop hbr hk,fun i hi=>?_⟩;obtain⟨hilt,hA,hpr⟩:=(Bl hsim.asize).1 hi;have htodo:ql ops (A.setIfInBounds i ae)=fuel:=by have:=Hn hsim.asize hilt hA;omega
   have hAset:∀j,(A.setIfInBounds i ae).getD j ag=ae↔j=i\/A.getD j ag=ae:=by
    intro j;by_cases hj:j=i
    ·subst hj;simp[hsim.asize,hilt]
    ·rw[getD_set_ne ag (fun e=>hj e.symm)];simp[hj]
   have hAset0:∀j,(A.setIfInBounds i ae).getD j ag=ag->j≠i/\A.getD j ag=ag:=by
    intro j hj;constructor
    ·intro e;have:=(hAset j).2 (.inl e);rw[hj]at this;cases this
    ·cases h:A.getD j ag with
     |false=>rfl
     |true=>have:=(hAset j).2 (.inr h);rw[hj]at this;cases this
   have hclo':∀j,(A.setIfInBounds i ae).getD j ag=ae->∀k∈gY ops j,(A.setIfInBounds i ae).getD k ag=ae:=by
    intro j hj k hk';rcases(hAset j).1 hj with rfl|hj
    ·exact(hAset k).2 (.inr (hpr k hk'))
    ·exact(hAset k).2 (.inr (hsim.clo j hj k hk'))
   obtain⟨o,ho⟩:∃o,ops[i]? = U o:=⟨_,Array.getElem?_eq_getElem hilt⟩
   have hcg:∀t,eR ops i (U t)=ae->a.tmps[t]? = b.tmps[t]?:=by
    refine fun t ht=>hsim.same t fun k hk1 hk2 hk3 hk4=>?_
    have:=hsee k i hk2 (flt k hk2) hilt (by rw[hk4];exact ht);rw[hpr k this]at hk3;cases hk3
   have halike:execOp a.eval o=execOp b.eval o:=p_ ho hns hcg;have hwl:Region.wanted o (yielded ops a.tmps)=Region.wanted o (yielded ops b.tmps):=oF ho hcg;unfold wpOp;rw[ho];simp only[hwl]
   by_cases hdone:i∈done
   ·
    have hfl:eI T ops i=ae:=by
     cases h:eI T ops i with
     |true=>rfl
     |false=>have:=hsim.eff i hdone h;rw[hA]at this;cases this
    obtain⟨o',v,ho',hrun,hv⟩:=hsim.pend i hdone hfl hA;rw[ho]at ho';cases ho'
    suffices hgo:wpAny P .any ops Q fuel (A.setIfInBounds i ae) (a.put o.dst v) w by
     rcases hrun with⟨hw,hrun⟩|⟨hw,rfl⟩
     ·rw[if_pos hw];left;unfold Oper.wp;rw[halike,hrun,Oper.upon_value];exact hgo
     ·rw[if_neg (by rw[hw];simp)];exact hgo
    refine ih _ done p st _ b w htodo ?_ htop hbr hk
    exact
     {sr:=hsim.sr,db:=hsim.db
      da:=by rw[AM.Act.put_defers];exact hsim.da
      size:=by rw[kO];exact hsim.size
      same:=fun t ht=>by
       by_cases hd:o.dst=U t
       ·rw[Au hsim.size hd];by_cases hlt:t<b.tmps.size
        ·rw[hv t hd hlt,hd];simp[Act.put,hlt]
        ·have h2:b.tmps[t]? = aj:=Array.getElem?_eq_none (Nat.le_of_not_lt hlt);rw[h2,Array.getElem?_eq_none (by rw[kO];exact Nat.le_of_not_lt hlt)]
       ·rw[kN hd];refine hsim.same t fun k hk1 hk2 hk3 hk4=>?_
        by_cases hki:k=i
        ·subst hki;rw[mi ho]at hk4;exact hd hk4
        ·exact ht k hk1 hk2 (by rw[getD_set_ne ag (fun e=>hki e.symm)];exact hk3) hk4
      pend:=fun k hk1 hk2 hk3=>hsim.pend k hk1 hk2 (hAset0 k hk3).2
      asize:=by simp[hsim.asize]
      sub:=fun k hk=>by
       rcases(hAset k).1 hk with rfl|hk
       ·exact hdone
       ·exact hsim.sub k hk
      eff:=fun k hk1 hk2=>(hAset k).2 (.inr (hsim.eff k hk1 hk2))
      clo:=hclo'}
   ·
    have htop0:=htop;simp only[p8,aK]at htop;have h1:=List.all_eq_true.1 htop.1 i (List.mem_range.2 hilt);have hpd:(gY ops i).all done.contains=ae:=List.all_eq_true.2 fun j hj=>by simpa using hsim.sub j (hpr j hj)
    simp only[hpd,Bool.not_true,Bool.or_false,Bool.or_eq_true,aK,Bool.not_eq_true']at h1
    have h2:eI T ops i=ag/\i∈oD p:=by
     rcases h1 with h1|h1
     ·exact absurd (by simpa using h1) hdone
     ·exact⟨h1.1,by simpa using h1.2⟩
    obtain⟨hfi,hial⟩:=h2;obtain⟨pr,rc,fs,sub,o',ho',hb1,htop2,hbr2,hstep⟩:=Hp p hial hbr hk;rw[ho]at ho';cases ho';simp only[vb,aK,Bool.not_eq_true',List.all_eq_true,Bool.or_eq_true]at hb1;obtain⟨⟨⟨⟨⟨_,hchain⟩,hcover⟩,hrc⟩,hrcok⟩,hfs⟩:=hb1;obtain⟨G,hsr⟩:=hsim.sr
    suffices hgo:∀(v:Value) (w':World) (st1:St) (G1:Gh),(rcK T C ops rc st1/\flK T C ops fs (planK T C ops K sub) st1)->SR w0 L st1 (b.put o.dst v).tmps w' G1->wpAny P .any ops Q fuel (A.setIfInBounds i ae) (a.put o.dst v) w' by
     rcases Hk hsr hstep with⟨hw,hstep⟩|⟨hw,hstep⟩
     ·rw[if_pos hw];left;have hwp:=Hj (Q:=fun _ _ _=>False) hT hC hsr hstep;refine Oper.wp_mono ?_ (OA (Q:=Q) halike (by rw[hsim.da,hsim.db]) hwp (fun b' w' hn=>by obtain⟨_,_,_,_,hd⟩:=hn;exact hd));rintro a' w' ⟨v,rfl,st1,G1,hkk,hsr1,_⟩;exact hgo v w' st1 G1 hkk hsr1
     ·rw[if_neg (by rw[hw];simp)];exact hgo undef w _ G hstep (hsr.sk o.dst)
    rintro v w' st1 G1 ⟨hrck,hflk⟩ hsr1;obtain⟨b2,G2,hsr2,hd2,hsz2,hsame2,hpend2⟩:=Bk hT hns (A:=A) rc (b.put o.dst v) G1 hrcok (fun j hj=>(hrc j hj).1.2) hrck hsr1;obtain⟨b3,st3,G3,hk3,hsr3,hd3,hsz3,hsame3,hnew3,hold3⟩:=Bj hT hns fs (i::done) st1 b2 G2 _ hfs hflk hsr2;have hchainA:∀j∈pr,A.getD j ag=ae:=Ho hsim.clo hpr pr [i] hchain (fun k hk=>.inl (by simpa using hk));have hrcfl:∀j∈rc,oC ops i j=ag:=fun j hj=>(hrc j hj).2
    refine ih _ (fs.reverse++i::done) sub st3 _ b3 w' htodo ?_ htop2 hbr2 hk3
    exact
     {sr:=⟨G3,hsr3⟩
      db:=by rw[hd3,hd2,AM.Act.put_defers];exact hsim.db
      da:=by rw[AM.Act.put_defers];exact hsim.da
      size:=by rw[kO,hsz3,hsz2,kO];exact hsim.size
      same:=fun t ht=>by
       have hfsn:∀k∈fs,dD ops k≠U t:=fun k hk=>by
        obtain⟨q1,q2,_⟩:=hnew3 k hk;refine ht k (by simp[hk]) q1 ?_;cases hh:(A.setIfInBounds i ae).getD k ag with
        |false=>rfl
        | true=>
          rcases(hAset k).1 hh with rfl|hh
          ·exact absurd (by simp) q2
          ·exact absurd (List.mem_cons_of_mem _ (hsim.sub k hh)) q2
       rw[hsame3 t hfsn]
       have hrcn:∀k∈rc,A.getD k ag=ag->dD ops k≠U t:=fun k hk hAk=>by
        have:=hrc k hk;simp only[List.contains_eq_mem,aL]at this;refine ht k (by simp[this.1.1]) this.1.2 ?_;rw[getD_set_ne ag (fun e=>hdone (by rw[e];exact this.1.1))];exact hAk
       rw[hsame2 t hrcn];by_cases hd:o.dst=U t
       ·exact Au hsim.size hd
       ·rw[kN hd,kN hd];refine hsim.same t fun k hk1 hk2 hk3' hk4=>?_
        exact ht k (by simp[hk1]) hk2 (by rw[getD_set_ne ag (fun e=>hdone (by rw[e];exact hk1))];exact hk3') hk4
      pend:=fun k hk1 hk2 hk3'=>by
       obtain⟨hki,hkA⟩:=hAset0 k hk3';rcases List.mem_append.1 hk1 with hk1|hk1
       ·exact(hnew3 k (by simpa using hk1)).2.2
       ·rcases List.mem_cons.1 hk1 with e|hk1
        ·exact absurd e hki
        ·have hc:=hcover k hk1;rcases hc with(hc|hc)|hc
         ·rw[hk2]at hc;cases hc
         ·have:=hchainA k (by simpa using hc);rw[hkA]at this;cases this
         ·exact hold3 k (by simp[hk1]) hk2 (hpend2 k (by simpa using hc) hkA)
      asize:=by simp[hsim.asize]
      sub:=fun k hk=>by
       rcases(hAset k).1 hk with rfl|hk
       ·simp
       ·simp[hsim.sub k hk]
      eff:=fun k hk1 hk2=>by
       rcases List.mem_append.1 hk1 with hk1|hk1
       ·have:=(hnew3 k (by simpa using hk1)).1;rw[hk2]at this;cases this
       ·rcases List.mem_cons.1 hk1 with rfl|hk1
        ·exact(hAset k).2 (.inl rfl)
        ·exact(hAset k).2 (.inr (hsim.eff k hk1 hk2))
      clo:=hclo'}
end
section
variable {P:Program}{T:Nat->TI}{C:zAz}{w0 w w':World}{L:Lv}{st st1:St}{a:Act}{G G':Gh}{Q Q':AQ}{K K':St->Prop}{ds:List Deferred}
def sp_regionX {id:Nat}{ops:Array Oper}(hT:bU P T)(hC:lA P C)(h:opsX T C ops ops.toList (Q .normal) st):sp P (.region id ops ag) Q st:=fun w0 w L a G hs=>
 wp_region_list (Bi hT hC ops.toList (Q .normal) st a w G hs h (fun _ _ h=>h))
def sp_draw {id:Nat}{ops:Array Oper}(hT:bU P T)(hC:lA P C)(hm:P.follows .mixedOrders=ae){fs:List Nat}{p:a_}(hok:At T ops fs p=ae)(h:flK T C ops fs (planK T C ops (Q .normal) p) st) :
  sp P (.region id ops ae) Q st:=by
 intro w0 w L a G ⟨fE,fO,hs⟩;simp only[At,aK]at hok;obtain⟨⟨⟨hglob,hfs⟩,htop⟩,hbr⟩:=hok
 have hns:Region.noSelect ops=ae:=by
  simp only[ve,aK]at hglob;exact hglob.1.1
 refine wp_region_any hm ?_;have hsr:SR w0 L st a.tmps w.drew G:=⟨fE,fO,hs.drew⟩
 obtain⟨b,st',G',hk,hsr',hd,hsz,hsame,hnew,_⟩:=Bj hT hns fs [] st a G _ hfs h hsr
 have hfalse:∀j,(Array.replicate ops.size ag).getD j ag=ag:=fun j=>by
  simp only[Array.getD_eq_getD_getElem?,Array.getElem?_replicate]
  split<;>rfl
 refine OB (w0:=w0) (L:=L) (ds:=a.defers) hT hC hglob (fun a' w' _ hn=>hn) ops.size _ fs.reverse p st' a b w.drew ?_ ?_ htop hbr hk
 ·unfold ql;rw[List.filter_eq_self.2 (fun i _=>by rw[hfalse];rfl)];simp
 ·exact
   {sr:=⟨G',hsr'⟩,db:=hd,da:=rfl,size:=hsz.symm
    same:=fun t ht=>(hsame t fun i hi=>ht i (by simpa using hi) (hnew i hi).1 (hfalse i)).symm
    pend:=fun i hi _ _=>(hnew i (by simpa using hi)).2.2
    asize:=by simp
    sub:=fun i hi=>by rw[hfalse]at hi;cases hi
    eff:=fun i hi hf=>by rw[(hnew i (by simpa using hi)).1]at hf;cases hf
    clo:=fun i hi=>by rw[hfalse]at hi;cases hi}
end
end Go.AX
end
