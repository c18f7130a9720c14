/- Part 21 of the proof of FnDeep; no condition. -/
import Derived.Test.YtdpapeledldifaaGreatX19
open Option renaming some -> U
open Decidable renaming decide -> aa
open Bool renaming true -> ad
open Bool renaming false -> ag
open Option renaming none -> aj
open Sum renaming inl -> an
open Sum renaming inr -> ao
open List renaming length -> au
open Int renaming toNat -> aH
open List renaming drop -> kZ
open List renaming take -> nY
set_option autoImplicit true
set_option relaxedAutoImplicit true
set_option linter.all false
section
namespace Go.TM
open Go.AM
mutual
def qf (σ:Nat->Nat):V->V
 |.ar n=>.ar (σ n)
 |.p n i off=>.p (σ n) i off
 |.fn f caps=>.fn f (kJ σ caps)
 |.agg cs=>.agg (kJ σ cs)
 |.tup cs=>.tup (kJ σ cs)
 |.u=>.u
 |.sk=>.sk
 |.i k n=>.i k n
 |.b x=>.b x
 |.s x=>.s x
 |.sl t r=>.sl t r
 |.own t d r=>.own t d r
 |.emp t=>.emp t
 |.ro c=>.ro c
 |.nilp=>.nilp
 |.nil=>.nil
def kJ (σ:Nat->Nat):List V->List V
 |[]=>[]
 |x::l=>qf σ x::kJ σ l
end
def qg (σ:Nat->Nat):TO->TO
 |.box n cs=>.box (σ n) (kJ σ cs)
 |.arr n t d l=>.arr (σ n) t d l
 |.opn n t d l i cs=>.opn (σ n) t d l i (kJ σ cs)
 |.spl n t l k=>.spl (σ n) t l k
def sC (σ:Nat->Nat):List TO->List TO
 |[]=>[]
 |x::l=>qg σ x::sC σ l
mutual
def qh (ns:List Nat):V->Bool
 |.ar n=>ns.contains n
 |.p n _ _=>ns.contains n
 |.fn _ caps=>mc ns caps
 |.agg cs=>mc ns cs
 |.tup cs=>mc ns cs
 |_=>ad
def mc (ns:List Nat):List V->Bool
 |[]=>ad
 |x::l=>qh ns x&&mc ns l
end
def sD (ns:List Nat):List TO->Bool
 |[]=>ad
 |x::l=>(match x with|.box _ cs=>mc ns cs|.arr _ _ _ _=>ad|.opn _ _ _ _ _ cs=>mc ns cs|.spl _ _ _ _=>ad)&&sD ns l
def gN:List TO->List Nat
 |[]=>[]
 |x::l=>x.name::gN l
def qi:List Nat->List TO->Option (List TO)
 |[],_=>U []
 | n::ns,l=>match ba l n,qi ns l with
   |some x,U xs=>U (x::xs)
   |_,_=>aj
def vY (o:Nat):List TO->List TO
 |[]=>[]
 |x::l=>bif x.name==o then l else x::vY o l
def qj:List Nat->List TO->List TO
 |[],l=>l
 |o::ns,l=>qj ns (vY o l)
def oM:List Nat->TS->TS
 |[],s=>s
 |o::l,s=>oM l (j7 o s)
def sG (ob:List TO):V->List Nat->Option Nat
 |.p o _ _,[]=>U o
 |.ar o,[]=>U o
 | .p o i off,c::cs=>match ba ob o with
   | some (.box _ row)=>(match i with
     |0=>sG ob (du row (off+c)) cs
     |_+1=>aj)
   |_=>aj
 | .ar o,c::cs=>match ba ob o with
   |some (.opn _ _ _ _ _ row)=>sG ob (du row c) cs
   |_=>aj
 |.agg row,c::cs=>sG ob (du row c) cs
 |.fn _ row,c::cs=>sG ob (du row c) cs
 |_,_=>aj
def vZ:List (Nat×List Nat)->List V->List TO->Option (List Nat)
 |[],_,_=>U []
 | p::l,args,ob=>match sG ob (du args p.1) p.2,vZ l args ob with
   |some n,U ns=>U (n::ns)
   |_,_=>aj
def oN (ns:List Nat):List V->List Nat
 |[]=>[]
 |.ar o::l=>bif ns.contains o then oN ns l else o::oN (o::ns) l
 |_::l=>oN ns l
def nt (s:TS):List Operand->TS
 |[]=>s
 |x::l=>nt (l_ s x) l
mutual
def qk (ob:List TO):V->V
 |.own g _ l=>.sl g l
 |.emp g=>.sl g []
 | .ar o=>match ba ob o with
   |some (.arr _ g _ l)=>.sl g l
   |some (.spl _ g l _)=>.sl g l
   |_=>.u
 |.agg cs=>.agg (ql ob cs)
 |.tup cs=>.tup (ql ob cs)
 |v=>v
def ql (ob:List TO):List V->List V
 |[]=>[]
 |x::l=>qk ob x::ql ob l
end
def qm:GT->Bool
 |.sl _=>ag
 |.pair a b=>qm a&&qm b
 |_=>ad
mutual
def jg:V->Bool
 |.i _ _=>ad
 |.b _=>ad
 |.s _=>ad
 |.nil=>ad
 |.emp _=>ad
 |.own g d _=>d||qm g
 |.agg cs=>sH cs
 |.tup cs=>sH cs
 |_=>ag
def sH:List V->Bool
 |[]=>ad
 |x::l=>jg x&&sH l
end
section
variable {σ:Nat->Nat}
mutual
def Hh:∀v:V,ren σ (e v)=e (qf σ v)
 |.ar _|.p _ _ _|.u|.sk|.i _ _|.b _|.s _|.sl _ _|.own _ _ _|.emp _|.ro _|.nilp|.nil=>rfl
 |.fn f c=>by simp only[e,ren,qf,oO c]
 |.agg c=>by simp only[e,ren,qf,oO c]
 |.tup c=>by simp only[e,ren,qf,oO c]
def oO:∀l:List V,ep σ (eL l)=eL (kJ σ l)
 |[]=>rfl
 |x::l=>by simp only[eL,ep,kJ,Hh x,oO l]
end
def Hi:∀l:List V,(kJ σ l).length=l.length
 |[]=>rfl
 |x::l=>by simp only[kJ,bD,Hi l]
def N5:∀v:SV,plain v=ad->ren σ v=v
 |.i _ _,_=>rfl
 |.b _,_=>rfl
 |.s _,_=>rfl
 |.sl _ _,_=>rfl
 |.own _ _,_=>rfl
 |.nil,_=>rfl
 |.u,_=>rfl
 |.sk,_=>rfl
 |.nilp,_=>rfl
 |.ar _,h=>by simp[plain]at h
 |.p _ _ _,h=>by simp[plain]at h
 |.ro _,h=>by simp[plain]at h
 |.fn _ _,h=>by simp[plain]at h
 |.agg _,h=>by simp[plain]at h
 |.tup _,h=>by simp[plain]at h
def Hj:∀l:List SV,eX l=ad->ep σ l=l
 |[],_=>rfl
 | x::l,h=>by
   simp only[eX,aG]at h;simp only[ep,N5 x h.1,Hj l h.2]
def Br (t:GT)(d:Bool):∀l:List t.Den,dr σ (l.map (aM d t))=l.map (aM d t)
 |[]=>rfl
 |x::l=>by simp only[bL,dr,Hj _ (pY t d x),Br t d l]
def Hk:∀(rows:List (List SV)) (i:Nat) (r:List SV),dr σ (rows.set i r)=(dr σ rows).set i (ep σ r)
 |[],i,r=>rfl
 |x::l,0,r=>rfl
 |x::l,i+1,r=>by simp only[List.set_cons_succ,dr,Hk l i r]
def Hl:∀a b:List (List SV),dr σ (a++b)=dr σ a++dr σ b
 |[],_=>rfl
 |x::l,b=>by simp only[cD,dr,Hl l b]
def N6 (d:DM)(t:GT)(i:Nat)(l:List t.Den):dr σ (cp d t i l)=cp d t i l:=by
 cases d with
 |all d=>exact Br t d l
 |spl=>simp only[cp,Hl,Br]
def N7 (x:TO):jz σ (eO x)=eO (qg σ x):=by
 cases x with
 |box n cs=>simp only[eO,jz,qg,if_true,dr,oO,Hi]
 |arr n t d l=>simp only[eO,jz,qg,cS,if_false]
 |opn n t d l i cs=>simp only[eO,jz,qg,if_true,Hk,N6,oO]
 |spl n t l k=>simp only[eO,jz,qg,cS,if_false]
def Bs:∀l:List TO,fQ σ (bo l)=bo (sC σ l)
 |[]=>rfl
 |x::l=>by simp only[bo,fQ,sC,N7,Bs l]
mutual
def Hm (ns:List Nat):∀v:V,fR ns (e v)=qh ns v
 |.ar _|.p _ _ _|.u|.sk|.i _ _|.b _|.s _|.sl _ _|.own _ _ _|.emp _|.ro _|.nilp|.nil=>rfl
 |.fn f c=>by simp only[e,fR,qh,oP ns c]
 |.agg c=>by simp only[e,fR,qh,oP ns c]
 |.tup c=>by simp only[e,fR,qh,oP ns c]
def oP (ns:List Nat):∀l:List V,iK ns (eL l)=mc ns l
 |[]=>rfl
 |x::l=>by simp only[eL,iK,mc,Hm ns x,oP ns l]
end
def N8 (ns:List Nat):∀v:SV,plain v=ad->fR ns v=ad
 |.i _ _,_|.b _,_|.s _,_|.sl _ _,_|.own _ _,_|.nil,_|.u,_|.sk,_|.nilp,_=>rfl
 |.ar _,h=>by simp[plain]at h
 |.p _ _ _,h=>by simp[plain]at h
 |.ro _,h=>by simp[plain]at h
 |.fn _ _,h=>by simp[plain]at h
 |.agg _,h=>by simp[plain]at h
 |.tup _,h=>by simp[plain]at h
def Hn (ns:List Nat):∀l:List SV,eX l=ad->iK ns l=ad
 |[],_=>rfl
 | x::l,h=>by
   simp only[eX,aG]at h;simp only[iK,N8 ns x h.1,Hn ns l h.2,bp]
def Bv (ns:List Nat)(t:GT)(d:Bool):∀l:List t.Den,fB ns (l.map (aM d t))=ad
 |[]=>rfl
 |x::l=>by simp only[bL,fB,Hn ns _ (pY t d x),Bv ns t d l,bp]
def Ho (ns:List Nat):∀a b:List (List SV),fB ns (a++b)=(fB ns a&&fB ns b)
 |[],_=>rfl
 |x::l,b=>by simp only[cD,fB,Ho ns l b,Bool.and_assoc]
def N9 (ns:List Nat)(d:DM)(t:GT)(i:Nat)(l:List t.Den):fB ns (cp d t i l)=ad:=by
 cases d with
 |all d=>exact Bv ns t d l
 |spl=>simp only[cp,Ho,Bv,bp]
def Hp (ns:List Nat)(r:List SV)(hr:iK ns r=ad):∀(l:List (List SV)) (i:Nat),fB ns l=ad->fB ns (l.set i r)=ad
 |[],_,_=>rfl
 | x::l,0,h=>by
   simp only[fB,aG]at h;simp only[List.set_cons_zero,fB,hr,h.2,bp]
 | x::l,i+1,h=>by
   simp only[fB,aG]at h;simp only[List.set_cons_succ,fB,h.1,Hp ns r hr l i h.2,bp]
def Bw (ns:List Nat):∀l:List TO,sD ns l=ad->lT ns (bo l)=ad
 |[],_=>rfl
 | x::l,h=>by
   simp only[sD,aG]at h;simp only[bo,lT,Bw ns l h.2,ck]
   have h1:=h.1;cases x with
   |box n cs=>simp only at h1;simp only[eO,if_true,fB,oP,h1,ck]
   |arr n t d l=>simp only[eO,cS,if_false]
   |opn n t d l i cs=>simp only at h1;simp only[eO,if_true];exact Hp ns _ (by rw[oP];exact h1) _ i (N9 ns d t i l)
   |spl n t l k=>simp only[eO,cS,if_false]
def v9:∀l:List TO,aV (bo l)=gN l
 |[]=>rfl
 | x::l=>by
   have:=v9 l;simp only[aV]at this;simp only[bo,aV,gN,bL,this,kC]
def Bx:∀(ns:List Nat) (l:List TO) (xs:List TO),qi ns l=U xs->dq ns (bo l)=U (bo xs)
 |[],l,xs,h=>by simp only[qi,aK]at h;subst h;rfl
 | n::ns,l,xs,h=>by
   simp only[qi]at h;split at h
   ·rename_i x xs' hx hxs;simp only[aK]at h;subst h;simp only[dq,kD,hx,Option.map_some,Bx ns l xs' hxs,bo]
   ·cases h
def Hq (o:Nat):∀l:List TO,ja o (bo l)=bo (vY o l)
 |[]=>rfl
 | x::l=>by
   simp only[bo,ja,vY,kC]
   by_cases h:x.name=o
   ·simp[h]
   ·have h':(x.name==o)=ag:=by simpa using h
    simp only[h,if_false,h',cond_false,bo,Hq o l]
def Hr:∀(ns:List Nat) (l:List TO),kv ns (bo l)=bo (qj ns l)
 |[],_=>rfl
 |o::ns,l=>by simp only[kv,qj,Hq,Hr ns]
def Hs:∀(ns:List Nat) (s:TS),oc ns (eS s)=eS (oM ns s)
 |[],_=>rfl
 |o::ns,s=>by simp only[oc,oM,p4,Hs ns]
def By:∀(l:List V) (ns:List Nat),oo ns (eL l)=oN ns l
 |[],_=>rfl
 | x::l,ns=>by
   cases x with
   |ar o=>simp only[eL,e,oo,oN,By l]
   |_=>simp only[eL,e,oo,oN,By l]
def Ht:∀(l:List Operand) (s:TS),frzTL (eS s) l=eS (nt s l)
 |[],_=>rfl
 |x::l,s=>by simp only[frzTL,nt,AB,Ht l]
def Hu:∀a b:List (List SV),cC (a++b)=cC a++cC b
 |[],_=>rfl
 |x::l,b=>by simp only[cD,cC,Hu l b]
def N_ (g:GT)(k:Nat)(l:List g.Den):cC (cp .spl g k l)=l.map (aM ag g):=by
 simp only[cp,Hu,kF]
 rw[<-List.map_append,List.take_append_drop]
mutual
def Oa {ob:List TO}:∀v:V,brw (bo ob) (e v)=e (qk ob v)
 |.own g d l=>by simp only[e,brw,qk,kF]
 |.emp g=>rfl
 | .ar o=>by
   simp only[e,brw,qk,kD]
   cases ba ob o with
   |none=>rfl
   | some x=>
     cases x with
     |box n cs=>simp only[Option.map_some,eO,e]
     |arr n g d l=>simp only[Option.map_some,eO,e,kF]
     |opn n g d l i cs=>simp only[Option.map_some,eO,e]
     |spl n g l k=>simp only[Option.map_some,eO,e,N_]
 |.agg cs=>by simp only[e,brw,qk,v_ cs]
 |.tup cs=>by simp only[e,brw,qk,v_ cs]
 |.u|.sk|.i _ _|.b _|.s _|.sl _ _|.p _ _ _|.ro _|.nilp|.nil|.fn _ _=>rfl
def v_ {ob:List TO}:∀l:List V,brwL (bo ob) (eL l)=eL (ql ob l)
 |[]=>rfl
 |x::l=>by simp only[eL,brwL,ql,Oa x,v_ l]
end
def Bz:∀a b:List SV,gG (a++b)=(gG a&&gG b)
 |[],b=>by simp[gG]
 |x::l,b=>by simp only[cD,gG,Bz l b,Bool.and_assoc]
def BA {α:Type}{f:α->List SV}:∀l:List α,(∀x∈l,gG (f x)=ad)->pW (l.map f)=ad
 |[],_=>rfl
 | x::l,h=>by
   simp only[bL,pW,h x (List.mem_cons_self ..),BA l fun y hy=>h y (List.mem_cons_of_mem _ hy),bp]
def wb:∀(g:GT) (x:g.Den),gG (aM ad g x)=ad
 |.int _,_=>rfl
 |.byte,_=>rfl
 |.bool,_=>rfl
 |.str,_=>rfl
 |.unit,_=>rfl
 | .sl g,l=>by
   simp only[aM,gG,jZ,ck]
   exact BA l fun x _=>wb g x
 |.pair a b,x=>by simp only[aM,Bz,wb a,wb b,bp]
def BB:∀(g:GT) (d:Bool) (x:g.Den),qm g=ad->gG (aM d g x)=ad
 |.int _,_,_,_=>rfl
 |.byte,_,_,_=>rfl
 |.bool,_,_,_=>rfl
 |.str,_,_,_=>rfl
 |.unit,_,_,_=>rfl
 |.sl _,_,_,h=>by simp[qm]at h
 | .pair a b,d,x,h=>by
   simp only[qm,aG]at h;simp only[aM,Bz,BB a d x.1 h.1,BB b d x.2 h.2,bp]
mutual
def Hv:∀v:V,jg v=ad->jZ (e v)=ad
 | .own g d l,h=>by
   simp only[e,jZ]
   refine BA l fun x _=>?_
   cases d with
   |true=>exact wb g x
   |false=>exact BB g ag x (by simpa[jg]using h)
 |.agg c,h=>by simp only[e,jZ];exact BC c (by simpa[jg]using h)
 |.tup c,h=>by simp only[e,jZ];exact BC c (by simpa[jg]using h)
 |.i _ _,_=>rfl
 |.b _,_=>rfl
 |.s _,_=>rfl
 |.nil,_=>rfl
 |.emp _,_=>rfl
 |.ar _,h=>by simp[jg]at h
 |.p _ _ _,h=>by simp[jg]at h
 |.u,h=>by simp[jg]at h
 |.sk,h=>by simp[jg]at h
 |.sl _ _,h=>by simp[jg]at h
 |.ro _,h=>by simp[jg]at h
 |.nilp,h=>by simp[jg]at h
 |.fn _ _,h=>by simp[jg]at h
def BC:∀l:List V,sH l=ad->gG (eL l)=ad
 |[],_=>rfl
 | x::l,h=>by
   simp only[sH,aG]at h;simp only[eL,gG,Hv x h.1,BC l h.2,bp]
end
def wc {s:TS}:∀xs:List Operand,evs (eS s).env xs=eL (gL s xs)
 |[]=>rfl
 |x::l=>by simp only[evs,gL,eL,bW,wc l]
end
structure TEnt where
 fid:Nat
 pure:Bool
 ps:List (Nat×List Nat)
 inS:SPat
 Y:Type
 F:inS.Den->Option Y
 res:Y->Option (V×List TO)
def oQ:List (Nat×Pat)->List V->List V
 |[],_=>[]
 | _::l,vs=>match vs with
   |v::vs=>v::oQ l vs
   |[]=>[]
def qn (p:SPat)(x:p.Den):List V:=oQ p.al (bg p.pat x)
def qo (p:SPat)(x:p.Den):List TO:=lp p.ob (mb p.al (bg p.pat x))
def TEnt.W (en:TEnt):WP:=fun args ob K=>∃x y v obs,wkL args (eL (qn en.inS x))/\wkObs ob (bo (qo en.inS x))/\en.F x=U y/\en.res y=U (v,obs)/\K (e v) (bo obs)
def TEnt.ent (en:TEnt)(ns:Option (List Nat)):Ent:=⟨en.pure,fun _ _=>ns,en.W⟩
section
variable {R:Type}
def nu:List TO->List V
 |[]=>[]
 |x::l=>cu (U x)::nu l
def qp:List Nat->List Nat->Bool
 |[],[]=>ad
 |a::l,b::m=>a==b&&qp l m
 |_,_=>ag
def BD (p:SPat)(args:List V)(obs:List TO)(K:p.Den->Option R):Option R :=
 aX (kI p.al&&args.length==p.al.length&&qp (gN obs) (fU p.ob)) (dV ad p.pat (args++nu obs) fun x q=>oG q (K x))
def we (en:TEnt)(y:en.Y)(K:V->List TO->Option R):Option R:=match en.res y with
 |some (v,obs)=>K v obs
 |none=>aj
def wg:List Nat->(TS->Option R)->TS->Option R
 |[],K,s=>K s
 |o::l,K,s=>nq s o (wg l K)
def Hw (σ:Nat->Nat)(old:List Nat)(obs:List TO)(v:V):Bool :=
 jb ((gN obs).map σ)&&qh (gN obs) v&&sD (gN obs) obs&&rL (jY σ old (gN obs))
def BE (σ:Nat->Nat)(old:List Nat)(s:TS)(obs:List TO)(v:V)(d:Option Tmp):TS :=
 bC ⟨s.n,(oM (jY σ old (gN obs)) ⟨s.n,s.al,qj (old.map σ) s.ob⟩).al,sC σ obs++(oM (jY σ old (gN obs)) ⟨s.n,s.al,qj (old.map σ) s.ob⟩).ob⟩ d (qf σ v)
def Hx (ns:List Nat)(d:Option Tmp)(K:TS->Option R)(s:TS)(v:V)(obs:List TO):Option R :=
 aX (Hw (il (iL d) 100000 ns) (j5 100000 ns) obs v) (K (BE (il (iL d) 100000 ns) (j5 100000 ns) s obs v d))
def BF (en:TEnt)(ns:List Nat)(xs:List Operand)(caps:List V)(d:Option Tmp)(K:TS->Option R)(s:TS):Option R:=match qi ns s.ob with
 |some obs=>aX (jb ns&&mc ns (gL s xs++caps)&&sD ns obs&&!lX (gL s xs))
   (BD en.inS (kJ (ik 100000 ns) (gL s xs++caps)) (sC (ik 100000 ns) obs) fun x=>ai (en.F x) fun y=>we en y (Hx ns d K s))
 |none=>aj
def BG (en:TEnt)(ns:List Nat)(n:Nat)(f:Operand)(xs:List Operand)(d:Option Tmp)(K:TS->Option R)(s:TS):Option R:=match bw s f with
 |.fn n' caps=>aX (n'==n) (BF en ns xs caps d K s)
 |_=>aj
def Hy (en:TEnt)(n:Nat)(caps:List V)(f:Operand)(xs:List Operand)(d:Option Tmp)(K:TS->Option R)(s:TS):Option R :=
 match vZ en.ps (gL s xs++caps) s.ob with
 |some ns=>wg (oN ns (gL s xs++caps)) (BG en ns n f xs d K) s
 |none=>aj
end
def BH (n:Nat):List V->Nat
 |[]=>n
 | v::l=>match v with
   |.fn m _=>n+1000*(m+1)
   |_=>BH n l
def BI:List V->Nat->Option Nat
 |[],_=>aj
 | v::l,j=>match v with
   |.ar _=>U j
   |_=>BI l (j+1)
def Oc (ob:List TO)(n:Nat):List V->Option Nat
 |[]=>aj
 | v::_=>match v with
   | .p o _ _=>match ba ob o with
     | some (.box _ cs)=>match BI cs 0 with
       | some j=>match du cs j with
         | .ar m=>match ba ob m with
           | some (.opn _ _ _ _ _ row)=>match BI row 0 with
             |some k=>U (n+1000000*(j+1)+100000000*(k+1))
             |none=>U (n+1000000*(j+1))
           |_=>U (n+1000000*(j+1))
         |_=>aj
       |none=>aj
     |_=>aj
   |_=>aj
def BJ (tbl:Nat->Option TEnt)(ob:List TO)(n:Nat)(l:List V):Option TEnt:=match Oc ob n l with
 | some k=>match tbl k with
   |some en=>U en
   |none=>tbl (BH n l)
 |none=>tbl (BH n l)
def Od {tbl:Nat->Option TEnt}{ob:List TO}{n:Nat}{l:List V}{en:TEnt}(h:BJ tbl ob n l=U en):∃k,tbl k=U en:=by
 unfold BJ at h;split at h
 ·split at h
  ·rename_i h2;rw[<-h];exact⟨_,h2⟩
  ·exact⟨_,h⟩
 ·exact⟨_,h⟩
def BK (tbl:Nat->Option TEnt):zGK:=fun _ f xs d s K=>match bw s f with
 | .fn n caps=>match BJ tbl s.ob n (gL s xs++caps)with
   | some en=>aX (en.fid==n) (match en.pure with
     |true=>BD en.inS (ql s.ob (gL s xs++caps)) [] fun x=>ai (en.F x) fun y=>we en y fun v _=>aX (jg v) (K (bC s d v))
     |false=>Hy en n caps f xs d K (nt s xs))
   |none=>aj
 |_=>aj
def ir (P:Program)(tbl:Nat->Option TEnt):Prop:=∀k en,tbl k=U en->jC P en.fid en.W
def wh (P:Program):zAy:=fun f xs d st K=>∃tb,na P tb/\oq tb f xs d st K
def zdb {P:Program}:lg P (wh P):=fun o c f a w0 w L st G K Q ho hc hk h=>by
 obtain⟨tb,h1,h2⟩:=hk;exact zc9 h1 o c f a w0 w L st G K Q ho hc h2 h
def BL (n:Nat)(en:Ent):Nat->Option Ent:=ins n en tbl0
end Go.TM
end
