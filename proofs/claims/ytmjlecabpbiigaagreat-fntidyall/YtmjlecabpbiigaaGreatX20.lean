/- Part 21 of the proof of FnTidyAll; no condition. -/
import Derived.Test.YtmjlecabpbiigaaGreatX19
open Option renaming some -> U
open Decidable renaming decide -> aa
open Bool renaming true -> ae
open Bool renaming false -> ag
open Option renaming none -> aj
open Sum renaming inr -> an
open Sum renaming inl -> ao
open List renaming length -> au
open Int renaming toNat -> aw
open List renaming drop -> cU
open List renaming take -> de
set_option autoImplicit true
set_option relaxedAutoImplicit true
set_option linter.all false
section
namespace Go.TM
open Go.AM
mutual
def qt (σ:Nat->Nat):V->V
 |.ar n=>.ar (σ n)
 |.p n i off=>.p (σ n) i off
 |.fn f caps=>.fn f (kW σ caps)
 |.agg cs=>.agg (kW σ cs)
 |.tup cs=>.tup (kW σ cs)
 |.u=>.u
 |.sk=>.sk
 |.i k n=>.i k n
 |.b x=>.b x
 |.s x=>.s x
 |.sl t r=>.sl t r
 |.own t d r=>.own t d r
 |.emp t=>.emp t
 |.ro c=>.ro c
 |.nilp=>.nilp
 |.nil=>.nil
def kW (σ:Nat->Nat):List V->List V
 |[]=>[]
 |x::l=>qt σ x::kW σ l
end
def qu (σ:Nat->Nat):TO->TO
 |.box n cs=>.box (σ n) (kW σ cs)
 |.arr n t d l=>.arr (σ n) t d l
 |.opn n t d l i cs=>.opn (σ n) t d l i (kW σ cs)
 |.spl n t l k=>.spl (σ n) t l k
def sU (σ:Nat->Nat):List TO->List TO
 |[]=>[]
 |x::l=>qu σ x::sU σ l
mutual
def qv (ns:List Nat):V->Bool
 |.ar n=>ns.contains n
 |.p n _ _=>ns.contains n
 |.fn _ caps=>mw ns caps
 |.agg cs=>mw ns cs
 |.tup cs=>mw ns cs
 |_=>ae
def mw (ns:List Nat):List V->Bool
 |[]=>ae
 |x::l=>qv ns x&&mw ns l
end
def sV (ns:List Nat):List TO->Bool
 |[]=>ae
 |x::l=>(match x with|.box _ cs=>mw ns cs|.arr _ _ _ _=>ae|.opn _ _ _ _ _ cs=>mw ns cs|.spl _ _ _ _=>ae)&&sV ns l
def hU:List TO->List Nat
 |[]=>[]
 |x::l=>x.name::hU l
def qw:List Nat->List TO->Option (List TO)
 |[],_=>U []
 | n::ns,l=>match bb l n,qw ns l with
   |some x,U xs=>U (x::xs)
   |_,_=>aj
def wu (o:Nat):List TO->List TO
 |[]=>[]
 |x::l=>bif x.name==o then l else x::wu o l
def qx:List Nat->List TO->List TO
 |[],l=>l
 |o::ns,l=>qx ns (wu o l)
def o7:List Nat->TS->TS
 |[],s=>s
 |o::l,s=>o7 l (kj o s)
def sW (ob:List TO):V->List Nat->Option Nat
 |.p o _ _,[]=>U o
 |.ar o,[]=>U o
 | .p o i off,c::cs=>match bb ob o with
   | some (.box _ row)=>(match i with
     |0=>sW ob (dE row (off+c)) cs
     |_+1=>aj)
   |_=>aj
 | .ar o,c::cs=>match bb ob o with
   |some (.opn _ _ _ _ _ row)=>sW ob (dE row c) cs
   |_=>aj
 |.agg row,c::cs=>sW ob (dE row c) cs
 |.fn _ row,c::cs=>sW ob (dE row c) cs
 |_,_=>aj
def wv:List (Nat×List Nat)->List V->List TO->Option (List Nat)
 |[],_,_=>U []
 | p::l,args,ob=>match sW ob (dE args p.1) p.2,wv l args ob with
   |some n,U ns=>U (n::ns)
   |_,_=>aj
def o8 (ns:List Nat):List V->List Nat
 |[]=>[]
 |.ar o::l=>bif ns.contains o then o8 ns l else o::o8 (o::ns) l
 |_::l=>o8 ns l
def nD (s:TS):List Operand->TS
 |[]=>s
 |x::l=>nD (mo s x) l
mutual
def qy (ob:List TO):V->V
 |.own g _ l=>.sl g l
 |.emp g=>.sl g []
 | .ar o=>match bb ob o with
   |some (.arr _ g _ l)=>.sl g l
   |some (.spl _ g l _)=>.sl g l
   |_=>.u
 |.agg cs=>.agg (qz ob cs)
 |.tup cs=>.tup (qz ob cs)
 |v=>v
def qz (ob:List TO):List V->List V
 |[]=>[]
 |x::l=>qy ob x::qz ob l
end
def qA:GT->Bool
 |.sl _=>ag
 |.pair a b=>qA a&&qA b
 |_=>ae
mutual
def jx:V->Bool
 |.i _ _=>ae
 |.b _=>ae
 |.s _=>ae
 |.nil=>ae
 |.emp _=>ae
 |.own g d _=>d||qA g
 |.agg cs=>sX cs
 |.tup cs=>sX cs
 |_=>ag
def sX:List V->Bool
 |[]=>ae
 |x::l=>jx x&&sX l
end
section
variable {σ:Nat->Nat}
mutual
def HV:∀v:V,ren σ (e v)=e (qt σ v)
 |.ar _|.p _ _ _|.u|.sk|.i _ _|.b _|.s _|.sl _ _|.own _ _ _|.emp _|.ro _|.nilp|.nil=>rfl
 |.fn f c=>by simp only[e,ren,qt,o9 c]
 |.agg c=>by simp only[e,ren,qt,o9 c]
 |.tup c=>by simp only[e,ren,qt,o9 c]
def o9:∀l:List V,eH σ (eL l)=eL (kW σ l)
 |[]=>rfl
 |x::l=>by simp only[eL,eH,kW,HV x,o9 l]
end
def HW:∀l:List V,(kW σ l).length=l.length
 |[]=>rfl
 |x::l=>by simp only[kW,bL,HW l]
def O0:∀v:SV,plain v=ae->ren σ v=v
 |.i _ _,_=>rfl
 |.b _,_=>rfl
 |.s _,_=>rfl
 |.sl _ _,_=>rfl
 |.own _ _,_=>rfl
 |.nil,_=>rfl
 |.u,_=>rfl
 |.sk,_=>rfl
 |.nilp,_=>rfl
 |.ar _,h=>by simp[plain]at h
 |.p _ _ _,h=>by simp[plain]at h
 |.ro _,h=>by simp[plain]at h
 |.fn _ _,h=>by simp[plain]at h
 |.agg _,h=>by simp[plain]at h
 |.tup _,h=>by simp[plain]at h
def HX:∀l:List SV,fu l=ae->eH σ l=l
 |[],_=>rfl
 | x::l,h=>by
   simp only[fu,aK]at h;simp only[eH,O0 x h.1,HX l h.2]
def B0 (t:GT)(d:Bool):∀l:List t.Den,dC σ (l.map (aO d t))=l.map (aO d t)
 |[]=>rfl
 |x::l=>by simp only[bF,dC,HX _ (qe t d x),B0 t d l]
def HY:∀(rows:List (List SV)) (i:Nat) (r:List SV),dC σ (rows.set i r)=(dC σ rows).set i (eH σ r)
 |[],i,r=>rfl
 |x::l,0,r=>rfl
 |x::l,i+1,r=>by simp only[List.set_cons_succ,dC,HY l i r]
def HZ:∀a b:List (List SV),dC σ (a++b)=dC σ a++dC σ b
 |[],_=>rfl
 |x::l,b=>by simp only[cF,dC,HZ l b]
def O1 (d:DM)(t:GT)(i:Nat)(l:List t.Den):dC σ (cn d t i l)=cn d t i l:=by
 cases d with
 |all d=>exact B0 t d l
 |spl=>simp only[cn,HZ,B0]
def O2 (x:TO):jQ σ (eO x)=eO (qu σ x):=by
 cases x with
 |box n cs=>simp only[eO,jQ,qu,if_true,dC,o9,HW]
 |arr n t d l=>simp only[eO,jQ,qu,cV,if_false]
 |opn n t d l i cs=>simp only[eO,jQ,qu,if_true,HY,O1,o9]
 |spl n t l k=>simp only[eO,jQ,qu,cV,if_false]
def B1:∀l:List TO,gj σ (bo l)=bo (sU σ l)
 |[]=>rfl
 |x::l=>by simp only[bo,gj,sU,O2,B1 l]
mutual
def H0 (ns:List Nat):∀v:V,gk ns (e v)=qv ns v
 |.ar _|.p _ _ _|.u|.sk|.i _ _|.b _|.s _|.sl _ _|.own _ _ _|.emp _|.ro _|.nilp|.nil=>rfl
 |.fn f c=>by simp only[e,gk,qv,o_ ns c]
 |.agg c=>by simp only[e,gk,qv,o_ ns c]
 |.tup c=>by simp only[e,gk,qv,o_ ns c]
def o_ (ns:List Nat):∀l:List V,iZ ns (eL l)=mw ns l
 |[]=>rfl
 |x::l=>by simp only[eL,iZ,mw,H0 ns x,o_ ns l]
end
def O3 (ns:List Nat):∀v:SV,plain v=ae->gk ns v=ae
 |.i _ _,_|.b _,_|.s _,_|.sl _ _,_|.own _ _,_|.nil,_|.u,_|.sk,_|.nilp,_=>rfl
 |.ar _,h=>by simp[plain]at h
 |.p _ _ _,h=>by simp[plain]at h
 |.ro _,h=>by simp[plain]at h
 |.fn _ _,h=>by simp[plain]at h
 |.agg _,h=>by simp[plain]at h
 |.tup _,h=>by simp[plain]at h
def H1 (ns:List Nat):∀l:List SV,fu l=ae->iZ ns l=ae
 |[],_=>rfl
 | x::l,h=>by
   simp only[fu,aK]at h;simp only[iZ,O3 ns x h.1,H1 ns l h.2,ba]
def B2 (ns:List Nat)(t:GT)(d:Bool):∀l:List t.Den,fN ns (l.map (aO d t))=ae
 |[]=>rfl
 |x::l=>by simp only[bF,fN,H1 ns _ (qe t d x),B2 ns t d l,ba]
def H2 (ns:List Nat):∀a b:List (List SV),fN ns (a++b)=(fN ns a&&fN ns b)
 |[],_=>rfl
 |x::l,b=>by simp only[cF,fN,H2 ns l b,Bool.and_assoc]
def O4 (ns:List Nat)(d:DM)(t:GT)(i:Nat)(l:List t.Den):fN ns (cn d t i l)=ae:=by
 cases d with
 |all d=>exact B2 ns t d l
 |spl=>simp only[cn,H2,B2,ba]
def H3 (ns:List Nat)(r:List SV)(hr:iZ ns r=ae):∀(l:List (List SV)) (i:Nat),fN ns l=ae->fN ns (l.set i r)=ae
 |[],_,_=>rfl
 | x::l,0,h=>by
   simp only[fN,aK]at h;simp only[List.set_cons_zero,fN,hr,h.2,ba]
 | x::l,i+1,h=>by
   simp only[fN,aK]at h;simp only[List.set_cons_succ,fN,h.1,H3 ns r hr l i h.2,ba]
def B3 (ns:List Nat):∀l:List TO,sV ns l=ae->mg ns (bo l)=ae
 |[],_=>rfl
 | x::l,h=>by
   simp only[sV,aK]at h;simp only[bo,mg,B3 ns l h.2,ck]
   have h1:=h.1;cases x with
   |box n cs=>simp only at h1;simp only[eO,if_true,fN,o_,h1,ck]
   |arr n t d l=>simp only[eO,cV,if_false]
   |opn n t d l i cs=>simp only at h1;simp only[eO,if_true];exact H3 ns _ (by rw[o_];exact h1) _ i (O4 ns d t i l)
   |spl n t l k=>simp only[eO,cV,if_false]
def wx:∀l:List TO,aQ (bo l)=hU l
 |[]=>rfl
 | x::l=>by
   have:=wx l;simp only[aQ]at this;simp only[bo,aQ,hU,bF,this,kP]
def B4:∀(ns:List Nat) (l:List TO) (xs:List TO),qw ns l=U xs->dB ns (bo l)=U (bo xs)
 |[],l,xs,h=>by simp only[qw,aF]at h;subst h;rfl
 | n::ns,l,xs,h=>by
   simp only[qw]at h;split at h
   ·rename_i x xs' hx hxs;simp only[aF]at h;subst h;simp only[dB,kQ,hx,Option.map_some,B4 ns l xs' hxs,bo]
   ·cases h
def H4 (o:Nat):∀l:List TO,jr o (bo l)=bo (wu o l)
 |[]=>rfl
 | x::l=>by
   simp only[bo,jr,wu,kP]
   by_cases h:x.name=o
   ·simp[h]
   ·have h':(x.name==o)=ag:=by simpa using h
    simp only[h,if_false,h',cond_false,bo,H4 o l]
def H5:∀(ns:List Nat) (l:List TO),kM ns (bo l)=bo (qx ns l)
 |[],_=>rfl
 |o::ns,l=>by simp only[kM,qx,H4,H5 ns]
def H6:∀(ns:List Nat) (s:TS),oB ns (eS s)=eS (o7 ns s)
 |[],_=>rfl
 |o::ns,s=>by simp only[oB,o7,qg,H6 ns]
def B5:∀(l:List V) (ns:List Nat),oH ns (eL l)=o8 ns l
 |[],_=>rfl
 | x::l,ns=>by
   cases x with
   |ar o=>simp only[eL,e,oH,o8,B5 l]
   |_=>simp only[eL,e,oH,o8,B5 l]
def H7:∀(l:List Operand) (s:TS),frzTL (eS s) l=eS (nD s l)
 |[],_=>rfl
 |x::l,s=>by simp only[frzTL,nD,Bd,H7 l]
def H8:∀a b:List (List SV),cC (a++b)=cC a++cC b
 |[],_=>rfl
 |x::l,b=>by simp only[cF,cC,H8 l b]
def O5 (g:GT)(k:Nat)(l:List g.Den):cC (cn .spl g k l)=l.map (aO ag g):=by
 simp only[cn,H8,kS]
 rw[<-List.map_append,List.take_append_drop]
mutual
def O6 {ob:List TO}:∀v:V,brw (bo ob) (e v)=e (qy ob v)
 |.own g d l=>by simp only[e,brw,qy,kS]
 |.emp g=>rfl
 | .ar o=>by
   simp only[e,brw,qy,kQ]
   cases bb ob o with
   |none=>rfl
   | some x=>
     cases x with
     |box n cs=>simp only[Option.map_some,eO,e]
     |arr n g d l=>simp only[Option.map_some,eO,e,kS]
     |opn n g d l i cs=>simp only[Option.map_some,eO,e]
     |spl n g l k=>simp only[Option.map_some,eO,e,O5]
 |.agg cs=>by simp only[e,brw,qy,wy cs]
 |.tup cs=>by simp only[e,brw,qy,wy cs]
 |.u|.sk|.i _ _|.b _|.s _|.sl _ _|.p _ _ _|.ro _|.nilp|.nil|.fn _ _=>rfl
def wy {ob:List TO}:∀l:List V,brwL (bo ob) (eL l)=eL (qz ob l)
 |[]=>rfl
 |x::l=>by simp only[eL,brwL,qz,O6 x,wy l]
end
def B6:∀a b:List SV,gZ (a++b)=(gZ a&&gZ b)
 |[],b=>by simp[gZ]
 |x::l,b=>by simp only[cF,gZ,B6 l b,Bool.and_assoc]
def B7 {α:Type}{f:α->List SV}:∀l:List α,(∀x∈l,gZ (f x)=ae)->qc (l.map f)=ae
 |[],_=>rfl
 | x::l,h=>by
   simp only[bF,qc,h x (List.mem_cons_self ..),B7 l fun y hy=>h y (List.mem_cons_of_mem _ hy),ba]
def wz:∀(g:GT) (x:g.Den),gZ (aO ae g x)=ae
 |.int _,_=>rfl
 |.byte,_=>rfl
 |.bool,_=>rfl
 |.str,_=>rfl
 |.unit,_=>rfl
 | .sl g,l=>by
   simp only[aO,gZ,ke,ck]
   exact B7 l fun x _=>wz g x
 |.pair a b,x=>by simp only[aO,B6,wz a,wz b,ba]
def B8:∀(g:GT) (d:Bool) (x:g.Den),qA g=ae->gZ (aO d g x)=ae
 |.int _,_,_,_=>rfl
 |.byte,_,_,_=>rfl
 |.bool,_,_,_=>rfl
 |.str,_,_,_=>rfl
 |.unit,_,_,_=>rfl
 |.sl _,_,_,h=>by simp[qA]at h
 | .pair a b,d,x,h=>by
   simp only[qA,aK]at h;simp only[aO,B6,B8 a d x.1 h.1,B8 b d x.2 h.2,ba]
mutual
def H9:∀v:V,jx v=ae->ke (e v)=ae
 | .own g d l,h=>by
   simp only[e,ke]
   refine B7 l fun x _=>?_
   cases d with
   |true=>exact wz g x
   |false=>exact B8 g ag x (by simpa[jx]using h)
 |.agg c,h=>by simp only[e,ke];exact B9 c (by simpa[jx]using h)
 |.tup c,h=>by simp only[e,ke];exact B9 c (by simpa[jx]using h)
 |.i _ _,_=>rfl
 |.b _,_=>rfl
 |.s _,_=>rfl
 |.nil,_=>rfl
 |.emp _,_=>rfl
 |.ar _,h=>by simp[jx]at h
 |.p _ _ _,h=>by simp[jx]at h
 |.u,h=>by simp[jx]at h
 |.sk,h=>by simp[jx]at h
 |.sl _ _,h=>by simp[jx]at h
 |.ro _,h=>by simp[jx]at h
 |.nilp,h=>by simp[jx]at h
 |.fn _ _,h=>by simp[jx]at h
def B9:∀l:List V,sX l=ae->gZ (eL l)=ae
 |[],_=>rfl
 | x::l,h=>by
   simp only[sX,aK]at h;simp only[eL,gZ,H9 x h.1,B9 l h.2,ba]
end
def wA {s:TS}:∀xs:List Operand,evs (eS s).env xs=eL (hJ s xs)
 |[]=>rfl
 |x::l=>by simp only[evs,hJ,eL,bV,wA l]
end
structure TEnt where
 fid:Nat
 pure:Bool
 ps:List (Nat×List Nat)
 inS:SPat
 Y:Type
 F:inS.Den->Option Y
 res:Y->Option (V×List TO)
def pa:List (Nat×Pat)->List V->List V
 |[],_=>[]
 | _::l,vs=>match vs with
   |v::vs=>v::pa l vs
   |[]=>[]
def qB (p:SPat)(x:p.Den):List V:=pa p.al (bg p.pat x)
def qC (p:SPat)(x:p.Den):List TO:=lG p.ob (mu p.al (bg p.pat x))
def TEnt.W (en:TEnt):WP:=fun args ob K=>∃x y v obs,wkL args (eL (qB en.inS x))/\wkObs ob (bo (qC en.inS x))/\en.F x=U y/\en.res y=U (v,obs)/\K (e v) (bo obs)
def TEnt.ent (en:TEnt)(ns:Option (List Nat)):Ent:=⟨en.pure,fun _ _=>ns,en.W⟩
section
variable {R:Type}
def nE:List TO->List V
 |[]=>[]
 |x::l=>cv (U x)::nE l
def qD:List Nat->List Nat->Bool
 |[],[]=>ae
 |a::l,b::m=>a==b&&qD l m
 |_,_=>ag
def B_ (p:SPat)(args:List V)(obs:List TO)(K:p.Den->Option R):Option R :=
 aX (kV p.al&&args.length==p.al.length&&qD (hU obs) (gn p.ob)) (ea ae p.pat (args++nE obs) fun x q=>oV q (K x))
def wB (en:TEnt)(y:en.Y)(K:V->List TO->Option R):Option R:=match en.res y with
 |some (v,obs)=>K v obs
 |none=>aj
def wC:List Nat->(TS->Option R)->TS->Option R
 |[],K,s=>K s
 |o::l,K,s=>nB s o (wC l K)
def H_ (σ:Nat->Nat)(old:List Nat)(obs:List TO)(v:V):Bool :=
 js ((hU obs).map σ)&&qv (hU obs) v&&sV (hU obs) obs&&r7 (kd σ old (hU obs))
def Ca (σ:Nat->Nat)(old:List Nat)(s:TS)(obs:List TO)(v:V)(d:Option Tmp):TS :=
 bB ⟨s.n,(o7 (kd σ old (hU obs)) ⟨s.n,s.al,qx (old.map σ) s.ob⟩).al,sU σ obs++(o7 (kd σ old (hU obs)) ⟨s.n,s.al,qx (old.map σ) s.ob⟩).ob⟩ d (qt σ v)
def Ia (ns:List Nat)(d:Option Tmp)(K:TS->Option R)(s:TS)(v:V)(obs:List TO):Option R :=
 aX (H_ (iA (i4 d) 100000 ns) (kh 100000 ns) obs v) (K (Ca (iA (i4 d) 100000 ns) (kh 100000 ns) s obs v d))
def Cb (en:TEnt)(ns:List Nat)(xs:List Operand)(caps:List V)(d:Option Tmp)(K:TS->Option R)(s:TS):Option R:=match qw ns s.ob with
 |some obs=>aX (js ns&&mw ns (hJ s xs++caps)&&sV ns obs&&!ml (hJ s xs))
   (B_ en.inS (kW (iz 100000 ns) (hJ s xs++caps)) (sU (iz 100000 ns) obs) fun x=>ah (en.F x) fun y=>wB en y (Ia ns d K s))
 |none=>aj
def Cc (en:TEnt)(ns:List Nat)(n:Nat)(f:Operand)(xs:List Operand)(d:Option Tmp)(K:TS->Option R)(s:TS):Option R:=match bp s f with
 |.fn n' caps=>aX (n'==n) (Cb en ns xs caps d K s)
 |_=>aj
def Ib (en:TEnt)(n:Nat)(caps:List V)(f:Operand)(xs:List Operand)(d:Option Tmp)(K:TS->Option R)(s:TS):Option R :=
 match wv en.ps (hJ s xs++caps) s.ob with
 |some ns=>wC (o8 ns (hJ s xs++caps)) (Cc en ns n f xs d K) s
 |none=>aj
end
def Cd (n:Nat):List V->Nat
 |[]=>n
 | v::l=>match v with
   |.fn m _=>n+1000*(m+1)
   |_=>Cd n l
def Ce:List V->Nat->Option Nat
 |[],_=>aj
 | v::l,j=>match v with
   |.ar _=>U j
   |_=>Ce l (j+1)
def O7 (ob:List TO)(n:Nat):List V->Option Nat
 |[]=>aj
 | v::_=>match v with
   | .p o _ _=>match bb ob o with
     | some (.box _ cs)=>match Ce cs 0 with
       | some j=>match dE cs j with
         | .ar m=>match bb ob m with
           | some (.opn _ _ _ _ _ row)=>match Ce row 0 with
             |some k=>U (n+1000000*(j+1)+100000000*(k+1))
             |none=>U (n+1000000*(j+1))
           |_=>U (n+1000000*(j+1))
         |_=>aj
       |none=>aj
     |_=>aj
   |_=>aj
def Cf (tbl:Nat->Option TEnt)(ob:List TO)(n:Nat)(l:List V):Option TEnt:=match O7 ob n l with
 | some k=>match tbl k with
   |some en=>U en
   |none=>tbl (Cd n l)
 |none=>tbl (Cd n l)
def O8 {tbl:Nat->Option TEnt}{ob:List TO}{n:Nat}{l:List V}{en:TEnt}(h:Cf tbl ob n l=U en):∃k,tbl k=U en:=by
 unfold Cf at h;split at h
 ·split at h
  ·rename_i h2;rw[<-h];exact⟨_,h2⟩
  ·exact⟨_,h⟩
 ·exact⟨_,h⟩
def Cg (tbl:Nat->Option TEnt):zGQ:=fun _ f xs d s K=>match bp s f with
 | .fn n caps=>match Cf tbl s.ob n (hJ s xs++caps)with
   | some en=>aX (en.fid==n) (match en.pure with
     |true=>B_ en.inS (qz s.ob (hJ s xs++caps)) [] fun x=>ah (en.F x) fun y=>wB en y fun v _=>aX (jx v) (K (bB s d v))
     |false=>Ib en n caps f xs d K (nD s xs))
   |none=>aj
 |_=>aj
def jy (P:Program)(tbl:Nat->Option TEnt):Prop:=∀k en,tbl k=U en->kg P en.fid en.W
def wD (P:Program):zAz:=fun f xs d st K=>∃tb,nk P tb/\oI tb f xs d st K
def zeq {P:Program}:lA P (wD P):=fun o c f a w0 w L st G K Q ho hc hk h=>by
 obtain⟨tb,h1,h2⟩:=hk;exact zeo h1 o c f a w0 w L st G K Q ho hc h2 h
def Ch (n:Nat)(en:Ent):Nat->Option Ent:=ins n en tbl0
end Go.TM
end
