/- Part 21 of the proof that the law FnRefs holds of every input; no condition. -/
import Derived.Test.YtdpapeledldifaaGreatX19
set_option autoImplicit true
set_option relaxedAutoImplicit true
set_option linter.all false
section
namespace Go.TM
open Go.AM
mutual
def renV (σ:Nat→Nat):V→V
 |.ar n=>.ar (σ n)
 |.p n i off=>.p (σ n) i off
 |.fn f caps=>.fn f (zIz σ caps)
 |.agg cs=>.agg (zIz σ cs)
 |.tup cs=>.tup (zIz σ cs)
 |.u=>.u
 |.sk=>.sk
 |.i k n=>.i k n
 |.b x=>.b x
 |.s x=>.s x
 |.sl t r=>.sl t r
 |.own t d r=>.own t d r
 |.emp t=>.emp t
 |.ro c=>.ro c
 |.nilp=>.nilp
 |.nil=>.nil
def zIz (σ:Nat→Nat):List V→List V
 |[]=>[]
 |x::l=>renV σ x::zIz σ l
end
def renO (σ:Nat→Nat):TO→TO
 |.box n cs=>.box (σ n) (zIz σ cs)
 |.arr n t d l=>.arr (σ n) t d l
 |.opn n t d l i cs=>.opn (σ n) t d l i (zIz σ cs)
 |.spl n t l k=>.spl (σ n) t l k
def zUg (σ:Nat→Nat):List TO→List TO
 |[]=>[]
 |x::l=>renO σ x::zUg σ l
mutual
def zHY (ns:List Nat):V→Bool
 |.ar n=>ns.contains n
 |.p n _ _=>ns.contains n
 |.fn _ caps=>zDG ns caps
 |.agg cs=>zDG ns cs
 |.tup cs=>zDG ns cs
 |_=>true
def zDG (ns:List Nat):List V→Bool
 |[]=>true
 |x::l=>zHY ns x&&zDG ns l
end
def zGv (ns:List Nat):List TO→Bool
 |[]=>true
 |x::l=>(match x with|.box _ cs=>zDG ns cs|.arr _ _ _ _=>true|.opn _ _ _ _ _ cs=>zDG ns cs|.spl _ _ _ _=>true)&&zGv ns l
def zCn:List TO→List Nat
 |[]=>[]
 |x::l=>x.name::zCn l
def selT:List Nat→List TO→Option (List TO)
 |[],_=>some []
 | n::ns,l=>match getT l n,selT ns l with
   |some x,some xs=>some (x::xs)
   |_,_=>none
def remT (o:Nat):List TO→List TO
 |[]=>[]
 |x::l=>bif x.name==o then l else x::remT o l
def zTG:List Nat→List TO→List TO
 |[],l=>l
 |o::ns,l=>zTG ns (remT o l)
def zEe:List Nat→TS→TS
 |[],s=>s
 |o::l,s=>zEe l (zIK o s)
def zJa (ob:List TO):V→List Nat→Option Nat
 |.p o _ _,[]=>some o
 |.ar o,[]=>some o
 | .p o i off,c::cs=>match getT ob o with
   | some (.box _ row)=>(match i with
     |0=>zJa ob (lkV row (off+c)) cs
     |_+1=>none)
   |_=>none
 | .ar o,c::cs=>match getT ob o with
   |some (.opn _ _ _ _ _ row)=>zJa ob (lkV row c) cs
   |_=>none
 |.agg row,c::cs=>zJa ob (lkV row c) cs
 |.fn _ row,c::cs=>zJa ob (lkV row c) cs
 |_,_=>none
def locsT:List (Nat×List Nat)→List V→List TO→Option (List Nat)
 |[],_,_=>some []
 | p::l,args,ob=>match zJa ob (lkV args p.1) p.2,locsT l args ob with
   |some n,some ns=>some (n::ns)
   |_,_=>none
def arsT (ns:List Nat):List V→List Nat
 |[]=>[]
 |.ar o::l=>bif ns.contains o then arsT ns l else o::arsT (o::ns) l
 |_::l=>arsT ns l
def zHs (s:TS):List Operand→TS
 |[]=>s
 |x::l=>zHs (zMr s x) l
mutual
def brwV (ob:List TO):V→V
 |.own g _ l=>.sl g l
 |.emp g=>.sl g []
 | .ar o=>match getT ob o with
   |some (.arr _ g _ l)=>.sl g l
   |some (.spl _ g l _)=>.sl g l
   |_=>.u
 |.agg cs=>.agg (zTU ob cs)
 |.tup cs=>.tup (zTU ob cs)
 |v=>v
def zTU (ob:List TO):List V→List V
 |[]=>[]
 |x::l=>brwV ob x::zTU ob l
end
def zKO:GT→Bool
 |.sl _=>false
 |.pair a b=>zKO a&&zKO b
 |_=>true
mutual
def zDm:V→Bool
 |.i _ _=>true
 |.b _=>true
 |.s _=>true
 |.nil=>true
 |.emp _=>true
 |.own g d _=>d||zKO g
 |.agg cs=>zJR cs
 |.tup cs=>zJR cs
 |_=>false
def zJR:List V→Bool
 |[]=>true
 |x::l=>zDm x&&zJR l
end
section
variable {σ:Nat→Nat}
mutual
theorem ren_e:∀v:V,ren σ (e v)=e (renV σ v)
 |.ar _|.p _ _ _|.u|.sk|.i _ _|.b _|.s _|.sl _ _|.own _ _ _|.emp _|.ro _|.nilp|.nil=>rfl
 |.fn f c=>by simp only[e,ren,renV,zJE c]
 |.agg c=>by simp only[e,ren,renV,zJE c]
 |.tup c=>by simp only[e,ren,renV,zJE c]
theorem zJE:∀l:List V,renL σ (eL l)=eL (zIz σ l)
 |[]=>rfl
 |x::l=>by simp only[eL,renL,zIz,ren_e x,zJE l]
end
theorem zHf:∀l:List V,(zIz σ l).length=l.length
 |[]=>rfl
 |x::l=>by simp only[zIz,List.length_cons,zHf l]
theorem ren_id:∀v:SV,plain v=true→ren σ v=v
 |.i _ _,_=>rfl
 |.b _,_=>rfl
 |.s _,_=>rfl
 |.sl _ _,_=>rfl
 |.own _ _,_=>rfl
 |.nil,_=>rfl
 |.u,_=>rfl
 |.sk,_=>rfl
 |.nilp,_=>rfl
 |.ar _,h=>by simp[plain]at h
 |.p _ _ _,h=>by simp[plain]at h
 |.ro _,h=>by simp[plain]at h
 |.fn _ _,h=>by simp[plain]at h
 |.agg _,h=>by simp[plain]at h
 |.tup _,h=>by simp[plain]at h
theorem zUh:∀l:List SV,zBo l=true→renL σ l=l
 |[],_=>rfl
 | x::l,h=>by
   simp only[zBo,zBa]at h
   simp only[renL,ren_id x h.1,zUh l h.2]
theorem zFy (t:GT)(d:Bool):∀l:List t.Den,zAk σ (l.map (encC d t))=l.map (encC d t)
 |[]=>rfl
 |x::l=>by simp only[List.map_cons,zAk,zUh _ (zED t d x),zFy t d l]
theorem zJA:∀(rows:List (List SV)) (i:Nat) (r:List SV),zAk σ (rows.set i r)=(zAk σ rows).set i (renL σ r)
 |[],i,r=>rfl
 |x::l,0,r=>rfl
 |x::l,i+1,r=>by simp only[List.set_cons_succ,zAk,zJA l i r]
theorem zJD:∀a b:List (List SV),zAk σ (a++b)=zAk σ a++zAk σ b
 |[],_=>rfl
 |x::l,b=>by simp only[List.cons_append,zAk,zJD l b]
theorem zOS (d:DM)(t:GT)(i:Nat)(l:List t.Den):zAk σ (encM d t i l)=encM d t i l:=by
 cases d with
 |all d=>exact zFy t d l
 |spl=>simp only[encM,zJD,zFy]
theorem renO_e (x:TO):zHP σ (eO x)=eO (renO σ x):=by
 cases x with
 |box n cs=>simp only[eO,zHP,renO,if_true,zAk,zJE,zHf]
 |arr n t d l=>simp only[eO,zHP,renO,Bool.false_eq_true,if_false]
 |opn n t d l i cs=>simp only[eO,zHP,renO,if_true,zJA,zOS,zJE]
 |spl n t l k=>simp only[eO,zHP,renO,Bool.false_eq_true,if_false]
theorem zQH:∀l:List TO,zCI σ (eOs l)=eOs (zUg σ l)
 |[]=>rfl
 |x::l=>by simp only[eOs,zCI,zUg,renO_e,zQH l]
mutual
theorem zSd (ns:List Nat):∀v:V,closed ns (e v)=zHY ns v
 |.ar _|.p _ _ _|.u|.sk|.i _ _|.b _|.s _|.sl _ _|.own _ _ _|.emp _|.ro _|.nilp|.nil=>rfl
 |.fn f c=>by simp only[e,closed,zHY,zDa ns c]
 |.agg c=>by simp only[e,closed,zHY,zDa ns c]
 |.tup c=>by simp only[e,closed,zHY,zDa ns c]
theorem zDa (ns:List Nat):∀l:List V,zCD ns (eL l)=zDG ns l
 |[]=>rfl
 |x::l=>by simp only[eL,zCD,zDG,zSd ns x,zDa ns l]
end
theorem zPM (ns:List Nat):∀v:SV,plain v=true→closed ns v=true
 |.i _ _,_|.b _,_|.s _,_|.sl _ _,_|.own _ _,_|.nil,_|.u,_|.sk,_|.nilp,_=>rfl
 |.ar _,h=>by simp[plain]at h
 |.p _ _ _,h=>by simp[plain]at h
 |.ro _,h=>by simp[plain]at h
 |.fn _ _,h=>by simp[plain]at h
 |.agg _,h=>by simp[plain]at h
 |.tup _,h=>by simp[plain]at h
theorem zGw (ns:List Nat):∀l:List SV,zBo l=true→zCD ns l=true
 |[],_=>rfl
 | x::l,h=>by
   simp only[zBo,zBa]at h
   simp only[zCD,zPM ns x h.1,zGw ns l h.2,Bool.and_self]
theorem zDw (ns:List Nat)(t:GT)(d:Bool):∀l:List t.Den,zAa ns (l.map (encC d t))=true
 |[]=>rfl
 |x::l=>by simp only[List.map_cons,zAa,zGw ns _ (zED t d x),zDw ns t d l,Bool.and_self]
theorem zFj (ns:List Nat):∀a b:List (List SV),zAa ns (a++b)=(zAa ns a&&zAa ns b)
 |[],_=>rfl
 |x::l,b=>by simp only[List.cons_append,zAa,zFj ns l b,Bool.and_assoc]
theorem zJk (ns:List Nat)(d:DM)(t:GT)(i:Nat)(l:List t.Den):zAa ns (encM d t i l)=true:=by
 cases d with
 |all d=>exact zDw ns t d l
 |spl=>simp only[encM,zFj,zDw,Bool.and_self]
theorem zFi (ns:List Nat)(r:List SV)(hr:zCD ns r=true):∀(l:List (List SV)) (i:Nat),zAa ns l=true→zAa ns (l.set i r)=true
 |[],_,_=>rfl
 | x::l,0,h=>by
   simp only[zAa,zBa]at h
   simp only[List.set_cons_zero,zAa,hr,h.2,Bool.and_self]
 | x::l,i+1,h=>by
   simp only[zAa,zBa]at h
   simp only[List.set_cons_succ,zAa,h.1,zFi ns r hr l i h.2,Bool.and_self]
theorem zHZ (ns:List Nat):∀l:List TO,zGv ns l=true→zCS ns (eOs l)=true
 |[],_=>rfl
 | x::l,h=>by
   simp only[zGv,zBa]at h
   simp only[eOs,zCS,zHZ ns l h.2,Bool.and_true]
   have h1:=h.1
   cases x with
   |box n cs=>simp only at h1;simp only[eO,if_true,zAa,zDa,h1,Bool.and_true]
   |arr n t d l=>simp only[eO,Bool.false_eq_true,if_false]
   |opn n t d l i cs=>simp only at h1;simp only[eO,if_true];exact zFi ns _ (by rw[zDa];exact h1) _ i (zJk ns d t i l)
   |spl n t l k=>simp only[eO,Bool.false_eq_true,if_false]
theorem zMg:∀l:List TO,names (eOs l)=zCn l
 |[]=>rfl
 | x::l=>by
   have:=zMg l
   simp only[names]at this
   simp only[eOs,names,zCn,List.map_cons,this,zEk]
theorem zUb:∀(ns:List Nat) (l:List TO) (xs:List TO),selT ns l=some xs→zCH ns (eOs l)=some (eOs xs)
 |[],l,xs,h=>by simp only[selT,zSe]at h;subst h;rfl
 | n::ns,l,xs,h=>by
   simp only[selT]at h
   split at h
   ·rename_i x xs' hx hxs
    simp only[zSe]at h
    subst h
    simp only[zCH,zDU,hx,Option.map_some,zUb ns l xs' hxs,eOs]
   ·cases h
theorem remT_e (o:Nat):∀l:List TO,zGc o (eOs l)=eOs (remT o l)
 |[]=>rfl
 | x::l=>by
   simp only[eOs,zGc,remT,zEk]
   by_cases h:x.name=o
   ·simp[h]
   ·have h':(x.name==o)=false:=by simpa using h
    simp only[h,if_false,h',cond_false,eOs,remT_e o l]
theorem zUi:∀(ns:List Nat) (l:List TO),zFD ns (eOs l)=eOs (zTG ns l)
 |[],_=>rfl
 |o::ns,l=>by simp only[zFD,zTG,remT_e,zUi ns]
theorem zKX:∀(ns:List Nat) (s:TS),zGE ns (eS s)=eS (zEe ns s)
 |[],_=>rfl
 |o::ns,s=>by simp only[zGE,zEe,zFZ,zKX ns]
theorem zWD:∀(l:List V) (ns:List Nat),zQt ns (eL l)=arsT ns l
 |[],_=>rfl
 | x::l,ns=>by
   cases x with
   |ar o=>simp only[eL,e,zQt,arsT,zWD l]
   |_=>simp only[eL,e,zQt,arsT,zWD l]
theorem zSS:∀(l:List Operand) (s:TS),frzTL (eS s) l=eS (zHs s l)
 |[],_=>rfl
 |x::l,s=>by simp only[frzTL,zHs,zVk,zSS l]
theorem zOy:∀a b:List (List SV),zBb (a++b)=zBb a++zBb b
 |[],_=>rfl
 |x::l,b=>by simp only[List.cons_append,zBb,zOy l b]
theorem zVl (g:GT)(k:Nat)(l:List g.Den):zBb (encM .spl g k l)=l.map (encC false g):=by
 simp only[encM,zOy,zBv]
 rw[←List.map_append,List.take_append_drop]
mutual
theorem brw_e {ob:List TO}:∀v:V,brw (eOs ob) (e v)=e (brwV ob v)
 |.own g d l=>by simp only[e,brw,brwV,zBv]
 |.emp g=>rfl
 | .ar o=>by
   simp only[e,brw,brwV,zDU]
   cases getT ob o with
   |none=>rfl
   | some x =>
     cases x with
     |box n cs=>simp only[Option.map_some,eO,e]
     |arr n g d l=>simp only[Option.map_some,eO,e,zBv]
     |opn n g d l i cs=>simp only[Option.map_some,eO,e]
     |spl n g l k=>simp only[Option.map_some,eO,e,zVl]
 |.agg cs=>by simp only[e,brw,brwV,zSj cs]
 |.tup cs=>by simp only[e,brw,brwV,zSj cs]
 |.u|.sk|.i _ _|.b _|.s _|.sl _ _|.p _ _ _|.ro _|.nilp|.nil|.fn _ _=>rfl
theorem zSj {ob:List TO}:∀l:List V,brwL (eOs ob) (eL l)=eL (zTU ob l)
 |[]=>rfl
 |x::l=>by simp only[eL,brwL,zTU,brw_e x,zSj l]
end
theorem zHS:∀a b:List SV,zCo (a++b)=(zCo a&&zCo b)
 |[],b=>by simp[zCo]
 |x::l,b=>by simp only[List.cons_append,zCo,zHS l b,Bool.and_assoc]
theorem zHT {α:Type}{f:α→List SV}:∀l:List α,(∀x∈l,zCo (f x)=true)→zKT (l.map f)=true
 |[],_=>rfl
 | x::l,h=>by
   simp only[List.map_cons,zKT,h x (List.mem_cons_self ..),zHT l fun y hy=>h y (List.mem_cons_of_mem _ hy),Bool.and_self]
theorem zIP:∀(g:GT) (x:g.Den),zCo (encC true g x)=true
 |.int _,_=>rfl
 |.byte,_=>rfl
 |.bool,_=>rfl
 |.str,_=>rfl
 |.unit,_=>rfl
 | .sl g,l=>by
   simp only[encC,zCo,zIJ,Bool.and_true]
   exact zHT l fun x _=>zIP g x
 |.pair a b,x=>by simp only[encC,zHS,zIP a,zIP b,Bool.and_self]
theorem zHR:∀(g:GT) (d:Bool) (x:g.Den),zKO g=true→zCo (encC d g x)=true
 |.int _,_,_,_=>rfl
 |.byte,_,_,_=>rfl
 |.bool,_,_,_=>rfl
 |.str,_,_,_=>rfl
 |.unit,_,_,_=>rfl
 |.sl _,_,_,h=>by simp[zKO]at h
 | .pair a b,d,x,h=>by
   simp only[zKO,zBa]at h
   simp only[encC,zHS,zHR a d x.1 h.1,zHR b d x.2 h.2,Bool.and_self]
mutual
theorem zVK:∀v:V,zDm v=true→zIJ (e v)=true
 | .own g d l,h=>by
   simp only[e,zIJ]
   refine zHT l fun x _=>?_
   cases d with
   |true=>exact zIP g x
   |false=>exact zHR g false x (by simpa[zDm]using h)
 |.agg c,h=>by simp only[e,zIJ];exact zMi c (by simpa[zDm]using h)
 |.tup c,h=>by simp only[e,zIJ];exact zMi c (by simpa[zDm]using h)
 |.i _ _,_=>rfl
 |.b _,_=>rfl
 |.s _,_=>rfl
 |.nil,_=>rfl
 |.emp _,_=>rfl
 |.ar _,h=>by simp[zDm]at h
 |.p _ _ _,h=>by simp[zDm]at h
 |.u,h=>by simp[zDm]at h
 |.sk,h=>by simp[zDm]at h
 |.sl _ _,h=>by simp[zDm]at h
 |.ro _,h=>by simp[zDm]at h
 |.nilp,h=>by simp[zDm]at h
 |.fn _ _,h=>by simp[zDm]at h
theorem zMi:∀l:List V,zJR l=true→zCo (eL l)=true
 |[],_=>rfl
 | x::l,h=>by
   simp only[zJR,zBa]at h
   simp only[eL,zCo,zVK x h.1,zMi l h.2,Bool.and_self]
end
theorem zIU {s:TS}:∀xs:List Operand,evs (eS s).env xs=eL (evTL s xs)
 |[]=>rfl
 |x::l=>by simp only[evs,evTL,eL,zAp,zIU l]
end
structure TEnt where
 fid:Nat
 pure:Bool
 ps:List (Nat×List Nat)
 inS:SPat
 Y:Type
 F:inS.Den→Option Y
 res:Y→Option (V×List TO)
def zQb:List (Nat×Pat)→List V→List V
 |[],_=>[]
 | _::l,vs=>match vs with
   |v::vs=>v::zQb l vs
   |[]=>[]
def zKl (p:SPat)(x:p.Den):List V:=zQb p.al (encP p.pat x)
def zTK (p:SPat)(x:p.Den):List TO:=mkO p.ob (zMP p.al (encP p.pat x))
def TEnt.W (en:TEnt):WP:=fun args ob K=>∃x y v obs,wkL args (eL (zKl en.inS x))∧wkObs ob (eOs (zTK en.inS x))∧en.F x=some y∧en.res y=some (v,obs)∧K (e v) (eOs obs)
def TEnt.ent (en:TEnt)(ns:Option (List Nat)):Ent:=⟨en.pure,fun _ _=>ns,en.W⟩
section
variable {R:Type}
def ofOs:List TO→List V
 |[]=>[]
 |x::l=>ofO (some x)::ofOs l
def eqNs:List Nat→List Nat→Bool
 |[],[]=>true
 |a::l,b::m=>a==b&&eqNs l m
 |_,_=>false
def decIn (p:SPat)(args:List V)(obs:List TO)(K:p.Den→Option R):Option R :=
 chkO (okA p.al&&args.length==p.al.length&&eqNs (zCn obs) (zCN p.ob)) (decP true p.pat (args++ofOs obs) fun x q=>endT q (K x))
def resGo (en:TEnt)(y:en.Y)(K:V→List TO→Option R):Option R:=match en.res y with
 |some (v,obs)=>K v obs
 |none=>none
def zMs:List Nat→(TS→Option R)→TS→Option R
 |[],K,s=>K s
 |o::l,K,s=>zHu s o (zMs l K)
def zWA (σ:Nat→Nat)(old:List Nat)(obs:List TO)(v:V):Bool :=
 zGh ((zCn obs).map σ)&&zHY (zCn obs) v&&zGv (zCn obs) obs&&zWG (zCB σ old (zCn obs))
def zWH (σ:Nat→Nat)(old:List Nat)(s:TS)(obs:List TO)(v:V)(d:Option Tmp):TS :=
 zAc ⟨s.n,(zEe (zCB σ old (zCn obs)) ⟨s.n,s.al,zTG (old.map σ) s.ob⟩).al,zUg σ obs++(zEe (zCB σ old (zCn obs)) ⟨s.n,s.al,zTG (old.map σ) s.ob⟩).ob⟩ d (renV σ v)
def goT (ns:List Nat)(d:Option Tmp)(K:TS→Option R)(s:TS)(v:V)(obs:List TO):Option R :=
 chkO (zWA (outN (zDP d) 100000 ns) (zEt 100000 ns) obs v) (K (zWH (outN (zDP d) 100000 ns) (zEt 100000 ns) s obs v d))
def zVy (en:TEnt)(ns:List Nat)(xs:List Operand)(caps:List V)(d:Option Tmp)(K:TS→Option R)(s:TS):Option R:=match selT ns s.ob with
 |some obs=>chkO (zGh ns&&zDG ns (evTL s xs++caps)&&zGv ns obs&&!zDE (evTL s xs))
   (decIn en.inS (zIz (inN 100000 ns) (evTL s xs++caps)) (zUg (inN 100000 ns) obs) fun x=>zAA (en.F x) fun y=>resGo en y (goT ns d K s))
 |none=>none
def zQr (en:TEnt)(ns:List Nat)(n:Nat)(f:Operand)(xs:List Operand)(d:Option Tmp)(K:TS→Option R)(s:TS):Option R:=match evT s f with
 |.fn n' caps=>chkO (n'==n) (zVy en ns xs caps d K s)
 |_=>none
def callET (en:TEnt)(n:Nat)(caps:List V)(f:Operand)(xs:List Operand)(d:Option Tmp)(K:TS→Option R)(s:TS):Option R :=
 match locsT en.ps (evTL s xs++caps) s.ob with
 |some ns=>zMs (arsT ns (evTL s xs++caps)) (zQr en ns n f xs d K) s
 |none=>none
end
def vkey (n:Nat):List V→Nat
 |[]=>n
 | v::l=>match v with
   |.fn m _=>n+1000*(m+1)
   |_=>vkey n l
def zQg:List V→Nat→Option Nat
 |[],_=>none
 | v::l,j=>match v with
   |.ar _=>some j
   |_=>zQg l (j+1)
def skey (ob:List TO)(n:Nat):List V→Option Nat
 |[]=>none
 | v::_=>match v with
   | .p o _ _=>match getT ob o with
     | some (.box _ cs)=>match zQg cs 0 with
       | some j=>match lkV cs j with
         | .ar m=>match getT ob m with
           | some (.opn _ _ _ _ _ row)=>match zQg row 0 with
             |some k=>some (n+1000000*(j+1)+100000000*(k+1))
             |none=>some (n+1000000*(j+1))
           |_=>some (n+1000000*(j+1))
         |_=>none
       |none=>none
     |_=>none
   |_=>none
def lookE (tbl:Nat→Option TEnt)(ob:List TO)(n:Nat)(l:List V):Option TEnt:=match skey ob n l with
 | some k=>match tbl k with
   |some en=>some en
   |none=>tbl (vkey n l)
 |none=>tbl (vkey n l)
theorem zTM {tbl:Nat→Option TEnt}{ob:List TO}{n:Nat}{l:List V}{en:TEnt}(h:lookE tbl ob n l=some en):∃k,tbl k=some en:=by
 unfold lookE at h
 split at h
 ·split at h
  ·rename_i h2
   rw[←h]
   exact⟨_,h2⟩
  ·exact⟨_,h⟩
 ·exact⟨_,h⟩
def zVz (tbl:Nat→Option TEnt):zFm:=fun _ f xs d s K=>match evT s f with
 | .fn n caps=>match lookE tbl s.ob n (evTL s xs++caps)with
   | some en=>chkO (en.fid==n) (match en.pure with
     |true=>decIn en.inS (zTU s.ob (evTL s xs++caps)) [] fun x=>zAA (en.F x) fun y=>resGo en y fun v _=>chkO (zDm v) (K (zAc s d v))
     |false=>callET en n caps f xs d K (zHs s xs))
   |none=>none
 |_=>none
def TbOk (P:Program)(tbl:Nat→Option TEnt):Prop:=∀k en,tbl k=some en→zHG P en.fid en.W
def CallV (P:Program):zAt:=fun f xs d st K=>∃tb,zPS P tb∧zQw tb f xs d st K
theorem CallV.sound {P:Program}:zFp P (CallV P):=fun o c f a w0 w L st G K Q ho hc hk h=>by
 obtain⟨tb,h1,h2⟩:=hk
 exact zQw.sound h1 o c f a w0 w L st G K Q ho hc h2 h
def tbOne (n:Nat)(en:Ent):Nat→Option Ent:=ins n en tbl0
end Go.TM
end
