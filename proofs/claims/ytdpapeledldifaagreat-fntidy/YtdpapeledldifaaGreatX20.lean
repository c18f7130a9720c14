/- Part 21 of the proof of FnTidy; no condition. -/
import Derived.Test.YtdpapeledldifaaGreatX19
set_option autoImplicit true
set_option relaxedAutoImplicit true
set_option linter.all false
section
namespace Go.TM
open Go.AM
mutual
def renV (σ:Nat→Nat):V→V
 |.ar n=>.ar (σ n)
 |.p n i off=>.p (σ n) i off
 |.fn f caps=>.fn f (zJe σ caps)
 |.agg cs=>.agg (zJe σ cs)
 |.tup cs=>.tup (zJe σ cs)
 |.u=>.u
 |.sk=>.sk
 |.i k n=>.i k n
 |.b x=>.b x
 |.s x=>.s x
 |.sl t r=>.sl t r
 |.own t d r=>.own t d r
 |.emp t=>.emp t
 |.ro c=>.ro c
 |.nilp=>.nilp
 |.nil=>.nil
def zJe (σ:Nat→Nat):List V→List V
 |[]=>[]
 |x::l=>renV σ x::zJe σ l
end
def renO (σ:Nat→Nat):TO→TO
 |.box n cs=>.box (σ n) (zJe σ cs)
 |.arr n t d l=>.arr (σ n) t d l
 |.opn n t d l i cs=>.opn (σ n) t d l i (zJe σ cs)
 |.spl n t l k=>.spl (σ n) t l k
def zWV (σ:Nat→Nat):List TO→List TO
 |[]=>[]
 |x::l=>renO σ x::zWV σ l
mutual
def zHz (ns:List Nat):V→Bool
 |.ar n=>ns.contains n
 |.p n _ _=>ns.contains n
 |.fn _ caps=>zDQ ns caps
 |.agg cs=>zDQ ns cs
 |.tup cs=>zDQ ns cs
 |_=>true
def zDQ (ns:List Nat):List V→Bool
 |[]=>true
 |x::l=>zHz ns x&&zDQ ns l
end
def zHX (ns:List Nat):List TO→Bool
 |[]=>true
 |x::l=>(match x with|.box _ cs=>zDQ ns cs|.arr _ _ _ _=>true|.opn _ _ _ _ _ cs=>zDQ ns cs|.spl _ _ _ _=>true)&&zHX ns l
def zCz:List TO→List Nat
 |[]=>[]
 |x::l=>x.name::zCz l
def selT:List Nat→List TO→Option (List TO)
 |[],_=>some []
 | n::ns,l=>match getT l n,selT ns l with
   |some x,some xs=>some (x::xs)
   |_,_=>none
def remT (o:Nat):List TO→List TO
 |[]=>[]
 |x::l=>bif x.name==o then l else x::remT o l
def zUf:List Nat→List TO→List TO
 |[],l=>l
 |o::ns,l=>zUf ns (remT o l)
def zEx:List Nat→TS→TS
 |[],s=>s
 |o::l,s=>zEx l (zIj o s)
def zKM (ob:List TO):V→List Nat→Option Nat
 |.p o _ _,[]=>some o
 |.ar o,[]=>some o
 | .p o i off,c::cs=>match getT ob o with
   | some (.box _ row)=>(match i with
     |0=>zKM ob (lkV row (off+c)) cs
     |_+1=>none)
   |_=>none
 | .ar o,c::cs=>match getT ob o with
   |some (.opn _ _ _ _ _ row)=>zKM ob (lkV row c) cs
   |_=>none
 |.agg row,c::cs=>zKM ob (lkV row c) cs
 |.fn _ row,c::cs=>zKM ob (lkV row c) cs
 |_,_=>none
def locsT:List (Nat×List Nat)→List V→List TO→Option (List Nat)
 |[],_,_=>some []
 | p::l,args,ob=>match zKM ob (lkV args p.1) p.2,locsT l args ob with
   |some n,some ns=>some (n::ns)
   |_,_=>none
def arsT (ns:List Nat):List V→List Nat
 |[]=>[]
 |.ar o::l=>bif ns.contains o then arsT ns l else o::arsT (o::ns) l
 |_::l=>arsT ns l
def zIT (s:TS):List Operand→TS
 |[]=>s
 |x::l=>zIT (zOG s x) l
mutual
def brwV (ob:List TO):V→V
 |.own g _ l=>.sl g l
 |.emp g=>.sl g []
 | .ar o=>match getT ob o with
   |some (.arr _ g _ l)=>.sl g l
   |some (.spl _ g l _)=>.sl g l
   |_=>.u
 |.agg cs=>.agg (zUv ob cs)
 |.tup cs=>.tup (zUv ob cs)
 |v=>v
def zUv (ob:List TO):List V→List V
 |[]=>[]
 |x::l=>brwV ob x::zUv ob l
end
def zLE:GT→Bool
 |.sl _=>false
 |.pair a b=>zLE a&&zLE b
 |_=>true
mutual
def zED:V→Bool
 |.i _ _=>true
 |.b _=>true
 |.s _=>true
 |.nil=>true
 |.emp _=>true
 |.own g d _=>d||zLE g
 |.agg cs=>zKB cs
 |.tup cs=>zKB cs
 |_=>false
def zKB:List V→Bool
 |[]=>true
 |x::l=>zED x&&zKB l
end
section
variable {σ:Nat→Nat}
mutual
def ren_e:∀v:V,ren σ (e v)=e (renV σ v)
 |.ar _|.p _ _ _|.u|.sk|.i _ _|.b _|.s _|.sl _ _|.own _ _ _|.emp _|.ro _|.nilp|.nil=>rfl
 |.fn f c=>by simp only[e,ren,renV,zJj c]
 |.agg c=>by simp only[e,ren,renV,zJj c]
 |.tup c=>by simp only[e,ren,renV,zJj c]
def zJj:∀l:List V,renL σ (eL l)=eL (zJe σ l)
 |[]=>rfl
 |x::l=>by simp only[eL,renL,zJe,ren_e x,zJj l]
end
def zIG:∀l:List V,(zJe σ l).length=l.length
 |[]=>rfl
 |x::l=>by simp only[zJe,zLc,zIG l]
def ren_id:∀v:SV,plain v=true→ren σ v=v
 |.i _ _,_=>rfl
 |.b _,_=>rfl
 |.s _,_=>rfl
 |.sl _ _,_=>rfl
 |.own _ _,_=>rfl
 |.nil,_=>rfl
 |.u,_=>rfl
 |.sk,_=>rfl
 |.nilp,_=>rfl
 |.ar _,h=>by simp[plain]at h
 |.p _ _ _,h=>by simp[plain]at h
 |.ro _,h=>by simp[plain]at h
 |.fn _ _,h=>by simp[plain]at h
 |.agg _,h=>by simp[plain]at h
 |.tup _,h=>by simp[plain]at h
def zWW:∀l:List SV,zBz l=true→renL σ l=l
 |[],_=>rfl
 | x::l,h=>by
   simp only[zBz,zBa]at h;simp only[renL,ren_id x h.1,zWW l h.2]
def zGW (t:GT)(d:Bool):∀l:List t.Den,zAm σ (l.map (encC d t))=l.map (encC d t)
 |[]=>rfl
 |x::l=>by simp only[zMc,zAm,zWW _ (zEX t d x),zGW t d l]
def zJf:∀(rows:List (List SV)) (i:Nat) (r:List SV),zAm σ (rows.set i r)=(zAm σ rows).set i (renL σ r)
 |[],i,r=>rfl
 |x::l,0,r=>rfl
 |x::l,i+1,r=>by simp only[List.set_cons_succ,zAm,zJf l i r]
def zJi:∀a b:List (List SV),zAm σ (a++b)=zAm σ a++zAm σ b
 |[],_=>rfl
 |x::l,b=>by simp only[zCa,zAm,zJi l b]
def zPl (d:DM)(t:GT)(i:Nat)(l:List t.Den):zAm σ (encM d t i l)=encM d t i l:=by
 cases d with
 |all d=>exact zGW t d l
 |spl=>simp only[encM,zJi,zGW]
def renO_e (x:TO):zHq σ (eO x)=eO (renO σ x):=by
 cases x with
 |box n cs=>simp only[eO,zHq,renO,if_true,zAm,zJj,zIG]
 |arr n t d l=>simp only[eO,zHq,renO,zFt,if_false]
 |opn n t d l i cs=>simp only[eO,zHq,renO,if_true,zJf,zPl,zJj]
 |spl n t l k=>simp only[eO,zHq,renO,zFt,if_false]
def zRW:∀l:List TO,zCS σ (eOs l)=eOs (zWV σ l)
 |[]=>rfl
 |x::l=>by simp only[eOs,zCS,zWV,renO_e,zRW l]
mutual
def zUB (ns:List Nat):∀v:V,closed ns (e v)=zHz ns v
 |.ar _|.p _ _ _|.u|.sk|.i _ _|.b _|.s _|.sl _ _|.own _ _ _|.emp _|.ro _|.nilp|.nil=>rfl
 |.fn f c=>by simp only[e,closed,zHz,zDq ns c]
 |.agg c=>by simp only[e,closed,zHz,zDq ns c]
 |.tup c=>by simp only[e,closed,zHz,zDq ns c]
def zDq (ns:List Nat):∀l:List V,zCM ns (eL l)=zDQ ns l
 |[]=>rfl
 |x::l=>by simp only[eL,zCM,zDQ,zUB ns x,zDq ns l]
end
def zQe (ns:List Nat):∀v:SV,plain v=true→closed ns v=true
 |.i _ _,_|.b _,_|.s _,_|.sl _ _,_|.own _ _,_|.nil,_|.u,_|.sk,_|.nilp,_=>rfl
 |.ar _,h=>by simp[plain]at h
 |.p _ _ _,h=>by simp[plain]at h
 |.ro _,h=>by simp[plain]at h
 |.fn _ _,h=>by simp[plain]at h
 |.agg _,h=>by simp[plain]at h
 |.tup _,h=>by simp[plain]at h
def zHY (ns:List Nat):∀l:List SV,zBz l=true→zCM ns l=true
 |[],_=>rfl
 | x::l,h=>by
   simp only[zBz,zBa]at h;simp only[zCM,zQe ns x h.1,zHY ns l h.2,zBs]
def zEN (ns:List Nat)(t:GT)(d:Bool):∀l:List t.Den,zAc ns (l.map (encC d t))=true
 |[]=>rfl
 |x::l=>by simp only[zMc,zAc,zHY ns _ (zEX t d x),zEN ns t d l,zBs]
def zGJ (ns:List Nat):∀a b:List (List SV),zAc ns (a++b)=(zAc ns a&&zAc ns b)
 |[],_=>rfl
 |x::l,b=>by simp only[zCa,zAc,zGJ ns l b,Bool.and_assoc]
def zKW (ns:List Nat)(d:DM)(t:GT)(i:Nat)(l:List t.Den):zAc ns (encM d t i l)=true:=by
 cases d with
 |all d=>exact zEN ns t d l
 |spl=>simp only[encM,zGJ,zEN,zBs]
def zGI (ns:List Nat)(r:List SV)(hr:zCM ns r=true):∀(l:List (List SV)) (i:Nat),zAc ns l=true→zAc ns (l.set i r)=true
 |[],_,_=>rfl
 | x::l,0,h=>by
   simp only[zAc,zBa]at h;simp only[List.set_cons_zero,zAc,hr,h.2,zBs]
 | x::l,i+1,h=>by
   simp only[zAc,zBa]at h;simp only[List.set_cons_succ,zAc,h.1,zGI ns r hr l i h.2,zBs]
def zIA (ns:List Nat):∀l:List TO,zHX ns l=true→zCe ns (eOs l)=true
 |[],_=>rfl
 | x::l,h=>by
   simp only[zHX,zBa]at h;simp only[eOs,zCe,zIA ns l h.2,zAt]
   have h1:=h.1;cases x with
   |box n cs=>simp only at h1;simp only[eO,if_true,zAc,zDq,h1,zAt]
   |arr n t d l=>simp only[eO,zFt,if_false]
   |opn n t d l i cs=>simp only at h1;simp only[eO,if_true];exact zGI ns _ (by rw[zDq];exact h1) _ i (zKW ns d t i l)
   |spl n t l k=>simp only[eO,zFt,if_false]
def zNu:∀l:List TO,names (eOs l)=zCz l
 |[]=>rfl
 | x::l=>by
   have:=zNu l;simp only[names]at this;simp only[eOs,names,zCz,zMc,this,zDo]
def zWP:∀(ns:List Nat) (l:List TO) (xs:List TO),selT ns l=some xs→zCR ns (eOs l)=some (eOs xs)
 |[],l,xs,h=>by simp only[selT,zSe]at h;subst h;rfl
 | n::ns,l,xs,h=>by
   simp only[selT]at h;split at h
   ·rename_i x xs' hx hxs;simp only[zSe]at h;subst h;simp only[zCR,zDi,hx,Option.map_some,zWP ns l xs' hxs,eOs]
   ·cases h
def remT_e (o:Nat):∀l:List TO,zHE o (eOs l)=eOs (remT o l)
 |[]=>rfl
 | x::l=>by
   simp only[eOs,zHE,remT,zDo]
   by_cases h:x.name=o
   ·simp[h]
   ·have h':(x.name==o)=false:=by simpa using h
    simp only[h,if_false,h',cond_false,eOs,remT_e o l]
def zWX:∀(ns:List Nat) (l:List TO),zFY ns (eOs l)=eOs (zUf ns l)
 |[],_=>rfl
 |o::ns,l=>by simp only[zFY,zUf,remT_e,zWX ns]
def zLN:∀(ns:List Nat) (s:TS),zGc ns (eS s)=eS (zEx ns s)
 |[],_=>rfl
 |o::ns,s=>by simp only[zGc,zEx,zFw,zLN ns]
def zXp:∀(l:List V) (ns:List Nat),zSH ns (eL l)=arsT ns l
 |[],_=>rfl
 | x::l,ns=>by
   cases x with
   |ar o=>simp only[eL,e,zSH,arsT,zXp l]
   |_=>simp only[eL,e,zSH,arsT,zXp l]
def zTo:∀(l:List Operand) (s:TS),frzTL (eS s) l=eS (zIT s l)
 |[],_=>rfl
 |x::l,s=>by simp only[frzTL,zIT,zXQ,zTo l]
def zQO:∀a b:List (List SV),zBX (a++b)=zBX a++zBX b
 |[],_=>rfl
 |x::l,b=>by simp only[zCa,zBX,zQO l b]
def zXR (g:GT)(k:Nat)(l:List g.Den):zBX (encM .spl g k l)=l.map (encC false g):=by
 simp only[encM,zQO,zBp]
 rw[←List.map_append,List.take_append_drop]
mutual
def brw_e {ob:List TO}:∀v:V,brw (eOs ob) (e v)=e (brwV ob v)
 |.own g d l=>by simp only[e,brw,brwV,zBp]
 |.emp g=>rfl
 | .ar o=>by
   simp only[e,brw,brwV,zDi]
   cases getT ob o with
   |none=>rfl
   | some x=>
     cases x with
     |box n cs=>simp only[Option.map_some,eO,e]
     |arr n g d l=>simp only[Option.map_some,eO,e,zBp]
     |opn n g d l i cs=>simp only[Option.map_some,eO,e]
     |spl n g l k=>simp only[Option.map_some,eO,e,zXR]
 |.agg cs=>by simp only[e,brw,brwV,zUG cs]
 |.tup cs=>by simp only[e,brw,brwV,zUG cs]
 |.u|.sk|.i _ _|.b _|.s _|.sl _ _|.p _ _ _|.ro _|.nilp|.nil|.fn _ _=>rfl
def zUG {ob:List TO}:∀l:List V,brwL (eOs ob) (eL l)=eL (zUv ob l)
 |[]=>rfl
 |x::l=>by simp only[eL,brwL,zUv,brw_e x,zUG l]
end
def zHt:∀a b:List SV,zDA (a++b)=(zDA a&&zDA b)
 |[],b=>by simp[zDA]
 |x::l,b=>by simp only[zCa,zDA,zHt l b,Bool.and_assoc]
def zHu {α:Type}{f:α→List SV}:∀l:List α,(∀x∈l,zDA (f x)=true)→zLJ (l.map f)=true
 |[],_=>rfl
 | x::l,h=>by
   simp only[zMc,zLJ,h x (List.mem_cons_self ..),zHu l fun y hy=>h y (List.mem_cons_of_mem _ hy),zBs]
def zIq:∀(g:GT) (x:g.Den),zDA (encC true g x)=true
 |.int _,_=>rfl
 |.byte,_=>rfl
 |.bool,_=>rfl
 |.str,_=>rfl
 |.unit,_=>rfl
 | .sl g,l=>by
   simp only[encC,zDA,zIi,zAt]
   exact zHu l fun x _=>zIq g x
 |.pair a b,x=>by simp only[encC,zHt,zIq a,zIq b,zBs]
def zHs:∀(g:GT) (d:Bool) (x:g.Den),zLE g=true→zDA (encC d g x)=true
 |.int _,_,_,_=>rfl
 |.byte,_,_,_=>rfl
 |.bool,_,_,_=>rfl
 |.str,_,_,_=>rfl
 |.unit,_,_,_=>rfl
 |.sl _,_,_,h=>by simp[zLE]at h
 | .pair a b,d,x,h=>by
   simp only[zLE,zBa]at h;simp only[encC,zHt,zHs a d x.1 h.1,zHs b d x.2 h.2,zBs]
mutual
def zWt:∀v:V,zED v=true→zIi (e v)=true
 | .own g d l,h=>by
   simp only[e,zIi]
   refine zHu l fun x _=>?_
   cases d with
   |true=>exact zIq g x
   |false=>exact zHs g false x (by simpa[zED]using h)
 |.agg c,h=>by simp only[e,zIi];exact zNy c (by simpa[zED]using h)
 |.tup c,h=>by simp only[e,zIi];exact zNy c (by simpa[zED]using h)
 |.i _ _,_=>rfl
 |.b _,_=>rfl
 |.s _,_=>rfl
 |.nil,_=>rfl
 |.emp _,_=>rfl
 |.ar _,h=>by simp[zED]at h
 |.p _ _ _,h=>by simp[zED]at h
 |.u,h=>by simp[zED]at h
 |.sk,h=>by simp[zED]at h
 |.sl _ _,h=>by simp[zED]at h
 |.ro _,h=>by simp[zED]at h
 |.nilp,h=>by simp[zED]at h
 |.fn _ _,h=>by simp[zED]at h
def zNy:∀l:List V,zKB l=true→zDA (eL l)=true
 |[],_=>rfl
 | x::l,h=>by
   simp only[zKB,zBa]at h;simp only[eL,zDA,zWt x h.1,zNy l h.2,zBs]
end
def zIt {s:TS}:∀xs:List Operand,evs (eS s).env xs=eL (evTL s xs)
 |[]=>rfl
 |x::l=>by simp only[evs,evTL,eL,zAr,zIt l]
end
structure TEnt where
 fid:Nat
 pure:Bool
 ps:List (Nat×List Nat)
 inS:SPat
 Y:Type
 F:inS.Den→Option Y
 res:Y→Option (V×List TO)
def zRo:List (Nat×Pat)→List V→List V
 |[],_=>[]
 | _::l,vs=>match vs with
   |v::vs=>v::zRo l vs
   |[]=>[]
def zLe (p:SPat)(x:p.Den):List V:=zRo p.al (encP p.pat x)
def zUj (p:SPat)(x:p.Den):List TO:=mkO p.ob (zNd p.al (encP p.pat x))
def TEnt.W (en:TEnt):WP:=fun args ob K=>∃x y v obs,wkL args (eL (zLe en.inS x))∧wkObs ob (eOs (zUj en.inS x))∧en.F x=some y∧en.res y=some (v,obs)∧K (e v) (eOs obs)
def TEnt.ent (en:TEnt)(ns:Option (List Nat)):Ent:=⟨en.pure,fun _ _=>ns,en.W⟩
section
variable {R:Type}
def ofOs:List TO→List V
 |[]=>[]
 |x::l=>ofO (some x)::ofOs l
def eqNs:List Nat→List Nat→Bool
 |[],[]=>true
 |a::l,b::m=>a==b&&eqNs l m
 |_,_=>false
def decIn (p:SPat)(args:List V)(obs:List TO)(K:p.Den→Option R):Option R :=
 chkO (okA p.al&&args.length==p.al.length&&eqNs (zCz obs) (zCY p.ob)) (decP true p.pat (args++ofOs obs) fun x q=>endT q (K x))
def resGo (en:TEnt)(y:en.Y)(K:V→List TO→Option R):Option R:=match en.res y with
 |some (v,obs)=>K v obs
 |none=>none
def zOH:List Nat→(TS→Option R)→TS→Option R
 |[],K,s=>K s
 |o::l,K,s=>zIV s o (zOH l K)
def zXm (σ:Nat→Nat)(old:List Nat)(obs:List TO)(v:V):Bool :=
 zHI ((zCz obs).map σ)&&zHz (zCz obs) v&&zHX (zCz obs) obs&&zXu (zCK σ old (zCz obs))
def zXv (σ:Nat→Nat)(old:List Nat)(s:TS)(obs:List TO)(v:V)(d:Option Tmp):TS :=
 zAe ⟨s.n,(zEx (zCK σ old (zCz obs)) ⟨s.n,s.al,zUf (old.map σ) s.ob⟩).al,zWV σ obs++(zEx (zCK σ old (zCz obs)) ⟨s.n,s.al,zUf (old.map σ) s.ob⟩).ob⟩ d (renV σ v)
def goT (ns:List Nat)(d:Option Tmp)(K:TS→Option R)(s:TS)(v:V)(obs:List TO):Option R :=
 chkO (zXm (outN (zDZ d) 100000 ns) (zFN 100000 ns) obs v) (K (zXv (outN (zDZ d) 100000 ns) (zFN 100000 ns) s obs v d))
def zXk (en:TEnt)(ns:List Nat)(xs:List Operand)(caps:List V)(d:Option Tmp)(K:TS→Option R)(s:TS):Option R:=match selT ns s.ob with
 |some obs=>chkO (zHI ns&&zDQ ns (evTL s xs++caps)&&zHX ns obs&&!zDO (evTL s xs))
   (decIn en.inS (zJe (inN 100000 ns) (evTL s xs++caps)) (zWV (inN 100000 ns) obs) fun x=>zAA (en.F x) fun y=>resGo en y (goT ns d K s))
 |none=>none
def zSE (en:TEnt)(ns:List Nat)(n:Nat)(f:Operand)(xs:List Operand)(d:Option Tmp)(K:TS→Option R)(s:TS):Option R:=match evT s f with
 |.fn n' caps=>chkO (n'==n) (zXk en ns xs caps d K s)
 |_=>none
def callET (en:TEnt)(n:Nat)(caps:List V)(f:Operand)(xs:List Operand)(d:Option Tmp)(K:TS→Option R)(s:TS):Option R :=
 match locsT en.ps (evTL s xs++caps) s.ob with
 |some ns=>zOH (arsT ns (evTL s xs++caps)) (zSE en ns n f xs d K) s
 |none=>none
end
def vkey (n:Nat):List V→Nat
 |[]=>n
 | v::l=>match v with
   |.fn m _=>n+1000*(m+1)
   |_=>vkey n l
def zRu:List V→Nat→Option Nat
 |[],_=>none
 | v::l,j=>match v with
   |.ar _=>some j
   |_=>zRu l (j+1)
def skey (ob:List TO)(n:Nat):List V→Option Nat
 |[]=>none
 | v::_=>match v with
   | .p o _ _=>match getT ob o with
     | some (.box _ cs)=>match zRu cs 0 with
       | some j=>match lkV cs j with
         | .ar m=>match getT ob m with
           | some (.opn _ _ _ _ _ row)=>match zRu row 0 with
             |some k=>some (n+1000000*(j+1)+100000000*(k+1))
             |none=>some (n+1000000*(j+1))
           |_=>some (n+1000000*(j+1))
         |_=>none
       |none=>none
     |_=>none
   |_=>none
def lookE (tbl:Nat→Option TEnt)(ob:List TO)(n:Nat)(l:List V):Option TEnt:=match skey ob n l with
 | some k=>match tbl k with
   |some en=>some en
   |none=>tbl (vkey n l)
 |none=>tbl (vkey n l)
def zUl {tbl:Nat→Option TEnt}{ob:List TO}{n:Nat}{l:List V}{en:TEnt}(h:lookE tbl ob n l=some en):∃k,tbl k=some en:=by
 unfold lookE at h;split at h
 ·split at h
  ·rename_i h2;rw[←h];exact⟨_,h2⟩
  ·exact⟨_,h⟩
 ·exact⟨_,h⟩
def zXl (tbl:Nat→Option TEnt):zGM:=fun _ f xs d s K=>match evT s f with
 | .fn n caps=>match lookE tbl s.ob n (evTL s xs++caps)with
   | some en=>chkO (en.fid==n) (match en.pure with
     |true=>decIn en.inS (zUv s.ob (evTL s xs++caps)) [] fun x=>zAA (en.F x) fun y=>resGo en y fun v _=>chkO (zED v) (K (zAe s d v))
     |false=>callET en n caps f xs d K (zIT s xs))
   |none=>none
 |_=>none
def TbOk (P:Program)(tbl:Nat→Option TEnt):Prop:=∀k en,tbl k=some en→zIk P en.fid en.W
def CallV (P:Program):zAx:=fun f xs d st K=>∃tb,zQk P tb∧zSK tb f xs d st K
def CallV.sound {P:Program}:zGN P (CallV P):=fun o c f a w0 w L st G K Q ho hc hk h=>by
 obtain⟨tb,h1,h2⟩:=hk;exact zSK.sound h1 o c f a w0 w L st G K Q ho hc h2 h
def tbOne (n:Nat)(en:Ent):Nat→Option Ent:=ins n en tbl0
end Go.TM
end
