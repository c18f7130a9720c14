/- Part 21 of the proof that the law FnExactFrameLess holds of every input; no condition. -/
import Derived.Test.YtdpapeledldifaaGreatX19
set_option autoImplicit true
set_option relaxedAutoImplicit true
set_option linter.all false
section
namespace Go.TM
open Go.AM
mutual
def renV (σ:Nat→Nat):V→V
 |.ar n=>.ar (σ n)
 |.p n i off=>.p (σ n) i off
 |.fn f caps=>.fn f (zID σ caps)
 |.agg cs=>.agg (zID σ cs)
 |.tup cs=>.tup (zID σ cs)
 |.u=>.u
 |.sk=>.sk
 |.i k n=>.i k n
 |.b x=>.b x
 |.s x=>.s x
 |.sl t r=>.sl t r
 |.own t d r=>.own t d r
 |.emp t=>.emp t
 |.ro c=>.ro c
 |.nilp=>.nilp
 |.nil=>.nil
def zID (σ:Nat→Nat):List V→List V
 |[]=>[]
 |x::l=>renV σ x::zID σ l
end
def renO (σ:Nat→Nat):TO→TO
 |.box n cs=>.box (σ n) (zID σ cs)
 |.arr n t d l=>.arr (σ n) t d l
 |.opn n t d l i cs=>.opn (σ n) t d l i (zID σ cs)
 |.spl n t l k=>.spl (σ n) t l k
def zTs (σ:Nat→Nat):List TO→List TO
 |[]=>[]
 |x::l=>renO σ x::zTs σ l
mutual
def zGm (ns:List Nat):V→Bool
 |.ar n=>ns.contains n
 |.p n _ _=>ns.contains n
 |.fn _ caps=>zDA ns caps
 |.agg cs=>zDA ns cs
 |.tup cs=>zDA ns cs
 |_=>true
def zDA (ns:List Nat):List V→Bool
 |[]=>true
 |x::l=>zGm ns x&&zDA ns l
end
def zGM (ns:List Nat):List TO→Bool
 |[]=>true
 |x::l=>(match x with|.box _ cs=>zDA ns cs|.arr _ _ _ _=>true|.opn _ _ _ _ _ cs=>zDA ns cs|.spl _ _ _ _=>true)&&zGM ns l
def zCU:List TO→List Nat
 |[]=>[]
 |x::l=>x.name::zCU l
def selT:List Nat→List TO→Option (List TO)
 |[],_=>some []
 | n::ns,l=>match getT l n,selT ns l with
   |some x,some xs=>some (x::xs)
   |_,_=>none
def remT (o:Nat):List TO→List TO
 |[]=>[]
 |x::l=>bif x.name==o then l else x::remT o l
def zSz:List Nat→List TO→List TO
 |[],l=>l
 |o::ns,l=>zSz ns (remT o l)
def zEN:List Nat→TS→TS
 |[],s=>s
 |o::l,s=>zEN l (zHX o s)
def zIc (ob:List TO):V→List Nat→Option Nat
 |.p o _ _,[]=>some o
 |.ar o,[]=>some o
 | .p o i off,c::cs=>match getT ob o with
   | some (.box _ row)=>(match i with
     |0=>zIc ob (lkV row (off+c)) cs
     |_+1=>none)
   |_=>none
 | .ar o,c::cs=>match getT ob o with
   |some (.opn _ _ _ _ _ row)=>zIc ob (lkV row c) cs
   |_=>none
 |.agg row,c::cs=>zIc ob (lkV row c) cs
 |.fn _ row,c::cs=>zIc ob (lkV row c) cs
 |_,_=>none
def locsT:List (Nat×List Nat)→List V→List TO→Option (List Nat)
 |[],_,_=>some []
 | p::l,args,ob=>match zIc ob (lkV args p.1) p.2,locsT l args ob with
   |some n,some ns=>some (n::ns)
   |_,_=>none
def arsT (ns:List Nat):List V→List Nat
 |[]=>[]
 |.ar o::l=>bif ns.contains o then arsT ns l else o::arsT (o::ns) l
 |_::l=>arsT ns l
def zHF (s:TS):List Operand→TS
 |[]=>s
 |x::l=>zHF (zMg s x) l
mutual
def brwV (ob:List TO):V→V
 |.own g _ l=>.sl g l
 |.emp g=>.sl g []
 | .ar o=>match getT ob o with
   |some (.arr _ g _ l)=>.sl g l
   |some (.spl _ g l _)=>.sl g l
   |_=>.u
 |.agg cs=>.agg (zTN ob cs)
 |.tup cs=>.tup (zTN ob cs)
 |v=>v
def zTN (ob:List TO):List V→List V
 |[]=>[]
 |x::l=>brwV ob x::zTN ob l
end
def zJN:GT→Bool
 |.sl _=>false
 |.pair a b=>zJN a&&zJN b
 |_=>true
mutual
def zDf:V→Bool
 |.i _ _=>true
 |.b _=>true
 |.s _=>true
 |.nil=>true
 |.emp _=>true
 |.own g d _=>d||zJN g
 |.agg cs=>zIU cs
 |.tup cs=>zIU cs
 |_=>false
def zIU:List V→Bool
 |[]=>true
 |x::l=>zDf x&&zIU l
end
section
variable {σ:Nat→Nat}
mutual
theorem ren_e:∀v:V,ren σ (e v)=e (renV σ v)
 |.ar _|.p _ _ _|.u|.sk|.i _ _|.b _|.s _|.sl _ _|.own _ _ _|.emp _|.ro _|.nilp|.nil=>rfl
 |.fn f c=>by simp only[e,ren,renV,zII c]
 |.agg c=>by simp only[e,ren,renV,zII c]
 |.tup c=>by simp only[e,ren,renV,zII c]
theorem zII:∀l:List V,renL σ (eL l)=eL (zID σ l)
 |[]=>rfl
 |x::l=>by simp only[eL,renL,zID,ren_e x,zII l]
end
theorem zGs:∀l:List V,(zID σ l).length=l.length
 |[]=>rfl
 |x::l=>by simp only[zID,List.length_cons,zGs l]
theorem ren_id:∀v:SV,plain v=true→ren σ v=v
 |.i _ _,_=>rfl
 |.b _,_=>rfl
 |.s _,_=>rfl
 |.sl _ _,_=>rfl
 |.own _ _,_=>rfl
 |.nil,_=>rfl
 |.u,_=>rfl
 |.sk,_=>rfl
 |.nilp,_=>rfl
 |.ar _,h=>by simp[plain]at h
 |.p _ _ _,h=>by simp[plain]at h
 |.ro _,h=>by simp[plain]at h
 |.fn _ _,h=>by simp[plain]at h
 |.agg _,h=>by simp[plain]at h
 |.tup _,h=>by simp[plain]at h
theorem zTt:∀l:List SV,zBl l=true→renL σ l=l
 |[],_=>rfl
 | x::l,h=>by
   simp only[zBl,Bool.and_eq_true]at h
   simp only[renL,ren_id x h.1,zTt l h.2]
theorem zFZ (t:GT)(d:Bool):∀l:List t.Den,zAm σ (l.map (encC d t))=l.map (encC d t)
 |[]=>rfl
 |x::l=>by simp only[List.map_cons,zAm,zTt _ (zDt t d x),zFZ t d l]
theorem zIE:∀(rows:List (List SV)) (i:Nat) (r:List SV),zAm σ (rows.set i r)=(zAm σ rows).set i (renL σ r)
 |[],i,r=>rfl
 |x::l,0,r=>rfl
 |x::l,i+1,r=>by simp only[List.set_cons_succ,zAm,zIE l i r]
theorem zIH:∀a b:List (List SV),zAm σ (a++b)=zAm σ a++zAm σ b
 |[],_=>rfl
 |x::l,b=>by simp only[List.cons_append,zAm,zIH l b]
theorem zPQ (d:DM)(t:GT)(i:Nat)(l:List t.Den):zAm σ (encM d t i l)=encM d t i l:=by
 cases d with
 |all d=>exact zFZ t d l
 |spl=>simp only[encM,zIH,zFZ]
theorem renO_e (x:TO):zGd σ (eO x)=eO (renO σ x):=by
 cases x with
 |box n cs=>simp only[eO,zGd,renO,if_true,zAm,zII,zGs]
 |arr n t d l=>simp only[eO,zGd,renO,Bool.false_eq_true,if_false]
 |opn n t d l i cs=>simp only[eO,zGd,renO,if_true,zIE,zPQ,zII]
 |spl n t l k=>simp only[eO,zGd,renO,Bool.false_eq_true,if_false]
theorem zQg:∀l:List TO,zCF σ (eOs l)=eOs (zTs σ l)
 |[]=>rfl
 |x::l=>by simp only[eOs,zCF,zTs,renO_e,zQg l]
mutual
theorem zSb (ns:List Nat):∀v:V,closed ns (e v)=zGm ns v
 |.ar _|.p _ _ _|.u|.sk|.i _ _|.b _|.s _|.sl _ _|.own _ _ _|.emp _|.ro _|.nilp|.nil=>rfl
 |.fn f c=>by simp only[e,closed,zGm,zDX ns c]
 |.agg c=>by simp only[e,closed,zGm,zDX ns c]
 |.tup c=>by simp only[e,closed,zGm,zDX ns c]
theorem zDX (ns:List Nat):∀l:List V,zCB ns (eL l)=zDA ns l
 |[]=>rfl
 |x::l=>by simp only[eL,zCB,zDA,zSb ns x,zDX ns l]
end
theorem zQF (ns:List Nat):∀v:SV,plain v=true→closed ns v=true
 |.i _ _,_|.b _,_|.s _,_|.sl _ _,_|.own _ _,_|.nil,_|.u,_|.sk,_|.nilp,_=>rfl
 |.ar _,h=>by simp[plain]at h
 |.p _ _ _,h=>by simp[plain]at h
 |.ro _,h=>by simp[plain]at h
 |.fn _ _,h=>by simp[plain]at h
 |.agg _,h=>by simp[plain]at h
 |.tup _,h=>by simp[plain]at h
theorem zGN (ns:List Nat):∀l:List SV,zBl l=true→zCB ns l=true
 |[],_=>rfl
 | x::l,h=>by
   simp only[zBl,Bool.and_eq_true]at h
   simp only[zCB,zQF ns x h.1,zGN ns l h.2,Bool.and_self]
theorem zDo (ns:List Nat)(t:GT)(d:Bool):∀l:List t.Den,zAb ns (l.map (encC d t))=true
 |[]=>rfl
 |x::l=>by simp only[List.map_cons,zAb,zGN ns _ (zDt t d x),zDo ns t d l,Bool.and_self]
theorem zFP (ns:List Nat):∀a b:List (List SV),zAb ns (a++b)=(zAb ns a&&zAb ns b)
 |[],_=>rfl
 |x::l,b=>by simp only[List.cons_append,zAb,zFP ns l b,Bool.and_assoc]
theorem zIl (ns:List Nat)(d:DM)(t:GT)(i:Nat)(l:List t.Den):zAb ns (encM d t i l)=true:=by
 cases d with
 |all d=>exact zDo ns t d l
 |spl=>simp only[encM,zFP,zDo,Bool.and_self]
theorem zFO (ns:List Nat)(r:List SV)(hr:zCB ns r=true):∀(l:List (List SV)) (i:Nat),zAb ns l=true→zAb ns (l.set i r)=true
 |[],_,_=>rfl
 | x::l,0,h=>by
   simp only[zAb,Bool.and_eq_true]at h
   simp only[List.set_cons_zero,zAb,hr,h.2,Bool.and_self]
 | x::l,i+1,h=>by
   simp only[zAb,Bool.and_eq_true]at h
   simp only[List.set_cons_succ,zAb,h.1,zFO ns r hr l i h.2,Bool.and_self]
theorem zGn (ns:List Nat):∀l:List TO,zGM ns l=true→zCQ ns (eOs l)=true
 |[],_=>rfl
 | x::l,h=>by
   simp only[zGM,Bool.and_eq_true]at h
   simp only[eOs,zCQ,zGn ns l h.2,Bool.and_true]
   have h1:=h.1
   cases x with
   |box n cs=>simp only at h1;simp only[eO,if_true,zAb,zDX,h1,Bool.and_true]
   |arr n t d l=>simp only[eO,Bool.false_eq_true,if_false]
   |opn n t d l i cs=>simp only at h1;simp only[eO,if_true];exact zFO ns _ (by rw[zDX];exact h1) _ i (zIl ns d t i l)
   |spl n t l k=>simp only[eO,Bool.false_eq_true,if_false]
theorem zMW:∀l:List TO,names (eOs l)=zCU l
 |[]=>rfl
 | x::l=>by
   have:=zMW l
   simp only[names]at this
   simp only[eOs,names,zCU,List.map_cons,this,zET]
theorem zTn:∀(ns:List Nat) (l:List TO) (xs:List TO),selT ns l=some xs→zCE ns (eOs l)=some (eOs xs)
 |[],l,xs,h=>by simp only[selT,Option.some.injEq]at h;subst h;rfl
 | n::ns,l,xs,h=>by
   simp only[selT]at h
   split at h
   ·rename_i x xs' hx hxs
    simp only[Option.some.injEq]at h
    subst h
    simp only[zCE,zDR,hx,Option.map_some,zTn ns l xs' hxs,eOs]
   ·cases h
theorem remT_e (o:Nat):∀l:List TO,zFv o (eOs l)=eOs (remT o l)
 |[]=>rfl
 | x::l=>by
   simp only[eOs,zFv,remT,zET]
   by_cases h:x.name=o
   ·simp[h]
   ·have h':(x.name==o)=false:=by simpa using h
    simp only[h,if_false,h',cond_false,eOs,remT_e o l]
theorem zTu:∀(ns:List Nat) (l:List TO),zEk ns (eOs l)=eOs (zSz ns l)
 |[],_=>rfl
 |o::ns,l=>by simp only[zEk,zSz,remT_e,zTu ns]
theorem zJW:∀(ns:List Nat) (s:TS),zFf ns (eS s)=eS (zEN ns s)
 |[],_=>rfl
 |o::ns,s=>by simp only[zFf,zEN,zFF,zJW ns]
theorem zVA:∀(l:List V) (ns:List Nat),zRL ns (eL l)=arsT ns l
 |[],_=>rfl
 | x::l,ns=>by
   cases x with
   |ar o=>simp only[eL,e,zRL,arsT,zVA l]
   |_=>simp only[eL,e,zRL,arsT,zVA l]
theorem zSQ:∀(l:List Operand) (s:TS),frzTL (eS s) l=eS (zHF s l)
 |[],_=>rfl
 |x::l,s=>by simp only[frzTL,zHF,zUg,zSQ l]
theorem zPs:∀a b:List (List SV),zBa (a++b)=zBa a++zBa b
 |[],_=>rfl
 |x::l,b=>by simp only[List.cons_append,zBa,zPs l b]
theorem zUh (g:GT)(k:Nat)(l:List g.Den):zBa (encM .spl g k l)=l.map (encC false g):=by
 simp only[encM,zPs,zBv]
 rw[←List.map_append,List.take_append_drop]
mutual
theorem brw_e {ob:List TO}:∀v:V,brw (eOs ob) (e v)=e (brwV ob v)
 |.own g d l=>by simp only[e,brw,brwV,zBv]
 |.emp g=>rfl
 | .ar o=>by
   simp only[e,brw,brwV,zDR]
   cases getT ob o with
   |none=>rfl
   | some x =>
     cases x with
     |box n cs=>simp only[Option.map_some,eO,e]
     |arr n g d l=>simp only[Option.map_some,eO,e,zBv]
     |opn n g d l i cs=>simp only[Option.map_some,eO,e]
     |spl n g l k=>simp only[Option.map_some,eO,e,zUh]
 |.agg cs=>by simp only[e,brw,brwV,zSg cs]
 |.tup cs=>by simp only[e,brw,brwV,zSg cs]
 |.u|.sk|.i _ _|.b _|.s _|.sl _ _|.p _ _ _|.ro _|.nilp|.nil|.fn _ _=>rfl
theorem zSg {ob:List TO}:∀l:List V,brwL (eOs ob) (eL l)=eL (zTN ob l)
 |[]=>rfl
 |x::l=>by simp only[eL,brwL,zTN,brw_e x,zSg l]
end
theorem zGg:∀a b:List SV,zCk (a++b)=(zCk a&&zCk b)
 |[],b=>by simp[zCk]
 |x::l,b=>by simp only[List.cons_append,zCk,zGg l b,Bool.and_assoc]
theorem zGh {α:Type}{f:α→List SV}:∀l:List α,(∀x∈l,zCk (f x)=true)→zJS (l.map f)=true
 |[],_=>rfl
 | x::l,h=>by
   simp only[List.map_cons,zJS,h x (List.mem_cons_self ..),zGh l fun y hy=>h y (List.mem_cons_of_mem _ hy),Bool.and_self]
theorem zHc:∀(g:GT) (x:g.Den),zCk (encC true g x)=true
 |.int _,_=>rfl
 |.byte,_=>rfl
 |.bool,_=>rfl
 |.str,_=>rfl
 |.unit,_=>rfl
 | .sl g,l=>by
   simp only[encC,zCk,zHW,Bool.and_true]
   exact zGh l fun x _=>zHc g x
 |.pair a b,x=>by simp only[encC,zGg,zHc a,zHc b,Bool.and_self]
theorem zGf:∀(g:GT) (d:Bool) (x:g.Den),zJN g=true→zCk (encC d g x)=true
 |.int _,_,_,_=>rfl
 |.byte,_,_,_=>rfl
 |.bool,_,_,_=>rfl
 |.str,_,_,_=>rfl
 |.unit,_,_,_=>rfl
 |.sl _,_,_,h=>by simp[zJN]at h
 | .pair a b,d,x,h=>by
   simp only[zJN,Bool.and_eq_true]at h
   simp only[encC,zGg,zGf a d x.1 h.1,zGf b d x.2 h.2,Bool.and_self]
mutual
theorem zUK:∀v:V,zDf v=true→zHW (e v)=true
 | .own g d l,h=>by
   simp only[e,zHW]
   refine zGh l fun x _=>?_
   cases d with
   |true=>exact zHc g x
   |false=>exact zGf g false x (by simpa[zDf]using h)
 |.agg c,h=>by simp only[e,zHW];exact zMY c (by simpa[zDf]using h)
 |.tup c,h=>by simp only[e,zHW];exact zMY c (by simpa[zDf]using h)
 |.i _ _,_=>rfl
 |.b _,_=>rfl
 |.s _,_=>rfl
 |.nil,_=>rfl
 |.emp _,_=>rfl
 |.ar _,h=>by simp[zDf]at h
 |.p _ _ _,h=>by simp[zDf]at h
 |.u,h=>by simp[zDf]at h
 |.sk,h=>by simp[zDf]at h
 |.sl _ _,h=>by simp[zDf]at h
 |.ro _,h=>by simp[zDf]at h
 |.nilp,h=>by simp[zDf]at h
 |.fn _ _,h=>by simp[zDf]at h
theorem zMY:∀l:List V,zIU l=true→zCk (eL l)=true
 |[],_=>rfl
 | x::l,h=>by
   simp only[zIU,Bool.and_eq_true]at h
   simp only[eL,zCk,zUK x h.1,zMY l h.2,Bool.and_self]
end
theorem zHe {s:TS}:∀xs:List Operand,evs (eS s).env xs=eL (evTL s xs)
 |[]=>rfl
 |x::l=>by simp only[evs,evTL,eL,zAq,zHe l]
end
structure TEnt where
 fid:Nat
 pure:Bool
 ps:List (Nat×List Nat)
 inS:SPat
 Y:Type
 F:inS.Den→Option Y
 res:Y→Option (V×List TO)
def zQt:List (Nat×Pat)→List V→List V
 |[],_=>[]
 | _::l,vs=>match vs with
   |v::vs=>v::zQt l vs
   |[]=>[]
def zJj (p:SPat)(x:p.Den):List V:=zQt p.al (encP p.pat x)
def zTD (p:SPat)(x:p.Den):List TO:=mkO p.ob (zMH p.al (encP p.pat x))
def TEnt.W (en:TEnt):WP:=fun args ob K=>∃x y v obs,wkL args (eL (zJj en.inS x))∧wkObs ob (eOs (zTD en.inS x))∧en.F x=some y∧en.res y=some (v,obs)∧K (e v) (eOs obs)
def TEnt.ent (en:TEnt)(ns:Option (List Nat)):Ent:=⟨en.pure,fun _ _=>ns,en.W⟩
section
variable {R:Type}
def ofOs:List TO→List V
 |[]=>[]
 |x::l=>ofO (some x)::ofOs l
def eqNs:List Nat→List Nat→Bool
 |[],[]=>true
 |a::l,b::m=>a==b&&eqNs l m
 |_,_=>false
def decIn (p:SPat)(args:List V)(obs:List TO)(K:p.Den→Option R):Option R :=
 chkO (okA p.al&&args.length==p.al.length&&eqNs (zCU obs) (zCL p.ob)) (decP true p.pat (args++ofOs obs) fun x q=>endT q (K x))
def resGo (en:TEnt)(y:en.Y)(K:V→List TO→Option R):Option R:=match en.res y with
 |some (v,obs)=>K v obs
 |none=>none
def zMh:List Nat→(TS→Option R)→TS→Option R
 |[],K,s=>K s
 |o::l,K,s=>zHH s o (zMh l K)
def zUw (σ:Nat→Nat)(old:List Nat)(obs:List TO)(v:V):Bool :=
 subL old (zCU obs)&&zFz ((zCU obs).map σ)&&zGm (zCU obs) v&&zGM (zCU obs) obs&&zVD (zBz σ old (zCU obs))
def zVE (σ:Nat→Nat)(old:List Nat)(s:TS)(obs:List TO)(v:V)(d:Option Tmp):TS :=
 zAd ⟨s.n,(zEN (zBz σ old (zCU obs)) ⟨s.n,s.al,zSz (old.map σ) s.ob⟩).al,zTs σ obs++(zEN (zBz σ old (zCU obs)) ⟨s.n,s.al,zSz (old.map σ) s.ob⟩).ob⟩ d (renV σ v)
def goT (ns:List Nat)(d:Option Tmp)(K:TS→Option R)(s:TS)(v:V)(obs:List TO):Option R :=
 chkO (zUw (outN (zDI d) 100000 ns) (zEc 100000 ns) obs v) (K (zVE (outN (zDI d) 100000 ns) (zEc 100000 ns) s obs v d))
def zUu (en:TEnt)(ns:List Nat)(xs:List Operand)(caps:List V)(d:Option Tmp)(K:TS→Option R)(s:TS):Option R:=match selT ns s.ob with
 |some obs=>chkO (zFz ns&&zDA ns (evTL s xs++caps)&&zGM ns obs&&!zCz (evTL s xs))
   (decIn en.inS (zID (inN 100000 ns) (evTL s xs++caps)) (zTs (inN 100000 ns) obs) fun x=>zAA (en.F x) fun y=>resGo en y (goT ns d K s))
 |none=>none
def zRJ (en:TEnt)(ns:List Nat)(n:Nat)(f:Operand)(xs:List Operand)(d:Option Tmp)(K:TS→Option R)(s:TS):Option R:=match evT s f with
 |.fn n' caps=>chkO (n'==n) (zUu en ns xs caps d K s)
 |_=>none
def callET (en:TEnt)(n:Nat)(caps:List V)(f:Operand)(xs:List Operand)(d:Option Tmp)(K:TS→Option R)(s:TS):Option R :=
 match locsT en.ps (evTL s xs++caps) s.ob with
 |some ns=>zMh (arsT ns (evTL s xs++caps)) (zRJ en ns n f xs d K) s
 |none=>none
end
def vkey (n:Nat):List V→Nat
 |[]=>n
 | v::l=>match v with
   |.fn m _=>n+1000*(m+1)
   |_=>vkey n l
def zQz:List V→Nat→Option Nat
 |[],_=>none
 | v::l,j=>match v with
   |.ar _=>some j
   |_=>zQz l (j+1)
def skey (ob:List TO)(n:Nat):List V→Option Nat
 |[]=>none
 | v::_=>match v with
   | .p o _ _=>match getT ob o with
     | some (.box _ cs)=>match zQz cs 0 with
       | some j=>match lkV cs j with
         | .ar m=>match getT ob m with
           | some (.opn _ _ _ _ _ row)=>match zQz row 0 with
             |some k=>some (n+1000000*(j+1)+100000000*(k+1))
             |none=>some (n+1000000*(j+1))
           |_=>some (n+1000000*(j+1))
         |_=>none
       |none=>none
     |_=>none
   |_=>none
def lookE (tbl:Nat→Option TEnt)(ob:List TO)(n:Nat)(l:List V):Option TEnt:=match skey ob n l with
 | some k=>match tbl k with
   |some en=>some en
   |none=>tbl (vkey n l)
 |none=>tbl (vkey n l)
theorem zTF {tbl:Nat→Option TEnt}{ob:List TO}{n:Nat}{l:List V}{en:TEnt}(h:lookE tbl ob n l=some en):∃k,tbl k=some en:=by
 unfold lookE at h
 split at h
 ·split at h
  ·rename_i h2
   rw[←h]
   exact⟨_,h2⟩
  ·exact⟨_,h⟩
 ·exact⟨_,h⟩
def zUv (tbl:Nat→Option TEnt):zFS:=fun _ f xs d s K=>match evT s f with
 | .fn n caps=>match lookE tbl s.ob n (evTL s xs++caps)with
   | some en=>chkO (en.fid==n) (match en.pure with
     |true=>decIn en.inS (zTN s.ob (evTL s xs++caps)) [] fun x=>zAA (en.F x) fun y=>resGo en y fun v _=>chkO (zDf v) (K (zAd s d v))
     |false=>callET en n caps f xs d K (zHF s xs))
   |none=>none
 |_=>none
def TbOk (P:Program)(tbl:Nat→Option TEnt):Prop:=∀k en,tbl k=some en→zHY P en.fid en.W
def CallV (P:Program):zAv:=fun f xs d st K=>∃tb,zQM P tb∧zRO tb f xs d st K
theorem CallV.sound {P:Program}:zFU P (CallV P):=fun o c f a w0 w L st G K Q ho hc hk h=>by
 obtain⟨tb,h1,h2⟩:=hk
 exact zRO.sound h1 o c f a w0 w L st G K Q ho hc h2 h
def tbOne (n:Nat)(en:Ent):Nat→Option Ent:=ins n en tbl0
end Go.TM
end
