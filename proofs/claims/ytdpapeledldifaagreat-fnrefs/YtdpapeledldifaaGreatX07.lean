/- Part 8 of the proof that the law FnRefs holds of every input; no condition. -/
import Derived.Test.YtdpapeledldifaaGreatX06
set_option autoImplicit true
set_option relaxedAutoImplicit true
set_option linter.all false
section
namespace Go.TM
open Go.AM
inductive GT
 |int (k:IntKind)|byte|bool|str|sl (e:GT)|unit|pair (a b:GT)
@[reducible] def GT.Den:GT→Type
  |.int _=>Int
  |.byte=>UInt8
  |.bool=>Bool
  |.str=>List UInt8
  |.sl e=>List e.Den
  |.unit=>Unit
  |.pair a b=>a.Den×b.Den
def GT.sz:GT→Nat
 |.unit=>0
 |.pair a b=>a.sz+b.sz
 |_=>1
def GT.flat:GT→Bool
 |.sl _=>false
 |.pair a b=>a.flat&&b.flat
 |_=>true
def GT.dflt:(t:GT)→t.Den
 |.int _=>(0:Int)
 |.byte=>(0:UInt8)
 |.bool=>false
 |.str=>([]:List UInt8)
 |.sl _=>[]
 |.unit=>()
 |.pair a b=>(a.dflt,b.dflt)
def eqK (a b:IntKind):Bool:=decide (a=b)
def GT.same:GT→GT→Bool
 |.int k,.int k'=>eqK k k'
 |.byte,.byte=>true
 |.bool,.bool=>true
 |.str,.str=>true
 |.sl a,.sl b=>a.same b
 |.unit,.unit=>true
 |.pair a b,.pair c d=>a.same c&&b.same d
 |_,_=>false
theorem GT.same_eq:∀{a b:GT},a.same b=true→a=b
 |.int k,.int k',h=>by simp only[same,eqK,zDe]at h;rw[h]
 |.byte,.byte,_=>rfl
 |.bool,.bool,_=>rfl
 |.str,.str,_=>rfl
 |.unit,.unit,_=>rfl
 |.sl a,.sl b,h=>by rw[same_eq (a:=a) (b:=b) h]
 | .pair a b,.pair c d,h=>by
   simp only[same,zBa]at h
   rw[same_eq h.1,same_eq h.2]
def zEO {a b:GT}(h:a.same b=true)(l:List b.Den):List a.Den:=(GT.same_eq h)▸l
def encC (d:Bool):(t:GT)→t.Den→List SV
 |.int k,n=>[.i k n]
 |.byte,c=>[.i .u8 (c:UInt8).toNat]
 |.bool,x=>[.b x]
 |.str,x=>[.s x]
 |.sl e,l=>[match d with|true=>.own e.sz ((l:List e.Den).map (encC d e))|false=>.sl e.sz ((l:List e.Den).map (encC d e))]
 |.unit,_=>[]
 |.pair a b,x=>encC d a x.1++encC d b x.2
inductive V
 |u|sk
 |i (k:IntKind) (n:Int)
 |b (x:Bool)
 |s (x:List UInt8)
 |sl (t:GT) (l:List t.Den)
 |own (t:GT) (d:Bool) (l:List t.Den)
 |emp (t:GT)
 |ar (o:Nat)
 |p (o i off:Nat)
 |ro (cells:List V)
 |nilp|nil
 |fn (f:Nat) (caps:List V)
 |agg (cells:List V)
 |tup (vs:List V)
def cells (d:Bool):(t:GT)→t.Den→List V
 |.int k,n=>[.i k n]
 |.byte,c=>[.i .u8 (c:UInt8).toNat]
 |.bool,x=>[.b x]
 |.str,x=>[.s x]
 |.sl e,l=>[match d with|true=>.own e d l|false=>.sl e l]
 |.unit,_=>[]
 |.pair a b,x=>cells d a x.1++cells d b x.2
mutual
def e:V→SV
 |.u=>.u
 |.sk=>.sk
 |.i k n=>.i k n
 |.b x=>.b x
 |.s x=>.s x
 |.sl t l=>.sl t.sz (l.map (encC false t))
 |.own t d l=>.own t.sz (l.map (encC d t))
 |.emp t=>.own t.sz []
 |.ar o=>.ar o
 |.p o i off=>.p o i off
 |.ro cs=>.ro (eL cs)
 |.nilp=>.nilp
 |.nil=>.nil
 |.fn f cs=>.fn f (eL cs)
 |.agg cs=>.agg (eL cs)
 |.tup cs=>.tup (eL cs)
def eL:List V→List SV
 |[]=>[]
 |x::l=>e x::eL l
end
theorem zPK:∀l:List V,eL l=l.map e
 |[]=>rfl
 |x::l=>by simp only[eL,List.map_cons,zPK l]
theorem zBW (a b:List V):eL (a++b)=eL a++eL b:=by simp only[zPK,List.map_append]
theorem zAO (l:List V):(eL l).length=l.length:=by simp only[zPK,List.length_map]
theorem zDr (d:Bool):∀(t:GT) (x:t.Den),eL (cells d t x)=encC d t x
 |.int _,_=>rfl
 |.byte,_=>rfl
 |.bool,_=>rfl
 |.str,_=>rfl
 |.sl _,_=>by cases d<;>rfl
 |.unit,_=>rfl
 |.pair a b,x=>by simp only[cells,encC,zBW,zDr d a,zDr d b]
theorem zDY (d:Bool):∀(t:GT) (x:t.Den),(encC d t x).length=t.sz
 |.int _,_=>rfl
 |.byte,_=>rfl
 |.bool,_=>rfl
 |.str,_=>rfl
 |.sl _,_=>rfl
 |.unit,_=>rfl
 |.pair a b,x=>by simp only[encC,List.length_append,zDY d a,zDY d b,GT.sz]
theorem zJg:∀(t:GT) (d d':Bool) (x:t.Den),t.flat=true→encC d t x=encC d' t x
 |.int _,_,_,_,_=>rfl
 |.byte,_,_,_,_=>rfl
 |.bool,_,_,_,_=>rfl
 |.str,_,_,_,_=>rfl
 |.sl _,_,_,_,h=>by cases h
 |.unit,_,_,_,_=>rfl
 | .pair a b,d,d',x,h=>by
   simp only[GT.flat,zBa]at h
   simp only[encC,zJg a d d' _ h.1,zJg b d d' _ h.2]
theorem map_flat {t:GT}(d d':Bool)(l:List t.Den)(h:t.flat=true):l.map (encC d t)=l.map (encC d' t) :=
 List.map_congr_left fun x _=>zJg t d d' x h
inductive DM
 |all (d:Bool)
 |spl
def DM.b:DM→Bool
 |.all d=>d
 |.spl=>true
def encM:DM→(t:GT)→Nat→List t.Den→List (List SV)
 |.all d,t,_,l=>l.map (encC d t)
 |.spl,t,i,l=>(l.take i).map (encC true t)++(l.drop i).map (encC false t)
theorem zDX (d:DM)(t:GT)(i:Nat)(l:List t.Den):(encM d t i l).length=l.length:=by
 cases d<;>simp[encM]
 omega
inductive TO
 |box (n:Nat) (cs:List V)
 |arr (n:Nat) (t:GT) (d:Bool) (l:List t.Den)
 |opn (n:Nat) (t:GT) (d:DM) (l:List t.Den) (i:Nat) (cs:List V)
 |spl (n:Nat) (t:GT) (l:List t.Den) (k:Nat)
structure TS where
 n:Nat
 al:List (Nat×V)
 ob:List TO
def TO.name:TO→Nat
 |.box n _=>n
 |.arr n _ _ _=>n
 |.opn n _ _ _ _ _=>n
 |.spl n _ _ _=>n
def eO:TO→Ob
 |.box n cs=>⟨n,cs.length,[eL cs],true⟩
 |.arr n t d l=>⟨n,t.sz,l.map (encC d t),false⟩
 |.opn n t d l i cs=>⟨n,t.sz,(encM d t i l).set i (eL cs),true⟩
 |.spl n t l k=>⟨n,t.sz,encM .spl t k l,false⟩
def eOs:List TO→List Ob
 |[]=>[]
 |x::l=>eO x::eOs l
def eA:List (Nat×V)→List (Nat×SV)
 |[]=>[]
 |p::l=>(p.1,e p.2)::eA l
def eS (s:TS):St:=⟨den s.n (eA s.al),eOs s.ob⟩
def lookV:List (Nat×V)→Nat→V
 |[],_=>.u
 |p::l,t=>bif p.1==t then p.2 else lookV l t
def lkV:List V→Nat→V
 |[],_=>.u
 |x::_,0=>x
 |_::l,n+1=>lkV l n
def updV:List V→Nat→V→List V
 |[],_,_=>[]
 |_::l,0,v=>v::l
 |x::l,n+1,v=>x::updV l n v
def overV:List V→List V→List V
 |[],row=>row
 |_::_,[]=>[]
 |c::cs,_::row=>c::overV cs row
def wrV:List V→Nat→List V→List V
 |row,0,cs=>overV cs row
 |[],_+1,_=>[]
 |x::row,n+1,cs=>x::wrV row n cs
mutual
def zAz:V→Bool
 |.own _ _ _=>true
 |.emp _=>true
 |.agg cs=>zDE cs
 |.tup cs=>zDE cs
 |_=>false
def zDE:List V→Bool
 |[]=>false
 |x::l=>zAz x||zDE l
end
def plainV:V→Bool
 |.i _ _|.b _|.s _|.sl _ _|.own _ _ _|.emp _|.nil=>true
 |_=>false
def zJL:List V→Bool
 |[]=>true
 |x::l=>plainV x&&zJL l
def cell1V:V→Bool
 |.u|.sk|.agg _|.tup _=>false
 |_=>true
def zDy:List V→Bool
 |[]=>true
 |x::l=>cell1V x&&zDy l
mutual
def zMl (o:Nat):V→V
 |.ar n=>bif n==o then .u else .ar n
 |.p n i off=>bif n==o then .u else .p n i off
 |.fn f caps=>.fn f (zDn o caps)
 |.agg cs=>.agg (zDn o cs)
 |.tup cs=>.tup (zDn o cs)
 |.u=>.u
 |.sk=>.sk
 |.i k n=>.i k n
 |.b x=>.b x
 |.s x=>.s x
 |.sl t r=>.sl t r
 |.own t d r=>.own t d r
 |.emp t=>.emp t
 |.ro c=>.ro c
 |.nilp=>.nilp
 |.nil=>.nil
def zDn (o:Nat):List V→List V
 |[]=>[]
 |x::l=>zMl o x::zDn o l
end
def zOq (o:Nat):List (Nat×V)→List (Nat×V)
 |[]=>[]
 |p::l=>(p.1,zMl o p.2)::zOq o l
def zJT (o:Nat):List TO→List TO
 |[]=>[]
 |x::l=>bif x.name==o then zJT o l else(match x with|.box n cs=>.box n (zDn o cs)|.arr n t d l=>.arr n t d l|.opn n t d l i cs=>.opn n t d l i (zDn o cs)|.spl n t l k=>.spl n t l k)::zJT o l
def zIK (o:Nat)(s:TS):TS:=⟨s.n,zOq o s.al,zJT o s.ob⟩
def getT:List TO→Nat→Option TO
 |[],_=>none
 |x::l,o=>bif x.name==o then some x else getT l o
def zAg:List TO→Nat→List V→List TO
 |[],_,_=>[]
 |x::l,o,cs=>bif x.name==o then .box x.name cs::l else x::zAg l o cs
def zIw (t:GT)(d:Bool):List TO→Nat→List t.Den→List TO
 |[],_,_=>[]
 |x::l,o,r=>bif x.name==o then .arr x.name t d r::l else x::zIw t d l o r
def zAj:List TO→Nat→List V→List TO
 |[],_,_=>[]
 |x::l,o,cs=>bif x.name==o then(match x with|.opn n t d r i _=>.opn n t d r i cs|y=>y)::l else x::zAj l o cs
def setT (s:TS)(t:Nat)(v:V):TS:=⟨s.n,(t,v)::s.al,s.ob⟩
def zAc (s:TS)(d:Option Tmp)(v:V):TS:=match d with|some t=>setT s t v|none=>s
def addT (s:TS)(o:Nat)(x:TO):TS:=⟨s.n,zOq o s.al,x::zJT o s.ob⟩
def ofC:Value→V
 |.int k n=>.i k n
 |.bool b=>.b b
 |.string s=>.s s.data.toList
 |.slice none 0 0=>.nil
 |.pointer none=>.nilp
 |_=>.u
def zBn (s:TS)(t:Nat):V:=match Nat.blt t s.n with
 |true=>lookV s.al t
 |false=>.u
def evT (s:TS):Operand→V
 |.tmp t=>zBn s t
 |.const v=>ofC v
 |.global _=>.u
 |.func f=>.fn f []
def zAv (s:TS)(x:Operand):TS:=match x with
 | .tmp t=>match zAz (zBn s t)with
   |true=>setT s t .u
   |false=>s
 |_=>s
def zFx (s:TS):List Operand→TS
 |[]=>s
 |x::l=>zFx (zAv s x) l
def zJt (s:TS):List Operand→List V
 |[]=>[]
 |x::l=>evT s x::zJt (zAv s x) l
def zAo:V→List V
 |.agg cs=>cs
 |v=>[v]
section
variable {s:TS}
theorem zQj:∀(al:List (Nat×V)) (t:Nat),e (lookV al t)=AM.look (eA al) t
 |[],_=>rfl
 | p::l,t=>by
   simp only[lookV,eA,AM.look]
   cases p.1==t
   ·exact zQj l t
   ·rfl
theorem zGs:∀(l:List V) (n:Nat),e (lkV l n)=lkp (eL l) n
 |[],_=>rfl
 |_::_,0=>rfl
 |_::l,n+1=>zGs l n
theorem zQk:∀(l:List V) (n:Nat) (v:V),eL (updV l n v)=upd (eL l) n (e v)
 |[],_,_=>rfl
 |_::_,0,_=>rfl
 |x::l,n+1,v=>by simp only[updV,eL,upd,zQk l n v]
theorem zSZ:∀(cs row:List V),eL (overV cs row)=over (eL cs) (eL row)
 |[],_=>rfl
 |_::_,[]=>rfl
 |c::cs,_::row=>by simp only[overV,eL,over,zSZ cs row]
theorem zCr:∀(row:List V) (n:Nat) (cs:List V),eL (wrV row n cs)=wr (eL row) n (eL cs)
 |row,0,cs=>by cases row<;>simp only[wrV,wr,zSZ,eL]
 |[],_+1,_=>rfl
 |x::row,n+1,cs=>by simp only[wrV,eL,wr,zCr row n cs]
theorem zCY (row:List V)(n:Nat)(cs:List V)(h:n+cs.length≤row.length):(wrV row n cs).length=row.length:=by
 rw[←zAO,zCr,zIa _ _ _ (by simpa only[zAO]using h),zAO]
mutual
theorem zBK:∀v:V,zAe (e v)=zAz v
 |.u|.sk|.i _ _|.b _|.s _|.sl _ _|.own _ _ _|.emp _|.ar _|.p _ _ _|.ro _|.nilp|.nil|.fn _ _=>rfl
 |.agg cs=>zDT cs
 |.tup cs=>zDT cs
theorem zDT:∀l:List V,zBA (eL l)=zDE l
 |[]=>rfl
 |x::l=>by simp only[eL,zBA,zDE,zBK x,zDT l]
end
theorem plain_e (v:V):plain (e v)=plainV v:=by cases v<;>rfl
theorem zMU:∀l:List V,zBo (eL l)=zJL l
 |[]=>rfl
 |x::l=>by simp only[eL,zBo,zJL,plain_e x,zMU l]
theorem cell1_e (v:V):cell1 (e v)=cell1V v:=by cases v<;>rfl
theorem zDt:∀l:List V,zBw (eL l)=zDy l
 |[]=>rfl
 |x::l=>by simp only[eL,zBw,zDy,cell1_e x,zDt l]
mutual
theorem zVU (o:Nat):∀v:V,kill o (e v)=e (zMl o v)
 |.u|.sk|.i _ _|.b _|.s _|.sl _ _|.own _ _ _|.emp _|.ro _|.nilp|.nil=>rfl
 |.ar n=>by simp only[e,kill,zMl];by_cases h:n=o<;>simp[h,e,(show(n==o)=decide (n=o)from rfl)]
 |.p n i off=>by simp only[e,kill,zMl];by_cases h:n=o<;>simp[h,e,(show(n==o)=decide (n=o)from rfl)]
 |.fn f cs=>by simp only[e,kill,zMl,zEd o cs]
 |.agg cs=>by simp only[e,kill,zMl,zEd o cs]
 |.tup cs=>by simp only[e,kill,zMl,zEd o cs]
theorem zEd (o:Nat):∀l:List V,zBu o (eL l)=eL (zDn o l)
 |[]=>rfl
 |x::l=>by simp only[eL,zBu,zDn,zVU o x,zEd o l]
end
theorem zGl (o:Nat)(l:List V):(zDn o l).length=l.length:=by rw[←zAO,←zEd,zAY,zAO]
theorem zQY (o:Nat):∀al:List (Nat×V),zTP o (eA al)=eA (zOq o al)
 |[]=>rfl
 |p::l=>by simp only[eA,zTP,zOq,zVU,zQY o l]
theorem zEk (x:TO):(eO x).name=x.name:=by cases x<;>rfl
mutual
theorem kill_id (o:Nat):∀v:SV,plain v=true→kill o v=v
 |.i _ _,_=>rfl
 |.b _,_=>rfl
 |.s _,_=>rfl
 |.sl _ _,_=>rfl
 |.own _ _,_=>rfl
 |.nil,_=>rfl
 |.u,_=>rfl
 |.sk,_=>rfl
 |.nilp,_=>rfl
 |.ar _,h=>by simp[plain]at h
 |.p _ _ _,h=>by simp[plain]at h
 |.ro _,h=>by simp[plain]at h
 |.fn _ _,h=>by simp[plain]at h
 |.agg _,h=>by simp[plain]at h
 |.tup _,h=>by simp[plain]at h
end
theorem zSL (o:Nat):∀l:List SV,zBo l=true→zBu o l=l
 |[],_=>rfl
 | x::l,h=>by
   simp only[zBo,zBa]at h
   simp only[zBu,kill_id o x h.1,zSL o l h.2]
theorem zKN:∀a b:List SV,zBo (a++b)=(zBo a&&zBo b)
 |[],_=>rfl
 |x::a,b=>by simp only[List.cons_append,zBo,zKN a b,Bool.and_assoc]
theorem zED:∀(t:GT) (d:Bool) (x:t.Den),zBo (encC d t x)=true
 |.int _,_,_=>rfl
 |.byte,_,_=>rfl
 |.bool,_,_=>rfl
 |.str,_,_=>rfl
 |.sl _,d,_=>by cases d<;>rfl
 |.unit,_,_=>rfl
 |.pair a b,d,x=>by simp only[encC,zKN,zED a d x.1,zED b d x.2,Bool.and_self]
theorem zFK (o:Nat)(t:GT)(d:Bool):∀l:List t.Den,zAs o (l.map (encC d t))=l.map (encC d t)
 |[]=>rfl
 |x::l=>by simp only[List.map_cons,zAs,zSL o _ (zED t d x),zFK o t d l]
theorem zHn (o:Nat):∀a b:List (List SV),zAs o (a++b)=zAs o a++zAs o b
 |[],_=>rfl
 |x::l,b=>by simp only[List.cons_append,zAs,zHn o l b]
theorem zMm (o:Nat)(d:DM)(t:GT)(i:Nat)(l:List t.Den):zAs o (encM d t i l)=encM d t i l:=by
 cases d with
 |all d=>exact zFK o t d l
 |spl=>simp only[encM,zHn,zFK]
theorem zHl (o:Nat):∀(rows:List (List SV)) (i:Nat) (r:List SV),zAs o (rows.set i r)=(zAs o rows).set i (zBu o r)
 |[],i,r=>rfl
 |x::l,0,r=>rfl
 |x::l,i+1,r=>by simp only[List.set_cons_succ,zAs,zHl o l i r]
theorem zFa (o:Nat):∀l:List TO,zCP o (eOs l)=eOs (zJT o l)
 |[]=>rfl
 | x::l=>by
   simp only[eOs,zCP,zJT,zEk]
   by_cases h:x.name=o
   ·simp only[h,if_true,beq_self_eq_true,cond_true,zFa o l]
   ·have h':(x.name==o)=false:=by simpa using h
    simp only[h,if_false,h',cond_false,eOs,zFa o l]
    cases x with
    |box n cs=>simp only[eO,if_true,zAs,zEd,zGl,TO.name]
    |arr n t d l=>simp only[eO,Bool.false_eq_true,if_false,TO.name]
    |opn n t d l i cs=>simp only[eO,if_true,TO.name,zHl,zMm,zEd]
    |spl n t l k=>simp only[eO,Bool.false_eq_true,if_false,TO.name]
theorem zDU:∀(l:List TO) (o:Nat),zAb (eOs l) o=(getT l o).map eO
 |[],_=>rfl
 | x::l,o=>by
   simp only[eOs,zAb,getT,zEk]
   by_cases h:x.name=o
   ·simp[h]
   ·have h':(x.name==o)=false:=by simpa using h
    simp only[h,if_false,h',cond_false,zDU l o]
theorem zRq {o:Nat}:∀(l:List TO) {n:Nat} {cs cs':List V},getT l o=some (.box n cs)→cs'.length=cs.length→zBJ (eOs l) o ([eL cs].set 0 (eL cs'))=eOs (zAg l o cs')
 |[],_,_,_,h,_=>by cases h
 | x::l,n,cs,cs',h,hl=>by
   simp only[eOs,zBJ,zAg,zEk]
   simp only[getT]at h
   by_cases hx:x.name=o
   ·have h':(x.name==o)=true:=by simpa using hx
    rw[h',cond_true]at h
    simp only[zSe]at h
    subst h
    simp only[TO.name]at hx
    simp only[hx,if_true,cond_true,eOs,eO,TO.name,List.set_cons_zero,hl,beq_self_eq_true]
   ·have h':(x.name==o)=false:=by simpa using hx
    rw[h',cond_false]at h
    simp only[hx,if_false,h',cond_false,eOs,zRq l h hl]
theorem zRr {o:Nat}{t:GT}{d:Bool}:∀(l:List TO) {n:Nat} {r r':List t.Den},getT l o=some (.arr n t d r)→zBJ (eOs l) o (r'.map (encC d t))=eOs (zIw t d l o r')
 |[],_,_,_,h=>by cases h
 | x::l,n,r,r',h=>by
   simp only[eOs,zBJ,zIw,zEk]
   simp only[getT]at h
   by_cases hx:x.name=o
   ·have h':(x.name==o)=true:=by simpa using hx
    rw[h',cond_true]at h
    simp only[zSe]at h
    subst h
    simp only[TO.name]at hx
    simp only[hx,if_true,beq_self_eq_true,cond_true,eOs,eO,TO.name]
   ·have h':(x.name==o)=false:=by simpa using hx
    rw[h',cond_false]at h
    simp only[hx,if_false,h',cond_false,eOs,zRr l h]
theorem zRp {o:Nat}{t:GT}{d:DM}{r:List t.Den}{i:Nat}:∀(l:List TO) {n:Nat} {cs cs':List V},getT l o=some (.opn n t d r i cs)→zBJ (eOs l) o (((encM d t i r).set i (eL cs)).set i (eL cs'))=eOs (zAj l o cs')
 |[],_,_,_,h=>by cases h
 | x::l,n,cs,cs',h=>by
   simp only[eOs,zBJ,zAj,zEk]
   simp only[getT]at h
   by_cases hx:x.name=o
   ·have h':(x.name==o)=true:=by simpa using hx
    rw[h',cond_true]at h
    simp only[zSe]at h
    subst h
    simp only[TO.name]at hx
    simp only[hx,if_true,beq_self_eq_true,cond_true,eOs,eO,TO.name,List.set_set]
   ·have h':(x.name==o)=false:=by simpa using hx
    rw[h',cond_false]at h
    simp only[hx,if_false,h',cond_false,eOs,zRp l h]
theorem zCk (t:Nat)(v:V):setE (eS s) t (e v)=eS (setT s t v):=by
 simp only[setE,eS,setT,eA,upd_den]
theorem zAR (d:Option Tmp)(v:V):setD (eS s) d (e v)=eS (zAc s d v):=by
 cases d with
 |none=>rfl
 |some t=>exact zCk t v
theorem zHb (o:Nat)(x:TO)(ho:x.name=o):addOb (eS s) o (eO x).k (eO x).rows (eO x).nm=eS (addT s o x):=by
 simp only[addOb,eS,addT,zOp,zQY,zFa,eOs,St.mk.injEq,List.cons.injEq,and_true,true_and]
 cases x<;>simp only[TO.name]at ho<;>subst ho<;>rfl
theorem zFZ (o:Nat):killSt o (eS s)=eS (zIK o s):=by
 simp only[killSt,eS,zIK,zOp,zQY,zFa]
theorem zTO {n t:Nat}{al:List (Nat×SV)}(h:n≤t):lkp (den n al) t = .u:=zHk _ _ (by simpa[den]using h)
theorem zCe (t:Nat):lkp (eS s).env t=e (zBn s t):=by
 unfold zBn eS
 cases h:Nat.blt t s.n with
 | true =>
   have:t<s.n:=Nat.le_of_ble_eq_true h
   rw[lkp_den this,zQj]
 | false =>
   have:¬t<s.n:=fun hl=>by rw[Nat.ble_eq_true_of_le (show t+1≤s.n from hl) |> (show Nat.blt t s.n=true from ·)]at h;cases h
   rw[zTO (by omega)];rfl
theorem ofC_e (v:Value):e (ofC v)=zCL v:=by
 unfold ofC
 split<;>first|rfl|(unfold zCL;split<;>simp_all [e])
theorem zAp:∀x:Operand,AM.ev (eS s).env x=e (evT s x)
 |.tmp t=>zCe t
 |.const v=>(ofC_e v).symm
 |.global _=>rfl
 |.func f=>rfl
theorem zCa (x:Operand):strip (eS s) x=eS (zAv s x):=by
 cases x with
 | tmp t =>
   simp only[strip,zAv]
   rw[zCe,zBK]
   cases zAz (zBn s t)
   ·rfl
   ·exact zCk t .u
 |_=>rfl
theorem zIN:∀(l:List Operand) {s:TS},zEq (eS s) l=eS (zFx s l)
 |[],_=>rfl
 |x::l,s=>by simp only[zEq,zFx,zCa,zIN l]
theorem zKs:∀(l:List Operand) {s:TS},zEv (eS s) l=eL (zJt s l)
 |[],_=>rfl
 |x::l,s=>by simp only[zEv,zJt,eL,zCa,zAp,zKs l]
theorem zCs (v:V):cellsOf (e v)=eL (zAo v):=by cases v<;>rfl
end
end Go.TM
end
