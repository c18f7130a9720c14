/- Part 8 of the proof of FnTidy; no condition. -/
import Derived.Test.YtdpapeledldifaaGreatX06
set_option autoImplicit true
set_option relaxedAutoImplicit true
set_option linter.all false
section
namespace Go.TM
open Go.AM
inductive GT
 |int (k:IntKind)|byte|bool|str|sl (e:GT)|unit|pair (a b:GT)
@[reducible] def GT.Den:GT→Type
  |.int _=>Int
  |.byte=>UInt8
  |.bool=>Bool
  |.str=>List UInt8
  |.sl e=>List e.Den
  |.unit=>Unit
  |.pair a b=>a.Den×b.Den
def GT.sz:GT→Nat
 |.unit=>0
 |.pair a b=>a.sz+b.sz
 |_=>1
def GT.flat:GT→Bool
 |.sl _=>false
 |.pair a b=>a.flat&&b.flat
 |_=>true
def GT.dflt:(t:GT)→t.Den
 |.int _=>(0:Int)
 |.byte=>(0:UInt8)
 |.bool=>false
 |.str=>([]:List UInt8)
 |.sl _=>[]
 |.unit=>()
 |.pair a b=>(a.dflt,b.dflt)
def eqK (a b:IntKind):Bool:=decide (a=b)
def GT.same:GT→GT→Bool
 |.int k,.int k'=>eqK k k'
 |.byte,.byte=>true
 |.bool,.bool=>true
 |.str,.str=>true
 |.sl a,.sl b=>a.same b
 |.unit,.unit=>true
 |.pair a b,.pair c d=>a.same c&&b.same d
 |_,_=>false
def GT.same_eq:∀{a b:GT},a.same b=true→a=b
 |.int k,.int k',h=>by simp only[same,eqK,zDe]at h;rw[h]
 |.byte,.byte,_=>rfl
 |.bool,.bool,_=>rfl
 |.str,.str,_=>rfl
 |.unit,.unit,_=>rfl
 |.sl a,.sl b,h=>by rw[same_eq (a:=a) (b:=b) h]
 | .pair a b,.pair c d,h=>by
   simp only[same,zBa]at h;rw[same_eq h.1,same_eq h.2]
def zEj {a b:GT}(h:a.same b=true)(l:List b.Den):List a.Den:=(GT.same_eq h)▸l
def encC (d:Bool):(t:GT)→t.Den→List SV
 |.int k,n=>[.i k n]
 |.byte,c=>[.i .u8 (c:UInt8).toNat]
 |.bool,x=>[.b x]
 |.str,x=>[.s x]
 |.sl e,l=>[match d with|true=>.own e.sz ((l:List e.Den).map (encC d e))|false=>.sl e.sz ((l:List e.Den).map (encC d e))]
 |.unit,_=>[]
 |.pair a b,x=>encC d a x.1++encC d b x.2
inductive V
 |u|sk
 |i (k:IntKind) (n:Int)
 |b (x:Bool)
 |s (x:List UInt8)
 |sl (t:GT) (l:List t.Den)
 |own (t:GT) (d:Bool) (l:List t.Den)
 |emp (t:GT)
 |ar (o:Nat)
 |p (o i off:Nat)
 |ro (cells:List V)
 |nilp|nil
 |fn (f:Nat) (caps:List V)
 |agg (cells:List V)
 |tup (vs:List V)
def cells (d:Bool):(t:GT)→t.Den→List V
 |.int k,n=>[.i k n]
 |.byte,c=>[.i .u8 (c:UInt8).toNat]
 |.bool,x=>[.b x]
 |.str,x=>[.s x]
 |.sl e,l=>[match d with|true=>.own e d l|false=>.sl e l]
 |.unit,_=>[]
 |.pair a b,x=>cells d a x.1++cells d b x.2
mutual
def e:V→SV
 |.u=>.u
 |.sk=>.sk
 |.i k n=>.i k n
 |.b x=>.b x
 |.s x=>.s x
 |.sl t l=>.sl t.sz (l.map (encC false t))
 |.own t d l=>.own t.sz (l.map (encC d t))
 |.emp t=>.own t.sz []
 |.ar o=>.ar o
 |.p o i off=>.p o i off
 |.ro cs=>.ro (eL cs)
 |.nilp=>.nilp
 |.nil=>.nil
 |.fn f cs=>.fn f (eL cs)
 |.agg cs=>.agg (eL cs)
 |.tup cs=>.tup (eL cs)
def eL:List V→List SV
 |[]=>[]
 |x::l=>e x::eL l
end
def zQd:∀l:List V,eL l=l.map e
 |[]=>rfl
 |x::l=>by simp only[eL,zMc,zQd l]
def zBe (a b:List V):eL (a++b)=eL a++eL b:=by simp only[zQd,List.map_append]
def zAN (l:List V):(eL l).length=l.length:=by simp only[zQd,zLm]
def zEG (d:Bool):∀(t:GT) (x:t.Den),eL (cells d t x)=encC d t x
 |.int _,_=>rfl
 |.byte,_=>rfl
 |.bool,_=>rfl
 |.str,_=>rfl
 |.sl _,_=>by cases d<;>rfl
 |.unit,_=>rfl
 |.pair a b,x=>by simp only[cells,encC,zBe,zEG d a,zEG d b]
def zDm (d:Bool):∀(t:GT) (x:t.Den),(encC d t x).length=t.sz
 |.int _,_=>rfl
 |.byte,_=>rfl
 |.bool,_=>rfl
 |.str,_=>rfl
 |.sl _,_=>rfl
 |.unit,_=>rfl
 |.pair a b,x=>by simp only[encC,zLa,zDm d a,zDm d b,GT.sz]
def zKS:∀(t:GT) (d d':Bool) (x:t.Den),t.flat=true→encC d t x=encC d' t x
 |.int _,_,_,_,_=>rfl
 |.byte,_,_,_,_=>rfl
 |.bool,_,_,_,_=>rfl
 |.str,_,_,_,_=>rfl
 |.sl _,_,_,_,h=>by cases h
 |.unit,_,_,_,_=>rfl
 | .pair a b,d,d',x,h=>by
   simp only[GT.flat,zBa]at h;simp only[encC,zKS a d d' _ h.1,zKS b d d' _ h.2]
def map_flat {t:GT}(d d':Bool)(l:List t.Den)(h:t.flat=true):l.map (encC d t)=l.map (encC d' t) :=
 List.map_congr_left fun x _=>zKS t d d' x h
inductive DM
 |all (d:Bool)
 |spl
def DM.b:DM→Bool
 |.all d=>d
 |.spl=>true
def encM:DM→(t:GT)→Nat→List t.Den→List (List SV)
 |.all d,t,_,l=>l.map (encC d t)
 |.spl,t,i,l=>(l.take i).map (encC true t)++(l.drop i).map (encC false t)
def zDl (d:DM)(t:GT)(i:Nat)(l:List t.Den):(encM d t i l).length=l.length:=by
 cases d<;>simp[encM];omega
inductive TO
 |box (n:Nat) (cs:List V)
 |arr (n:Nat) (t:GT) (d:Bool) (l:List t.Den)
 |opn (n:Nat) (t:GT) (d:DM) (l:List t.Den) (i:Nat) (cs:List V)
 |spl (n:Nat) (t:GT) (l:List t.Den) (k:Nat)
structure TS where
 n:Nat
 al:List (Nat×V)
 ob:List TO
def TO.name:TO→Nat
 |.box n _=>n
 |.arr n _ _ _=>n
 |.opn n _ _ _ _ _=>n
 |.spl n _ _ _=>n
def eO:TO→Ob
 |.box n cs=>⟨n,cs.length,[eL cs],true⟩
 |.arr n t d l=>⟨n,t.sz,l.map (encC d t),false⟩
 |.opn n t d l i cs=>⟨n,t.sz,(encM d t i l).set i (eL cs),true⟩
 |.spl n t l k=>⟨n,t.sz,encM .spl t k l,false⟩
def eOs:List TO→List Ob
 |[]=>[]
 |x::l=>eO x::eOs l
def eA:List (Nat×V)→List (Nat×SV)
 |[]=>[]
 |p::l=>(p.1,e p.2)::eA l
def eS (s:TS):St:=⟨den s.n (eA s.al),eOs s.ob⟩
def lookV:List (Nat×V)→Nat→V
 |[],_=>.u
 |p::l,t=>bif p.1==t then p.2 else lookV l t
def lkV:List V→Nat→V
 |[],_=>.u
 |x::_,0=>x
 |_::l,n+1=>lkV l n
def updV:List V→Nat→V→List V
 |[],_,_=>[]
 |_::l,0,v=>v::l
 |x::l,n+1,v=>x::updV l n v
def overV:List V→List V→List V
 |[],row=>row
 |_::_,[]=>[]
 |c::cs,_::row=>c::overV cs row
def wrV:List V→Nat→List V→List V
 |row,0,cs=>overV cs row
 |[],_+1,_=>[]
 |x::row,n+1,cs=>x::wrV row n cs
mutual
def zBG:V→Bool
 |.own _ _ _=>true
 |.emp _=>true
 |.agg cs=>zDO cs
 |.tup cs=>zDO cs
 |_=>false
def zDO:List V→Bool
 |[]=>false
 |x::l=>zBG x||zDO l
end
def plainV:V→Bool
 |.i _ _|.b _|.s _|.sl _ _|.own _ _ _|.emp _|.nil=>true
 |_=>false
def zJr:List V→Bool
 |[]=>true
 |x::l=>plainV x&&zJr l
def cell1V:V→Bool
 |.u|.sk|.agg _|.tup _=>false
 |_=>true
def zEP:List V→Bool
 |[]=>true
 |x::l=>cell1V x&&zEP l
mutual
def zOB (o:Nat):V→V
 |.ar n=>bif n==o then .u else .ar n
 |.p n i off=>bif n==o then .u else .p n i off
 |.fn f caps=>.fn f (zEE o caps)
 |.agg cs=>.agg (zEE o cs)
 |.tup cs=>.tup (zEE o cs)
 |.u=>.u
 |.sk=>.sk
 |.i k n=>.i k n
 |.b x=>.b x
 |.s x=>.s x
 |.sl t r=>.sl t r
 |.own t d r=>.own t d r
 |.emp t=>.emp t
 |.ro c=>.ro c
 |.nilp=>.nilp
 |.nil=>.nil
def zEE (o:Nat):List V→List V
 |[]=>[]
 |x::l=>zOB o x::zEE o l
end
def zQJ (o:Nat):List (Nat×V)→List (Nat×V)
 |[]=>[]
 |p::l=>(p.1,zOB o p.2)::zQJ o l
def zKD (o:Nat):List TO→List TO
 |[]=>[]
 |x::l=>bif x.name==o then zKD o l else(match x with|.box n cs=>.box n (zEE o cs)|.arr n t d l=>.arr n t d l|.opn n t d l i cs=>.opn n t d l i (zEE o cs)|.spl n t l k=>.spl n t l k)::zKD o l
def zIj (o:Nat)(s:TS):TS:=⟨s.n,zQJ o s.al,zKD o s.ob⟩
def getT:List TO→Nat→Option TO
 |[],_=>none
 |x::l,o=>bif x.name==o then some x else getT l o
def zAh:List TO→Nat→List V→List TO
 |[],_,_=>[]
 |x::l,o,cs=>bif x.name==o then .box x.name cs::l else x::zAh l o cs
def zJa (t:GT)(d:Bool):List TO→Nat→List t.Den→List TO
 |[],_,_=>[]
 |x::l,o,r=>bif x.name==o then .arr x.name t d r::l else x::zJa t d l o r
def zAl:List TO→Nat→List V→List TO
 |[],_,_=>[]
 |x::l,o,cs=>bif x.name==o then(match x with|.opn n t d r i _=>.opn n t d r i cs|y=>y)::l else x::zAl l o cs
def setT (s:TS)(t:Nat)(v:V):TS:=⟨s.n,(t,v)::s.al,s.ob⟩
def zAe (s:TS)(d:Option Tmp)(v:V):TS:=match d with|some t=>setT s t v|none=>s
def addT (s:TS)(o:Nat)(x:TO):TS:=⟨s.n,zQJ o s.al,x::zKD o s.ob⟩
def ofC:Value→V
 |.int k n=>.i k n
 |.bool b=>.b b
 |.string s=>.s s.data.toList
 |.slice none 0 0=>.nil
 |.pointer none=>.nilp
 |_=>.u
def zBx (s:TS)(t:Nat):V:=match Nat.blt t s.n with
 |true=>lookV s.al t
 |false=>.u
def evT (s:TS):Operand→V
 |.tmp t=>zBx s t
 |.const v=>ofC v
 |.global _=>.u
 |.func f=>.fn f []
def zBB (s:TS)(x:Operand):TS:=match x with
 | .tmp t=>match zBG (zBx s t)with
   |true=>setT s t .u
   |false=>s
 |_=>s
def zGV (s:TS):List Operand→TS
 |[]=>s
 |x::l=>zGV (zBB s x) l
def zKi (s:TS):List Operand→List V
 |[]=>[]
 |x::l=>evT s x::zKi (zBB s x) l
def zAq:V→List V
 |.agg cs=>cs
 |v=>[v]
section
variable {s:TS}
def zRy:∀(al:List (Nat×V)) (t:Nat),e (lookV al t)=AM.look (eA al) t
 |[],_=>rfl
 | p::l,t=>by
   simp only[lookV,eA,AM.look]
   cases p.1==t
   ·exact zRy l t
   ·rfl
def zHU:∀(l:List V) (n:Nat),e (lkV l n)=lkp (eL l) n
 |[],_=>rfl
 |_::_,0=>rfl
 |_::l,n+1=>zHU l n
def zRz:∀(l:List V) (n:Nat) (v:V),eL (updV l n v)=upd (eL l) n (e v)
 |[],_,_=>rfl
 |_::_,0,_=>rfl
 |x::l,n+1,v=>by simp only[updV,eL,upd,zRz l n v]
def zTx:∀(cs row:List V),eL (overV cs row)=over (eL cs) (eL row)
 |[],_=>rfl
 |_::_,[]=>rfl
 |c::cs,_::row=>by simp only[overV,eL,over,zTx cs row]
def zDC:∀(row:List V) (n:Nat) (cs:List V),eL (wrV row n cs)=wr (eL row) n (eL cs)
 |row,0,cs=>by cases row<;>simp only[wrV,wr,zTx,eL]
 |[],_+1,_=>rfl
 |x::row,n+1,cs=>by simp only[wrV,eL,wr,zDC row n cs]
def zCk (row:List V)(n:Nat)(cs:List V)(h:n+cs.length≤row.length):(wrV row n cs).length=row.length:=by
 rw[←zAN,zDC,zJA _ _ _ (by simpa only[zAN]using h),zAN]
mutual
def zBR:∀v:V,zAg (e v)=zBG v
 |.u|.sk|.i _ _|.b _|.s _|.sl _ _|.own _ _ _|.emp _|.ar _|.p _ _ _|.ro _|.nilp|.nil|.fn _ _=>rfl
 |.agg cs=>zDh cs
 |.tup cs=>zDh cs
def zDh:∀l:List V,zBH (eL l)=zDO l
 |[]=>rfl
 |x::l=>by simp only[eL,zBH,zDO,zBR x,zDh l]
end
def plain_e (v:V):plain (e v)=plainV v:=by cases v<;>rfl
def zNh:∀l:List V,zBz (eL l)=zJr l
 |[]=>rfl
 |x::l=>by simp only[eL,zBz,zJr,plain_e x,zNh l]
def cell1_e (v:V):cell1 (e v)=cell1V v:=by cases v<;>rfl
def zEI:∀l:List V,zCG (eL l)=zEP l
 |[]=>rfl
 |x::l=>by simp only[eL,zCG,zEP,cell1_e x,zEI l]
mutual
def zXB (o:Nat):∀v:V,kill o (e v)=e (zOB o v)
 |.u|.sk|.i _ _|.b _|.s _|.sl _ _|.own _ _ _|.emp _|.ro _|.nilp|.nil=>rfl
 |.ar n=>by simp only[e,kill,zOB];by_cases h:n=o<;>simp[h,e,(show(n==o)=decide (n=o)from rfl)]
 |.p n i off=>by simp only[e,kill,zOB];by_cases h:n=o<;>simp[h,e,(show(n==o)=decide (n=o)from rfl)]
 |.fn f cs=>by simp only[e,kill,zOB,zEw o cs]
 |.agg cs=>by simp only[e,kill,zOB,zEw o cs]
 |.tup cs=>by simp only[e,kill,zOB,zEw o cs]
def zEw (o:Nat):∀l:List V,zCF o (eL l)=eL (zEE o l)
 |[]=>rfl
 |x::l=>by simp only[eL,zCF,zEE,zXB o x,zEw o l]
end
def zHM (o:Nat)(l:List V):(zEE o l).length=l.length:=by rw[←zAN,←zEw,zAb,zAN]
def zRm (o:Nat):∀al:List (Nat×V),zUo o (eA al)=eA (zQJ o al)
 |[]=>rfl
 |p::l=>by simp only[eA,zUo,zQJ,zXB,zRm o l]
def zDo (x:TO):(eO x).name=x.name:=by cases x<;>rfl
mutual
def kill_id (o:Nat):∀v:SV,plain v=true→kill o v=v
 |.i _ _,_=>rfl
 |.b _,_=>rfl
 |.s _,_=>rfl
 |.sl _ _,_=>rfl
 |.own _ _,_=>rfl
 |.nil,_=>rfl
 |.u,_=>rfl
 |.sk,_=>rfl
 |.nilp,_=>rfl
 |.ar _,h=>by simp[plain]at h
 |.p _ _ _,h=>by simp[plain]at h
 |.ro _,h=>by simp[plain]at h
 |.fn _ _,h=>by simp[plain]at h
 |.agg _,h=>by simp[plain]at h
 |.tup _,h=>by simp[plain]at h
end
def zTg (o:Nat):∀l:List SV,zBz l=true→zCF o l=l
 |[],_=>rfl
 | x::l,h=>by
   simp only[zBz,zBa]at h;simp only[zCF,kill_id o x h.1,zTg o l h.2]
def zLD:∀a b:List SV,zBz (a++b)=(zBz a&&zBz b)
 |[],_=>rfl
 |x::a,b=>by simp only[zCa,zBz,zLD a b,Bool.and_assoc]
def zEX:∀(t:GT) (d:Bool) (x:t.Den),zBz (encC d t x)=true
 |.int _,_,_=>rfl
 |.byte,_,_=>rfl
 |.bool,_,_=>rfl
 |.str,_,_=>rfl
 |.sl _,d,_=>by cases d<;>rfl
 |.unit,_,_=>rfl
 |.pair a b,d,x=>by simp only[encC,zLD,zEX a d x.1,zEX b d x.2,zBs]
def zFf (o:Nat)(t:GT)(d:Bool):∀l:List t.Den,zAw o (l.map (encC d t))=l.map (encC d t)
 |[]=>rfl
 |x::l=>by simp only[zMc,zAw,zTg o _ (zEX t d x),zFf o t d l]
def zIO (o:Nat):∀a b:List (List SV),zAw o (a++b)=zAw o a++zAw o b
 |[],_=>rfl
 |x::l,b=>by simp only[zCa,zAw,zIO o l b]
def zOC (o:Nat)(d:DM)(t:GT)(i:Nat)(l:List t.Den):zAw o (encM d t i l)=encM d t i l:=by
 cases d with
 |all d=>exact zFf o t d l
 |spl=>simp only[encM,zIO,zFf]
def zIM (o:Nat):∀(rows:List (List SV)) (i:Nat) (r:List SV),zAw o (rows.set i r)=(zAw o rows).set i (zCF o r)
 |[],i,r=>rfl
 |x::l,0,r=>rfl
 |x::l,i+1,r=>by simp only[List.set_cons_succ,zAw,zIM o l i r]
def zFx (o:Nat):∀l:List TO,zCZ o (eOs l)=eOs (zKD o l)
 |[]=>rfl
 | x::l=>by
   simp only[eOs,zCZ,zKD,zDo]
   by_cases h:x.name=o
   ·simp only[h,if_true,beq_self_eq_true,cond_true,zFx o l]
   ·have h':(x.name==o)=false:=by simpa using h
    simp only[h,if_false,h',cond_false,eOs,zFx o l]
    cases x with
    |box n cs=>simp only[eO,if_true,zAw,zEw,zHM,TO.name]
    |arr n t d l=>simp only[eO,zFt,if_false,TO.name]
    |opn n t d l i cs=>simp only[eO,if_true,TO.name,zIM,zOC,zEw]
    |spl n t l k=>simp only[eO,zFt,if_false,TO.name]
def zDi:∀(l:List TO) (o:Nat),zAZ (eOs l) o=(getT l o).map eO
 |[],_=>rfl
 | x::l,o=>by
   simp only[eOs,zAZ,getT,zDo]
   by_cases h:x.name=o
   ·simp[h]
   ·have h':(x.name==o)=false:=by simpa using h
    simp only[h,if_false,h',cond_false,zDi l o]
def zTJ {o:Nat}:∀(l:List TO) {n:Nat} {cs cs':List V},getT l o=some (.box n cs)→cs'.length=cs.length→zAk (eOs l) o ([eL cs].set 0 (eL cs'))=eOs (zAh l o cs')
 |[],_,_,_,h,_=>by cases h
 | x::l,n,cs,cs',h,hl=>by
   simp only[eOs,zAk,zAh,zDo]
   simp only[getT]at h;by_cases hx:x.name=o
   ·have h':(x.name==o)=true:=by simpa using hx
    rw[h',cond_true]at h;simp only[zSe]at h;subst h;simp only[TO.name]at hx;simp only[hx,if_true,cond_true,eOs,eO,TO.name,List.set_cons_zero,hl,beq_self_eq_true]
   ·have h':(x.name==o)=false:=by simpa using hx
    rw[h',cond_false]at h;simp only[hx,if_false,h',cond_false,eOs,zTJ l h hl]
def zTK {o:Nat}{t:GT}{d:Bool}:∀(l:List TO) {n:Nat} {r r':List t.Den},getT l o=some (.arr n t d r)→zAk (eOs l) o (r'.map (encC d t))=eOs (zJa t d l o r')
 |[],_,_,_,h=>by cases h
 | x::l,n,r,r',h=>by
   simp only[eOs,zAk,zJa,zDo]
   simp only[getT]at h;by_cases hx:x.name=o
   ·have h':(x.name==o)=true:=by simpa using hx
    rw[h',cond_true]at h;simp only[zSe]at h;subst h;simp only[TO.name]at hx;simp only[hx,if_true,beq_self_eq_true,cond_true,eOs,eO,TO.name]
   ·have h':(x.name==o)=false:=by simpa using hx
    rw[h',cond_false]at h;simp only[hx,if_false,h',cond_false,eOs,zTK l h]
def zTI {o:Nat}{t:GT}{d:DM}{r:List t.Den}{i:Nat}:∀(l:List TO) {n:Nat} {cs cs':List V},getT l o=some (.opn n t d r i cs)→zAk (eOs l) o (((encM d t i r).set i (eL cs)).set i (eL cs'))=eOs (zAl l o cs')
 |[],_,_,_,h=>by cases h
 | x::l,n,cs,cs',h=>by
   simp only[eOs,zAk,zAl,zDo]
   simp only[getT]at h;by_cases hx:x.name=o
   ·have h':(x.name==o)=true:=by simpa using hx
    rw[h',cond_true]at h;simp only[zSe]at h;subst h;simp only[TO.name]at hx;simp only[hx,if_true,beq_self_eq_true,cond_true,eOs,eO,TO.name,List.set_set]
   ·have h':(x.name==o)=false:=by simpa using hx
    rw[h',cond_false]at h;simp only[hx,if_false,h',cond_false,eOs,zTI l h]
def zCv (t:Nat)(v:V):setE (eS s) t (e v)=eS (setT s t v):=by
 simp only[setE,eS,setT,eA,upd_den]
def zAR (d:Option Tmp)(v:V):setD (eS s) d (e v)=eS (zAe s d v):=by
 cases d with
 |none=>rfl
 |some t=>exact zCv t v
def zIB (o:Nat)(x:TO)(ho:x.name=o):addOb (eS s) o (eO x).k (eO x).rows (eO x).nm=eS (addT s o x):=by
 simp only[addOb,eS,addT,zQI,zRm,zFx,eOs,St.mk.injEq,List.cons.injEq,and_true,true_and]
 cases x<;>simp only[TO.name]at ho<;>subst ho<;>rfl
def zFw (o:Nat):killSt o (eS s)=eS (zIj o s):=by
 simp only[killSt,eS,zIj,zQI,zRm,zFx]
def zUn {n t:Nat}{al:List (Nat×SV)}(h:n≤t):lkp (den n al) t = .u:=zIL _ _ (by simpa[den]using h)
def zCp (t:Nat):lkp (eS s).env t=e (zBx s t):=by
 unfold zBx eS;cases h:Nat.blt t s.n with
 | true=>
   have:t<s.n:=Nat.le_of_ble_eq_true h;rw[lkp_den this,zRy]
 | false=>
   have:¬t<s.n:=fun hl=>by rw[Nat.ble_eq_true_of_le (show t+1≤s.n from hl) |> (show Nat.blt t s.n=true from ·)]at h;cases h
   rw[zUn (by omega)];rfl
def ofC_e (v:Value):e (ofC v)=zCW v:=by
 unfold ofC;split<;>first|rfl|(unfold zCW;split<;>simp_all [e])
def zAr:∀x:Operand,AM.ev (eS s).env x=e (evT s x)
 |.tmp t=>zCp t
 |.const v=>(ofC_e v).symm
 |.global _=>rfl
 |.func f=>rfl
def zCl (x:Operand):strip (eS s) x=eS (zBB s x):=by
 cases x with
 | tmp t=>
   simp only[strip,zBB]
   rw[zCp,zBR];cases zBG (zBx s t)
   ·rfl
   ·exact zCv t .u
 |_=>rfl
def zIo:∀(l:List Operand) {s:TS},zFJ (eS s) l=eS (zGV s l)
 |[],_=>rfl
 |x::l,s=>by simp only[zFJ,zGV,zCl,zIo l]
def zLl:∀(l:List Operand) {s:TS},zFP (eS s) l=eL (zKi s l)
 |[],_=>rfl
 |x::l,s=>by simp only[zFP,zKi,eL,zCl,zAr,zLl l]
def zDD (v:V):cellsOf (e v)=eL (zAq v):=by cases v<;>rfl
end
end Go.TM
end
