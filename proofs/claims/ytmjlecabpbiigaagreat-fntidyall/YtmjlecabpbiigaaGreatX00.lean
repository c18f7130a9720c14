/- Part 1 of the proof of FnTidyAll; no condition. -/
import Derived.WalkKit
open Option renaming some -> U
open Decidable renaming decide -> aa
open Bool renaming true -> ae
open Bool renaming false -> ag
open Option renaming none -> aj
open Sum renaming inr -> an
open Sum renaming inl -> ao
open List renaming length -> au
open Int renaming toNat -> aw
open List renaming drop -> cU
open List renaming take -> de
set_option autoImplicit true
set_option relaxedAutoImplicit true
set_option linter.all false
section
def aF {α:Type u}{a b:α}:(U a=U b)=(a=b):=Option.some.injEq a b
def aK (a b:Bool):((a&&b)=ae)=(a=ae/\b=ae):=Bool.and_eq_true a b
def aL {p:Prop}[Decidable p]:(aa p=ae)=p:=decide_eq_true_eq
def ay (h:Decidable True) : @aa True h=ae:=decide_true h
def bc (h:Decidable False) : @aa False h=ag:=decide_false h
def bS {p:Prop}{_:Decidable p}:(aa p=ag)↔¬p:=decide_eq_false_iff_not
def aP {α:Type u}{as bs:List α}:(as++bs).length=as.length+bs.length:=List.length_append
def aS (n:Nat):(n:Int).toNat=n:=Int.toNat_natCast n
def bh {α:Type u}{β:Type v}(a:α)(f:α->Option β):(U a).bind f=f a:=Option.bind_some a f
def ba (b:Bool):(b&&b)=b:=Bool.and_self b
def bL {α:Type u}{a:α}{as:List α}:(a::as).length=as.length+1:=List.length_cons
def bD {α:Type u}(as bs cs:List α):as++bs++cs=as++(bs++cs):=List.append_assoc as bs cs
def bT {α:Type u}{i:Nat}{l:List α}:(l.take i).length=min i l.length:=List.length_take
def bF {α:Type u}{β:Type v}{f:α->β}{a:α}{l:List α}:(a::l).map f=f a::l.map f:=List.map_cons
def bH (a:Int):¬a<a:=Int.lt_irrefl a
def cF {α:Type u}{a:α}{as bs:List α}:(a::as)++bs=a::(as++bs):=List.cons_append
def cV:(ag=ae)=False:=Bool.false_eq_true
def ck (b:Bool):(b&&ae)=b:=Bool.and_true b
def cB {α:Type u}(as:List α):as++[]=as:=List.append_nil as
def cX {α:Type u}:([]:List α).length=0:=List.length_nil
def dx {α:Type u}{i:Nat}{l:List α}:(l.drop i).length=l.length-i:=List.length_drop
def cG {α:Type u}{β:Type v}{as:List α}(f:α->β):(as.map f).length=as.length:=List.length_map f
def dy {α:Type u}(as:List α):[]++as=as:=List.nil_append as
def fF (n:Nat):0<=(n:Int):=Int.natCast_nonneg n
def bm {α:Type u}{β:Type v}(a:α)(b:β)(c:α)(d:β):((a,b)=(c,d))=(a=c/\b=d):=Prod.mk.injEq a b c d
def bI {α:Type u}{l:List α}{i:Nat}(h:i<l.length):l[i]? = U l[i]:=List.getElem?_eq_getElem h
def dO {α:Type u}{l:List α}{i:Nat}{a:α}(e:l[i]? = U a):a∈l:=List.mem_of_getElem? e
def bJ (n:Nat):n<=n:=Nat.le_refl n
namespace Go.AM
inductive SV
 |u
 |sk
 |i (k:IntKind) (n:Int)
 |b (x:Bool)
 |s (x:List UInt8)
 |sl (k:Nat) (rows:List (List SV))
 |own (k:Nat) (rows:List (List SV))
 |ar (o:Nat)
 |p (o i off:Nat)
 |ro (cells:List SV)
 |nilp
 |nil
 |fn (f:Nat) (caps:List SV)
 |agg (cells:List SV)
 |tup (vs:List SV)
 deriving Inhabited
structure Ob where
 name:Nat
 k:Nat
 rows:List (List SV)
 nm:Bool
structure St where
 env:List SV
 ob:List Ob
inductive TK
 |int (k:IntKind)|bool|str|ptr|slice (e:Nat)|struct (fs:List (Nat×Nat))|func|other
structure TI where
 kind:TK
 size:Nat
 bytes:Nat
 zero:List SV
 known:Bool
def bx:List SV->Nat->SV
 |[],_=>.u
 |x::_,0=>x
 |_::l,n+1=>bx l n
def cI:List SV->Nat->SV->List SV
 |[],_,_=>[]
 |_::l,0,v=>v::l
 |x::l,n+1,v=>x::cI l n v
def lY:List SV->List SV->List SV
 |[],row=>row
 |_::_,[]=>[]
 |c::cs,_::row=>c::lY cs row
def wr:List SV->Nat->List SV->List SV
 |row,0,cs=>lY cs row
 |[],_+1,_=>[]
 |x::row,n+1,cs=>x::wr row n cs
mutual
def cu:SV->Bool
 |.own _ _=>ae
 |.agg cs=>eF cs
 |.tup cs=>eF cs
 |_=>ag
def eF:List SV->Bool
 |[]=>ag
 |x::l=>cu x||eF l
end
def plain:SV->Bool
 |.i _ _|.b _|.s _|.sl _ _|.own _ _|.nil=>ae
 |_=>ag
def fu:List SV->Bool
 |[]=>ae
 |x::l=>plain x&&fu l
def cell1:SV->Bool
 |.u|.sk|.agg _|.tup _=>ag
 |_=>ae
def fG:List SV->Bool
 |[]=>ae
 |x::l=>cell1 x&&fG l
mutual
def kill (o:Nat):SV->SV
 |.ar n=>if n=o then .u else .ar n
 |.p n i off=>if n=o then .u else .p n i off
 |.fn f caps=>.fn f (di o caps)
 |.agg cs=>.agg (di o cs)
 |.tup cs=>.tup (di o cs)
 |.u=>.u
 |.sk=>.sk
 |.i k n=>.i k n
 |.b x=>.b x
 |.s x=>.s x
 |.sl k r=>.sl k r
 |.own k r=>.own k r
 |.ro c=>.ro c
 |.nilp=>.nilp
 |.nil=>.nil
def di (o:Nat):List SV->List SV
 |[]=>[]
 |x::l=>kill o x::di o l
end
def fH (o:Nat):List (List SV)->List (List SV)
 |[]=>[]
 |r::l=>di o r::fH o l
def gg (o:Nat):List Ob->List Ob
 |[]=>[]
 |x::l=>if x.name=o then gg o l else{x with rows:=if x.nm then fH o x.rows else x.rows}::gg o l
def killSt (o:Nat)(st:St):St:=⟨di o st.env,gg o st.ob⟩
def bu:List Ob->Nat->Option Ob
 |[],_=>aj
 |x::l,o=>if x.name=o then U x else bu l o
def dz:List Ob->Nat->List (List SV)->List Ob
 |[],_,_=>[]
 |x::l,o,rows=>if x.name=o then{x with rows:=rows}::l else x::dz l o rows
def b_ (st:St)(t:Nat)(v:SV):St:=⟨cI st.env t v,st.ob⟩
def aZ (st:St)(d:Option Tmp)(v:SV):St:=match d with|some t=>b_ st t v|none=>st
def addOb (st:St)(o k:Nat)(rows:List (List SV))(nm:Bool):St :=
 ⟨di o st.env,⟨o,k,rows,nm⟩::gg o st.ob⟩
def zCe:Value->SV
 |.int k n=>.i k n
 |.bool b=>.b b
 |.string s=>.s s.data.toList
 |.slice aj 0 0=>.nil
 |.pointer aj=>.nilp
 |_=>.u
def ev (env:List SV):Operand->SV
 |.tmp t=>bx env t
 |.const v=>zCe v
 |.global _=>.u
 |.func f=>.fn f []
def dA (st:St)(x:Operand):St:=match x with
 |.tmp t=>if cu (bx st.env t)then b_ st t .u else st
 |_=>st
def j9 (st:St):List Operand->St
 |[]=>st
 |x::l=>j9 (dA st x) l
def gG (st:St):List Operand->List SV
 |[]=>[]
 |x::l=>ev st.env x::gG (dA st x) l
def cellsOf:SV->List SV
 |.agg cs=>cs
 |v=>[v]
def kG (op:BinOp)(a b:Int):Option Bool:=match op with
 |.eql=>U (aa (a=b))|.neq=>U (!aa (a=b))|.lss=>U (aa (a<b))|.leq=>U (aa (a<=b))
 |.gtr=>U (aa (b<a))|.geq=>U (aa (b<=a))|_=>aj
def rK (op:BinOp)(a b:List UInt8):Option Bool:=match op with
 |.eql=>U (aa (a=b))|.neq=>U (!aa (a=b))|.lss=>U (Op.bytesLess a b)|.leq=>U (Op.bytesLess a b||aa (a=b))
 |.gtr=>U (!(Op.bytesLess a b||aa (a=b)))|.geq=>U (!Op.bytesLess a b)|_=>aj
def dK (k:IntKind)(a b:Int):Int:=k.wrap (BitVec.ofInt k.bits a &&& BitVec.ofInt k.bits b).toNat
def zW (k:IntKind)(a b:Int):Int:=k.wrap (BitVec.ofInt k.bits a ||| BitVec.ofInt k.bits b).toNat
def pP (k:IntKind)(a b:Int):Int:=k.wrap (BitVec.ofInt k.bits a ^^^ BitVec.ofInt k.bits b).toNat
def pQ (op:BinOp)(k:IntKind)(a b:Int):Option Int:=match op with
 |.and=>U (dK k a b)
 |.or=>U (zW k a b)
 |.xor=>U (pP k a b)
 |_=>aj
def lZ:TK->SV->SV->Option Bool
 |.int _,.i k a,.i k' b=>if k=k' then U (aa (a=b))else aj
 |.bool,.b a,.b b=>U (aa (a=b))
 |.str,.s a,.s b=>U (aa (a=b))
 |_,_,_=>aj
def gX (T:Nat->TI):Nat->List (Nat×Nat)->List SV->List SV->Option Bool
 |_,[],[],[]=>U ae
 | n,(t,o)::fs,x::l,y::m=>if o=n then match lZ (T t).kind x y,gX T (n+1) fs l m with
   |some p,U q=>U (p&&q)
   |_,_=>aj else aj
 |_,_,_,_=>aj
def mV (op:BinOp)(x y:SV)(K:SV->Prop):Prop:=match x,y with
 | .i k a,.i k' b=>match op with
   |.add=>k=k'/\K (.i k (k.wrap (a+b)))
   |.sub=>k=k'/\K (.i k (k.wrap (a-b)))
   |.mul=>k=k'/\K (.i k (k.wrap (a*b)))
   |.quo=>k=k'/\b≠0/\K (.i k (k.wrap (a.tdiv b)))
   |.rem=>k=k'/\b≠0/\K (.i k (a.tmod b))
   |.shl=>0<=b/\K (.i k (k.wrap (a*2^min b.toNat k.bits)))
   |.shr=>0<=b/\K (.i k (a.fdiv (2^min b.toNat k.bits)))
   | .and|.or|.xor=>match pQ op k a b with
     |some r=>k=k'/\K (.i k r)
     |none=>False
   | _=>match kG op a b with
     |some r=>k=k'/\K (.b r)
     |none=>False
 | .s a,.s b=>match op with
   |.add=>a.length+b.length<=9223372036854775807/\K (.s (a++b))
   | _=>match rK op a b with
     |some r=>K (.b r)
     |none=>False
 |_,_=>False
def j_:List (Nat×Operand)->List SV->List (Nat×SV)
 |(j,_)::ps,v::vs=>(j,v)::j_ ps vs
 |_,_=>[]
def pR:Nat->List (Nat×Operand)->Bool
 |_,[]=>ae
 |i,(j,_)::ps=>i==j&&pR (i+1) ps
def oq (n:Nat):List SV->Bool
 |[]=>ae
 |v::l=>(cellsOf v).length==n&&fG (cellsOf v)&&fu (cellsOf v)&&oq n l
def ka (fs:List (Nat×Nat))(row:List SV):List (Nat×SV)->List SV
 |[]=>row
 |(j,v)::ps=>ka fs (wr row ((fs.getD j (0,0)).2) (cellsOf v)) ps
def ot (T:Nat->TI)(fs:List (Nat×Nat))(n:Nat):List (Nat×SV)->Bool
 |[]=>ae
 | (j,v)::ps=>(match fs[j]? with
   |some (ft,fo)=>(T ft).known&&(cellsOf v).length==(T ft).size&&fG (cellsOf v)&&aa (fo+(T ft).size<=n)
   |none=>ag)&&ot T fs n ps
def byteOf:List SV->Option UInt8
 |[.i .u8 n]=>U (UInt8.ofNat n.toNat)
 |_=>aj
def bytesOf:List (List SV)->Option (List UInt8)
 |[]=>U []
 | r::l=>match byteOf r,bytesOf l with
   |some c,U cs=>U (c::cs)
   |_,_=>aj
def mW (l:List UInt8):List (List SV):=l.map fun c=>[.i .u8 c.toNat]
end Go.AM
end
namespace Go.AM
section
mutual
def frz:SV->SV
 |.own k rows=>.sl k (cC rows)
 |.agg cs=>.agg (gH cs)
 |.tup cs=>.tup (gH cs)
 |.u=>.u
 |.sk=>.sk
 |.i k n=>.i k n
 |.b x=>.b x
 |.s x=>.s x
 |.sl k r=>.sl k r
 |.ar n=>.ar n
 |.p n i off=>.p n i off
 |.ro c=>.ro c
 |.nilp=>.nilp
 |.nil=>.nil
 |.fn f caps=>.fn f caps
def gH:List SV->List SV
 |[]=>[]
 |x::l=>frz x::gH l
def cC:List (List SV)->List (List SV)
 |[]=>[]
 |r::l=>gH r::cC l
end
def kH (st:St)(x:Operand):St:=match x with
 |.tmp t=>if cu (bx st.env t)then b_ st t (frz (bx st.env t))else st
 |_=>st
def frzTL (st:St):List Operand->St
 |[]=>st
 |x::l=>frzTL (kH st x) l
def eG (st:St)(o:Nat)(rows:List (List SV))(i:Nat)(row:List SV):St:=⟨st.env,dz st.ob o (rows.set i row)⟩
def dT (T:Nat->TI)(t:Nat):Bool:=match(T t).kind with|.struct _=>ae|_=>ag
def valOf (T:Nat->TI)(t:Nat)(cs:List SV):SV:=match(T t).kind with|.struct _=>.agg cs|_=>bx cs 0
def dropOwn:SV->SV
 |.own _ _=>.u
 |v=>v
def kI:List SV->List SV
 |[]=>[]
 |x::l=>dropOwn x::kI l
def cnd (t:Bool)(A B:Prop):Prop:=match t with
 |true=>A
 |false=>B
def uH {t:Bool}{A B:Prop}(h:cnd t A B)(e:t=ae):A:=by subst e;exact h
def cnd.no {t:Bool}{A B:Prop}(h:cnd t A B)(e:t=ag):B:=by subst e;exact h
def cnd.mk {t:Bool}{A B:Prop}(h1:t=ae->A)(h2:t=ag->B):cnd t A B:=by cases t;exact h2 rfl;exact h1 rfl
def jn (x:Ob)(i:Nat)(B:List SV->Prop):Prop:=match x.nm with
 | true=>(match x.rows[i]? with
   |some row=>B row
   |none=>True)
 |false=>∀row,x.rows[i]? = U row->B row
def jn.all {x:Ob}{i:Nat}{B:List SV->Prop}(h:jn x i B):∀row,x.rows[i]? = U row->B row:=by
 unfold jn at h;split at h
 ·intro row hr;rw[hr]at h;exact h
 ·exact h
def jn.mono {x:Ob}{i:Nat}{B B':List SV->Prop}(h:jn x i B)(hb:∀ row,B row->B' row):jn x i B':=by
 unfold jn at *;split at h
 ·split at h
  ·exact hb _ h
  ·trivial
 ·intro row hr;exact hb _ (h row hr)
def MB (n k:Nat)(r:List SV)(l:List (List SV))(nm:Bool)(B:List SV->Prop):jn ⟨n,k,r::l,nm⟩ 0 B=B r:=by cases nm<;>simp[jn]
def openK (st:St)(o i off:Nat)(row:List SV)(rs:List (List SV))(d k:Nat)(rows:List (List SV))(K:St->Prop):Prop :=
 match bu (addOb (eG st o rs i (wr row off [.u])) d k rows ag).ob o with
 |some x=>x.nm=ae/\i<x.rows.length/\jn x i fun row1=>off+1<=row1.length /\
   K (b_ (eG (addOb (eG st o rs i (wr row off [.u])) d k rows ag) o x.rows i (wr row1 off [.ar d])) d (.ar d))
 |none=>False
def iY (T:Nat->TI)(t:Nat)(a:SV)(d:Option Tmp)(st:St)(K:St->Prop):Prop:=match a with
 |.ro cells=>(T t).known=ae/\(T t).size≠0/\(T t).size<=cells.length/\K (aZ st d (valOf T t (cells.take (T t).size)))
 | .p o i off=>match bu st.ob o with
   |some x=>(T t).known=ae/\i<x.rows.length/\jn x i fun row=>off+(T t).size<=row.length /\
     (match valOf T t ((row.drop off).take (T t).size)with
     | .own k rows=>match d with
       |some d=>(d<100000/\d≠o/\x.nm=ae/\openK st o i off row x.rows d k rows K)\/K (aZ (eG st o x.rows i (wr row off [.u])) (U d) (.own k rows))
       |none=>False
     |v=>if cu v then dT T t=ae/\fG (cellsOf v)=ae/\K (aZ (eG st o x.rows i (wr row off (kI (cellsOf v)))) d v)else K (aZ st d v))
   |none=>False
 |_=>False
def ou (T:Nat->TI)(t:Nat)(a:SV)(x:Operand)(st:St)(K:St->Prop):Prop:=match a with
 | .p o i off=>match bu (dA st x).ob o with
   |some y=>(T t).known=ae/\i<y.rows.length/\jn y i fun row=>off+(T t).size<=row.length/\(cellsOf (ev st.env x)).length=(T t).size /\
     (y.nm=ae\/fu (cellsOf (ev st.env x))=ae)/\fG (cellsOf (ev st.env x))=ae/\K (eG (dA st x) o y.rows i (wr row off (cellsOf (ev st.env x))))
   |none=>False
 |_=>False
def takeRows (st:St)(k0:Nat)(x:Operand):Option (Nat×List (List SV)×St):=match ev st.env x with
 |.nil=>U (k0,[],st)
 |.own k rows=>U (k,rows,dA st x)
 | .ar o=>match bu st.ob o with
   |some y=>if y.nm then aj else U (y.k,y.rows,killSt o st)
   |none=>aj
 |_=>aj
def moreRows (st:St)(y:Operand):Option (Nat×List (List SV)×St):=match ev st.env y with
 |.nil=>U (0,[],st)
 |.own k rows=>U (k,rows,dA st y)
 |.sl k rows=>U (k,rows,st)
 |_=>aj
def ov (st:St)(x:SV):Option Nat:=match x with
 |.nil=>U 0
 |.sl _ rows=>U rows.length
 |.own _ rows=>U rows.length
 | .ar o=>match bu st.ob o with
   |some y=>U y.rows.length
   |none=>aj
 |_=>aj
def Ez:SV->Option Int
 |.i _ n=>U n
 |_=>aj
def fI (env:List SV)(d:Int):Option Operand->Option Int
 |none=>U d
 |some x=>Ez (ev env x)
def kb (T:Nat->TI)(t:Nat)(x:Operand)(lo hi mx:Option Operand)(d:Option Tmp)(st:St)(K:St->Prop):Prop :=
 match(T t).kind,ev st.env x with
 | .str,.s l=>match fI st.env 0 lo,fI st.env l.length hi,mx with
   |some a,U b,aj=>0<=a/\a<=b/\b<=l.length/\K (aZ st d (.s ((l.take b.toNat).drop a.toNat)))
   |_,_,_=>False
 | .slice e,.sl k rows=>(T e).known=ae/\k=(T e).size/\match mx with
   | none=>match fI st.env 0 lo,fI st.env rows.length hi with
     |some a,U b=>0<=a/\a<=b/\b<=rows.length/\K (aZ st d (.sl k ((rows.take b.toNat).drop a.toNat)))
     |_,_=>False
   | some m=>match fI st.env 0 lo,hi,fI st.env 0 hi,fI st.env 0 (U m)with
     |some a,U _,U b,U c=>0<=a/\a<=b/\b<=c/\c<=rows.length/\(if c=0 then K (aZ st d .nil)else K (aZ st d (.sl k ((rows.take b.toNat).drop a.toNat))))
     |_,_,_,_=>False
 | .slice e,.nil=>match lo,hi,mx with
   |none,aj,aj=>(T e).known=ae/\K (aZ st d .nil)
   |_,_,_=>False
 | .slice e,_=>match mx,takeRows st (T e).size x with
   | none,U (k,rows,st')=>(T e).known=ae/\k=(T e).size/\match fI st.env 0 lo,fI st.env rows.length hi with
     |some a,U b=>0<=a/\a<=b/\b<=rows.length/\K (aZ st' d (.own k ((rows.take b.toNat).drop a.toNat)))
     |_,_=>False
   |_,_=>False
 |_,_=>False
def cx (ps:Array (Nat×Operand)):List Operand:=ps.toList.map (·.2)
def mX (st:St)(ps:Array (Nat×Operand)):List (Nat×SV):=j_ ps.toList (gG st (cx ps))
def pS (T:Nat->TI):List (Nat×Nat)->Bool
 |[]=>ae
 |(t,_)::l=>(T t).known&&pS T l
def mY:Operand->Bool
 |.const (.slice aj 0 0)=>ae
 |_=>ag
def zX (rows:List (List SV))(n:Nat)(d:Option Tmp)(st:St)(K:St->Prop):Prop:=∀row,rows[n]? = U row->K (aZ st d (.ro row))
def MC (l:List UInt8)(n:Nat)(d:Option Tmp)(st:St)(K:St->Prop):Prop:=∀c,l[n]? = U c->K (aZ st d (.i .u8 c.toNat))
def kJ (d:Option Tmp)(K:St->Prop)(st:St):Prop:=K (aZ st d .sk)
def zY (st:St)(d:Option Tmp)(K:St->Prop)(v:SV):Prop:=K (aZ st d v)
abbrev zAz:=Operand->List Operand->Option Tmp->St->(St->Prop)->Prop
def a9 (T:Nat->TI)(C:zAz)(o:Oper)(st:St)(K:St->Prop):Prop:=match o.op with
 | .move x=>match x with
   | .tmp t=>match bx st.env t with
     |.own k rows=>t<100000/\K (aZ (b_ (addOb (b_ st t .u) t k rows ag) t (.ar t)) o.dst (.ar t))
     |v=>if cu v then K (aZ (b_ st t .u) o.dst v)else K (aZ st o.dst v)
   |x=>K (aZ st o.dst (ev st.env x))
 |.assign x=>K (aZ (dA st x) o.dst (ev st.env x))
 | .pick c a b=>match ev st.env c,ev st.env a,ev st.env b with
   |.b x,.b p,.b q=>K (aZ st o.dst (.b (bif x then p else q)))
   |.b x,v,w=>cnd x (K (aZ (dA st a) o.dst v)) (K (aZ (dA st b) o.dst w))
   |_,_,_=>False
 | .alloc e=>match o.dst with
   |some d=>d<100000/\(T e).known=ae/\K (b_ (addOb st d (T e).size [(T e).zero] ae) d (.p d 0 0))
   |none=>False
 | .box e x=>match o.dst with
   |some d=>d<100000/\(T e).known=ae/\(cellsOf (ev st.env x)).length=(T e).size/\fG (cellsOf (ev st.env x))=ae/\K (b_ (addOb (dA st x) d (T e).size [di d (cellsOf (ev st.env x))] ae) d (.p d 0 0))
   |none=>False
 | .build t ps=>match(T t).kind with
   |.struct fs=>(T t).known=ae/\pS T fs=ae/\ot T fs (T t).size (mX st ps)=ae/\K (aZ (j9 st (cx ps)) o.dst (.agg (ka fs (T t).zero (mX st ps))))
   |_=>False
 | .buildSlice t len ps=>match(T t).kind with
   |.slice e=>(T e).known=ae/\ps.size=len/\len*(T e).size<=16777216/\pR 0 ps.toList=ae/\oq (T e).size (gG st (cx ps))=ae /\
     K (aZ (j9 st (cx ps)) o.dst (.own (T e).size ((gG st (cx ps)).map cellsOf)))
   |_=>False
 |.load t a=>iY T t (ev st.env a) o.dst st K
 |.store t a x=>ou T t (ev st.env a) x st (kJ o.dst K)
 | .nilCheck x=>match ev st.env x with
   |.p a b c=>K (aZ st o.dst (.p a b c))
   |.ro c=>K (aZ st o.dst (.ro c))
   |_=>False
 | .binOp op t x y _=>match ev st.env x,ev st.env y with
   | .agg a,.agg b=>match(T t).kind with
     | .struct fs=>match op,gX T 0 fs a b with
       |.eql,U r=>K (aZ st o.dst (.b r))
       |.neq,U r=>K (aZ st o.dst (.b !r))
       |_,_=>False
     |_=>False
   | .sl _ rows,.nil=>match op,(T t).kind with
     |.eql,.slice _=>mY y=ae/\∀z:Bool,(rows≠[]->z=ag)->K (aZ st o.dst (.b z))
     |.neq,.slice _=>mY y=ae/\∀z:Bool,(rows≠[]->z=ae)->K (aZ st o.dst (.b z))
     |_,_=>False
   | .b p,.b q=>match op,(T t).kind with
     |.eql,.bool=>K (aZ st o.dst (.b (aa (p=q))))
     |.neq,.bool=>K (aZ st o.dst (.b (!aa (p=q))))
     |_,_=>False
   | .nil,.nil=>match op,(T t).kind with
     |.eql,.slice _=>mY y=ae/\∀z:Bool,K (aZ st o.dst (.b z))
     |.neq,.slice _=>mY y=ae/\∀z:Bool,K (aZ st o.dst (.b z))
     |_,_=>False
   |a,b=>mV op a b (zY st o.dst K)
 | .unOp op _ x=>match op,ev st.env x with
   |.not,.b x=>K (aZ st o.dst (.b !x))
   |.neg,.i k n=>K (aZ st o.dst (.i k (k.wrap (0-n))))
   |_,_=>False
 | .convert src dst x=>match(T dst).kind,ev st.env x with
   |.int k,.i _ n=>(T src).known=ae/\K (aZ st o.dst (.i k (k.wrap n)))
   | .slice e,.s l=>match(T e).kind,(T src).kind with
     |.int .u8,.str=>K (aZ st o.dst (.sl 1 (mW l)))
     |_,_=>False
   | .str,v=>match v,(T src).kind with
     |.s l,.str=>K (aZ st o.dst (.s l))
     | .sl _ rows,.slice e|.own _ rows,.slice e=>match(T e).kind,bytesOf rows with
       |.int .u8,U l=>K (aZ st o.dst (.s l))
       |_,_=>False
     |_,_=>False
   |_,_=>False
 | .makeFunc f first caps=>match f with
   |.func n=>first.size=0/\eF (caps.toList.map (ev st.env))=ag/\K (aZ st o.dst (.fn n (caps.toList.map (ev st.env))))
   |_=>False
 | .makeSlice t l c=>match(T t).kind,ev st.env l,ev st.env c with
   |.slice e,.i .i64 n,.i .i64 m=>(T e).known=ae/\n=m/\0<=n/\n<=9223372036854775807/\n*(T e).bytes<=140737488355328/\K (aZ st o.dst (.own (T e).size (List.replicate n.toNat (T e).zero)))
   |_,_,_=>False
 |.slice t x lo hi mx=>kb T t x lo hi mx o.dst st K
 | .fieldAddr s x f=>match(T s).kind,ev st.env x with
   | .struct fs,.p a i off=>match fs[f]? with
     |some (ft,fo)=>(T ft).known=ae/\(T ft).size≠0/\K (aZ st o.dst (.p a i (off+fo)))
     |none=>False
   | .struct fs,.ro cs=>match fs[f]? with
     |some (ft,fo)=>(T ft).known=ae/\(T ft).size≠0/\K (aZ st o.dst (.ro (cs.drop fo)))
     |none=>False
   |_,_=>False
 | .field s x f=>match(T s).kind,ev st.env x with
   | .struct fs,.agg cs=>match fs[f]? with
     |some (ft,fo)=>(T ft).known=ae/\eF cs=ag/\fo+(T ft).size<=cs.length/\K (aZ st o.dst (valOf T ft ((cs.drop fo).take (T ft).size)))
     |none=>False
   |_,_=>False
 | .indexAddr t x ix=>match(T t).kind,ev st.env x,ev st.env ix with
   |.slice e,.sl k rows,.i _ n=>(T e).known=ae/\k=(T e).size/\(0<=n/\n<rows.length)/\zX rows n.toNat o.dst st K
   |.slice e,.own k rows,.i _ n=>(T e).known=ae/\k=(T e).size/\(0<=n/\n<rows.length)/\zX (cC rows) n.toNat o.dst (kH st x) K
   | .slice e,.ar a,.i _ n=>match bu st.ob a with
     |some y=>(T e).known=ae/\y.k=(T e).size/\(0<=n/\n<y.rows.length)/\K (aZ st o.dst (.p a n.toNat 0))
     |none=>False
   |_,_,_=>False
 | .index t x ix=>match(T t).kind,ev st.env x,ev st.env ix with
   |.str,.s l,.i _ n=>(0<=n/\n<l.length)/\MC l n.toNat o.dst st K
   |_,_,_=>False
 | .extract x j=>match x with
   | .tmp t=>match bx st.env t with
     |.tup vs=>j<vs.length/\K (aZ (if cu (bx vs j)then b_ st t (.tup (cI vs j .u))else st) o.dst (bx vs j))
     |_=>False
   |_=>False
 | .call c=>match c.callee with
   | .builtin .len=>match c.args.toList,c.argTypes.toList with
     | [x],[t]=>match(T t).kind,ev st.env x with
       |.str,.s l=>K (aZ st o.dst (.i .i64 l.length))
       | .slice _,v=>match ov st v with
         |some n=>K (aZ st o.dst (.i .i64 n))
         |none=>False
       |_,_=>False
     |_,_=>False
   | .builtin .append=>match c.args.toList,c.argTypes.toList with
     | [x,y],[t,t']=>match(T t).kind,(T t').kind,moreRows st y with
       | .slice e,.slice _,U (k',rows',st1)=>match takeRows st1 (T e).size x with
         |some (k,rows,st2)=>(T e).known=ae/\k=(T e).size/\(k'=(T e).size\/rows'=[])/\rows.length+rows'.length<=9223372036854775807/\(rows.length+rows'.length)*(T e).bytes<=140737488355328 /\
           K (aZ st2 o.dst (.own (T e).size (rows++rows')))
         |none=>False
       |_,_,_=>False
     |_,_=>False
   |.value f=>C f c.args.toList o.dst st K
   |_=>False
 |_=>False
def chk (b:Bool)(K:Prop):Prop:=match b with
 |true=>K
 |false=>False
def flat (T:Nat->TI):Nat->Nat->List TK
 |0,t=>[(T t).kind]
 | n+1,t=>match(T t).kind with
   |.struct fs=>fs.flatMap fun f=>flat T n f.1
   |k=>[k]
def l_ (T:Nat->TI):List TK->List SV->Prop
 |[],row=>row=[]
 | k::ks,row=>match row with
   |[]=>False
   | c::cs=>(match k,c with
     |.int k,.i k' _=>k=k'
     |.bool,.b _=>True
     |.str,.s _=>True
     |.slice e,.sl n _=>n=(T e).size
     |_,_=>False)/\l_ T ks cs
def EA (T:Nat->TI)(ks:List TK)(rows:List (List SV)):Prop:=∀row∈rows,l_ T ks row
def jN (T:Nat->TI):List TK->(List SV->Prop)->Prop
 |[],K=>K []
 | k::ks,K=>match k with
   |.int k=>∀n:Int,jN T ks fun r=>K (.i k n::r)
   |.bool=>∀x:Bool,jN T ks fun r=>K (.b x::r)
   |.str=>∀x:List UInt8,jN T ks fun r=>K (.s x::r)
   |.slice e=>∀rows:List (List SV),jN T ks fun r=>K (.sl (T e).size rows::r)
   |_=>False
def pT (T:Nat->TI)(k:TK)(v:SV):SV:=match k,v with
 |.slice e,.nil=>.own (T e).size []
 |_,v=>v
def jo (T:Nat->TI):List TK->List SV->List SV
 |k::ks,v::vs=>pT T k v::jo T ks vs
 |_,vs=>vs
def mZ (T:Nat->TI)(ks:List TK):List (List SV)->List (List SV)
 |[]=>[]
 |r::l=>jo T ks r::mZ T ks l
def ble (a b:Nat):Bool:=Nat.ble a b
def zZ:List (List SV)->Bool
 |[]=>ae
 |_=>ag
def ly (op:BinOp)(x y:SV)(K:SV->Prop):Prop:=match x,y with
 | .i k a,.i k' b=>match op with
   |.add=>chk (aa (k=k')) (K (.i k (k.wrap (a+b))))
   |.sub=>chk (aa (k=k')) (K (.i k (k.wrap (a-b))))
   |.mul=>chk (aa (k=k')) (K (.i k (k.wrap (a*b))))
   |.quo=>chk (aa (k=k')) (b≠0/\K (.i k (k.wrap (a.tdiv b))))
   |.rem=>chk (aa (k=k')) (b≠0/\K (.i k (a.tmod b)))
   |.shl=>0<=b/\K (.i k (k.wrap (a*2^min b.toNat k.bits)))
   |.shr=>0<=b/\K (.i k (a.fdiv (2^min b.toNat k.bits)))
   | .and|.or|.xor=>match pQ op k a b with
     |some r=>chk (aa (k=k')) (K (.i k r))
     |none=>False
   | _=>match kG op a b with
     |some r=>chk (aa (k=k')) (K (.b r))
     |none=>False
 | .s a,.s b=>match op with
   |.add=>a.length+b.length<=9223372036854775807/\K (.s (a++b))
   | _=>match rK op a b with
     |some r=>K (.b r)
     |none=>False
 |_,_=>False
def jq (o i off d:Nat)(K:St->Prop)(st:St):Prop:=match bu st.ob o with
 | some x=>match x.rows[i]? with
   | some row=>match bx row off with
     | .own k rows=>chk (Nat.blt d 100000&&d != o&&x.nm&&ble (off+1) row.length) (match bu (addOb (eG st o x.rows i (wr row off [.u])) d k rows ag).ob o with
       | some y=>match y.rows[i]? with
         |some row1=>chk (y.nm&&ble (off+1) row1.length) (K (eG (addOb (eG st o x.rows i (wr row off [.u])) d k rows ag) o y.rows i (wr row1 off [.ar d])))
         |none=>False
       |none=>False)
     |_=>K st
   |none=>False
 |none=>False
def m8 (o i d:Nat):Nat->Nat->(St->Prop)->St->Prop
 |0,_,K,st=>K st
 |n+1,j,K,st=>jq o i j (d+1000*(j+1)) (m8 o i d n (j+1) K) st
def m9 (T:Nat->TI)(t o i off:Nat)(d:Option Tmp)(K:St->Prop)(st:St):Prop:=match bu st.ob o with
 | some x=>match x.rows[i]? with
   |some row=>chk ((T t).known&&ble (off+(T t).size) row.length&&!cu (valOf T t ((row.drop off).take (T t).size))) (K (aZ st d (valOf T t ((row.drop off).take (T t).size))))
   |none=>False
 |none=>False
def pU (T:Nat->TI)(t o i off:Nat)(x:Ob)(d:Option Tmp)(K:St->Prop)(st:St):Prop:=match(T t).kind with
 | .slice e=>match d with
   |some d=>chk ((T t).known&&(T t).size==1) (i<x.rows.length/\∀row,x.rows[i]? = U row->(off+1<=row.length/\∃r,(row.drop off).take 1=[.own (T e).size r]) /\
     ∀r,(row.drop off).take 1=[.own (T e).size r]->K (aZ (eG st o x.rows i (wr row off [.u])) (U d) (.own (T e).size r)))
   |none=>False
 |_=>chk ((T t).known) (i<x.rows.length/\∀row,x.rows[i]? = U row->(off+(T t).size<=row.length/\l_ T (flat T 4 t) ((row.drop off).take (T t).size)) /\
     jN T (flat T 4 t) fun cs=>(row.drop off).take (T t).size=cs->chk (!cu (valOf T t cs)) (K (aZ st d (valOf T t cs))))
def z0:Option Tmp->Nat
 |some d=>d
 |none=>0
def rL (T:Nat->TI)(t:Nat)(x:Operand)(d:Option Tmp)(K:St->Prop)(st:St):Prop:=match ev st.env x with
 |.p o i off=>m9 T t o i off d K st
 |_=>False
def rM (T:Nat->TI)(t:Nat)(a:Operand)(d:Option Tmp)(st:St)(K:St->Prop):Prop:=match ev st.env a with
 |.ro cells=>chk ((T t).known&&(T t).size != 0&&ble (T t).size cells.length) (K (aZ st d (valOf T t (cells.take (T t).size))))
 | .p o i off=>match bu st.ob o with
   | some x=>match x.nm with
     |true=>m8 o i (z0 d) (T t).size off (rL T t a d K) st
     |false=>pU T t o i off x d K st
   |none=>False
 |_=>False
def uL:List SV->List SV->Prop
 |[],ys=>ys=[]
 | x::xs,ys=>match ys with
   |[]=>False
   |y::ys=>(y=x\/(x = .nil/\∃k,y = .own k []\/y = .sl k []))/\uL xs ys
def uM (T:Nat->TI)(t:Nat)(a:SV)(x:Operand)(st:St)(K:St->Prop):Prop:=match a with
 | .p o i off=>match bu (dA st x).ob o with
   | some y=>chk ((T t).known&&(cellsOf (ev st.env x)).length==(T t).size&&(y.nm||fu (cellsOf (ev st.env x)))&&fG (cellsOf (ev st.env x))) (match y.nm with
     | true=>match y.rows[i]? with
       |some row=>chk (ble (off+(T t).size) row.length) (K (eG (dA st x) o y.rows i (wr row off (cellsOf (ev st.env x)))))
       |none=>False
     |false=>i<y.rows.length/\∀row,y.rows[i]? = U row->off+(T t).size<=row.length/\∃cs,uL (cellsOf (ev st.env x)) cs/\K (eG (dA st x) o y.rows i (wr row off cs)))
   |none=>False
 |_=>False
def rN (T:Nat->TI)(t:Nat)(x:Operand)(lo hi mx:Option Operand)(d:Option Tmp)(st:St)(K:St->Prop):Prop :=
 match(T t).kind,ev st.env x with
 | .slice e,.sl k rows=>chk ((T e).known&&k==(T e).size) (match mx with
   | none=>match fI st.env 0 lo,fI st.env rows.length hi with
     |some a,U b=>(0<=a/\a<=b/\b<=rows.length)/\K (aZ st d (.sl k ((rows.take b.toNat).drop a.toNat)))
     |_,_=>False
   | some m=>match fI st.env 0 lo,hi,fI st.env 0 hi,fI st.env 0 (U m)with
     |some a,U _,U b,U c=>(0<=a/\a<=b/\b<=c/\c<=rows.length/\c≠0)/\K (aZ st d (.sl k ((rows.take b.toNat).drop a.toNat)))
     |_,_,_,_=>False)
 |_,_=>kb T t x lo hi mx d st K
def uN (T:Nat->TI)(e:Nat)(rows:List (List SV))(n:Nat)(d:Option Tmp)(st:St)(K:St->Prop):Prop :=
 EA T (flat T 4 e) rows/\jN T (flat T 4 e) fun row=>rows[n]? = U row->K (aZ st d (.ro row))
def bO (T:Nat->TI)(C:zAz)(o:Oper)(st:St)(K:St->Prop):Prop:=match o.op with
 | .alloc e=>match o.dst with
   |some d=>chk (Nat.blt d 100000&&(T e).known) (K (b_ (addOb st d (T e).size [(T e).zero] ae) d (.p d 0 0)))
   |none=>False
 | .box e x=>match o.dst with
   |some d=>chk (Nat.blt d 100000&&(T e).known&&(cellsOf (ev st.env x)).length==(T e).size&&fG (cellsOf (ev st.env x))) (K (b_ (addOb (dA st x) d (T e).size [di d (cellsOf (ev st.env x))] ae) d (.p d 0 0)))
   |none=>False
 | .build t ps=>match(T t).kind with
   |.struct fs=>chk ((T t).known&&pS T fs&&ot T fs (T t).size (mX st ps)) (K (aZ (j9 st (cx ps)) o.dst (.agg (ka fs (T t).zero (mX st ps)))))
   |_=>False
 | .buildSlice t len ps=>match(T t).kind with
   |.slice e=>chk ((T e).known&&ps.size==len&&ble (len*(T e).size) 16777216&&pR 0 ps.toList&&oq (T e).size (gG st (cx ps)))
     (K (aZ (j9 st (cx ps)) o.dst (.own (T e).size (mZ T (flat T 4 e) ((gG st (cx ps)).map cellsOf)))))
   |_=>False
 |.load t a=>rM T t a o.dst st K
 |.store t a x=>uM T t (ev st.env a) x st (kJ o.dst K)
 | .binOp op t x y _=>match ev st.env x,ev st.env y with
   |.i k a,.i k' b=>ly op (.i k a) (.i k' b) (zY st o.dst K)
   |.s a,.s b=>ly op (.s a) (.s b) (zY st o.dst K)
   |_,_=>a9 T C o st K
 | .convert src dst x=>match(T dst).kind,ev st.env x with
   |.int k,.i _ n=>chk (T src).known (K (aZ st o.dst (.i k (k.wrap n))))
   |_,_=>a9 T C o st K
 | .makeFunc f first caps=>match f with
   |.func n=>chk (first.size==0&&!eF (caps.toList.map (ev st.env))) (K (aZ st o.dst (.fn n (caps.toList.map (ev st.env)))))
   |_=>False
 |.slice t x lo hi mx=>rN T t x lo hi mx o.dst st K
 | .fieldAddr s x f=>match(T s).kind,ev st.env x with
   | .struct fs,.p a i off=>match fs[f]? with
     |some (ft,fo)=>chk ((T ft).known&&(T ft).size != 0) (K (aZ st o.dst (.p a i (off+fo))))
     |none=>False
   | .struct fs,.ro cs=>match fs[f]? with
     |some (ft,fo)=>chk ((T ft).known&&(T ft).size != 0) (K (aZ st o.dst (.ro (cs.drop fo))))
     |none=>False
   |_,_=>False
 | .field s x f=>match(T s).kind,ev st.env x with
   | .struct fs,.agg cs=>match fs[f]? with
     |some (ft,fo)=>chk ((T ft).known&&!eF cs&&ble (fo+(T ft).size) cs.length) (K (aZ st o.dst (valOf T ft ((cs.drop fo).take (T ft).size))))
     |none=>False
   |_,_=>False
 | .indexAddr t x ix=>match(T t).kind,ev st.env x,ev st.env ix with
   |.slice e,.sl k rows,.i _ n=>chk ((T e).known&&k==(T e).size) ((0<=n/\n<rows.length)/\uN T e rows n.toNat o.dst st K)
   |.slice e,.own k rows,.i _ n=>chk ((T e).known&&k==(T e).size) ((0<=n/\n<rows.length)/\uN T e (cC rows) n.toNat o.dst (kH st x) K)
   | .slice e,.ar a,.i _ n=>match bu st.ob a with
     |some y=>chk ((T e).known&&y.k==(T e).size) ((0<=n/\n<y.rows.length)/\K (aZ st o.dst (.p a n.toNat 0)))
     |none=>False
   |_,_,_=>False
 | .extract x j=>match x with
   | .tmp t=>match bx st.env t with
     |.tup vs=>chk (Nat.blt j vs.length) (K (aZ (match cu (bx vs j)with|true=>b_ st t (.tup (cI vs j .u))|false=>st) o.dst (bx vs j)))
     |_=>False
   |_=>False
 | .call c=>match c.callee with
   | .builtin .append=>match c.args.toList,c.argTypes.toList with
     | [x,y],[t,t']=>match(T t).kind,(T t').kind,moreRows st y with
       | .slice e,.slice _,U (k',rows',st1)=>match takeRows st1 (T e).size x with
         |some (k,rows,st2)=>chk ((T e).known&&k==(T e).size&&(k'==(T e).size||zZ rows')) ((rows.length+rows'.length<=9223372036854775807/\(rows.length+rows'.length)*(T e).bytes<=140737488355328) /\
           K (aZ st2 o.dst (.own (T e).size (rows++rows'))))
         |none=>False
       |_,_,_=>False
     |_,_=>False
   |_=>a9 T C o st K
 | .move x=>match x with
   | .tmp t=>match bx st.env t with
     |.own k rows=>chk (Nat.blt t 100000) (K (aZ (b_ (addOb (b_ st t .u) t k rows ag) t (.ar t)) o.dst (.ar t)))
     | v=>match cu v with
       |true=>K (aZ (b_ st t .u) o.dst v)
       |false=>K (aZ st o.dst v)
   |x=>K (aZ st o.dst (ev st.env x))
 |_=>a9 T C o st K
def EB (T:Nat->TI)(C:zAz)(o:Oper)(K:St->Prop)(st:St):Prop:=bO T C o st K
def jO (ops:Array Oper)(o:Oper)(st:St)(yes no:St->Prop):Prop:=match o.guard with
 |none=>yes st
 | some (j,w)=>match(ops[j]?).bind (·.dst)with
   | some d=>match bx st.env d with
     |.sk=>no st
     |.b x=>cnd (x==w) (yes (b_ st d (.b w))) (no (b_ st d (.b !w)))
     |_=>False
   |none=>False
def z6 (T:Nat->TI)(C:zAz)(ops:Array Oper):List Oper->(St->Prop)->St->Prop
 |[],K,st=>K st
 |o::rest,K,st=>jO ops o st (EB T C o (z6 T C ops rest K)) (kJ o.dst (z6 T C ops rest K))
abbrev FP:=Nat->Nat
def zf:FP:=fun _=>0
def one (g:Nat):FP:=fun h=>if h=g then 1 else 0
structure kK where
 blk:Option (Nat×Nat×Nat)
 k:Nat
 n:Nat
structure Gh where
 F:Nat->Prop
 β:Nat->Option kK
def Gh.pure (G:Gh):Gh:=⟨G.F,fun _=>aj⟩
def ones (n:Nat)(vs:List Value):Prop:=∀j v,j<n->vs[j]? = U v->v.oneCell'=ae
mutual
def R (w:World)(G:Gh):SV->Value->FP->Prop
 |.u,_,f=>f=zf
 |.sk,v,f=>f=zf/\v=undef
 |.i k n,v,f=>f=zf/\v = .int k n
 |.b x,v,f=>f=zf/\v = .bool x
 |.s l,v,f=>f=zf/\v = .string ⟨l.toArray⟩
 |.sl k rows,v,f=>f=zf/\∃a cap,v = .slice a rows.length cap/\rows.length<=cap/\(rows=[] \/
   ∃g base c e fr,a=U ⟨g,base,aj⟩/\G.F g/\w.heap[g]? = U (.cells c e fr)/\(∀r∈rows,r.length=k)/\aH w G.pure rows (c.toList.drop base) zf)
 |.own k rows,v,f=>(rows=[]/\f=zf/\∃a,v = .slice a 0 0) \/
   ∃g base cap c e f',v = .slice (U ⟨g,base,aj⟩) rows.length cap/\rows.length<=cap/\w.heap[g]? = U (.cells c e (0,0))/\base+cap*k<=c.size /\
    (∀r∈rows,r.length=k)/\aH w G.pure rows (c.toList.drop base) f'/\f=fun h=>one g h+f' h
 |.ar o,v,f=>f=zf/\∃r,G.β o=U r/\match r.blk with
   |none=>r.n=0/\∃a,v = .slice a 0 0
   |some (g,base,csz)=>∃cap,v = .slice (U ⟨g,base,aj⟩) r.n cap/\r.n<=cap/\base+cap*r.k<=csz
 |.p o i off,v,f=>f=zf/\∃g base csz k n,G.β o=U ⟨U (g,base,csz),k,n⟩/\v = .pointer (U ⟨g,base+i*k+off,aj⟩)
 |.ro cells,v,f=>f=zf/\∃g a c e fr,v = .pointer (U ⟨g,a,aj⟩)/\G.F g/\w.heap[g]? = U (.cells c e fr)/\RL w G.pure cells (c.toList.drop a) zf
 |.nilp,v,f=>f=zf/\v = .pointer aj
 |.nil,v,f=>f=zf/\∃a,v = .slice a 0 0
 |.fn n caps,v,f=>f=zf/\∃vs,v = .func (.func n) #[] vs/\vs.size=caps.length/\RL w G caps vs.toList zf
 |.agg cells,v,f=>∃vs,v = .agg vs/\vs.size=cells.length/\RL w G cells vs.toList f
 |.tup cells,v,f=>∃vs,v = .tuple vs/\vs.size=cells.length/\RL w G cells vs.toList f
def RL (w:World)(G:Gh):List SV->List Value->FP->Prop
 |[],_,f=>f=zf
 |x::l,vs,f=>∃v vs' f1 f2,vs=v::vs'/\R w G x v f1/\RL w G l vs' f2/\f=fun h=>f1 h+f2 h
def aH (w:World)(G:Gh):List (List SV)->List Value->FP->Prop
 |[],_,f=>f=zf
 |r::l,vs,f=>∃f1 f2,RL w G r vs f1/\ones r.length vs/\aH w G l (vs.drop r.length) f2/\f=fun h=>f1 h+f2 h
end
def RO (w:World)(G:Gh)(x:Ob)(f:FP):Prop :=
 ∃r,G.β x.name=U r/\r.k=x.k/\r.n=x.rows.length/\(∀row∈x.rows,row.length=x.k)/\match r.blk with
  |none=>x.rows=[]/\f=zf
  |some (g,base,csz)=>∃c e f',w.heap[g]? = U (.cells c e (0,0))/\c.size=csz/\base+r.n*r.k<=csz /\
    aH w (if x.nm then G else G.pure) x.rows (c.toList.drop base) f'/\f=fun h=>one g h+f' h
def aW (w:World)(G:Gh):List Ob->FP->Prop
 |[],f=>f=zf
 |x::l,f=>∃f1 f2,RO w G x f1/\aW w G l f2/\f=fun h=>f1 h+f2 h
def aQ:List Ob->List Nat:=List.map Ob.name
structure Lv where
 lv:Nat->Prop
 fr:Nat->Prop
 bn:Nat->Option kK
structure aU (w0:World)(L:Lv)(st:St)(tmps:Array Value)(w:World)(G:Gh)(fE fO fX:FP):Prop where
 size:tmps.size=st.env.length
 E:RL w G st.env tmps.toList fE
 O:aW w G st.ob fO
 le:∀g,fE g+fO g+fX g<=1
 fz:∀g,G.F g->fE g+fO g+fX g=0
 lf:∀g,L.lv g->fE g+fO g+fX g=0
 lt:∀g,1<=fE g+fO g+fX g->g<w.heap.size
 nodup:(aQ st.ob).Nodup
 fl:∀g,G.F g->L.lv g->L.fr g
 fm:∀g,L.fr g->G.F g
 bk:∀n r,100000<=n->L.bn n=U r->G.β n=U r
 fsize:∀g,G.F g->g<w.heap.size
 keep:∀g,L.lv g->w.heap[g]? = w0.heap[g]?
 lsize:∀g,L.lv g->g<w0.heap.size
 grow:w0.heap.size<=w.heap.size
 os:w.os=w0.os
 tape:w.tape=w0.tape
 output:w.output=w0.output
def SR (w0:World)(L:Lv)(st:St)(tmps:Array Value)(w:World)(G:Gh):Prop:=∃fE fO,aU w0 L st tmps w G fE fO zf
def z8 (f:FP):(fun h=>zf h+f h)=f:=by funext h;simp[zf]
def ma (f:FP):(fun h=>f h+zf h)=f:=by funext h;simp[zf]
mutual
def R.frame {w w':World}{G G':Gh}(hF:∀ g,G.F g->G'.F g)(hβ:G'.β=G.β)(hw:∀ g,G.F g->w'.heap[g]? = w.heap[g]?) :
  ∀(x:SV) (v:Value) (f:FP),(∀g,1<=f g->w'.heap[g]? = w.heap[g]?)->R w G x v f->R w' G' x v f
 |.u,v,f,hf,h=>by simpa[R]using h
 |.sk,v,f,hf,h=>by simpa[R]using h
 |.i k n,v,f,hf,h=>by simpa[R]using h
 |.b _,v,f,hf,h=>by simpa[R]using h
 |.s _,v,f,hf,h=>by simpa[R]using h
 | .sl k rows,v,f,hf,h=>by
   simp only[R]at h ⊢;obtain⟨h0,a,cap,hv,hc,h⟩:=h;refine⟨h0,a,cap,hv,hc,?_⟩;rcases h with h|⟨g,base,c,e,fr,ha,hg,hh,hl,hr⟩
   ·exact .inl h
   ·exact .inr ⟨g,base,c,e,fr,ha,hF g hg,by rw[hw g hg];exact hh,hl,aH.frame (G:=G.pure) (G':=G'.pure) hF rfl hw rows _ zf (by simp[zf]) hr⟩
 | .own k rows,v,f,hf,h=>by
   simp only[R]at h ⊢;rcases h with h|⟨g,base,cap,c,e,f',hv,hc,hh,hb,hl,hr,hff⟩
   ·exact .inl h
   ·refine .inr ⟨g,base,cap,c,e,f',hv,hc,?_,hb,hl,aH.frame (G:=G.pure) (G':=G'.pure) hF rfl hw rows _ f' (fun j hj=>hf j (by rw[hff];simp only;omega)) hr,hff⟩;rw[hf g (by rw[hff];simp[one])];exact hh
 | .ar o,v,f,hf,h=>by
   simp only[R]at h ⊢;rw[hβ];exact h
 | .p o i off,v,f,hf,h=>by
   simp only[R]at h ⊢;rw[hβ];exact h
 | .ro cells,v,f,hf,h=>by
   simp only[R]at h ⊢;obtain⟨h0,g,a,c,e,fr,hv,hg,hh,hr⟩:=h;exact⟨h0,g,a,c,e,fr,hv,hF g hg,by rw[hw g hg];exact hh,RL.frame (G:=G.pure) (G':=G'.pure) hF rfl hw cells _ zf (by simp[zf]) hr⟩
 |.nilp,v,f,hf,h=>by simpa[R]using h
 |.nil,v,f,hf,h=>by simpa[R]using h
 | .fn n caps,v,f,hf,h=>by
   simp only[R]at h ⊢;obtain⟨h0,vs,hv,hs,hr⟩:=h;exact⟨h0,vs,hv,hs,RL.frame hF hβ hw caps _ zf (by simp[zf]) hr⟩
 | .agg cells,v,f,hf,h=>by
   simp only[R]at h ⊢;obtain⟨vs,hv,hs,hr⟩:=h;exact⟨vs,hv,hs,RL.frame hF hβ hw cells _ f hf hr⟩
 | .tup cells,v,f,hf,h=>by
   simp only[R]at h ⊢;obtain⟨vs,hv,hs,hr⟩:=h;exact⟨vs,hv,hs,RL.frame hF hβ hw cells _ f hf hr⟩
def RL.frame {w w':World}{G G':Gh}(hF:∀ g,G.F g->G'.F g)(hβ:G'.β=G.β)(hw:∀ g,G.F g->w'.heap[g]? = w.heap[g]?) :
  ∀(l:List SV) (vs:List Value) (f:FP),(∀g,1<=f g->w'.heap[g]? = w.heap[g]?)->RL w G l vs f->RL w' G' l vs f
 |[],vs,f,hf,h=>by simpa[RL]using h
 | x::l,vs,f,hf,h=>by
   simp only[RL]at h ⊢;obtain⟨v,vs',f1,f2,hv,h1,h2,hff⟩:=h
   exact⟨v,vs',f1,f2,hv,R.frame hF hβ hw x v f1 (fun g hg=>hf g (by rw[hff];simp only;omega)) h1,
    RL.frame hF hβ hw l vs' f2 (fun g hg=>hf g (by rw[hff];simp only;omega)) h2,hff⟩
def aH.frame {w w':World}{G G':Gh}(hF:∀ g,G.F g->G'.F g)(hβ:G'.β=G.β)(hw:∀ g,G.F g->w'.heap[g]? = w.heap[g]?) :
  ∀(l:List (List SV)) (vs:List Value) (f:FP),(∀g,1<=f g->w'.heap[g]? = w.heap[g]?)->aH w G l vs f->aH w' G' l vs f
 |[],vs,f,hf,h=>by simpa[aH]using h
 | r::l,vs,f,hf,h=>by
   simp only[aH]at h ⊢;obtain⟨f1,f2,h1,ho,h2,hff⟩:=h
   exact⟨f1,f2,RL.frame hF hβ hw r vs f1 (fun g hg=>hf g (by rw[hff];simp only;omega)) h1,ho,
    aH.frame hF hβ hw l _ f2 (fun g hg=>hf g (by rw[hff];simp only;omega)) h2,hff⟩
end
def aW.frame {w w':World}{G G':Gh}(hF:∀ g,G.F g->G'.F g)(hβ:G'.β=G.β)(hw:∀ g,G.F g->w'.heap[g]? = w.heap[g]?) :
  ∀(l:List Ob) (f:FP),(∀g,1<=f g->w'.heap[g]? = w.heap[g]?)->aW w G l f->aW w' G' l f:=by
 intro l
 induction l with
 |nil=>intro f _ h;simpa[aW]using h
 | cons x l ih=>
   intro f hf h;obtain⟨f1,f2,h1,h2,hff⟩:=h;refine⟨f1,f2,?_,ih f2 (fun g hg=>hf g (by rw[hff];simp only;omega)) h2,hff⟩;obtain⟨r,hr,hk,hn,hl,hm⟩:=h1;refine⟨r,by rw[hβ];exact hr,hk,hn,hl,?_⟩;cases hb:r.blk with
   |none=>rw[hb]at hm;exact hm
   | some q=>
     obtain⟨g,base,csz⟩:=q;rw[hb]at hm;obtain⟨c,e,f',hh,hs,hbb,hr',hff'⟩:=hm;have hsub:∀j,1<=f1 j->w'.heap[j]? = w.heap[j]?:=fun j hj=>hf j (by rw[hff];simp only;omega)
     refine⟨c,e,f',by rw[hsub g (by rw[hff'];simp[one])];exact hh,hs,hbb,?_,hff'⟩;split
     ·rename_i hnm;rw[if_pos hnm]at hr';exact aH.frame hF hβ hw _ _ f' (fun j hj=>hsub j (by rw[hff'];simp only;omega)) hr'
     ·rename_i hnm;rw[if_neg hnm]at hr';exact aH.frame (G:=G.pure) (G':=G'.pure) hF rfl hw _ _ f' (fun j hj=>hsub j (by rw[hff'];simp only;omega)) hr'
def m_:∀(l:List SV) (n:Nat),l.length<=n->bx l n = .u
 |[],_,_=>rfl
 |_::l,0,h=>by simp at h
 |_::l,n+1,h=>m_ l n (by simpa using h)
def pV:∀(l:List SV) (n:Nat) (h:n<l.length),bx l n=l[n]
 |x::l,0,h=>rfl
 |x::l,n+1,h=>by simpa[bx]using pV l n (by simpa using h)
@[simp] def EC:∀(l:List SV) (n:Nat) (v:SV),(cI l n v).length=l.length
  |[],_,_=>rfl
  |_::_,0,_=>rfl
  |x::l,n+1,v=>by simp[cI,EC l n v]
def z9:∀(l:List SV) (n:Nat) (v:SV),l.length<=n->cI l n v=l
 |[],_,_,_=>rfl
 |_::l,0,v,h=>by simp at h
 |x::l,n+1,v,h=>by rw[cI,z9 l n v (by simpa using h)]
def iy (o:Nat):∀l:List SV,(di o l).length=l.length
 |[]=>rfl
 |x::l=>by simp[di,iy o l]
def pW:∀l:List SV,(gH l).length=l.length
 |[]=>rfl
 |x::l=>by simp[gH,pW l]
def pX:∀l:List (List SV),(cC l).length=l.length
 |[]=>rfl
 |x::l=>by simp[cC,pX l]
def uO:∀l:List SV,(kI l).length=l.length
 |[]=>rfl
 |x::l=>by simp[kI,uO l]
def mU {w:World}{G:Gh}:∀(l:List SV) (vs:List Value) (f:FP) (n:Nat),n<l.length->RL w G l vs f ->
  ∃(v:Value) (f1 f2:FP),vs[n]? = U v/\R w G (bx l n) v f1/\(f=fun h=>f1 h+f2 h)/\∀x' v' f',R w G x' v' f'->RL w G (cI l n x') (vs.set n v') (fun h=>f' h+f2 h)
 | x::l,vs,f,0,_,h=>by
   obtain⟨v,vs',f1,f2,hv,h1,h2,hff⟩:=h;subst hv;refine⟨v,f1,f2,by simp,h1,hff,fun x' v' f' h'=>⟨v',vs',f',f2,by simp,h',h2,rfl⟩⟩
 | x::l,vs,f,n+1,hn,h=>by
   obtain⟨v,vs',f1,f2,hv,h1,h2,hff⟩:=h;subst hv;obtain⟨u,g1,g2,hu,hr,hg,hput⟩:=mU l vs' f2 n (by simpa using hn) h2;refine⟨u,g1,fun h=>f1 h+g2 h,by simpa using hu,hr,?_,fun x' v' f' h'=>⟨v,_,f1,_,by simp,h1,hput x' v' f' h',?_⟩⟩
   ·rw[hff,hg];funext j;simp only;omega
   ·funext j;simp only;omega
def gJ (w:World)(G:Gh)(v:Value):R w G .u v zf:=by simp[R]
mutual
def jm {w:World}{G:Gh}:∀(x:SV) (v:Value) (f:FP),cu x=ag->R w G x v f->f=zf
 |.own k rows,v,f,h,hr=>by simp[cu]at h
 |.agg cs,v,f,h,hr=>by simp only[R]at hr;obtain⟨vs,_,_,hr⟩:=hr;exact uI cs _ _ (by simpa[cu]using h) hr
 |.tup cs,v,f,h,hr=>by simp only[R]at hr;obtain⟨vs,_,_,hr⟩:=hr;exact uI cs _ _ (by simpa[cu]using h) hr
 |.u,v,f,h,hr=>by simpa[R]using hr
 |.sk,v,f,h,hr=>by simp only[R]at hr;exact hr.1
 |.i _ _,v,f,h,hr=>by simp only[R]at hr;exact hr.1
 |.b _,v,f,h,hr=>by simp only[R]at hr;exact hr.1
 |.s _,v,f,h,hr=>by simp only[R]at hr;exact hr.1
 |.sl _ _,v,f,h,hr=>by simp only[R]at hr;exact hr.1
 |.ar _,v,f,h,hr=>by simp only[R]at hr;exact hr.1
 |.p _ _ _,v,f,h,hr=>by simp only[R]at hr;exact hr.1
 |.ro _,v,f,h,hr=>by simp only[R]at hr;exact hr.1
 |.nilp,v,f,h,hr=>by simp only[R]at hr;exact hr.1
 |.nil,v,f,h,hr=>by simp only[R]at hr;exact hr.1
 |.fn _ _,v,f,h,hr=>by simp only[R]at hr;exact hr.1
def uI {w:World}{G:Gh}:∀(l:List SV) (vs:List Value) (f:FP),eF l=ag->RL w G l vs f->f=zf
 |[],vs,f,_,h=>by simpa[RL]using h
 | x::l,vs,f,hl,h=>by
   simp only[eF,Bool.or_eq_false_iff]at hl;simp only[RL]at h;obtain⟨v,vs',f1,f2,_,h1,h2,hff⟩:=h;rw[jm x v f1 hl.1 h1,uI l vs' f2 hl.2 h2]at hff;rw[hff];funext j;simp[zf]
end
def jP {G G':Gh}(hF:G'.F=G.F):G'.pure=G.pure:=by simp[Gh.pure,hF]
mutual
def R.kill {w:World}{G G':Gh}{o:Nat}(hF:G'.F=G.F)(hβ:∀ n,n≠o->G'.β n=G.β n) :
  ∀(x:SV) (v:Value) (f:FP),R w G x v f->R w G' (kill o x) v f
 | .ar n,v,f,h=>by
   simp only[AM.kill]
   split
   ·simp only[R]at h ⊢;exact h.1
   ·rename_i hn;simp only[R]at h ⊢;rw[hβ n hn];exact h
 | .p n i off,v,f,h=>by
   simp only[AM.kill]
   split
   ·simp only[R]at h ⊢;exact h.1
   ·rename_i hn;simp only[R]at h ⊢;rw[hβ n hn];exact h
 |.fn n caps,v,f,h=>by simp only[AM.kill,R]at h ⊢;obtain⟨h0,vs,hv,hs,hr⟩:=h;exact⟨h0,vs,hv,by rw[iy];exact hs,RL.kill hF hβ caps _ _ hr⟩
 |.agg cs,v,f,h=>by simp only[AM.kill,R]at h ⊢;obtain⟨vs,hv,hs,hr⟩:=h;exact⟨vs,hv,by rw[iy];exact hs,RL.kill hF hβ cs _ _ hr⟩
 |.tup cs,v,f,h=>by simp only[AM.kill,R]at h ⊢;obtain⟨vs,hv,hs,hr⟩:=h;exact⟨vs,hv,by rw[iy];exact hs,RL.kill hF hβ cs _ _ hr⟩
 |.sl k rows,v,f,h=>by simp only[AM.kill,R,jP hF,hF]at h ⊢;exact h
 |.own k rows,v,f,h=>by simp only[AM.kill,R,jP hF]at h ⊢;exact h
 |.ro cells,v,f,h=>by simp only[AM.kill,R,jP hF,hF]at h ⊢;exact h
 |.u,v,f,h=>by simpa[AM.kill,R]using h
 |.sk,v,f,h=>by simpa[AM.kill,R]using h
 |.i _ _,v,f,h=>by simpa[AM.kill,R]using h
 |.b _,v,f,h=>by simpa[AM.kill,R]using h
 |.s _,v,f,h=>by simpa[AM.kill,R]using h
 |.nilp,v,f,h=>by simpa[AM.kill,R]using h
 |.nil,v,f,h=>by simpa[AM.kill,R]using h
def RL.kill {w:World}{G G':Gh}{o:Nat}(hF:G'.F=G.F)(hβ:∀ n,n≠o->G'.β n=G.β n) :
  ∀(l:List SV) (vs:List Value) (f:FP),RL w G l vs f->RL w G' (di o l) vs f
 |[],vs,f,h=>by simpa[di,RL]using h
 | x::l,vs,f,h=>by
   simp only[RL,di]at h ⊢;obtain⟨v,vs',f1,f2,hv,h1,h2,hff⟩:=h;exact⟨v,vs',f1,f2,hv,R.kill hF hβ x _ _ h1,RL.kill hF hβ l _ _ h2,hff⟩
end
def aH.kill {w:World}{G G':Gh}{o:Nat}(hF:G'.F=G.F)(hβ:∀ n,n≠o->G'.β n=G.β n) :
  ∀(l:List (List SV)) (vs:List Value) (f:FP),aH w G l vs f->aH w G' (fH o l) vs f
 |[],vs,f,h=>by simpa[fH,aH]using h
 | r::l,vs,f,h=>by
   obtain⟨f1,f2,h1,ho,h2,hff⟩:=h;exact⟨f1,f2,RL.kill hF hβ r _ _ h1,by rw[iy];exact ho,by rw[iy];exact aH.kill hF hβ l _ _ h2,hff⟩
def ED (o:Nat):∀l:List (List SV),(fH o l).length=l.length
 |[]=>rfl
 |x::l=>by simp[fH,ED o l]
def EE (o:Nat){k:Nat}:∀l:List (List SV),(∀r∈l,r.length=k)->∀r∈fH o l,r.length=k
 |[],_,r,h=>by simp[fH]at h
 | x::l,hl,r,h=>by
   simp only[fH,List.mem_cons]at h;rcases h with rfl|h
   ·rw[iy];exact hl x (by simp)
   ·exact EE o l (fun r hr=>hl r (by simp[hr])) r h
def rO (o:Nat):∀l:List Ob,aQ (gg o l)=(aQ l).filter (· ≠ o)
 |[]=>rfl
 | x::l=>by
   simp only[gg,aQ,bF]
   split
   ·rename_i h;rw[List.filter_cons_of_neg (by simp[h])];exact rO o l
   ·rename_i h;rw[List.filter_cons_of_pos (by simp[h])];simp only[bF];exact congrArg _ (rO o l)
def MD (o:Nat)(l:List Ob):o ∉ aQ (gg o l):=by rw[rO];simp
def rP (o:Nat){l:List Ob}(h:(aQ l).Nodup):(aQ (gg o l)).Nodup:=by rw[rO];exact h.filter _
def aW.kill {w:World}{G G':Gh}{o:Nat}(hF:G'.F=G.F)(hβ:∀ n,n≠o->G'.β n=G.β n) :
  ∀(l:List Ob) (f:FP),aW w G l f->∃f1 f2:FP,aW w G' (gg o l) f1/\f=fun h=>f1 h+f2 h
 |[],f,h=>⟨f,zf,by simpa[gg,aW]using h,by funext j;simp[zf]⟩
 | x::l,f,h=>by
   have hp:G'.pure=G.pure:=jP hF;obtain⟨f1,f2,h1,h2,hff⟩:=h;obtain⟨g1,g2,hk,hg⟩:=aW.kill hF hβ l f2 h2;simp only[gg]
   split
   ·refine⟨g1,fun h=>f1 h+g2 h,hk,?_⟩;rw[hff,hg];funext j;simp only;omega
   ·rename_i hne;refine⟨fun h=>f1 h+g1 h,g2,⟨f1,g1,?_,hk,rfl⟩,by rw[hff,hg];funext j;simp only;omega⟩;obtain⟨r,hr,hrk,hrn,hl,hm⟩:=h1;refine⟨r,by rw[hβ _ hne];exact hr,hrk,?_,?_,?_⟩
    ·simp only;split<;>simp[ED,hrn]
    ·simp only;split
     ·exact EE o _ hl
     ·exact hl
    ·cases hb:r.blk with
     | none=>
       rw[hb]at hm;obtain⟨e1,e2⟩:=hm;refine⟨?_,e2⟩;simp only;split<;>simp[e1,fH]
     | some q=>
       obtain⟨g,base,csz⟩:=q;rw[hb]at hm;obtain⟨c,e,f',hh,hs,hbb,hr',hff'⟩:=hm;refine⟨c,e,f',hh,hs,hbb,?_,hff'⟩;by_cases hnm:x.nm=ae
       ·simp only[hnm,if_true]at hr' ⊢;exact aH.kill hF hβ _ _ _ hr'
       ·simp only[hnm,if_false,cV]at hr' ⊢;rw[hp];exact hr'
def uP {k:Nat}:∀l:List (List SV),(∀r∈l,r.length=k)->∀r∈cC l,r.length=k
 |[],_,r,h=>by simp[cC]at h
 | x::l,hl,r,h=>by
   simp only[cC,List.mem_cons]at h;rcases h with rfl|h
   ·rw[pW];exact hl x (by simp)
   ·exact uP l (fun r hr=>hl r (by simp[hr])) r h
def om {w:World}{G G':Gh}(hF:∀ g,G.F g->G'.F g)(hβ:G'.β=G.β)(x:SV)(v:Value)(f:FP)(h:R w G x v f):R w G' x v f :=
 R.frame hF hβ (fun _ _=>rfl) x v f (fun _ _=>rfl) h
def Mj {w:World}{G G':Gh}(hF:∀ g,G.F g->G'.F g)(hβ:G'.β=G.β)(x:List SV)(v:List Value)(f:FP)(h:RL w G x v f):RL w G' x v f :=
 RL.frame hF hβ (fun _ _=>rfl) x v f (fun _ _=>rfl) h
mutual
def iw {w:World}{G G':Gh}(hF:∀ g,G.F g->G'.F g)(hβ:G'.β=G.β) :
  ∀(x:SV) (v:Value) (f:FP),(∀g,1<=f g->G'.F g)->R w G x v f->R w G' (frz x) v zf
 | .own k rows,v,f,hf,h=>by
   simp only[R,frz]at h ⊢;refine⟨trivial,?_⟩;rcases h with⟨rfl,h0,a,hv⟩|⟨g,base,cap,c,e,f',hv,hc,hh,hb,hl,hr,hff⟩
   ·exact⟨a,0,by simpa[cC]using hv,by simp[cC],.inl rfl⟩
   ·refine⟨U ⟨g,base,aj⟩,cap,by rw[pX];exact hv,by rw[pX];exact hc,.inr ⟨g,base,c,e,(0,0),rfl,hf g (by rw[hff];simp[one]),hh,uP _ hl,?_⟩⟩;exact Ew (G:=G.pure) (G':=G'.pure) hF rfl rows _ f' (fun j hj=>hf j (by rw[hff];simp only;omega)) hr
 | .agg cs,v,f,hf,h=>by
   simp only[R,frz]at h ⊢;obtain⟨vs,hv,hs,hr⟩:=h;exact⟨vs,hv,by rw[pW];exact hs,zT hF hβ cs _ f hf hr⟩
 | .tup cs,v,f,hf,h=>by
   simp only[R,frz]at h ⊢;obtain⟨vs,hv,hs,hr⟩:=h;exact⟨vs,hv,by rw[pW];exact hs,zT hF hβ cs _ f hf hr⟩
 |.u,v,f,hf,h=>by simp only[frz];exact gJ _ _ _
 |.sk,v,f,hf,h=>by simp only[R,frz]at h ⊢;exact⟨trivial,h.2⟩
 |.i _ _,v,f,hf,h=>by simp only[R,frz]at h ⊢;exact⟨trivial,h.2⟩
 |.b _,v,f,hf,h=>by simp only[R,frz]at h ⊢;exact⟨trivial,h.2⟩
 |.s _,v,f,hf,h=>by simp only[R,frz]at h ⊢;exact⟨trivial,h.2⟩
 | .sl k r,v,f,hf,h=>by
   have h':=om hF hβ _ _ _ h;simp only[R,frz]at h' ⊢;exact⟨trivial,h'.2⟩
 | .ar _,v,f,hf,h=>by
   have h':=om hF hβ _ _ _ h;simp only[R,frz]at h' ⊢;exact⟨trivial,h'.2⟩
 | .p _ _ _,v,f,hf,h=>by
   have h':=om hF hβ _ _ _ h;simp only[R,frz]at h' ⊢;exact⟨trivial,h'.2⟩
 | .ro _,v,f,hf,h=>by
   have h':=om hF hβ _ _ _ h;simp only[R,frz]at h' ⊢;exact⟨trivial,h'.2⟩
 |.nilp,v,f,hf,h=>by simp only[R,frz]at h ⊢;exact⟨trivial,h.2⟩
 |.nil,v,f,hf,h=>by simp only[R,frz]at h ⊢;exact⟨trivial,h.2⟩
 | .fn _ _,v,f,hf,h=>by
   have h':=om hF hβ _ _ _ h;simp only[R,frz]at h' ⊢;exact⟨trivial,h'.2⟩
def zT {w:World}{G G':Gh}(hF:∀ g,G.F g->G'.F g)(hβ:G'.β=G.β) :
  ∀(l:List SV) (vs:List Value) (f:FP),(∀g,1<=f g->G'.F g)->RL w G l vs f->RL w G' (gH l) vs zf
 |[],vs,f,hf,h=>by simp[gH,RL]
 | x::l,vs,f,hf,h=>by
   simp only[RL,gH]at h ⊢;obtain⟨v,vs',f1,f2,hv,h1,h2,hff⟩:=h
   exact⟨v,vs',zf,zf,hv,iw hF hβ x v f1 (fun j hj=>hf j (by rw[hff];simp only;omega)) h1,
    zT hF hβ l _ f2 (fun j hj=>hf j (by rw[hff];simp only;omega)) h2,by funext j;simp[zf]⟩
def Ew {w:World}{G G':Gh}(hF:∀ g,G.F g->G'.F g)(hβ:G'.β=G.β) :
  ∀(l:List (List SV)) (vs:List Value) (f:FP),(∀g,1<=f g->G'.F g)->aH w G l vs f->aH w G' (cC l) vs zf
 |[],vs,f,hf,h=>by simp[cC,aH]
 | r::l,vs,f,hf,h=>by
   simp only[aH,cC]at h ⊢;obtain⟨f1,f2,h1,ho,h2,hff⟩:=h
   exact⟨zf,zf,zT hF hβ r vs f1 (fun j hj=>hf j (by rw[hff];simp only;omega)) h1,by rw[pW];exact ho,
    by rw[pW];exact Ew hF hβ l _ f2 (fun j hj=>hf j (by rw[hff];simp only;omega)) h2,by funext j;simp[zf]⟩
end
def aH.split {w:World}{G:Gh}{k:Nat}:∀(rows:List (List SV)) (vs:List Value) (f:FP) (i:Nat) (row:List SV),rows[i]? = U row->(∀r∈rows,r.length=k)->aH w G rows vs f ->
  ∃f1 f2:FP,RL w G row (vs.drop (i*k)) f1/\ones k (vs.drop (i*k))/\(f=fun h=>f1 h+f2 h)/\∀(row':List SV) (vs':List Value) (f':FP),row'.length=k->ones k (vs'.drop (i*k)) ->
   (∀j,j<i*k\/(i+1)*k<=j->vs'[j]? = vs[j]?)->RL w G row' (vs'.drop (i*k)) f'->aH w G (rows.set i row') vs' (fun h=>f' h+f2 h):=by
 intro rows
 induction rows with
 |nil=>intro vs f i row hi;simp at hi
 | cons r rows ih=>
   intro vs f i row hi hl h;simp only[aH]at h;obtain⟨f1,f2,h1,ho,h2,hff⟩:=h;have hrl:r.length=k:=hl r (by simp);cases i with
   | zero=>
     simp only[List.getElem?_cons_zero,aF]at hi;subst hi;refine⟨f1,f2,by simpa using h1,by simpa[hrl]using ho,hff,fun row' vs' f' hlen ho' hsame hr=>?_⟩;simp only[List.set_cons_zero,aH]
     refine⟨f',f2,by simpa using hr,by simpa[hlen]using ho',?_,rfl⟩
     have:vs'.drop row'.length=vs.drop r.length:=by
      apply List.ext_getElem?;intro j;simp only[List.getElem?_drop,hlen,hrl]
      exact hsame _ (.inr (by omega))
     rw[this];exact h2
   | succ i=>
     simp only[List.getElem?_cons_succ]at hi;obtain⟨g1,g2,hr,hgo,hg,hput⟩:=ih (vs.drop r.length) f2 i row hi (fun q hq=>hl q (by simp[hq])) h2;have e:(i+1)*k=k+i*k:=by rw[Nat.add_mul];omega
     refine⟨g1,fun h=>f1 h+g2 h,?_,by rw[List.drop_drop,hrl]at hgo;rw[e];exact hgo,by rw[hff,hg];funext j;simp only;omega,fun row' vs' f' hlen ho' hsame hr'=>?_⟩
     ·rw[List.drop_drop,hrl]at hr;rw[e];exact hr
     ·simp only[List.set_cons_succ,aH]
      refine⟨f1,fun h=>f' h+g2 h,?_,fun j v hj hv=>ho j v hj (by rw[<-hsame j (.inl (by rw[e];omega))];exact hv),?_,by funext j;simp only;omega⟩
      ·have htake:∀(l:List SV) (a b:List Value) (fp:FP),(∀j,j<l.length->a[j]? = b[j]?)->RL w G l b fp->RL w G l a fp:=by
        intro l
        induction l with
        |nil=>intro a b fp _ h;simpa[RL]using h
        | cons x l ihl=>
          intro a b fp hab h;simp only[RL]at h ⊢;obtain⟨v,vs',p1,p2,hv,q1,q2,hp⟩:=h;subst hv;have h0:=hab 0 (by simp);cases a with
          |nil=>simp at h0
          | cons y a=>
            simp only[List.getElem?_cons_zero,aF]at h0;subst h0;exact⟨y,a,p1,p2,rfl,q1,ihl a vs' p2 (fun j hj=>by have:=hab (j+1) (by simpa using hj);simpa using this) q2,hp⟩
       exact htake r vs' vs f1 (fun j hj=>hsame j (.inl (by rw[e];omega))) h1
      ·refine hput row' _ f' hlen (by rw[List.drop_drop,hrl,<-e];exact ho') ?_ ?_
       ·intro j hj;simp only[List.getElem?_drop,hrl]
        refine hsame _ ?_;have e2:(i+1+1)*k=k+(i+1)*k:=by rw[Nat.add_mul (i+1) 1 k];omega
        rcases hj with hj|hj
        ·left;omega
        ·right;rw[e2];omega
       ·rw[List.drop_drop,hrl,<-e];exact hr'
def j8 {w:World}{G:Gh}:∀(l:List SV) (a b:List Value) (f:FP),(∀j,j<l.length->a[j]? = b[j]?)->RL w G l b f->RL w G l a f:=by
 intro l
 induction l with
 |nil=>intro a b fp _ h;simpa[RL]using h
 | cons x l ihl=>
   intro a b fp hab h;simp only[RL]at h ⊢;obtain⟨v,vs',p1,p2,hv,q1,q2,hp⟩:=h;subst hv;have h0:=hab 0 (by simp);cases a with
   |nil=>simp at h0
   | cons y a=>
     simp only[List.getElem?_cons_zero,aF]at h0;subst h0;exact⟨y,a,p1,p2,rfl,q1,ihl a vs' p2 (fun j hj=>by have:=hab (j+1) (by simpa using hj);simpa using this) q2,hp⟩
def rH {w:World}{G:Gh}{k:Nat}:∀(l:List (List SV)) (a b:List Value) (f:FP),(∀r∈l,r.length=k)->(∀j,j<l.length*k->a[j]? = b[j]?)->aH w G l b f->aH w G l a f:=by
 intro l
 induction l with
 |nil=>intro a b fp _ _ h;simpa[aH]using h
 | cons r l ih=>
   intro a b f hl hab h;simp only[aH]at h ⊢;obtain⟨f1,f2,h1,ho,h2,hff⟩:=h;have hrl:r.length=k:=hl r (by simp);refine⟨f1,f2,j8 r a b f1 (fun j hj=>hab j ?_) h1,fun j v hj hv=>ho j v hj (by rw[<-hab j (by simp only[bL,Nat.add_mul];omega)];exact hv),ih _ _ f2 (fun q hq=>hl q (by simp[hq])) (fun j hj=>?_) h2,hff⟩
   ·simp only[bL,Nat.add_mul];omega
   ·simp only[List.getElem?_drop,hrl];exact hab _ (by simp only[bL,Nat.add_mul];omega)
def aH.append {w:World}{G:Gh}{k:Nat}:∀(a b:List (List SV)) (vs:List Value) (f g:FP),(∀r∈a,r.length=k)->aH w G a vs f->aH w G b (vs.drop (a.length*k)) g->aH w G (a++b) vs (fun h=>f h+g h):=by
 intro a
 induction a with
 |nil=>intro b vs f g _ h1 h2;simp only[aH]at h1;subst h1;simpa[zf]using h2
 | cons r a ih=>
   intro b vs f g hl h1 h2;simp only[aH,cF]at h1 ⊢;obtain⟨f1,f2,hr,ho,hs,hff⟩:=h1;have hrl:r.length=k:=hl r (by simp);refine⟨f1,fun h=>f2 h+g h,hr,ho,ih b _ f2 g (fun q hq=>hl q (by simp[hq])) hs ?_,by rw[hff];funext j;simp only;omega⟩;rw[List.drop_drop,hrl];have:(r::a).length*k=k+a.length*k:=by simp only[bL,Nat.add_mul];omega
   rw[<-this];exact h2
def aH.drop {w:World}{G:Gh}{k:Nat}:∀(n:Nat) (l:List (List SV)) (vs:List Value) (f:FP),(∀r∈l,r.length=k)->aH w G l vs f->n<=l.length->∃f1:FP,aH w G (l.drop n) (vs.drop (n*k)) f1/\∀g,f1 g<=f g
 |0,l,vs,f,_,h,_=>⟨f,by simpa using h,fun _=>bJ _⟩
 |n+1,[],vs,f,_,h,hn=>by simp at hn
 | n+1,r::l,vs,f,hl,h,hn=>by
   simp only[aH]at h;obtain⟨f1,f2,h1,ho,h2,hff⟩:=h;have hrl:r.length=k:=hl r (by simp);obtain⟨g,hg,hle⟩:=aH.drop n l _ f2 (fun q hq=>hl q (by simp[hq])) h2 (by simpa using hn);refine⟨g,?_,fun j=>by rw[hff];have:=hle j;simp only;omega⟩;rw[List.drop_drop,hrl]at hg;have:(n+1)*k=k+n*k:=by rw[Nat.add_mul];omega
   rw[this];simpa using hg
def aH.take {w:World}{G:Gh}:∀(n:Nat) (l:List (List SV)) (vs:List Value) (f:FP),aH w G l vs f->∃f1:FP,aH w G (l.take n) vs f1/\∀g,f1 g<=f g
 |0,l,vs,f,h=>⟨zf,by simp[aH],fun _=>by simp[zf]⟩
 |n+1,[],vs,f,h=>⟨f,by simpa using h,fun _=>bJ _⟩
 | n+1,r::l,vs,f,h=>by
   simp only[aH]at h;obtain⟨f1,f2,h1,ho,h2,hff⟩:=h;obtain⟨g,hg,hle⟩:=aH.take n l _ f2 h2;exact⟨fun h=>f1 h+g h,by simp only[List.take_succ_cons,aH];exact⟨f1,g,h1,ho,hg,rfl⟩,fun j=>by rw[hff];have:=hle j;simp only;omega⟩
def RL.drop {w:World}{G:Gh}:∀(n:Nat) (l:List SV) (vs:List Value) (f:FP),RL w G l vs f->∃f1:FP,RL w G (l.drop n) (vs.drop n) f1/\∀g,f1 g<=f g
 |0,l,vs,f,h=>⟨f,by simpa using h,fun _=>bJ _⟩
 |n+1,[],vs,f,h=>⟨zf,by simp[RL],fun _=>by simp[zf]⟩
 | n+1,r::l,vs,f,h=>by
   simp only[RL]at h;obtain⟨v,vs',f1,f2,hv,h1,h2,hff⟩:=h;subst hv;obtain⟨g,hg,hle⟩:=RL.drop n l vs' f2 h2;exact⟨g,by simpa using hg,fun j=>by rw[hff];have:=hle j;simp only;omega⟩
def RL.take {w:World}{G:Gh}:∀(n:Nat) (l:List SV) (vs:List Value) (f:FP),RL w G l vs f->∃f1:FP,RL w G (l.take n) (vs.take n) f1/\∀g,f1 g<=f g
 |0,l,vs,f,h=>⟨zf,by simp[RL],fun _=>by simp[zf]⟩
 |n+1,[],vs,f,h=>⟨zf,by simp[RL],fun _=>by simp[zf]⟩
 | n+1,r::l,vs,f,h=>by
   simp only[RL]at h;obtain⟨v,vs',f1,f2,hv,h1,h2,hff⟩:=h;subst hv;obtain⟨g,hg,hle⟩:=RL.take n l vs' f2 h2;refine⟨fun h=>f1 h+g h,?_,fun j=>by rw[hff];have:=hle j;simp only;omega⟩;simp only[List.take_succ_cons,RL]
   exact⟨v,_,f1,g,rfl,h1,hg,rfl⟩
def Ex {w:World}{G:Gh}:∀(l:List SV) (vs:List Value) (f:FP),RL w G l vs f->l.length<=vs.length
 |[],vs,f,h=>by simp
 | r::l,vs,f,h=>by
   simp only[RL]at h;obtain⟨v,vs',f1,f2,hv,h1,h2,hff⟩:=h;subst hv;have:=Ex l vs' f2 h2;simp;omega
def RL.append {w:World}{G:Gh}:∀(a b:List SV) (vs:List Value) (f g:FP),RL w G a vs f->RL w G b (vs.drop a.length) g->RL w G (a++b) vs (fun h=>f h+g h)
 |[],b,vs,f,g,h1,h2=>by simp only[RL]at h1;subst h1;simpa[zf]using h2
 | x::a,b,vs,f,g,h1,h2=>by
   simp only[RL,cF]at h1 ⊢;obtain⟨v,vs',f1,f2,hv,q1,q2,hff⟩:=h1;subst hv;exact⟨v,vs',f1,fun h=>f2 h+g h,rfl,q1,RL.append a b vs' f2 g q2 (by simpa using h2),by rw[hff];funext j;simp only;omega⟩
end
end Go.AM
section
namespace Go.AM
def bK {f a b:FP}(h:f=fun x=>a x+b x)(g:Nat):f g=a g+b g:=by rw[h]
def R.str {w:World}{G:Gh}{b:ByteArray}:R w G (.s b.data.toList) (.string b) zf:=by
 simp only[R];exact⟨trivial,by cases b;simp⟩
def R.const (w:World)(G:Gh):∀v:Value,R w G (zCe v) v zf:=by
 intro v;unfold zCe;split
 ·simp[R]
 ·simp[R]
 ·exact R.str
 ·simp[R]
 ·simp[R]
 ·exact gJ _ _ _
section
variable {w0 w w':World}{L:Lv}{st:St}{tmps:Array Value}{G G':Gh}{fE fO fX:FP}
def aU.less (h:aU w0 L st tmps w G fE fO fX){f:FP}(hf:∀ g,f g<=fX g):aU w0 L st tmps w G fE fO f :=
 {h with
  le:=fun g=>by have:=h.le g;have:=hf g;omega
  fz:=fun g hg=>by have:=h.fz g hg;have:=hf g;omega
  lf:=fun g hg=>by have:=h.lf g hg;have:=hf g;omega
  lt:=fun g hg=>h.lt g (by have:=hf g;omega)}
def aU.put (h:aU w0 L st tmps w G fE fO fX){sv:SV}{v:Value}{fV fX':FP}(hr:R w G sv v fV)(hX:∀ g,fX' g+fV g<=fX g)(t:Nat) :
  ∃fE',aU w0 L (b_ st t sv) (tmps.setIfInBounds t v) w G fE' fO fX':=by
 by_cases ht:t<st.env.length
 ·obtain⟨u,f1,f2,hu,h1,hff,hput⟩:=mU st.env tmps.toList fE t ht h.E;refine⟨fun g=>fV g+f2 g,?_⟩
  exact
   {size:=by simp[b_,h.size]
    E:=by simpa[b_,Array.toList_setIfInBounds]using hput sv v fV hr
    O:=h.O
    le:=fun g=>by have:=h.le g;have:=hX g;have:=bK hff g;omega
    fz:=fun g hg=>by have:=h.fz g hg;have:=hX g;have:=bK hff g;omega
    lf:=fun g hg=>by have:=h.lf g hg;have:=hX g;have:=bK hff g;omega
    lt:=fun g hg=>h.lt g (by have:=hX g;have:=bK hff g;omega)
    nodup:=h.nodup,fl:=h.fl,fm:=h.fm,bk:=h.bk,fsize:=h.fsize,keep:=h.keep,lsize:=h.lsize,grow:=h.grow,os:=h.os,tape:=h.tape,output:=h.output}
 ·refine⟨fE,?_⟩;have e1:b_ st t sv=st:=by cases st;simp only[b_,z9 _ t sv (by simpa using ht)]
  have e2:tmps.setIfInBounds t v=tmps:=by
   apply Array.ext';rw[Array.toList_setIfInBounds,List.set_eq_of_length_le (by have:=h.size;simpa[this]using ht)]
  rw[e1,e2];exact h.less (fun g=>by have:=hX g;omega)
def aU.putD (h:aU w0 L st tmps w G fE fO fX){sv:SV}{v:Value}{fV fX':FP}(hr:R w G sv v fV)(hX:∀ g,fX' g+fV g<=fX g)(d:Option Tmp)(a:Act)(ha:a.tmps=tmps) :
  ∃fE',aU w0 L (aZ st d sv) (a.put d v).tmps w G fE' fO fX':=by
 cases d with
 |none=>exact⟨fE,by simpa[aZ,Act.put,ha]using h.less (fun g=>by have:=hX g;omega)⟩
 |some t=>obtain⟨f,hf⟩:=h.put hr hX t;exact⟨f,by simpa[aZ,Act.put,ha]using hf⟩
def aU.look (h:aU w0 L st tmps w G fE fO fX)(t:Nat):∃f:FP,R w G (bx st.env t) (tmps.getD t undef) f/\∀g,f g<=fE g:=by
 by_cases ht:t<st.env.length
 ·obtain⟨u,f1,f2,hu,h1,hff,_⟩:=mU st.env tmps.toList fE t ht h.E
  have e:tmps.getD t undef=u:=by
   have:tmps[t]? = U u:=by simpa using hu
   simp[Array.getD_eq_getD_getElem?,this]
  rw[e];exact⟨f1,h1,fun g=>by rw[hff];simp only;omega⟩
 ·rw[m_ _ _ (by omega)];exact⟨zf,gJ _ _ _,fun g=>by simp[zf]⟩
def aU.takeT (h:aU w0 L st tmps w G fE fO fX)(t:Nat) :
  ∃(fE' f:FP),R w G (bx st.env t) (tmps.getD t undef) f/\aU w0 L (b_ st t .u) tmps w G fE' fO (fun g=>fX g+f g):=by
 by_cases ht:t<st.env.length
 ·obtain⟨u,f1,f2,hu,h1,hff,hput⟩:=mU st.env tmps.toList fE t ht h.E
  have e:tmps.getD t undef=u:=by
   have:tmps[t]? = U u:=by simpa using hu
   simp[Array.getD_eq_getD_getElem?,this]
  have h2:=hput .u u zf (gJ _ _ _)
  have e2:tmps.toList.set t u=tmps.toList:=by
   apply List.ext_getElem?;intro j;by_cases hj:t=j
   ·subst hj;rw[List.getElem?_set_self' ];simp[hu]
   ·rw[List.getElem?_set_ne hj]
  rw[e2]at h2;rw[e];refine⟨fun g=>zf g+f2 g,f1,h1,?_⟩
  exact
   {size:=by simp[b_,h.size]
    E:=h2
    O:=h.O
    le:=fun g=>by have:=h.le g;have:=bK hff g;simp only[zf];omega
    fz:=fun g hg=>by have:=h.fz g hg;have:=bK hff g;simp only[zf];omega
    lf:=fun g hg=>by have:=h.lf g hg;have:=bK hff g;simp only[zf];omega
    lt:=fun g hg=>h.lt g (by have:=bK hff g;simp only[zf]at hg;omega)
    nodup:=h.nodup,fl:=h.fl,fm:=h.fm,bk:=h.bk,fsize:=h.fsize,keep:=h.keep,lsize:=h.lsize,grow:=h.grow,os:=h.os,tape:=h.tape,output:=h.output}
 ·have e1:b_ st t .u=st:=by cases st;simp only[b_,z9 _ t .u (by simpa using ht)]
  rw[m_ _ _ (by omega),e1];exact⟨fE,zf,gJ _ _ _,h.less (fun g=>by simp[zf])⟩
def aU.ev (h:aU w0 L st tmps w G fE fO fX)(a:Act)(ha:a.tmps=tmps)(x:Operand):∃f:FP,R w G (ev st.env x) (a.eval x) f/\∀g,f g<=fE g:=by
 cases x with
 |tmp t=>simpa[AM.ev,Act.eval,ha]using h.look t
 |const v=>exact⟨zf,R.const _ _ _,fun g=>by simp[zf]⟩
 |global g=>exact⟨zf,gJ _ _ _,fun g=>by simp[zf]⟩
 |func f=>exact⟨zf,by simp[AM.ev,Act.eval,R,RL],fun g=>by simp[zf]⟩
def aU.ev0 (h:aU w0 L st tmps w G fE fO fX)(a:Act)(ha:a.tmps=tmps)(x:Operand)(hx:cu (AM.ev st.env x)=ag):R w G (AM.ev st.env x) (a.eval x) zf:=by
 obtain⟨f,hr,_⟩:=h.ev a ha x;have:=jm _ _ _ hx hr;rw[this]at hr;exact hr
def aU.take (h:aU w0 L st tmps w G fE fO fX)(a:Act)(ha:a.tmps=tmps)(x:Operand) :
  ∃(fE' f:FP),R w G (AM.ev st.env x) (a.eval x) f/\aU w0 L (dA st x) tmps w G fE' fO (fun g=>fX g+f g):=by
 cases x with
 | tmp t=>
   simp only[dA,AM.ev,Act.eval,ha]
   split
   ·exact h.takeT t
   ·rename_i hn;obtain⟨f,hr,_⟩:=h.look t;have:=jm _ _ _ (by simpa using hn) hr;rw[this]at hr;exact⟨fE,zf,hr,by simpa[ma]using h⟩
 |const v=>exact⟨fE,zf,R.const _ _ _,by simpa[dA,ma]using h⟩
 |global g=>exact⟨fE,zf,gJ _ _ _,by simpa[dA,ma]using h⟩
 |func f=>exact⟨fE,zf,by simp[AM.ev,Act.eval,R,RL],by simpa[dA,ma]using h⟩
def aU.takeL (a:Act)(ha:a.tmps=tmps):∀(xs:List Operand) {st:St} {fE fX:FP} (_:aU w0 L st tmps w G fE fO fX),
  ∃(fE' f:FP),RL w G (gG st xs) (xs.map a.eval) f/\aU w0 L (j9 st xs) tmps w G fE' fO (fun g=>fX g+f g)
 |[],st,fE,fX,h=>⟨fE,zf,by simp[gG,RL],by simpa[j9,ma]using h⟩
 | x::xs,st,fE,fX,h=>by
   obtain⟨fE1,f1,hr,h1⟩:=h.take a ha x;obtain⟨fE2,f2,hr2,h2⟩:=aU.takeL a ha xs h1;refine⟨fE2,fun g=>f1 g+f2 g,?_,?_⟩
   ·simp only[gG,RL,bF];exact⟨_,_,f1,f2,rfl,hr,hr2,rfl⟩
   ·exact h2.less (fun g=>by dsimp only;omega)
def aU.frame (h:aU w0 L st tmps w G fE fO fX)(hsize:w.heap.size<=w'.heap.size)(hos:w'.os=w.os)(htape:w'.tape=w.tape)(hout:w'.output=w.output)
  (hF:∀g,G.F g->G'.F g) (hβ:G'.β=G.β) (hF':∀g,G'.F g->G.F g\/(fE g+fO g+fX g=0/\¬L.lv g/\g<w'.heap.size) )
  (hb:∀g,g<w.heap.size->w'.heap[g]? = w.heap[g]?):aU w0 L st tmps w' G' fE fO fX where
 size:=h.size
 E:=RL.frame hF hβ (fun g hg=>hb g (h.fsize g hg)) _ _ _ (fun g hg=>hb g (h.lt g (by omega))) h.E
 O:=aW.frame hF hβ (fun g hg=>hb g (h.fsize g hg)) _ _ (fun g hg=>hb g (h.lt g (by omega))) h.O
 le:=h.le
 fz:=fun g hg=>by rcases hF' g hg with h1|h1;exact h.fz g h1;exact h1.1
 lf:=h.lf
 lt:=fun g hg=>Nat.lt_of_lt_of_le (h.lt g hg) hsize
 nodup:=h.nodup
 fl:=fun g hg hL=>by rcases hF' g hg with h1|h1;exact h.fl g h1 hL;exact absurd hL h1.2.1
 fsize:=fun g hg=>by rcases hF' g hg with h1|h1;exact Nat.lt_of_lt_of_le (h.fsize g h1) hsize;exact h1.2.2
 keep:=fun g hg=>(hb g (Nat.lt_of_lt_of_le (h.lsize g hg) h.grow)).trans (h.keep g hg)
 lsize:=h.lsize
 fm:=fun g hg=>hF g (h.fm g hg)
 bk:=fun n r hn hb=>by rw[hβ];exact h.bk n r hn hb
 grow:=Nat.le_trans h.grow hsize
 os:=hos.trans h.os
 tape:=htape.trans h.tape
 output:=hout.trans h.output
def aU.drew (h:aU w0 L st tmps w G fE fO fX):aU w0 L st tmps w.drew G fE fO fX :=
 h.frame (bJ _) rfl rfl rfl (fun _ h=>h) rfl (fun _ h=>.inl h) (fun _ _=>rfl)
def aU.alloc (h:aU w0 L st tmps w G fE fO fX)(o:Obj):aU w0 L st tmps (w.alloc o) G fE fO fX :=
 h.frame (by simp) rfl rfl rfl (fun _ h=>h) rfl (fun _ h=>.inl h) (fun g hg=>heap_alloc_old w o hg)
def aU.fresh (h:aU w0 L st tmps w G fE fO fX)(o:Obj):aU w0 L st tmps (w.alloc o) G fE fO (fun g=>fX g+one w.heap.size g):=by
 have h':=h.alloc o
 have hz:fE w.heap.size+fO w.heap.size+fX w.heap.size=0:=by
  have:=h.lt w.heap.size;omega
 exact
  {h' with
   le:=fun g=>by have:=h.le g;simp only[one];split<;>first|omega|(subst_vars;omega)
   fz:=fun g hg=>by
    have:=h.fz g hg;have:=h.fsize g hg;simp only[one];split<;>omega
   lf:=fun g hg=>by
    have:=h.lf g hg;have:=h.lsize g hg;have:=h.grow;simp only[one];split<;>omega
   lt:=fun g hg=>by
    simp only[one]at hg;split at hg
    ·subst_vars;simp
    ·exact h'.lt g (by omega)}
end
end Go.AM
end
section
namespace Go.AM
def Gh.bind (G:Gh)(o:Nat)(r:kK):Gh:=⟨G.F,fun n=>if n=o then U r else G.β n⟩
def zU {G:Gh}{o:Nat}{r:kK}:∀n,n≠o->(G.bind o r).β n=G.β n:=fun n hn=>by simp[Gh.bind,hn]
def jM {G:Gh}{o:Nat}{r:kK}:(G.bind o r).β o=U r:=by simp[Gh.bind]
section
variable {w0 w w':World}{L:Lv}{st:St}{tmps:Array Value}{G G':Gh}{fE fO fX:FP}
def aU.killSt (h:aU w0 L st tmps w G fE fO fX)(o:Nat)(ho:o<100000)(hF:G'.F=G.F)(hβ:∀ n,n≠o->G'.β n=G.β n) :
  ∃fO',(∀g,fO' g<=fO g)/\aU w0 L (killSt o st) tmps w G' fE fO' fX:=by
 obtain⟨f1,f2,hk,hff⟩:=aW.kill hF hβ st.ob fO h.O;refine⟨f1,fun g=>by rw[hff];simp only;omega,?_⟩
 exact
  {size:=by simp[AM.killSt,iy,h.size]
   E:=RL.kill hF hβ _ _ _ h.E
   O:=hk
   le:=fun g=>by have:=h.le g;have:=bK hff g;omega
   fz:=fun g hg=>by have:=h.fz g (by rw[<-hF];exact hg);have:=bK hff g;omega
   lf:=fun g hg=>by have:=h.lf g hg;have:=bK hff g;omega
   lt:=fun g hg=>h.lt g (by have:=bK hff g;omega)
   nodup:=rP o h.nodup
   fl:=fun g hg hL=>h.fl g (by rw[<-hF];exact hg) hL
   fsize:=fun g hg=>h.fsize g (by rw[<-hF];exact hg)
   fm:=fun g hg=>by rw[hF];exact h.fm g hg
   bk:=fun n r hn hb=>by rw[hβ n (by omega)];exact h.bk n r hn hb
   keep:=h.keep,lsize:=h.lsize,grow:=h.grow,os:=h.os,tape:=h.tape,output:=h.output}
def aU.addOb (h:aU w0 L st tmps w G fE fO fX)(o k:Nat)(ho:o<100000)(rows:List (List SV))(nm:Bool)(r:kK){fV fX':FP}
  (hro:RO w (G.bind o r) ⟨o,k,rows,nm⟩ fV) (hX:∀g,fX' g+fV g<=fX g) :
  ∃fO',aU w0 L (addOb st o k rows nm) tmps w (G.bind o r) fE fO' fX':=by
 obtain⟨fO1,hle,h1⟩:=h.killSt (G':=G.bind o r) o ho rfl zU;refine⟨fun g=>fV g+fO1 g,?_⟩
 exact
  {size:=h1.size
   E:=h1.E
   O:=⟨fV,fO1,hro,h1.O,rfl⟩
   le:=fun g=>by have:=h1.le g;have:=hX g;(try dsimp only);omega
   fz:=fun g hg=>by have:=h1.fz g hg;have:=hX g;(try dsimp only);omega
   lf:=fun g hg=>by have:=h1.lf g hg;have:=hX g;(try dsimp only);omega
   lt:=fun g hg=>h1.lt g (by have:=hX g;(try dsimp only at hg);omega)
   nodup:=by
    show(o::aQ (gg o st.ob)).Nodup;exact List.nodup_cons.2 ⟨MD o _,h1.nodup⟩
   fl:=h1.fl
   fm:=h1.fm,bk:=h1.bk,fsize:=h1.fsize,keep:=h1.keep,lsize:=h1.lsize,grow:=h1.grow,os:=h1.os,tape:=h1.tape,output:=h1.output}
def kc:∀(l:List Ob) (o:Nat) (x:Ob),bu l o=U x->x.name=o
 |[],o,x,h=>by simp[bu]at h
 | y::l,o,x,h=>by
   simp only[bu]at h;split at h
   ·rename_i hn;simp at h;subst h;exact hn
   ·exact kc l o x h
def EF (o:Nat)(rows:List (List SV)):∀l:List Ob,aQ (dz l o rows)=aQ l
 |[]=>rfl
 | x::l=>by
   simp only[dz]
   split
   ·rfl
   ·simp only[aQ,bF];exact congrArg _ (EF o rows l)
def aW.split:∀(l:List Ob) (f:FP) (o:Nat) (x:Ob),bu l o=U x->aW w G l f ->
  ∃f1 f2:FP,RO w G x f1/\(f=fun h=>f1 h+f2 h)/\∀(w':World) (rows':List (List SV)) (f1':FP),(∀g,G.F g->w'.heap[g]? = w.heap[g]?)->(∀g,1<=f2 g->w'.heap[g]? = w.heap[g]?) ->
   RO w' G {x with rows:=rows'} f1'->aW w' G (dz l o rows') (fun h=>f1' h+f2 h)
 |[],f,o,x,hg,h=>by simp[bu]at hg
 | y::l,f,o,x,hg,h=>by
   obtain⟨f1,f2,h1,h2,hff⟩:=h;simp only[bu]at hg;split at hg
   ·rename_i hn;simp at hg;subst hg;refine⟨f1,f2,h1,hff,fun w' rows' f1' hF hb hr=>?_⟩;rw[dz,if_pos hn];exact⟨f1',f2,hr,aW.frame (G:=G) (fun _ h=>h) rfl hF _ _ hb h2,rfl⟩
   ·rename_i hn;obtain⟨g1,g2,hr,hgg,hput⟩:=aW.split l f2 o x hg h2;refine⟨g1,fun h=>f1 h+g2 h,hr,by rw[hff,hgg];funext j;simp only;omega,fun w' rows' f1' hF hb hr'=>?_⟩;rw[dz,if_neg hn];refine⟨f1,fun h=>f1' h+g2 h,?_,hput w' rows' f1' hF (fun g hg=>hb g (by(try dsimp only);omega)) hr',by funext j;simp only;omega⟩;have:=aW.frame (G:=G) (w':=w') (fun _ h=>h) rfl hF [y] (fun h=>f1 h+zf h) (fun g hg=>hb g (by simp only[zf]at hg;(try dsimp only);omega)) ⟨f1,zf,h1,rfl,rfl⟩;obtain⟨a,b,ha,hb',hab⟩:=this;have hb0:b=zf:=hb';subst hb0;have:f1=a:=by funext j;have:=congrFun hab j;simpa[zf]using this
    rw[this];exact ha
def z_ (w:World)(g h:Nat)(cs:Array Value)(hne:h≠g):(w.setRow g cs).heap[h]? = w.heap[h]?:=by
 simp only[World.setRow,Array.getElem?_modify]
 rw[if_neg (fun e=>hne e.symm)]
def aU.write (h:aU w0 L st tmps w G fE fO fX){o:Nat}{x:Ob}(hg:bu st.ob o=U x){r:kK}(hr:G.β o=U r){g base csz:Nat}(hblk:r.blk=U (g,base,csz)) :
  r.k=x.k/\r.n=x.rows.length/\(∀row∈x.rows,row.length=x.k)/\∃(c:Array Value) (e:TypeId) (f':FP),w.heap[g]? = U (.cells c e (0,0))/\c.size=csz/\base+r.n*r.k<=csz /\
   aH w (if x.nm then G else G.pure) x.rows (c.toList.drop base) f'/\(∀j,f' j+fX j<=1) /\
   ∀(c':Array Value) (rows':List (List SV)) (f'' fX':FP),c'.size=c.size->rows'.length=x.rows.length->(∀row∈rows',row.length=x.k) ->
    aH w (if x.nm then G else G.pure) rows' (c'.toList.drop base) f''->(∀j,f'' j+fX' j<=f' j+fX j)->∃fO',aU w0 L ⟨st.env,dz st.ob o rows'⟩ tmps (w.setRow g c') G fE fO' fX':=by
 have hname:=kc _ _ _ hg;obtain⟨f1,f2,hro,hff,hput⟩:=aW.split st.ob fO o x hg h.O;obtain⟨r',hr',hk,hn,hl,hm⟩:=hro;rw[hname,hr]at hr';simp only[aF]at hr';subst hr';rw[hblk]at hm;obtain⟨c,e,f',hh,hs,hb,hrr,hf1⟩:=hm;refine⟨hk,hn,hl,c,e,f',hh,hs,hb,hrr,fun j=>by have:=h.le j;have:=bK hff j;have:=bK hf1 j;omega,?_⟩;intro c' rows' f'' fX' hsz hlen hl' hrr' hX;have one_g:one g g=1:=by simp[one]
 have hgF:¬G.F g:=fun hF=>by have:=h.fz g hF;have:=bK hff g;have:=bK hf1 g;omega
 have hgL:¬L.lv g:=fun hF=>by have:=h.lf g hF;have:=bK hff g;have:=bK hf1 g;omega
 have hlt:g<w.heap.size:=(Array.getElem?_eq_some_iff.1 hh).1;have hoth:∀j,j≠g->(w.setRow g c').heap[j]? = w.heap[j]?:=fun j hj=>z_ w g j c' hj
 have hF:∀j,G.F j->(w.setRow g c').heap[j]? = w.heap[j]?:=fun j hj=>hoth j (fun e=>hgF (e▸hj))
 have hz:fE g=0/\f2 g=0/\f' g+fX g=0:=by
  have:=h.le g;have:=bK hff g;have:=bK hf1 g;omega
 have hRO:=hput (w.setRow g c') rows' (fun j=>one g j+f'' j) hF (fun j hj=>hoth j (fun e=>by subst e;omega)) (by
  refine⟨r,by rw[hname];exact hr,hk,by simpa[hlen]using hn,hl',?_⟩;rw[hblk];refine⟨c',e,f'',setRow_heap w g c c' e (0,0) hh,by rw[hsz,hs],hb,?_,rfl⟩;have hf'':∀j,1<=f'' j->(w.setRow g c').heap[j]? = w.heap[j]?:=fun j hj=>hoth j (fun e=>by subst e;have:=hX j;omega)
  simp only at hrr' ⊢;split
  ·rename_i hnm;rw[if_pos hnm]at hrr';exact aH.frame (fun _ h=>h) rfl hF _ _ _ hf'' hrr'
  ·rename_i hnm;rw[if_neg hnm]at hrr';exact aH.frame (G:=G.pure) (fun _ h=>h) rfl hF _ _ _ hf'' hrr')
 refine⟨fun j=>one g j+f'' j+f2 j,?_⟩
 exact
  {size:=h.size
   E:=RL.frame (fun _ h=>h) rfl hF _ _ _ (fun j hj=>hoth j (fun e=>by subst e;omega)) h.E
   O:=hRO
   le:=fun j=>by have:=h.le j;have:=bK hff j;have:=bK hf1 j;have:=hX j;(try dsimp only);omega
   fz:=fun j hj=>by have:=h.fz j hj;have:=bK hff j;have:=bK hf1 j;have:=hX j;(try dsimp only);omega
   lf:=fun j hj=>by have:=h.lf j hj;have:=bK hff j;have:=bK hf1 j;have:=hX j;(try dsimp only);omega
   lt:=fun j hj=>by
    simp only[size_setRow]
    exact h.lt j (by have:=bK hff j;have:=bK hf1 j;have:=hX j;(try dsimp only at hj);omega)
   nodup:=by rw[EF];exact h.nodup
   fl:=h.fl,fm:=h.fm,bk:=h.bk
   fsize:=fun j hj=>by simp only[size_setRow];exact h.fsize j hj
   keep:=fun j hj=>by rw[hoth j (fun e=>hgL (e▸hj))];exact h.keep j hj
   lsize:=h.lsize
   grow:=by simp only[size_setRow];exact h.grow
   os:=h.os,tape:=h.tape,output:=h.output}
def aU.obRec (h:aU w0 L st tmps w G fE fO fX){o:Nat}{x:Ob}(hg:bu st.ob o=U x):∃r f,G.β o=U r/\RO w G x f/\∀j,f j<=fO j:=by
 obtain⟨f1,f2,hro,hff,_⟩:=aW.split st.ob fO o x hg h.O;obtain⟨r,hr,rest⟩:=hro;have hname:=kc _ _ _ hg;exact⟨r,f1,by rw[<-hname];exact hr,⟨r,hr,rest⟩,fun j=>by have:=bK hff j;omega⟩
end
end Go.AM
end
section
namespace Go.AM
def lz (d:TypeDesc):TK->Prop
 |.int k=>d = .int k
 |.bool=>d = .bool
 |.str=>d = .string
 |.ptr=>∃e,d = .pointer e
 |.slice e=>d = .slice e
 |.struct fs=>∃fields:Array Field,d = .struct fields/\(fields.toList.map fun f=>(f.type,f.offset))=fs/\(∀f∈fields.toList,f.name ≠ "_")
 |.func=>∃ps rs v,d = .func ps rs v
 |.other=>True
def rQ:TypeDesc->Bool
 |.struct _|.array _ _=>ae
 |_=>ag
structure bU (P:Program)(T:Nat->TI):Prop where
 kk:∀t,(T t).kind ≠ .other->(T t).known=ae
 ok:∀t,(T t).known=ae->∃(i:TypeInfo) (z:Value) (d:TypeDesc),P.info? t=U i/\i.size=(T t).size/\i.bytes=(T t).bytes/\i.zero=U z /\
  z.cells.toList.map zCe=(T t).zero/\(∀v∈z.cells.toList,v.oneCell'=ae)/\(T t).zero.length=(T t).size/\fG (T t).zero=ae/\True/\P.underlying t=U d/\lz d (T t).kind /\
  rQ d=dT T t/\(dT T t=ag->(T t).size=1)/\(dT T t=ae->P.stoodInHeld t=ag/\z = .agg z.cells)
section
variable {P:Program}{T:Nat->TI}{w0 w w':World}{L:Lv}{st st1:St}{a:Act}{G G':Gh}{fE fO fX fV:FP}{o:Oper}{K:St->Prop}{Q:Exit->Act->World->Prop}{v:Value}{sv:SV}
def Nx (w0:World)(L:Lv)(ds:List Deferred)(K:St->Prop):Act->World->Prop:=fun a' w'=>∃st' G',K st'/\SR w0 L st' a'.tmps w' G'/\a'.defers=ds
def Act.put_defers (a:Act)(d:Option Tmp)(v:Value):(a.put d v).defers=a.defers:=by cases d<;>rfl
def ME (hc:aU w0 L st1 a.tmps w' G' fE fO fX)(hr:R w' G' sv v fV)(hX:∀ g,fV g<=fX g)(hK:K (aZ st1 o.dst sv)) :
  Nx w0 L a.defers K (a.put o.dst v) w':=by
 obtain⟨fE',h'⟩:=hc.putD (fX':=zf) hr (fun g=>by have:=hX g;simp only[zf];omega) o.dst a rfl;exact⟨_,G',hK,⟨fE',fO,h'⟩,Act.put_defers _ _ _⟩
def ow (hrun:(execOp a.eval o).run P w = .ok (.value v) w')(hc:aU w0 L st1 a.tmps w' G' fE fO fX)(hr:R w' G' sv v fV)(hX:∀ g,fV g<=fX g)
  (hK:K (aZ st1 o.dst sv)):o.wp P a w (Nx w0 L a.defers K) Q:=by
 unfold Oper.wp;rw[hrun];exact ME hc hr hX hK
def uQ (T:Nat->TI):Op->Bool
 |.convert _ d _=>match(T d).kind with|.slice _=>ae|_=>ag
 |_=>ag
def Ow (P:Program)(T:Nat->TI)(o:Oper)(a:Act)(w:World)(N:Act->World->Prop)(Q:Exit->Act->World->Prop):Prop :=
 o.wp P a w N Q/\((∃v,(execOp a.eval o).run P w = .ok (.value v) w)\/uQ T o.op=ae)
def gM (hrun:(execOp a.eval o).run P w = .ok (.value v) w)(hc:aU w0 L st1 a.tmps w G' fE fO fX)(hr:R w G' sv v fV)(hX:∀ g,fV g<=fX g)
  (hK:K (aZ st1 o.dst sv)):Ow P T o a w (Nx w0 L a.defers K) Q:=⟨ow hrun hc hr hX hK,.inl ⟨v,hrun⟩⟩
def EG {x:Operand}(h:o.op = .move x\/o.op = .assign x):(execOp a.eval o).run P w = .ok (.value (a.eval x)) w:=by
 rcases h with h|h<;>simp[execOp,h]
def EH {x:Operand}(ho:o.op = .move x)(h:SR w0 L st a.tmps w G)(hk:a9 T C o st K):Ow P T o a w (Nx w0 L a.defers K) Q:=by
 obtain⟨fE,fO,h⟩:=h;have hrun:=EG (P:=P) (w:=w) (a:=a) (o:=o) (.inl ho);simp only[a9,ho]at hk;cases x with
 | tmp t=>
   simp only at hk;obtain⟨fE1,f1,hr,h1⟩:=h.takeT t;have hev:a.eval (.tmp t)=a.tmps.getD t undef:=rfl;rw[<-hev]at hr;cases hl:bx st.env t with
   | own k rows=>
     rw[hl]at hk hr;simp only at hk;obtain⟨ht,hk⟩:=hk
     have hadd:∃r:kK,r.k=k/\r.n=rows.length/\RO w (G.bind t r) ⟨t,k,rows,ag⟩ f1/\R w (G.bind t r) (.ar t) (a.eval (.tmp t)) zf:=by
      simp only[R]at hr;rcases hr with⟨e0,e1,p,e2⟩|⟨g,base,cap,c,e,f',hv,hc,hh,hb,hl',hrr,hff⟩
      ·subst e0 e1;refine⟨⟨aj,k,0⟩,rfl,rfl,⟨⟨aj,k,0⟩,jM,rfl,rfl,by simp,rfl,rfl⟩,?_⟩;simp only[R]
       exact⟨trivial,⟨aj,k,0⟩,jM,rfl,p,e2⟩
      ·have hmul:rows.length*k<=cap*k:=Nat.mul_le_mul_right k hc;refine⟨⟨U (g,base,c.size),k,rows.length⟩,rfl,rfl,⟨_,jM,rfl,rfl,hl',?_⟩,?_⟩
       ·exact⟨c,e,f',hh,rfl,(by show base+rows.length*k<=c.size;omega),(by rw[if_neg (by simp)];exact hrr),hff⟩
       ·simp only[R]
        exact⟨trivial,_,jM,cap,hv,hc,hb⟩
     obtain⟨r,_,_,hro,har⟩:=hadd;obtain⟨fO2,h2⟩:=h1.addOb t k ht rows ag r (fX':=zf) hro (fun g=>by simp only[zf];omega)
     have e3:a.tmps.setIfInBounds t (a.eval (.tmp t))=a.tmps:=by
      apply Array.ext';rw[Array.toList_setIfInBounds];apply List.ext_getElem?;intro j;by_cases hj:t=j
      ·subst hj;rw[List.getElem?_set_self',hev];cases hq:a.tmps[t]? with
       |none=>simp[hq]
       |some u=>simp[hq,Array.getD_eq_getD_getElem?]
      ·rw[List.getElem?_set_ne hj]
     obtain⟨fE3,h3⟩:=h2.put (fX':=zf) har (fun g=>by simp[zf]) t;rw[e3]at h3;exact gM hrun h3 har (fun g=>by simp[zf]) hk
   | _=>
     rw[hl]at hk hr;simp only at hk
     first
      |(split at hk
        ·exact gM hrun h1 hr (fun g=>by simp[zf]) hk
        ·rename_i hn;have hz:=jm _ _ _ (by simpa using hn) hr;rw[hz]at hr
         exact gM hrun h hr (fun g=>by simp[zf]) hk)
      |(have hz:=jm _ _ _ (by simp[cu]) hr
        rw[hz]at hr
        exact gM hrun h hr (fun g=>by simp[zf]) (by simpa[cu]using hk))
 | const v=>
   simp only at hk;exact gM hrun h (h.ev0 a rfl (.const v) (by simp only[ev];unfold zCe;split<;>rfl)) (fun g=>by simp[zf]) hk
 |global g=>exact gM hrun h (h.ev0 a rfl (.global g) (by simp[ev,cu])) (fun g=>by simp[zf]) hk
 |func f=>exact gM hrun h (h.ev0 a rfl (.func f) (by simp[ev,cu])) (fun g=>by simp[zf]) hk
def MF {x:Operand}(ho:o.op = .assign x)(h:SR w0 L st a.tmps w G)(hk:a9 T C o st K):Ow P T o a w (Nx w0 L a.defers K) Q:=by
 obtain⟨fE,fO,h⟩:=h;simp only[a9,ho]at hk;obtain⟨fE1,f1,hr,h1⟩:=h.take a rfl x;exact gM (EG (.inr ho)) h1 hr (fun g=>by simp[zf]) hk
def EI {c x y:Operand}(ho:o.op = .pick c x y)(h:SR w0 L st a.tmps w G)(hk:a9 T C o st K):Ow P T o a w (Nx w0 L a.defers K) Q:=by
 obtain⟨fE,fO,h⟩:=h;obtain⟨fc,hc,_⟩:=h.ev a rfl c;simp only[a9,ho]at hk
 have hrun:∀q:Bool,a.eval c = .bool q->(execOp a.eval o).run P w = .ok (.value (if q then a.eval x else a.eval y)) w:=by
  intro q hq;cases q<;>simp[execOp,ho,hq,asBool]
 split at hk
 ·rename_i q p r e1 e2 e3;rw[e1]at hc;simp only[R]at hc;obtain⟨f2,h2,_⟩:=h.ev a rfl x;obtain⟨f3,h3,_⟩:=h.ev a rfl y;rw[e2]at h2;rw[e3]at h3;simp only[R]at h2 h3;refine gM (hrun q hc.2) h (sv:=.b (bif q then p else r)) (fV:=zf) ?_ (fun g=>by simp[zf]) hk;simp only[R]
  exact⟨trivial,by cases q<;>simp[h2.2,h3.2]⟩
 ·rename_i q e1 _;rw[e1]at hc;simp only[R]at hc;cases q with
  | true=>
    obtain⟨fE1,f1,hr,h1⟩:=h.take a rfl x;exact gM (hrun ae hc.2) h1 hr (fun g=>by simp[zf]) hk
  | false=>
    obtain⟨fE1,f1,hr,h1⟩:=h.take a rfl y;exact gM (hrun ag hc.2) h1 hr (fun g=>by simp[zf]) hk
 ·exact hk.elim
end
end Go.AM
end
section
namespace Go.AM
section
variable {P:Program}{T:Nat->TI}{C:zAz}{w0 w w':World}{L:Lv}{st st1:St}{a:Act}{G G':Gh}{fE fO fX fV:FP}{o:Oper}{K:St->Prop}{Q:Exit->Act->World->Prop}{v:Value}{sv:SV}
def MG {op:BinOp}{t ty:TypeId}{x y:Operand}(ho:o.op = .binOp op t x y ty){k:IntKind}{n:Int}(hx:a.eval x = .int k n) :
  (execOp a.eval o).run P w=((binOp op t (.int k n) (a.eval y)).run P w).andThen fun v w'=>.ok (.value v) w':=by
 simp[execOp,ho,hx,eqGuard_at_int]
def MH {op:BinOp}{t ty:TypeId}{x y:Operand}(ho:o.op = .binOp op t x y ty){n:Bool}(hx:a.eval x = .bool n) :
  (execOp a.eval o).run P w=((binOp op t (.bool n) (a.eval y)).run P w).andThen fun v w'=>.ok (.value v) w':=by
 simp[execOp,ho,hx,eqGuard_at_bool]
def MI {op:BinOp}{t ty:TypeId}{x y:Operand}(ho:o.op = .binOp op t x y ty){n:ByteArray}(hx:a.eval x = .string n) :
  (execOp a.eval o).run P w=((binOp op t (.string n) (a.eval y)).run P w).andThen fun v w'=>.ok (.value v) w':=by
 simp[execOp,ho,hx,eqGuard_at_string]
def MJ {op:BinOp}{t ty:TypeId}{x y:Operand}(ho:o.op = .binOp op t x y ty){p:Option Addr}{n m:Nat}(hx:a.eval x = .slice p n m) :
  (execOp a.eval o).run P w=((binOp op t (.slice p n m) (a.eval y)).run P w).andThen fun v w'=>.ok (.value v) w':=by
 simp[execOp,ho,hx,eqGuard_at_slice]
def cm (h:aU w0 L st a.tmps w G fE fO zf)(hrun:(execOp a.eval o).run P w = .ok (.value v) w)(hr:R w G sv v zf)(hK:K (aZ st o.dst sv)) :
  Ow P T o a w (Nx w0 L a.defers K) Q:=gM hrun h hr (fun g=>by simp[zf]) hK
def MK {op:BinOp}{t ty:TypeId}{x y:Operand}(ho:o.op = .binOp op t x y ty)(h:aU w0 L st a.tmps w G fE fO zf)
  (hk:mV op (ev st.env x) (ev st.env y) fun v=>K (aZ st o.dst v)):Ow P T o a w (Nx w0 L a.defers K) Q:=by
 obtain⟨f1,h1,_⟩:=h.ev a rfl x;obtain⟨f2,h2,_⟩:=h.ev a rfl y;unfold mV at hk;split at hk
 ·rename_i k n k' m e1 e2;rw[e1]at h1;rw[e2]at h2;simp only[R]at h1 h2;have hrun:=MG (P:=P) (w:=w) ho h1.2;rw[h2.2]at hrun;split at hk
  ·obtain⟨rfl,hk⟩:=hk;exact cm h (v:=.int k (k.wrap (n+m))) (by rw[hrun];simp[binOp,Op.intArith]) (by simp[R]) hk
  ·obtain⟨rfl,hk⟩:=hk;exact cm h (v:=.int k (k.wrap (n-m))) (by rw[hrun];simp[binOp,Op.intArith]) (by simp[R]) hk
  ·obtain⟨rfl,hk⟩:=hk;exact cm h (v:=.int k (k.wrap (n*m))) (by rw[hrun];simp[binOp,Op.intArith]) (by simp[R]) hk
  ·obtain⟨rfl,hm,hk⟩:=hk;exact cm h (v:=.int k (k.wrap (n.tdiv m))) (by rw[hrun];simp[binOp,Op.intDiv,hm]) (by simp[R]) hk
  ·obtain⟨rfl,hm,hk⟩:=hk;exact cm h (v:=.int k (n.tmod m)) (by rw[hrun];simp[binOp,Op.intDiv,hm]) (by simp[R]) hk
  ·obtain⟨hm,hk⟩:=hk
   exact cm h (v:=.int k (k.wrap (n*2^min m.toNat k.bits))) (by rw[hrun];have:¬m<0:=by omega
                                                                simp[binOp,Op.shift,this]) (by simp[R]) hk
  ·obtain⟨hm,hk⟩:=hk
   exact cm h (v:=.int k (n.fdiv (2^min m.toNat k.bits))) (by rw[hrun];have:¬m<0:=by omega
                                                              simp[binOp,Op.shift,this]) (by simp[R]) hk
  ·obtain⟨rfl,hk⟩:=hk;exact cm h (v:=.int k (dK k n m)) (by rw[hrun];simp[binOp,Op.intBits,dK]) (by simp[R]) hk
  ·obtain⟨rfl,hk⟩:=hk;exact cm h (v:=.int k (zW k n m)) (by rw[hrun];simp[binOp,Op.intBits,zW]) (by simp[R]) hk
  ·obtain⟨rfl,hk⟩:=hk;exact cm h (v:=.int k (pP k n m)) (by rw[hrun];simp[binOp,Op.intBits,pP]) (by simp[R]) hk
  ·split at hk
   ·rename_i r hr;obtain⟨rfl,hk⟩:=hk;refine cm h (v:=.bool r) ?_ (by simp[R]) hk;rw[hrun];unfold kG at hr;split at hr<;>simp only[aF,reduceCtorEq]at hr<;>subst hr<;>simp[binOp,Op.intCmp]
    all_goals (by_cases e:n=m<;>simp[e,bne])
   ·exact hk.elim
 ·rename_i l m e1 e2;rw[e1]at h1;rw[e2]at h2;simp only[R]at h1 h2;have hrun:=MI (P:=P) (w:=w) ho h1.2;rw[h2.2]at hrun;split at hk
  ·obtain⟨hl,hk⟩:=hk;refine cm h (v:=.string ⟨(l++m).toArray⟩) ?_ (by simp[R]) hk;rw[hrun]
   have hs:¬(((ByteArray.mk l.toArray).size+(ByteArray.mk m.toArray).size:Nat):Int)>IntKind.i64.max:=by
    simp only[IntKind.max_i64,ByteArray.size,List.size_toArray];omega
   have he:ByteArray.mk l.toArray++ByteArray.mk m.toArray=ByteArray.mk (l++m).toArray:=by
    apply ByteArray.ext;simp
   simp only[binOp,Op.stringOp,if_neg hs,he]
   simp
  ·split at hk
   ·rename_i r hr;refine cm h (v:=.bool r) ?_ (by simp[R]) hk;rw[hrun];unfold rK at hr;split at hr<;>simp only[aF,reduceCtorEq]at hr<;>subst hr<;>simp[binOp,Op.stringOp]
    all_goals (by_cases e:l=m<;>simp[e])
   ·exact hk.elim
 ·exact hk.elim
end
end Go.AM
end
