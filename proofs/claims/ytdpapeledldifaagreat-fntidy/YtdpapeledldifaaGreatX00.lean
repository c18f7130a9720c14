/- Part 1 of the proof of FnTidy; no condition. -/
import Derived.WalkKit
set_option autoImplicit true
set_option relaxedAutoImplicit true
set_option linter.all false
section
def zSe {α:Type u}{a b:α}:(some a=some b)=(a=b):=Option.some.injEq a b
def zBa (a b:Bool):((a&&b)=true)=(a=true∧b=true):=Bool.and_eq_true a b
def zDe {p:Prop}[Decidable p]:(decide p=true)=p:=decide_eq_true_eq
def zDt (h:Decidable True) : @decide True h=true:=decide_true h
def zDf (h:Decidable False) : @decide False h=false:=decide_false h
def zDn {p:Prop}{_:Decidable p}:(decide p=false)↔¬p:=decide_eq_false_iff_not
def zLa {α:Type u}{as bs:List α}:(as++bs).length=as.length+bs.length:=List.length_append
def zTn (n:Nat):(n:Int).toNat=n:=Int.toNat_natCast n
def zOb {α:Type u}{β:Type v}(a:α)(f:α→Option β):(some a).bind f=f a:=Option.bind_some a f
def zBs (b:Bool):(b&&b)=b:=Bool.and_self b
def zLc {α:Type u}{a:α}{as:List α}:(a::as).length=as.length+1:=List.length_cons
def zAa {α:Type u}(as bs cs:List α):as++bs++cs=as++(bs++cs):=List.append_assoc as bs cs
def zLt {α:Type u}{i:Nat}{l:List α}:(l.take i).length=min i l.length:=List.length_take
def zMc {α:Type u}{β:Type v}{f:α→β}{a:α}{l:List α}:(a::l).map f=f a::l.map f:=List.map_cons
def zIl (a:Int):¬a<a:=Int.lt_irrefl a
def zCa {α:Type u}{a:α}{as bs:List α}:(a::as)++bs=a::(as++bs):=List.cons_append
def zFt:(false=true)=False:=Bool.false_eq_true
def zAt (b:Bool):(b&&true)=b:=Bool.and_true b
def zAn {α:Type u}(as:List α):as++[]=as:=List.append_nil as
def zLn {α:Type u}:([]:List α).length=0:=List.length_nil
def zLd {α:Type u}{i:Nat}{l:List α}:(l.drop i).length=l.length-i:=List.length_drop
def zLm {α:Type u}{β:Type v}{as:List α}(f:α→β):(as.map f).length=as.length:=List.length_map f
def zNa {α:Type u}(as:List α):[]++as=as:=List.nil_append as
def zNn (n:Nat):0≤(n:Int):=Int.natCast_nonneg n
def zPi {α:Type u}{β:Type v}(a:α)(b:β)(c:α)(d:β):((a,b)=(c,d))=(a=c∧b=d):=Prod.mk.injEq a b c d
def zGe {α:Type u}{l:List α}{i:Nat}(h:i<l.length):l[i]? = some l[i]:=List.getElem?_eq_getElem h
def zMg {α:Type u}{l:List α}{i:Nat}{a:α}(e:l[i]? = some a):a∈l:=List.mem_of_getElem? e
def zLr (n:Nat):n≤n:=Nat.le_refl n
namespace Go.AM
inductive SV
 |u
 |sk
 |i (k:IntKind) (n:Int)
 |b (x:Bool)
 |s (x:List UInt8)
 |sl (k:Nat) (rows:List (List SV))
 |own (k:Nat) (rows:List (List SV))
 |ar (o:Nat)
 |p (o i off:Nat)
 |ro (cells:List SV)
 |nilp
 |nil
 |fn (f:Nat) (caps:List SV)
 |agg (cells:List SV)
 |tup (vs:List SV)
 deriving Inhabited
structure Ob where
 name:Nat
 k:Nat
 rows:List (List SV)
 nm:Bool
structure St where
 env:List SV
 ob:List Ob
inductive TK
 |int (k:IntKind)|bool|str|ptr|slice (e:Nat)|struct (fs:List (Nat×Nat))|func|other
structure TI where
 kind:TK
 size:Nat
 bytes:Nat
 zero:List SV
 known:Bool
def lkp:List SV→Nat→SV
 |[],_=>.u
 |x::_,0=>x
 |_::l,n+1=>lkp l n
def upd:List SV→Nat→SV→List SV
 |[],_,_=>[]
 |_::l,0,v=>v::l
 |x::l,n+1,v=>x::upd l n v
def over:List SV→List SV→List SV
 |[],row=>row
 |_::_,[]=>[]
 |c::cs,_::row=>c::over cs row
def wr:List SV→Nat→List SV→List SV
 |row,0,cs=>over cs row
 |[],_+1,_=>[]
 |x::row,n+1,cs=>x::wr row n cs
mutual
def zAg:SV→Bool
 |.own _ _=>true
 |.agg cs=>zBH cs
 |.tup cs=>zBH cs
 |_=>false
def zBH:List SV→Bool
 |[]=>false
 |x::l=>zAg x||zBH l
end
def plain:SV→Bool
 |.i _ _|.b _|.s _|.sl _ _|.own _ _|.nil=>true
 |_=>false
def zBz:List SV→Bool
 |[]=>true
 |x::l=>plain x&&zBz l
def cell1:SV→Bool
 |.u|.sk|.agg _|.tup _=>false
 |_=>true
def zCG:List SV→Bool
 |[]=>true
 |x::l=>cell1 x&&zCG l
mutual
def kill (o:Nat):SV→SV
 |.ar n=>if n=o then .u else .ar n
 |.p n i off=>if n=o then .u else .p n i off
 |.fn f caps=>.fn f (zCF o caps)
 |.agg cs=>.agg (zCF o cs)
 |.tup cs=>.tup (zCF o cs)
 |.u=>.u
 |.sk=>.sk
 |.i k n=>.i k n
 |.b x=>.b x
 |.s x=>.s x
 |.sl k r=>.sl k r
 |.own k r=>.own k r
 |.ro c=>.ro c
 |.nilp=>.nilp
 |.nil=>.nil
def zCF (o:Nat):List SV→List SV
 |[]=>[]
 |x::l=>kill o x::zCF o l
end
def zAw (o:Nat):List (List SV)→List (List SV)
 |[]=>[]
 |r::l=>zCF o r::zAw o l
def zCZ (o:Nat):List Ob→List Ob
 |[]=>[]
 |x::l=>if x.name=o then zCZ o l else{x with rows:=if x.nm then zAw o x.rows else x.rows}::zCZ o l
def killSt (o:Nat)(st:St):St:=⟨zCF o st.env,zCZ o st.ob⟩
def zAZ:List Ob→Nat→Option Ob
 |[],_=>none
 |x::l,o=>if x.name=o then some x else zAZ l o
def zAk:List Ob→Nat→List (List SV)→List Ob
 |[],_,_=>[]
 |x::l,o,rows=>if x.name=o then{x with rows:=rows}::l else x::zAk l o rows
def setE (st:St)(t:Nat)(v:SV):St:=⟨upd st.env t v,st.ob⟩
def setD (st:St)(d:Option Tmp)(v:SV):St:=match d with|some t=>setE st t v|none=>st
def addOb (st:St)(o k:Nat)(rows:List (List SV))(nm:Bool):St :=
 ⟨zCF o st.env,⟨o,k,rows,nm⟩::zCZ o st.ob⟩
def zCW:Value→SV
 |.int k n=>.i k n
 |.bool b=>.b b
 |.string s=>.s s.data.toList
 |.slice none 0 0=>.nil
 |.pointer none=>.nilp
 |_=>.u
def ev (env:List SV):Operand→SV
 |.tmp t=>lkp env t
 |.const v=>zCW v
 |.global _=>.u
 |.func f=>.fn f []
def strip (st:St)(x:Operand):St:=match x with
 |.tmp t=>if zAg (lkp st.env t)then setE st t .u else st
 |_=>st
def zFJ (st:St):List Operand→St
 |[]=>st
 |x::l=>zFJ (strip st x) l
def zFP (st:St):List Operand→List SV
 |[]=>[]
 |x::l=>ev st.env x::zFP (strip st x) l
def cellsOf:SV→List SV
 |.agg cs=>cs
 |v=>[v]
def cmpB (op:BinOp)(a b:Int):Option Bool:=match op with
 |.eql=>some (decide (a=b))|.neq=>some (!decide (a=b))|.lss=>some (decide (a<b))|.leq=>some (decide (a≤b))
 |.gtr=>some (decide (b<a))|.geq=>some (decide (b≤a))|_=>none
def strB (op:BinOp)(a b:List UInt8):Option Bool:=match op with
 |.eql=>some (decide (a=b))|.neq=>some (!decide (a=b))|.lss=>some (Op.bytesLess a b)|.leq=>some (Op.bytesLess a b||decide (a=b))
 |.gtr=>some (!(Op.bytesLess a b||decide (a=b)))|.geq=>some (!Op.bytesLess a b)|_=>none
def andI (k:IntKind)(a b:Int):Int:=k.wrap (BitVec.ofInt k.bits a &&& BitVec.ofInt k.bits b).toNat
def orI (k:IntKind)(a b:Int):Int:=k.wrap (BitVec.ofInt k.bits a ||| BitVec.ofInt k.bits b).toNat
def xorI (k:IntKind)(a b:Int):Int:=k.wrap (BitVec.ofInt k.bits a ^^^ BitVec.ofInt k.bits b).toNat
def bitI (op:BinOp)(k:IntKind)(a b:Int):Option Int:=match op with
 |.and=>some (andI k a b)
 |.or=>some (orI k a b)
 |.xor=>some (xorI k a b)
 |_=>none
def zOY:TK→SV→SV→Option Bool
 |.int _,.i k a,.i k' b=>if k=k' then some (decide (a=b))else none
 |.bool,.b a,.b b=>some (decide (a=b))
 |.str,.s a,.s b=>some (decide (a=b))
 |_,_,_=>none
def eqFs (T:Nat→TI):Nat→List (Nat×Nat)→List SV→List SV→Option Bool
 |_,[],[],[]=>some true
 | n,(t,o)::fs,x::l,y::m=>if o=n then match zOY (T t).kind x y,eqFs T (n+1) fs l m with
   |some p,some q=>some (p&&q)
   |_,_=>none else none
 |_,_,_,_=>none
def binK (op:BinOp)(x y:SV)(K:SV→Prop):Prop:=match x,y with
 | .i k a,.i k' b=>match op with
   |.add=>k=k'∧K (.i k (k.wrap (a+b)))
   |.sub=>k=k'∧K (.i k (k.wrap (a-b)))
   |.mul=>k=k'∧K (.i k (k.wrap (a*b)))
   |.quo=>k=k'∧b≠0∧K (.i k (k.wrap (a.tdiv b)))
   |.rem=>k=k'∧b≠0∧K (.i k (a.tmod b))
   |.shl=>0≤b∧K (.i k (k.wrap (a*2^min b.toNat k.bits)))
   |.shr=>0≤b∧K (.i k (a.fdiv (2^min b.toNat k.bits)))
   | .and|.or|.xor=>match bitI op k a b with
     |some r=>k=k'∧K (.i k r)
     |none=>False
   | _=>match cmpB op a b with
     |some r=>k=k'∧K (.b r)
     |none=>False
 | .s a,.s b=>match op with
   |.add=>a.length+b.length≤9223372036854775807∧K (.s (a++b))
   | _=>match strB op a b with
     |some r=>K (.b r)
     |none=>False
 |_,_=>False
def zipL:List (Nat×Operand)→List SV→List (Nat×SV)
 |(j,_)::ps,v::vs=>(j,v)::zipL ps vs
 |_,_=>[]
def zUc:Nat→List (Nat×Operand)→Bool
 |_,[]=>true
 |i,(j,_)::ps=>i==j&&zUc (i+1) ps
def zJd (n:Nat):List SV→Bool
 |[]=>true
 |v::l=>(cellsOf v).length==n&&zCG (cellsOf v)&&zBz (cellsOf v)&&zJd n l
def zCJ (fs:List (Nat×Nat))(row:List SV):List (Nat×SV)→List SV
 |[]=>row
 |(j,v)::ps=>zCJ fs (wr row ((fs.getD j (0,0)).2) (cellsOf v)) ps
def zGi (T:Nat→TI)(fs:List (Nat×Nat))(n:Nat):List (Nat×SV)→Bool
 |[]=>true
 | (j,v)::ps=>(match fs[j]? with
   |some (ft,fo)=>(T ft).known&&(cellsOf v).length==(T ft).size&&zCG (cellsOf v)&&decide (fo+(T ft).size≤n)
   |none=>false)&&zGi T fs n ps
def byteOf:List SV→Option UInt8
 |[.i .u8 n]=>some (UInt8.ofNat n.toNat)
 |_=>none
def bytesOf:List (List SV)→Option (List UInt8)
 |[]=>some []
 | r::l=>match byteOf r,bytesOf l with
   |some c,some cs=>some (c::cs)
   |_,_=>none
def zBo (l:List UInt8):List (List SV):=l.map fun c=>[.i .u8 c.toNat]
end Go.AM
end
namespace Go.AM
section
mutual
def frz:SV→SV
 |.own k rows=>.sl k (zBX rows)
 |.agg cs=>.agg (frzL cs)
 |.tup cs=>.tup (frzL cs)
 |.u=>.u
 |.sk=>.sk
 |.i k n=>.i k n
 |.b x=>.b x
 |.s x=>.s x
 |.sl k r=>.sl k r
 |.ar n=>.ar n
 |.p n i off=>.p n i off
 |.ro c=>.ro c
 |.nilp=>.nilp
 |.nil=>.nil
 |.fn f caps=>.fn f caps
def frzL:List SV→List SV
 |[]=>[]
 |x::l=>frz x::frzL l
def zBX:List (List SV)→List (List SV)
 |[]=>[]
 |r::l=>frzL r::zBX l
end
def frzT (st:St)(x:Operand):St:=match x with
 |.tmp t=>if zAg (lkp st.env t)then setE st t (frz (lkp st.env t))else st
 |_=>st
def frzTL (st:St):List Operand→St
 |[]=>st
 |x::l=>frzTL (frzT st x) l
def zAT (st:St)(o:Nat)(rows:List (List SV))(i:Nat)(row:List SV):St:=⟨st.env,zAk st.ob o (rows.set i row)⟩
def zAf (T:Nat→TI)(t:Nat):Bool:=match(T t).kind with|.struct _=>true|_=>false
def valOf (T:Nat→TI)(t:Nat)(cs:List SV):SV:=match(T t).kind with|.struct _=>.agg cs|_=>lkp cs 0
def dropOwn:SV→SV
 |.own _ _=>.u
 |v=>v
def zCd:List SV→List SV
 |[]=>[]
 |x::l=>dropOwn x::zCd l
def cnd (t:Bool)(A B:Prop):Prop:=match t with
 |true=>A
 |false=>B
def cnd.yes {t:Bool}{A B:Prop}(h:cnd t A B)(e:t=true):A:=by subst e;exact h
def cnd.no {t:Bool}{A B:Prop}(h:cnd t A B)(e:t=false):B:=by subst e;exact h
def cnd.mk {t:Bool}{A B:Prop}(h1:t=true→A)(h2:t=false→B):cnd t A B:=by cases t;exact h2 rfl;exact h1 rfl
def zHD (x:Ob)(i:Nat)(B:List SV→Prop):Prop:=match x.nm with
 | true=>(match x.rows[i]? with
   |some row=>B row
   |none=>True)
 |false=>∀row,x.rows[i]? = some row→B row
def zHD.all {x:Ob}{i:Nat}{B:List SV→Prop}(h:zHD x i B):∀row,x.rows[i]? = some row→B row:=by
 unfold zHD at h;split at h
 ·intro row hr;rw[hr]at h;exact h
 ·exact h
def zHD.mono {x:Ob}{i:Nat}{B B':List SV→Prop}(h:zHD x i B)(hb:∀ row,B row→B' row):zHD x i B':=by
 unfold zHD at *;split at h
 ·split at h
  ·exact hb _ h
  ·trivial
 ·intro row hr;exact hb _ (h row hr)
def zUd (n k:Nat)(r:List SV)(l:List (List SV))(nm:Bool)(B:List SV→Prop):zHD ⟨n,k,r::l,nm⟩ 0 B=B r:=by cases nm<;>simp[zHD]
def openK (st:St)(o i off:Nat)(row:List SV)(rs:List (List SV))(d k:Nat)(rows:List (List SV))(K:St→Prop):Prop :=
 match zAZ (addOb (zAT st o rs i (wr row off [.u])) d k rows false).ob o with
 |some x=>x.nm=true∧i<x.rows.length∧zHD x i fun row1=>off+1≤row1.length ∧
   K (setE (zAT (addOb (zAT st o rs i (wr row off [.u])) d k rows false) o x.rows i (wr row1 off [.ar d])) d (.ar d))
 |none=>False
def zGb (T:Nat→TI)(t:Nat)(a:SV)(d:Option Tmp)(st:St)(K:St→Prop):Prop:=match a with
 |.ro cells=>(T t).known=true∧(T t).size≠0∧(T t).size≤cells.length∧K (setD st d (valOf T t (cells.take (T t).size)))
 | .p o i off=>match zAZ st.ob o with
   |some x=>(T t).known=true∧i<x.rows.length∧zHD x i fun row=>off+(T t).size≤row.length ∧
     (match valOf T t ((row.drop off).take (T t).size)with
     | .own k rows=>match d with
       |some d=>(d<100000∧d≠o∧x.nm=true∧openK st o i off row x.rows d k rows K)∨K (setD (zAT st o x.rows i (wr row off [.u])) (some d) (.own k rows))
       |none=>False
     |v=>if zAg v then zAf T t=true∧zCG (cellsOf v)=true∧K (setD (zAT st o x.rows i (wr row off (zCd (cellsOf v)))) d v)else K (setD st d v))
   |none=>False
 |_=>False
def zJP (T:Nat→TI)(t:Nat)(a:SV)(x:Operand)(st:St)(K:St→Prop):Prop:=match a with
 | .p o i off=>match zAZ (strip st x).ob o with
   |some y=>(T t).known=true∧i<y.rows.length∧zHD y i fun row=>off+(T t).size≤row.length∧(cellsOf (ev st.env x)).length=(T t).size ∧
     (y.nm=true∨zBz (cellsOf (ev st.env x))=true)∧zCG (cellsOf (ev st.env x))=true∧K (zAT (strip st x) o y.rows i (wr row off (cellsOf (ev st.env x))))
   |none=>False
 |_=>False
def takeRows (st:St)(k0:Nat)(x:Operand):Option (Nat×List (List SV)×St):=match ev st.env x with
 |.nil=>some (k0,[],st)
 |.own k rows=>some (k,rows,strip st x)
 | .ar o=>match zAZ st.ob o with
   |some y=>if y.nm then none else some (y.k,y.rows,killSt o st)
   |none=>none
 |_=>none
def moreRows (st:St)(y:Operand):Option (Nat×List (List SV)×St):=match ev st.env y with
 |.nil=>some (0,[],st)
 |.own k rows=>some (k,rows,strip st y)
 |.sl k rows=>some (k,rows,st)
 |_=>none
def zRk (st:St)(x:SV):Option Nat:=match x with
 |.nil=>some 0
 |.sl _ rows=>some rows.length
 |.own _ rows=>some rows.length
 | .ar o=>match zAZ st.ob o with
   |some y=>some y.rows.length
   |none=>none
 |_=>none
def intOf':SV→Option Int
 |.i _ n=>some n
 |_=>none
def zCD (env:List SV)(d:Int):Option Operand→Option Int
 |none=>some d
 |some x=>intOf' (ev env x)
def zFK (T:Nat→TI)(t:Nat)(x:Operand)(lo hi mx:Option Operand)(d:Option Tmp)(st:St)(K:St→Prop):Prop :=
 match(T t).kind,ev st.env x with
 | .str,.s l=>match zCD st.env 0 lo,zCD st.env l.length hi,mx with
   |some a,some b,none=>0≤a∧a≤b∧b≤l.length∧K (setD st d (.s ((l.take b.toNat).drop a.toNat)))
   |_,_,_=>False
 | .slice e,.sl k rows=>(T e).known=true∧k=(T e).size∧match mx with
   | none=>match zCD st.env 0 lo,zCD st.env rows.length hi with
     |some a,some b=>0≤a∧a≤b∧b≤rows.length∧K (setD st d (.sl k ((rows.take b.toNat).drop a.toNat)))
     |_,_=>False
   | some m=>match zCD st.env 0 lo,hi,zCD st.env 0 hi,zCD st.env 0 (some m)with
     |some a,some _,some b,some c=>0≤a∧a≤b∧b≤c∧c≤rows.length∧(if c=0 then K (setD st d .nil)else K (setD st d (.sl k ((rows.take b.toNat).drop a.toNat))))
     |_,_,_,_=>False
 | .slice e,.nil=>match lo,hi,mx with
   |none,none,none=>(T e).known=true∧K (setD st d .nil)
   |_,_,_=>False
 | .slice e,_=>match mx,takeRows st (T e).size x with
   | none,some (k,rows,st')=>(T e).known=true∧k=(T e).size∧match zCD st.env 0 lo,zCD st.env rows.length hi with
     |some a,some b=>0≤a∧a≤b∧b≤rows.length∧K (setD st' d (.own k ((rows.take b.toNat).drop a.toNat)))
     |_,_=>False
   |_,_=>False
 |_,_=>False
def opnds (ps:Array (Nat×Operand)):List Operand:=ps.toList.map (·.2)
def zFb (st:St)(ps:Array (Nat×Operand)):List (Nat×SV):=zipL ps.toList (zFP st (opnds ps))
def zHx (T:Nat→TI):List (Nat×Nat)→Bool
 |[]=>true
 |(t,_)::l=>(T t).known&&zHx T l
def zIP:Operand→Bool
 |.const (.slice none 0 0)=>true
 |_=>false
def ixK (rows:List (List SV))(n:Nat)(d:Option Tmp)(st:St)(K:St→Prop):Prop:=∀row,rows[n]? = some row→K (setD st d (.ro row))
def chK (l:List UInt8)(n:Nat)(d:Option Tmp)(st:St)(K:St→Prop):Prop:=∀c,l[n]? = some c→K (setD st d (.i .u8 c.toNat))
def kSk (d:Option Tmp)(K:St→Prop)(st:St):Prop:=K (setD st d .sk)
def kTo (st:St)(d:Option Tmp)(K:St→Prop)(v:SV):Prop:=K (setD st d v)
abbrev zAx:=Operand→List Operand→Option Tmp→St→(St→Prop)→Prop
def zAL (T:Nat→TI)(C:zAx)(o:Oper)(st:St)(K:St→Prop):Prop:=match o.op with
 | .move x=>match x with
   | .tmp t=>match lkp st.env t with
     |.own k rows=>t<100000∧K (setD (setE (addOb (setE st t .u) t k rows false) t (.ar t)) o.dst (.ar t))
     |v=>if zAg v then K (setD (setE st t .u) o.dst v)else K (setD st o.dst v)
   |x=>K (setD st o.dst (ev st.env x))
 |.assign x=>K (setD (strip st x) o.dst (ev st.env x))
 | .pick c a b=>match ev st.env c,ev st.env a,ev st.env b with
   |.b x,.b p,.b q=>K (setD st o.dst (.b (bif x then p else q)))
   |.b x,v,w=>cnd x (K (setD (strip st a) o.dst v)) (K (setD (strip st b) o.dst w))
   |_,_,_=>False
 | .alloc e=>match o.dst with
   |some d=>d<100000∧(T e).known=true∧K (setE (addOb st d (T e).size [(T e).zero] true) d (.p d 0 0))
   |none=>False
 | .box e x=>match o.dst with
   |some d=>d<100000∧(T e).known=true∧(cellsOf (ev st.env x)).length=(T e).size∧zCG (cellsOf (ev st.env x))=true∧K (setE (addOb (strip st x) d (T e).size [zCF d (cellsOf (ev st.env x))] true) d (.p d 0 0))
   |none=>False
 | .build t ps=>match(T t).kind with
   |.struct fs=>(T t).known=true∧zHx T fs=true∧zGi T fs (T t).size (zFb st ps)=true∧K (setD (zFJ st (opnds ps)) o.dst (.agg (zCJ fs (T t).zero (zFb st ps))))
   |_=>False
 | .buildSlice t len ps=>match(T t).kind with
   |.slice e=>(T e).known=true∧ps.size=len∧len*(T e).size≤16777216∧zUc 0 ps.toList=true∧zJd (T e).size (zFP st (opnds ps))=true ∧
     K (setD (zFJ st (opnds ps)) o.dst (.own (T e).size ((zFP st (opnds ps)).map cellsOf)))
   |_=>False
 |.load t a=>zGb T t (ev st.env a) o.dst st K
 |.store t a x=>zJP T t (ev st.env a) x st (kSk o.dst K)
 | .nilCheck x=>match ev st.env x with
   |.p a b c=>K (setD st o.dst (.p a b c))
   |.ro c=>K (setD st o.dst (.ro c))
   |_=>False
 | .binOp op t x y _=>match ev st.env x,ev st.env y with
   | .agg a,.agg b=>match(T t).kind with
     | .struct fs=>match op,eqFs T 0 fs a b with
       |.eql,some r=>K (setD st o.dst (.b r))
       |.neq,some r=>K (setD st o.dst (.b !r))
       |_,_=>False
     |_=>False
   | .sl _ rows,.nil=>match op,(T t).kind with
     |.eql,.slice _=>zIP y=true∧∀z:Bool,(rows≠[]→z=false)→K (setD st o.dst (.b z))
     |.neq,.slice _=>zIP y=true∧∀z:Bool,(rows≠[]→z=true)→K (setD st o.dst (.b z))
     |_,_=>False
   | .b p,.b q=>match op,(T t).kind with
     |.eql,.bool=>K (setD st o.dst (.b (decide (p=q))))
     |.neq,.bool=>K (setD st o.dst (.b (!decide (p=q))))
     |_,_=>False
   | .nil,.nil=>match op,(T t).kind with
     |.eql,.slice _=>zIP y=true∧∀z:Bool,K (setD st o.dst (.b z))
     |.neq,.slice _=>zIP y=true∧∀z:Bool,K (setD st o.dst (.b z))
     |_,_=>False
   |a,b=>binK op a b (kTo st o.dst K)
 | .unOp op _ x=>match op,ev st.env x with
   |.not,.b x=>K (setD st o.dst (.b !x))
   |.neg,.i k n=>K (setD st o.dst (.i k (k.wrap (0-n))))
   |_,_=>False
 | .convert src dst x=>match(T dst).kind,ev st.env x with
   |.int k,.i _ n=>(T src).known=true∧K (setD st o.dst (.i k (k.wrap n)))
   | .slice e,.s l=>match(T e).kind,(T src).kind with
     |.int .u8,.str=>K (setD st o.dst (.sl 1 (zBo l)))
     |_,_=>False
   | .str,v=>match v,(T src).kind with
     |.s l,.str=>K (setD st o.dst (.s l))
     | .sl _ rows,.slice e|.own _ rows,.slice e=>match(T e).kind,bytesOf rows with
       |.int .u8,some l=>K (setD st o.dst (.s l))
       |_,_=>False
     |_,_=>False
   |_,_=>False
 | .makeFunc f first caps=>match f with
   |.func n=>first.size=0∧zBH (caps.toList.map (ev st.env))=false∧K (setD st o.dst (.fn n (caps.toList.map (ev st.env))))
   |_=>False
 | .makeSlice t l c=>match(T t).kind,ev st.env l,ev st.env c with
   |.slice e,.i .i64 n,.i .i64 m=>(T e).known=true∧n=m∧0≤n∧n≤9223372036854775807∧n*(T e).bytes≤140737488355328∧K (setD st o.dst (.own (T e).size (List.replicate n.toNat (T e).zero)))
   |_,_,_=>False
 |.slice t x lo hi mx=>zFK T t x lo hi mx o.dst st K
 | .fieldAddr s x f=>match(T s).kind,ev st.env x with
   | .struct fs,.p a i off=>match fs[f]? with
     |some (ft,fo)=>(T ft).known=true∧(T ft).size≠0∧K (setD st o.dst (.p a i (off+fo)))
     |none=>False
   | .struct fs,.ro cs=>match fs[f]? with
     |some (ft,fo)=>(T ft).known=true∧(T ft).size≠0∧K (setD st o.dst (.ro (cs.drop fo)))
     |none=>False
   |_,_=>False
 | .field s x f=>match(T s).kind,ev st.env x with
   | .struct fs,.agg cs=>match fs[f]? with
     |some (ft,fo)=>(T ft).known=true∧zBH cs=false∧fo+(T ft).size≤cs.length∧K (setD st o.dst (valOf T ft ((cs.drop fo).take (T ft).size)))
     |none=>False
   |_,_=>False
 | .indexAddr t x ix=>match(T t).kind,ev st.env x,ev st.env ix with
   |.slice e,.sl k rows,.i _ n=>(T e).known=true∧k=(T e).size∧(0≤n∧n<rows.length)∧ixK rows n.toNat o.dst st K
   |.slice e,.own k rows,.i _ n=>(T e).known=true∧k=(T e).size∧(0≤n∧n<rows.length)∧ixK (zBX rows) n.toNat o.dst (frzT st x) K
   | .slice e,.ar a,.i _ n=>match zAZ st.ob a with
     |some y=>(T e).known=true∧y.k=(T e).size∧(0≤n∧n<y.rows.length)∧K (setD st o.dst (.p a n.toNat 0))
     |none=>False
   |_,_,_=>False
 | .index t x ix=>match(T t).kind,ev st.env x,ev st.env ix with
   |.str,.s l,.i _ n=>(0≤n∧n<l.length)∧chK l n.toNat o.dst st K
   |_,_,_=>False
 | .extract x j=>match x with
   | .tmp t=>match lkp st.env t with
     |.tup vs=>j<vs.length∧K (setD (if zAg (lkp vs j)then setE st t (.tup (upd vs j .u))else st) o.dst (lkp vs j))
     |_=>False
   |_=>False
 | .call c=>match c.callee with
   | .builtin .len=>match c.args.toList,c.argTypes.toList with
     | [x],[t]=>match(T t).kind,ev st.env x with
       |.str,.s l=>K (setD st o.dst (.i .i64 l.length))
       | .slice _,v=>match zRk st v with
         |some n=>K (setD st o.dst (.i .i64 n))
         |none=>False
       |_,_=>False
     |_,_=>False
   | .builtin .append=>match c.args.toList,c.argTypes.toList with
     | [x,y],[t,t']=>match(T t).kind,(T t').kind,moreRows st y with
       | .slice e,.slice _,some (k',rows',st1)=>match takeRows st1 (T e).size x with
         |some (k,rows,st2)=>(T e).known=true∧k=(T e).size∧(k'=(T e).size∨rows'=[])∧rows.length+rows'.length≤9223372036854775807∧(rows.length+rows'.length)*(T e).bytes≤140737488355328 ∧
           K (setD st2 o.dst (.own (T e).size (rows++rows')))
         |none=>False
       |_,_,_=>False
     |_,_=>False
   |.value f=>C f c.args.toList o.dst st K
   |_=>False
 |_=>False
def chk (b:Bool)(K:Prop):Prop:=match b with
 |true=>K
 |false=>False
def flat (T:Nat→TI):Nat→Nat→List TK
 |0,t=>[(T t).kind]
 | n+1,t=>match(T t).kind with
   |.struct fs=>fs.flatMap fun f=>flat T n f.1
   |k=>[k]
def zHA (T:Nat→TI):List TK→List SV→Prop
 |[],row=>row=[]
 | k::ks,row=>match row with
   |[]=>False
   | c::cs=>(match k,c with
     |.int k,.i k' _=>k=k'
     |.bool,.b _=>True
     |.str,.s _=>True
     |.slice e,.sl n _=>n=(T e).size
     |_,_=>False)∧zHA T ks cs
def shapes (T:Nat→TI)(ks:List TK)(rows:List (List SV)):Prop:=∀row∈rows,zHA T ks row
def zEd (T:Nat→TI):List TK→(List SV→Prop)→Prop
 |[],K=>K []
 | k::ks,K=>match k with
   |.int k=>∀n:Int,zEd T ks fun r=>K (.i k n::r)
   |.bool=>∀x:Bool,zEd T ks fun r=>K (.b x::r)
   |.str=>∀x:List UInt8,zEd T ks fun r=>K (.s x::r)
   |.slice e=>∀rows:List (List SV),zEd T ks fun r=>K (.sl (T e).size rows::r)
   |_=>False
def zUk (T:Nat→TI)(k:TK)(v:SV):SV:=match k,v with
 |.slice e,.nil=>.own (T e).size []
 |_,v=>v
def zCX (T:Nat→TI):List TK→List SV→List SV
 |k::ks,v::vs=>zUk T k v::zCX T ks vs
 |_,vs=>vs
def zDz (T:Nat→TI)(ks:List TK):List (List SV)→List (List SV)
 |[]=>[]
 |r::l=>zCX T ks r::zDz T ks l
def ble (a b:Nat):Bool:=Nat.ble a b
def zXG:List (List SV)→Bool
 |[]=>true
 |_=>false
def binN (op:BinOp)(x y:SV)(K:SV→Prop):Prop:=match x,y with
 | .i k a,.i k' b=>match op with
   |.add=>chk (decide (k=k')) (K (.i k (k.wrap (a+b))))
   |.sub=>chk (decide (k=k')) (K (.i k (k.wrap (a-b))))
   |.mul=>chk (decide (k=k')) (K (.i k (k.wrap (a*b))))
   |.quo=>chk (decide (k=k')) (b≠0∧K (.i k (k.wrap (a.tdiv b))))
   |.rem=>chk (decide (k=k')) (b≠0∧K (.i k (a.tmod b)))
   |.shl=>0≤b∧K (.i k (k.wrap (a*2^min b.toNat k.bits)))
   |.shr=>0≤b∧K (.i k (a.fdiv (2^min b.toNat k.bits)))
   | .and|.or|.xor=>match bitI op k a b with
     |some r=>chk (decide (k=k')) (K (.i k r))
     |none=>False
   | _=>match cmpB op a b with
     |some r=>chk (decide (k=k')) (K (.b r))
     |none=>False
 | .s a,.s b=>match op with
   |.add=>a.length+b.length≤9223372036854775807∧K (.s (a++b))
   | _=>match strB op a b with
     |some r=>K (.b r)
     |none=>False
 |_,_=>False
def zHH (o i off d:Nat)(K:St→Prop)(st:St):Prop:=match zAZ st.ob o with
 | some x=>match x.rows[i]? with
   | some row=>match lkp row off with
     | .own k rows=>chk (Nat.blt d 100000&&d != o&&x.nm&&ble (off+1) row.length) (match zAZ (addOb (zAT st o x.rows i (wr row off [.u])) d k rows false).ob o with
       | some y=>match y.rows[i]? with
         |some row1=>chk (y.nm&&ble (off+1) row1.length) (K (zAT (addOb (zAT st o x.rows i (wr row off [.u])) d k rows false) o y.rows i (wr row1 off [.ar d])))
         |none=>False
       |none=>False)
     |_=>K st
   |none=>False
 |none=>False
def zIK (o i d:Nat):Nat→Nat→(St→Prop)→St→Prop
 |0,_,K,st=>K st
 |n+1,j,K,st=>zHH o i j (d+1000*(j+1)) (zIK o i d n (j+1) K) st
def zQD (T:Nat→TI)(t o i off:Nat)(d:Option Tmp)(K:St→Prop)(st:St):Prop:=match zAZ st.ob o with
 | some x=>match x.rows[i]? with
   |some row=>chk ((T t).known&&ble (off+(T t).size) row.length&&!zAg (valOf T t ((row.drop off).take (T t).size))) (K (setD st d (valOf T t ((row.drop off).take (T t).size))))
   |none=>False
 |none=>False
def zUm (T:Nat→TI)(t o i off:Nat)(x:Ob)(d:Option Tmp)(K:St→Prop)(st:St):Prop:=match(T t).kind with
 | .slice e=>match d with
   |some d=>chk ((T t).known&&(T t).size==1) (i<x.rows.length∧∀row,x.rows[i]? = some row→(off+1≤row.length∧∃r,(row.drop off).take 1=[.own (T e).size r]) ∧
     ∀r,(row.drop off).take 1=[.own (T e).size r]→K (setD (zAT st o x.rows i (wr row off [.u])) (some d) (.own (T e).size r)))
   |none=>False
 |_=>chk ((T t).known) (i<x.rows.length∧∀row,x.rows[i]? = some row→(off+(T t).size≤row.length∧zHA T (flat T 4 t) ((row.drop off).take (T t).size)) ∧
     zEd T (flat T 4 t) fun cs=>(row.drop off).take (T t).size=cs→chk (!zAg (valOf T t cs)) (K (setD st d (valOf T t cs))))
def dOf:Option Tmp→Nat
 |some d=>d
 |none=>0
def zWu (T:Nat→TI)(t:Nat)(x:Operand)(d:Option Tmp)(K:St→Prop)(st:St):Prop:=match ev st.env x with
 |.p o i off=>zQD T t o i off d K st
 |_=>False
def zWv (T:Nat→TI)(t:Nat)(a:Operand)(d:Option Tmp)(st:St)(K:St→Prop):Prop:=match ev st.env a with
 |.ro cells=>chk ((T t).known&&(T t).size != 0&&ble (T t).size cells.length) (K (setD st d (valOf T t (cells.take (T t).size))))
 | .p o i off=>match zAZ st.ob o with
   | some x=>match x.nm with
     |true=>zIK o i (dOf d) (T t).size off (zWu T t a d K) st
     |false=>zUm T t o i off x d K st
   |none=>False
 |_=>False
def nilL:List SV→List SV→Prop
 |[],ys=>ys=[]
 | x::xs,ys=>match ys with
   |[]=>False
   |y::ys=>(y=x∨(x = .nil∧∃k,y = .own k []∨y = .sl k []))∧nilL xs ys
def zTD (T:Nat→TI)(t:Nat)(a:SV)(x:Operand)(st:St)(K:St→Prop):Prop:=match a with
 | .p o i off=>match zAZ (strip st x).ob o with
   | some y=>chk ((T t).known&&(cellsOf (ev st.env x)).length==(T t).size&&(y.nm||zBz (cellsOf (ev st.env x)))&&zCG (cellsOf (ev st.env x))) (match y.nm with
     | true=>match y.rows[i]? with
       |some row=>chk (ble (off+(T t).size) row.length) (K (zAT (strip st x) o y.rows i (wr row off (cellsOf (ev st.env x)))))
       |none=>False
     |false=>i<y.rows.length∧∀row,y.rows[i]? = some row→off+(T t).size≤row.length∧∃cs,nilL (cellsOf (ev st.env x)) cs∧K (zAT (strip st x) o y.rows i (wr row off cs)))
   |none=>False
 |_=>False
def zPc (T:Nat→TI)(t:Nat)(x:Operand)(lo hi mx:Option Operand)(d:Option Tmp)(st:St)(K:St→Prop):Prop :=
 match(T t).kind,ev st.env x with
 | .slice e,.sl k rows=>chk ((T e).known&&k==(T e).size) (match mx with
   | none=>match zCD st.env 0 lo,zCD st.env rows.length hi with
     |some a,some b=>(0≤a∧a≤b∧b≤rows.length)∧K (setD st d (.sl k ((rows.take b.toNat).drop a.toNat)))
     |_,_=>False
   | some m=>match zCD st.env 0 lo,hi,zCD st.env 0 hi,zCD st.env 0 (some m)with
     |some a,some _,some b,some c=>(0≤a∧a≤b∧b≤c∧c≤rows.length∧c≠0)∧K (setD st d (.sl k ((rows.take b.toNat).drop a.toNat)))
     |_,_,_,_=>False)
 |_,_=>zFK T t x lo hi mx d st K
def ixN (T:Nat→TI)(e:Nat)(rows:List (List SV))(n:Nat)(d:Option Tmp)(st:St)(K:St→Prop):Prop :=
 shapes T (flat T 4 e) rows∧zEd T (flat T 4 e) fun row=>rows[n]? = some row→K (setD st d (.ro row))
def zAi (T:Nat→TI)(C:zAx)(o:Oper)(st:St)(K:St→Prop):Prop:=match o.op with
 | .alloc e=>match o.dst with
   |some d=>chk (Nat.blt d 100000&&(T e).known) (K (setE (addOb st d (T e).size [(T e).zero] true) d (.p d 0 0)))
   |none=>False
 | .box e x=>match o.dst with
   |some d=>chk (Nat.blt d 100000&&(T e).known&&(cellsOf (ev st.env x)).length==(T e).size&&zCG (cellsOf (ev st.env x))) (K (setE (addOb (strip st x) d (T e).size [zCF d (cellsOf (ev st.env x))] true) d (.p d 0 0)))
   |none=>False
 | .build t ps=>match(T t).kind with
   |.struct fs=>chk ((T t).known&&zHx T fs&&zGi T fs (T t).size (zFb st ps)) (K (setD (zFJ st (opnds ps)) o.dst (.agg (zCJ fs (T t).zero (zFb st ps)))))
   |_=>False
 | .buildSlice t len ps=>match(T t).kind with
   |.slice e=>chk ((T e).known&&ps.size==len&&ble (len*(T e).size) 16777216&&zUc 0 ps.toList&&zJd (T e).size (zFP st (opnds ps)))
     (K (setD (zFJ st (opnds ps)) o.dst (.own (T e).size (zDz T (flat T 4 e) ((zFP st (opnds ps)).map cellsOf)))))
   |_=>False
 |.load t a=>zWv T t a o.dst st K
 |.store t a x=>zTD T t (ev st.env a) x st (kSk o.dst K)
 | .binOp op t x y _=>match ev st.env x,ev st.env y with
   |.i k a,.i k' b=>binN op (.i k a) (.i k' b) (kTo st o.dst K)
   |.s a,.s b=>binN op (.s a) (.s b) (kTo st o.dst K)
   |_,_=>zAL T C o st K
 | .convert src dst x=>match(T dst).kind,ev st.env x with
   |.int k,.i _ n=>chk (T src).known (K (setD st o.dst (.i k (k.wrap n))))
   |_,_=>zAL T C o st K
 | .makeFunc f first caps=>match f with
   |.func n=>chk (first.size==0&&!zBH (caps.toList.map (ev st.env))) (K (setD st o.dst (.fn n (caps.toList.map (ev st.env)))))
   |_=>False
 |.slice t x lo hi mx=>zPc T t x lo hi mx o.dst st K
 | .fieldAddr s x f=>match(T s).kind,ev st.env x with
   | .struct fs,.p a i off=>match fs[f]? with
     |some (ft,fo)=>chk ((T ft).known&&(T ft).size != 0) (K (setD st o.dst (.p a i (off+fo))))
     |none=>False
   | .struct fs,.ro cs=>match fs[f]? with
     |some (ft,fo)=>chk ((T ft).known&&(T ft).size != 0) (K (setD st o.dst (.ro (cs.drop fo))))
     |none=>False
   |_,_=>False
 | .field s x f=>match(T s).kind,ev st.env x with
   | .struct fs,.agg cs=>match fs[f]? with
     |some (ft,fo)=>chk ((T ft).known&&!zBH cs&&ble (fo+(T ft).size) cs.length) (K (setD st o.dst (valOf T ft ((cs.drop fo).take (T ft).size))))
     |none=>False
   |_,_=>False
 | .indexAddr t x ix=>match(T t).kind,ev st.env x,ev st.env ix with
   |.slice e,.sl k rows,.i _ n=>chk ((T e).known&&k==(T e).size) ((0≤n∧n<rows.length)∧ixN T e rows n.toNat o.dst st K)
   |.slice e,.own k rows,.i _ n=>chk ((T e).known&&k==(T e).size) ((0≤n∧n<rows.length)∧ixN T e (zBX rows) n.toNat o.dst (frzT st x) K)
   | .slice e,.ar a,.i _ n=>match zAZ st.ob a with
     |some y=>chk ((T e).known&&y.k==(T e).size) ((0≤n∧n<y.rows.length)∧K (setD st o.dst (.p a n.toNat 0)))
     |none=>False
   |_,_,_=>False
 | .extract x j=>match x with
   | .tmp t=>match lkp st.env t with
     |.tup vs=>chk (Nat.blt j vs.length) (K (setD (match zAg (lkp vs j)with|true=>setE st t (.tup (upd vs j .u))|false=>st) o.dst (lkp vs j)))
     |_=>False
   |_=>False
 | .call c=>match c.callee with
   | .builtin .append=>match c.args.toList,c.argTypes.toList with
     | [x,y],[t,t']=>match(T t).kind,(T t').kind,moreRows st y with
       | .slice e,.slice _,some (k',rows',st1)=>match takeRows st1 (T e).size x with
         |some (k,rows,st2)=>chk ((T e).known&&k==(T e).size&&(k'==(T e).size||zXG rows')) ((rows.length+rows'.length≤9223372036854775807∧(rows.length+rows'.length)*(T e).bytes≤140737488355328) ∧
           K (setD st2 o.dst (.own (T e).size (rows++rows'))))
         |none=>False
       |_,_,_=>False
     |_,_=>False
   |_=>zAL T C o st K
 | .move x=>match x with
   | .tmp t=>match lkp st.env t with
     |.own k rows=>chk (Nat.blt t 100000) (K (setD (setE (addOb (setE st t .u) t k rows false) t (.ar t)) o.dst (.ar t)))
     | v=>match zAg v with
       |true=>K (setD (setE st t .u) o.dst v)
       |false=>K (setD st o.dst v)
   |x=>K (setD st o.dst (ev st.env x))
 |_=>zAL T C o st K
def stepF (T:Nat→TI)(C:zAx)(o:Oper)(K:St→Prop)(st:St):Prop:=zAi T C o st K
def zEa (ops:Array Oper)(o:Oper)(st:St)(yes no:St→Prop):Prop:=match o.guard with
 |none=>yes st
 | some (j,w)=>match(ops[j]?).bind (·.dst)with
   | some d=>match lkp st.env d with
     |.sk=>no st
     |.b x=>cnd (x==w) (yes (setE st d (.b w))) (no (setE st d (.b !w)))
     |_=>False
   |none=>False
def opsK (T:Nat→TI)(C:zAx)(ops:Array Oper):List Oper→(St→Prop)→St→Prop
 |[],K,st=>K st
 |o::rest,K,st=>zEa ops o st (stepF T C o (opsK T C ops rest K)) (kSk o.dst (opsK T C ops rest K))
abbrev FP:=Nat→Nat
def zf:FP:=fun _=>0
def one (g:Nat):FP:=fun h=>if h=g then 1 else 0
structure BRec where
 blk:Option (Nat×Nat×Nat)
 k:Nat
 n:Nat
structure Gh where
 F:Nat→Prop
 β:Nat→Option BRec
def Gh.pure (G:Gh):Gh:=⟨G.F,fun _=>none⟩
def ones (n:Nat)(vs:List Value):Prop:=∀j v,j<n→vs[j]? = some v→v.oneCell'=true
mutual
def R (w:World)(G:Gh):SV→Value→FP→Prop
 |.u,_,f=>f=zf
 |.sk,v,f=>f=zf∧v=undef
 |.i k n,v,f=>f=zf∧v = .int k n
 |.b x,v,f=>f=zf∧v = .bool x
 |.s l,v,f=>f=zf∧v = .string ⟨l.toArray⟩
 |.sl k rows,v,f=>f=zf∧∃a cap,v = .slice a rows.length cap∧rows.length≤cap∧(rows=[] ∨
   ∃g base c e fr,a=some ⟨g,base,none⟩∧G.F g∧w.heap[g]? = some (.cells c e fr)∧(∀r∈rows,r.length=k)∧RLL w G.pure rows (c.toList.drop base) zf)
 |.own k rows,v,f=>(rows=[]∧f=zf∧∃a,v = .slice a 0 0) ∨
   ∃g base cap c e f',v = .slice (some ⟨g,base,none⟩) rows.length cap∧rows.length≤cap∧w.heap[g]? = some (.cells c e (0,0))∧base+cap*k≤c.size ∧
    (∀r∈rows,r.length=k)∧RLL w G.pure rows (c.toList.drop base) f'∧f=fun h=>one g h+f' h
 |.ar o,v,f=>f=zf∧∃r,G.β o=some r∧match r.blk with
   |none=>r.n=0∧∃a,v = .slice a 0 0
   |some (g,base,csz)=>∃cap,v = .slice (some ⟨g,base,none⟩) r.n cap∧r.n≤cap∧base+cap*r.k≤csz
 |.p o i off,v,f=>f=zf∧∃g base csz k n,G.β o=some ⟨some (g,base,csz),k,n⟩∧v = .pointer (some ⟨g,base+i*k+off,none⟩)
 |.ro cells,v,f=>f=zf∧∃g a c e fr,v = .pointer (some ⟨g,a,none⟩)∧G.F g∧w.heap[g]? = some (.cells c e fr)∧RL w G.pure cells (c.toList.drop a) zf
 |.nilp,v,f=>f=zf∧v = .pointer none
 |.nil,v,f=>f=zf∧∃a,v = .slice a 0 0
 |.fn n caps,v,f=>f=zf∧∃vs,v = .func (.func n) #[] vs∧vs.size=caps.length∧RL w G caps vs.toList zf
 |.agg cells,v,f=>∃vs,v = .agg vs∧vs.size=cells.length∧RL w G cells vs.toList f
 |.tup cells,v,f=>∃vs,v = .tuple vs∧vs.size=cells.length∧RL w G cells vs.toList f
def RL (w:World)(G:Gh):List SV→List Value→FP→Prop
 |[],_,f=>f=zf
 |x::l,vs,f=>∃v vs' f1 f2,vs=v::vs'∧R w G x v f1∧RL w G l vs' f2∧f=fun h=>f1 h+f2 h
def RLL (w:World)(G:Gh):List (List SV)→List Value→FP→Prop
 |[],_,f=>f=zf
 |r::l,vs,f=>∃f1 f2,RL w G r vs f1∧ones r.length vs∧RLL w G l (vs.drop r.length) f2∧f=fun h=>f1 h+f2 h
end
def RO (w:World)(G:Gh)(x:Ob)(f:FP):Prop :=
 ∃r,G.β x.name=some r∧r.k=x.k∧r.n=x.rows.length∧(∀row∈x.rows,row.length=x.k)∧match r.blk with
  |none=>x.rows=[]∧f=zf
  |some (g,base,csz)=>∃c e f',w.heap[g]? = some (.cells c e (0,0))∧c.size=csz∧base+r.n*r.k≤csz ∧
    RLL w (if x.nm then G else G.pure) x.rows (c.toList.drop base) f'∧f=fun h=>one g h+f' h
def ROs (w:World)(G:Gh):List Ob→FP→Prop
 |[],f=>f=zf
 |x::l,f=>∃f1 f2,RO w G x f1∧ROs w G l f2∧f=fun h=>f1 h+f2 h
def names:List Ob→List Nat:=List.map Ob.name
structure Lv where
 lv:Nat→Prop
 fr:Nat→Prop
 bn:Nat→Option BRec
structure Core (w0:World)(L:Lv)(st:St)(tmps:Array Value)(w:World)(G:Gh)(fE fO fX:FP):Prop where
 size:tmps.size=st.env.length
 E:RL w G st.env tmps.toList fE
 O:ROs w G st.ob fO
 le:∀g,fE g+fO g+fX g≤1
 fz:∀g,G.F g→fE g+fO g+fX g=0
 lf:∀g,L.lv g→fE g+fO g+fX g=0
 lt:∀g,1≤fE g+fO g+fX g→g<w.heap.size
 nodup:(names st.ob).Nodup
 fl:∀g,G.F g→L.lv g→L.fr g
 fm:∀g,L.fr g→G.F g
 bk:∀n r,100000≤n→L.bn n=some r→G.β n=some r
 fsize:∀g,G.F g→g<w.heap.size
 keep:∀g,L.lv g→w.heap[g]? = w0.heap[g]?
 lsize:∀g,L.lv g→g<w0.heap.size
 grow:w0.heap.size≤w.heap.size
 os:w.os=w0.os
 tape:w.tape=w0.tape
 output:w.output=w0.output
def SR (w0:World)(L:Lv)(st:St)(tmps:Array Value)(w:World)(G:Gh):Prop:=∃fE fO,Core w0 L st tmps w G fE fO zf
def zUz (f:FP):(fun h=>zf h+f h)=f:=by funext h;simp[zf]
def zHg (f:FP):(fun h=>f h+zf h)=f:=by funext h;simp[zf]
mutual
def R.frame {w w':World}{G G':Gh}(hF:∀ g,G.F g→G'.F g)(hβ:G'.β=G.β)(hw:∀ g,G.F g→w'.heap[g]? = w.heap[g]?) :
  ∀(x:SV) (v:Value) (f:FP),(∀g,1≤f g→w'.heap[g]? = w.heap[g]?)→R w G x v f→R w' G' x v f
 |.u,v,f,hf,h=>by simpa[R]using h
 |.sk,v,f,hf,h=>by simpa[R]using h
 |.i k n,v,f,hf,h=>by simpa[R]using h
 |.b _,v,f,hf,h=>by simpa[R]using h
 |.s _,v,f,hf,h=>by simpa[R]using h
 | .sl k rows,v,f,hf,h=>by
   simp only[R]at h ⊢;obtain⟨h0,a,cap,hv,hc,h⟩:=h;refine⟨h0,a,cap,hv,hc,?_⟩;rcases h with h|⟨g,base,c,e,fr,ha,hg,hh,hl,hr⟩
   ·exact .inl h
   ·exact .inr ⟨g,base,c,e,fr,ha,hF g hg,by rw[hw g hg];exact hh,hl,RLL.frame (G:=G.pure) (G':=G'.pure) hF rfl hw rows _ zf (by simp[zf]) hr⟩
 | .own k rows,v,f,hf,h=>by
   simp only[R]at h ⊢;rcases h with h|⟨g,base,cap,c,e,f',hv,hc,hh,hb,hl,hr,hff⟩
   ·exact .inl h
   ·refine .inr ⟨g,base,cap,c,e,f',hv,hc,?_,hb,hl,RLL.frame (G:=G.pure) (G':=G'.pure) hF rfl hw rows _ f' (fun j hj=>hf j (by rw[hff];simp only;omega)) hr,hff⟩;rw[hf g (by rw[hff];simp[one])];exact hh
 | .ar o,v,f,hf,h=>by
   simp only[R]at h ⊢;rw[hβ];exact h
 | .p o i off,v,f,hf,h=>by
   simp only[R]at h ⊢;rw[hβ];exact h
 | .ro cells,v,f,hf,h=>by
   simp only[R]at h ⊢;obtain⟨h0,g,a,c,e,fr,hv,hg,hh,hr⟩:=h;exact⟨h0,g,a,c,e,fr,hv,hF g hg,by rw[hw g hg];exact hh,RL.frame (G:=G.pure) (G':=G'.pure) hF rfl hw cells _ zf (by simp[zf]) hr⟩
 |.nilp,v,f,hf,h=>by simpa[R]using h
 |.nil,v,f,hf,h=>by simpa[R]using h
 | .fn n caps,v,f,hf,h=>by
   simp only[R]at h ⊢;obtain⟨h0,vs,hv,hs,hr⟩:=h;exact⟨h0,vs,hv,hs,RL.frame hF hβ hw caps _ zf (by simp[zf]) hr⟩
 | .agg cells,v,f,hf,h=>by
   simp only[R]at h ⊢;obtain⟨vs,hv,hs,hr⟩:=h;exact⟨vs,hv,hs,RL.frame hF hβ hw cells _ f hf hr⟩
 | .tup cells,v,f,hf,h=>by
   simp only[R]at h ⊢;obtain⟨vs,hv,hs,hr⟩:=h;exact⟨vs,hv,hs,RL.frame hF hβ hw cells _ f hf hr⟩
def RL.frame {w w':World}{G G':Gh}(hF:∀ g,G.F g→G'.F g)(hβ:G'.β=G.β)(hw:∀ g,G.F g→w'.heap[g]? = w.heap[g]?) :
  ∀(l:List SV) (vs:List Value) (f:FP),(∀g,1≤f g→w'.heap[g]? = w.heap[g]?)→RL w G l vs f→RL w' G' l vs f
 |[],vs,f,hf,h=>by simpa[RL]using h
 | x::l,vs,f,hf,h=>by
   simp only[RL]at h ⊢;obtain⟨v,vs',f1,f2,hv,h1,h2,hff⟩:=h
   exact⟨v,vs',f1,f2,hv,R.frame hF hβ hw x v f1 (fun g hg=>hf g (by rw[hff];simp only;omega)) h1,
    RL.frame hF hβ hw l vs' f2 (fun g hg=>hf g (by rw[hff];simp only;omega)) h2,hff⟩
def RLL.frame {w w':World}{G G':Gh}(hF:∀ g,G.F g→G'.F g)(hβ:G'.β=G.β)(hw:∀ g,G.F g→w'.heap[g]? = w.heap[g]?) :
  ∀(l:List (List SV)) (vs:List Value) (f:FP),(∀g,1≤f g→w'.heap[g]? = w.heap[g]?)→RLL w G l vs f→RLL w' G' l vs f
 |[],vs,f,hf,h=>by simpa[RLL]using h
 | r::l,vs,f,hf,h=>by
   simp only[RLL]at h ⊢;obtain⟨f1,f2,h1,ho,h2,hff⟩:=h
   exact⟨f1,f2,RL.frame hF hβ hw r vs f1 (fun g hg=>hf g (by rw[hff];simp only;omega)) h1,ho,
    RLL.frame hF hβ hw l _ f2 (fun g hg=>hf g (by rw[hff];simp only;omega)) h2,hff⟩
end
def ROs.frame {w w':World}{G G':Gh}(hF:∀ g,G.F g→G'.F g)(hβ:G'.β=G.β)(hw:∀ g,G.F g→w'.heap[g]? = w.heap[g]?) :
  ∀(l:List Ob) (f:FP),(∀g,1≤f g→w'.heap[g]? = w.heap[g]?)→ROs w G l f→ROs w' G' l f:=by
 intro l
 induction l with
 |nil=>intro f _ h;simpa[ROs]using h
 | cons x l ih=>
   intro f hf h;obtain⟨f1,f2,h1,h2,hff⟩:=h;refine⟨f1,f2,?_,ih f2 (fun g hg=>hf g (by rw[hff];simp only;omega)) h2,hff⟩;obtain⟨r,hr,hk,hn,hl,hm⟩:=h1;refine⟨r,by rw[hβ];exact hr,hk,hn,hl,?_⟩;cases hb:r.blk with
   |none=>rw[hb]at hm;exact hm
   | some q=>
     obtain⟨g,base,csz⟩:=q;rw[hb]at hm;obtain⟨c,e,f',hh,hs,hbb,hr',hff'⟩:=hm;have hsub:∀j,1≤f1 j→w'.heap[j]? = w.heap[j]?:=fun j hj=>hf j (by rw[hff];simp only;omega)
     refine⟨c,e,f',by rw[hsub g (by rw[hff'];simp[one])];exact hh,hs,hbb,?_,hff'⟩;split
     ·rename_i hnm;rw[if_pos hnm]at hr';exact RLL.frame hF hβ hw _ _ f' (fun j hj=>hsub j (by rw[hff'];simp only;omega)) hr'
     ·rename_i hnm;rw[if_neg hnm]at hr';exact RLL.frame (G:=G.pure) (G':=G'.pure) hF rfl hw _ _ f' (fun j hj=>hsub j (by rw[hff'];simp only;omega)) hr'
def zIL:∀(l:List SV) (n:Nat),l.length≤n→lkp l n = .u
 |[],_,_=>rfl
 |_::l,0,h=>by simp at h
 |_::l,n+1,h=>zIL l n (by simpa using h)
def zLL:∀(l:List SV) (n:Nat) (h:n<l.length),lkp l n=l[n]
 |x::l,0,h=>rfl
 |x::l,n+1,h=>by simpa[lkp]using zLL l n (by simpa using h)
@[simp] def zKt:∀(l:List SV) (n:Nat) (v:SV),(upd l n v).length=l.length
  |[],_,_=>rfl
  |_::_,0,_=>rfl
  |x::l,n+1,v=>by simp[upd,zKt l n v]
def zVD:∀(l:List SV) (n:Nat) (v:SV),l.length≤n→upd l n v=l
 |[],_,_,_=>rfl
 |_::l,0,v,h=>by simp at h
 |x::l,n+1,v,h=>by rw[upd,zVD l n v (by simpa using h)]
def zAb (o:Nat):∀l:List SV,(zCF o l).length=l.length
 |[]=>rfl
 |x::l=>by simp[zCF,zAb o l]
def zCo:∀l:List SV,(frzL l).length=l.length
 |[]=>rfl
 |x::l=>by simp[frzL,zCo l]
def zCQ:∀l:List (List SV),(zBX l).length=l.length
 |[]=>rfl
 |x::l=>by simp[zBX,zCQ l]
def zCc:∀l:List SV,(zCd l).length=l.length
 |[]=>rfl
 |x::l=>by simp[zCd,zCc l]
def RL.split {w:World}{G:Gh}:∀(l:List SV) (vs:List Value) (f:FP) (n:Nat),n<l.length→RL w G l vs f →
  ∃(v:Value) (f1 f2:FP),vs[n]? = some v∧R w G (lkp l n) v f1∧(f=fun h=>f1 h+f2 h)∧∀x' v' f',R w G x' v' f'→RL w G (upd l n x') (vs.set n v') (fun h=>f' h+f2 h)
 | x::l,vs,f,0,_,h=>by
   obtain⟨v,vs',f1,f2,hv,h1,h2,hff⟩:=h;subst hv;refine⟨v,f1,f2,by simp,h1,hff,fun x' v' f' h'=>⟨v',vs',f',f2,by simp,h',h2,rfl⟩⟩
 | x::l,vs,f,n+1,hn,h=>by
   obtain⟨v,vs',f1,f2,hv,h1,h2,hff⟩:=h;subst hv;obtain⟨u,g1,g2,hu,hr,hg,hput⟩:=RL.split l vs' f2 n (by simpa using hn) h2;refine⟨u,g1,fun h=>f1 h+g2 h,by simpa using hu,hr,?_,fun x' v' f' h'=>⟨v,_,f1,_,by simp,h1,hput x' v' f' h',?_⟩⟩
   ·rw[hff,hg];funext j;simp only;omega
   ·funext j;simp only;omega
def R_u (w:World)(G:Gh)(v:Value):R w G .u v zf:=by simp[R]
mutual
def R.zf_of {w:World}{G:Gh}:∀(x:SV) (v:Value) (f:FP),zAg x=false→R w G x v f→f=zf
 |.own k rows,v,f,h,hr=>by simp[zAg]at h
 |.agg cs,v,f,h,hr=>by simp only[R]at hr;obtain⟨vs,_,_,hr⟩:=hr;exact RL.zf_of cs _ _ (by simpa[zAg]using h) hr
 |.tup cs,v,f,h,hr=>by simp only[R]at hr;obtain⟨vs,_,_,hr⟩:=hr;exact RL.zf_of cs _ _ (by simpa[zAg]using h) hr
 |.u,v,f,h,hr=>by simpa[R]using hr
 |.sk,v,f,h,hr=>by simp only[R]at hr;exact hr.1
 |.i _ _,v,f,h,hr=>by simp only[R]at hr;exact hr.1
 |.b _,v,f,h,hr=>by simp only[R]at hr;exact hr.1
 |.s _,v,f,h,hr=>by simp only[R]at hr;exact hr.1
 |.sl _ _,v,f,h,hr=>by simp only[R]at hr;exact hr.1
 |.ar _,v,f,h,hr=>by simp only[R]at hr;exact hr.1
 |.p _ _ _,v,f,h,hr=>by simp only[R]at hr;exact hr.1
 |.ro _,v,f,h,hr=>by simp only[R]at hr;exact hr.1
 |.nilp,v,f,h,hr=>by simp only[R]at hr;exact hr.1
 |.nil,v,f,h,hr=>by simp only[R]at hr;exact hr.1
 |.fn _ _,v,f,h,hr=>by simp only[R]at hr;exact hr.1
def RL.zf_of {w:World}{G:Gh}:∀(l:List SV) (vs:List Value) (f:FP),zBH l=false→RL w G l vs f→f=zf
 |[],vs,f,_,h=>by simpa[RL]using h
 | x::l,vs,f,hl,h=>by
   simp only[zBH,Bool.or_eq_false_iff]at hl;simp only[RL]at h;obtain⟨v,vs',f1,f2,_,h1,h2,hff⟩:=h;rw[R.zf_of x v f1 hl.1 h1,RL.zf_of l vs' f2 hl.2 h2]at hff;rw[hff];funext j;simp[zf]
end
def zCm {G G':Gh}(hF:G'.F=G.F):G'.pure=G.pure:=by simp[Gh.pure,hF]
mutual
def R.kill {w:World}{G G':Gh}{o:Nat}(hF:G'.F=G.F)(hβ:∀ n,n≠o→G'.β n=G.β n) :
  ∀(x:SV) (v:Value) (f:FP),R w G x v f→R w G' (kill o x) v f
 | .ar n,v,f,h=>by
   simp only[AM.kill]
   split
   ·simp only[R]at h ⊢;exact h.1
   ·rename_i hn;simp only[R]at h ⊢;rw[hβ n hn];exact h
 | .p n i off,v,f,h=>by
   simp only[AM.kill]
   split
   ·simp only[R]at h ⊢;exact h.1
   ·rename_i hn;simp only[R]at h ⊢;rw[hβ n hn];exact h
 |.fn n caps,v,f,h=>by simp only[AM.kill,R]at h ⊢;obtain⟨h0,vs,hv,hs,hr⟩:=h;exact⟨h0,vs,hv,by rw[zAb];exact hs,RL.kill hF hβ caps _ _ hr⟩
 |.agg cs,v,f,h=>by simp only[AM.kill,R]at h ⊢;obtain⟨vs,hv,hs,hr⟩:=h;exact⟨vs,hv,by rw[zAb];exact hs,RL.kill hF hβ cs _ _ hr⟩
 |.tup cs,v,f,h=>by simp only[AM.kill,R]at h ⊢;obtain⟨vs,hv,hs,hr⟩:=h;exact⟨vs,hv,by rw[zAb];exact hs,RL.kill hF hβ cs _ _ hr⟩
 |.sl k rows,v,f,h=>by simp only[AM.kill,R,zCm hF,hF]at h ⊢;exact h
 |.own k rows,v,f,h=>by simp only[AM.kill,R,zCm hF]at h ⊢;exact h
 |.ro cells,v,f,h=>by simp only[AM.kill,R,zCm hF,hF]at h ⊢;exact h
 |.u,v,f,h=>by simpa[AM.kill,R]using h
 |.sk,v,f,h=>by simpa[AM.kill,R]using h
 |.i _ _,v,f,h=>by simpa[AM.kill,R]using h
 |.b _,v,f,h=>by simpa[AM.kill,R]using h
 |.s _,v,f,h=>by simpa[AM.kill,R]using h
 |.nilp,v,f,h=>by simpa[AM.kill,R]using h
 |.nil,v,f,h=>by simpa[AM.kill,R]using h
def RL.kill {w:World}{G G':Gh}{o:Nat}(hF:G'.F=G.F)(hβ:∀ n,n≠o→G'.β n=G.β n) :
  ∀(l:List SV) (vs:List Value) (f:FP),RL w G l vs f→RL w G' (zCF o l) vs f
 |[],vs,f,h=>by simpa[zCF,RL]using h
 | x::l,vs,f,h=>by
   simp only[RL,zCF]at h ⊢;obtain⟨v,vs',f1,f2,hv,h1,h2,hff⟩:=h;exact⟨v,vs',f1,f2,hv,R.kill hF hβ x _ _ h1,RL.kill hF hβ l _ _ h2,hff⟩
end
def RLL.kill {w:World}{G G':Gh}{o:Nat}(hF:G'.F=G.F)(hβ:∀ n,n≠o→G'.β n=G.β n) :
  ∀(l:List (List SV)) (vs:List Value) (f:FP),RLL w G l vs f→RLL w G' (zAw o l) vs f
 |[],vs,f,h=>by simpa[zAw,RLL]using h
 | r::l,vs,f,h=>by
   obtain⟨f1,f2,h1,ho,h2,hff⟩:=h;exact⟨f1,f2,RL.kill hF hβ r _ _ h1,by rw[zAb];exact ho,by rw[zAb];exact RLL.kill hF hβ l _ _ h2,hff⟩
def zFe (o:Nat):∀l:List (List SV),(zAw o l).length=l.length
 |[]=>rfl
 |x::l=>by simp[zAw,zFe o l]
def zIN (o:Nat){k:Nat}:∀l:List (List SV),(∀r∈l,r.length=k)→∀r∈zAw o l,r.length=k
 |[],_,r,h=>by simp[zAw]at h
 | x::l,hl,r,h=>by
   simp only[zAw,List.mem_cons]at h;rcases h with rfl|h
   ·rw[zAb];exact hl x (by simp)
   ·exact zIN o l (fun r hr=>hl r (by simp[hr])) r h
def zCy (o:Nat):∀l:List Ob,names (zCZ o l)=(names l).filter (· ≠ o)
 |[]=>rfl
 | x::l=>by
   simp only[zCZ,names,zMc]
   split
   ·rename_i h;rw[List.filter_cons_of_neg (by simp[h])];exact zCy o l
   ·rename_i h;rw[List.filter_cons_of_pos (by simp[h])];simp only[zMc];exact congrArg _ (zCy o l)
def zKl (o:Nat)(l:List Ob):o ∉ names (zCZ o l):=by rw[zCy];simp
def zCx (o:Nat){l:List Ob}(h:(names l).Nodup):(names (zCZ o l)).Nodup:=by rw[zCy];exact h.filter _
def ROs.kill {w:World}{G G':Gh}{o:Nat}(hF:G'.F=G.F)(hβ:∀ n,n≠o→G'.β n=G.β n) :
  ∀(l:List Ob) (f:FP),ROs w G l f→∃f1 f2:FP,ROs w G' (zCZ o l) f1∧f=fun h=>f1 h+f2 h
 |[],f,h=>⟨f,zf,by simpa[zCZ,ROs]using h,by funext j;simp[zf]⟩
 | x::l,f,h=>by
   have hp:G'.pure=G.pure:=zCm hF;obtain⟨f1,f2,h1,h2,hff⟩:=h;obtain⟨g1,g2,hk,hg⟩:=ROs.kill hF hβ l f2 h2;simp only[zCZ]
   split
   ·refine⟨g1,fun h=>f1 h+g2 h,hk,?_⟩;rw[hff,hg];funext j;simp only;omega
   ·rename_i hne;refine⟨fun h=>f1 h+g1 h,g2,⟨f1,g1,?_,hk,rfl⟩,by rw[hff,hg];funext j;simp only;omega⟩;obtain⟨r,hr,hrk,hrn,hl,hm⟩:=h1;refine⟨r,by rw[hβ _ hne];exact hr,hrk,?_,?_,?_⟩
    ·simp only;split<;>simp[zFe,hrn]
    ·simp only;split
     ·exact zIN o _ hl
     ·exact hl
    ·cases hb:r.blk with
     | none=>
       rw[hb]at hm;obtain⟨e1,e2⟩:=hm;refine⟨?_,e2⟩;simp only;split<;>simp[e1,zAw]
     | some q=>
       obtain⟨g,base,csz⟩:=q;rw[hb]at hm;obtain⟨c,e,f',hh,hs,hbb,hr',hff'⟩:=hm;refine⟨c,e,f',hh,hs,hbb,?_,hff'⟩;by_cases hnm:x.nm=true
       ·simp only[hnm,if_true]at hr' ⊢;exact RLL.kill hF hβ _ _ _ hr'
       ·simp only[hnm,if_false,zFt]at hr' ⊢;rw[hp];exact hr'
def zHR {k:Nat}:∀l:List (List SV),(∀r∈l,r.length=k)→∀r∈zBX l,r.length=k
 |[],_,r,h=>by simp[zBX]at h
 | x::l,hl,r,h=>by
   simp only[zBX,List.mem_cons]at h;rcases h with rfl|h
   ·rw[zCo];exact hl x (by simp)
   ·exact zHR l (fun r hr=>hl r (by simp[hr])) r h
def R.more {w:World}{G G':Gh}(hF:∀ g,G.F g→G'.F g)(hβ:G'.β=G.β)(x:SV)(v:Value)(f:FP)(h:R w G x v f):R w G' x v f :=
 R.frame hF hβ (fun _ _=>rfl) x v f (fun _ _=>rfl) h
def RL.more {w:World}{G G':Gh}(hF:∀ g,G.F g→G'.F g)(hβ:G'.β=G.β)(x:List SV)(v:List Value)(f:FP)(h:RL w G x v f):RL w G' x v f :=
 RL.frame hF hβ (fun _ _=>rfl) x v f (fun _ _=>rfl) h
mutual
def R.freeze {w:World}{G G':Gh}(hF:∀ g,G.F g→G'.F g)(hβ:G'.β=G.β) :
  ∀(x:SV) (v:Value) (f:FP),(∀g,1≤f g→G'.F g)→R w G x v f→R w G' (frz x) v zf
 | .own k rows,v,f,hf,h=>by
   simp only[R,frz]at h ⊢;refine⟨trivial,?_⟩;rcases h with⟨rfl,h0,a,hv⟩|⟨g,base,cap,c,e,f',hv,hc,hh,hb,hl,hr,hff⟩
   ·exact⟨a,0,by simpa[zBX]using hv,by simp[zBX],.inl rfl⟩
   ·refine⟨some ⟨g,base,none⟩,cap,by rw[zCQ];exact hv,by rw[zCQ];exact hc,.inr ⟨g,base,c,e,(0,0),rfl,hf g (by rw[hff];simp[one]),hh,zHR _ hl,?_⟩⟩;exact RLL.freeze (G:=G.pure) (G':=G'.pure) hF rfl rows _ f' (fun j hj=>hf j (by rw[hff];simp only;omega)) hr
 | .agg cs,v,f,hf,h=>by
   simp only[R,frz]at h ⊢;obtain⟨vs,hv,hs,hr⟩:=h;exact⟨vs,hv,by rw[zCo];exact hs,RL.freeze hF hβ cs _ f hf hr⟩
 | .tup cs,v,f,hf,h=>by
   simp only[R,frz]at h ⊢;obtain⟨vs,hv,hs,hr⟩:=h;exact⟨vs,hv,by rw[zCo];exact hs,RL.freeze hF hβ cs _ f hf hr⟩
 |.u,v,f,hf,h=>by simp only[frz];exact R_u _ _ _
 |.sk,v,f,hf,h=>by simp only[R,frz]at h ⊢;exact⟨trivial,h.2⟩
 |.i _ _,v,f,hf,h=>by simp only[R,frz]at h ⊢;exact⟨trivial,h.2⟩
 |.b _,v,f,hf,h=>by simp only[R,frz]at h ⊢;exact⟨trivial,h.2⟩
 |.s _,v,f,hf,h=>by simp only[R,frz]at h ⊢;exact⟨trivial,h.2⟩
 | .sl k r,v,f,hf,h=>by
   have h':=R.more hF hβ _ _ _ h;simp only[R,frz]at h' ⊢;exact⟨trivial,h'.2⟩
 | .ar _,v,f,hf,h=>by
   have h':=R.more hF hβ _ _ _ h;simp only[R,frz]at h' ⊢;exact⟨trivial,h'.2⟩
 | .p _ _ _,v,f,hf,h=>by
   have h':=R.more hF hβ _ _ _ h;simp only[R,frz]at h' ⊢;exact⟨trivial,h'.2⟩
 | .ro _,v,f,hf,h=>by
   have h':=R.more hF hβ _ _ _ h;simp only[R,frz]at h' ⊢;exact⟨trivial,h'.2⟩
 |.nilp,v,f,hf,h=>by simp only[R,frz]at h ⊢;exact⟨trivial,h.2⟩
 |.nil,v,f,hf,h=>by simp only[R,frz]at h ⊢;exact⟨trivial,h.2⟩
 | .fn _ _,v,f,hf,h=>by
   have h':=R.more hF hβ _ _ _ h;simp only[R,frz]at h' ⊢;exact⟨trivial,h'.2⟩
def RL.freeze {w:World}{G G':Gh}(hF:∀ g,G.F g→G'.F g)(hβ:G'.β=G.β) :
  ∀(l:List SV) (vs:List Value) (f:FP),(∀g,1≤f g→G'.F g)→RL w G l vs f→RL w G' (frzL l) vs zf
 |[],vs,f,hf,h=>by simp[frzL,RL]
 | x::l,vs,f,hf,h=>by
   simp only[RL,frzL]at h ⊢;obtain⟨v,vs',f1,f2,hv,h1,h2,hff⟩:=h
   exact⟨v,vs',zf,zf,hv,R.freeze hF hβ x v f1 (fun j hj=>hf j (by rw[hff];simp only;omega)) h1,
    RL.freeze hF hβ l _ f2 (fun j hj=>hf j (by rw[hff];simp only;omega)) h2,by funext j;simp[zf]⟩
def RLL.freeze {w:World}{G G':Gh}(hF:∀ g,G.F g→G'.F g)(hβ:G'.β=G.β) :
  ∀(l:List (List SV)) (vs:List Value) (f:FP),(∀g,1≤f g→G'.F g)→RLL w G l vs f→RLL w G' (zBX l) vs zf
 |[],vs,f,hf,h=>by simp[zBX,RLL]
 | r::l,vs,f,hf,h=>by
   simp only[RLL,zBX]at h ⊢;obtain⟨f1,f2,h1,ho,h2,hff⟩:=h
   exact⟨zf,zf,RL.freeze hF hβ r vs f1 (fun j hj=>hf j (by rw[hff];simp only;omega)) h1,by rw[zCo];exact ho,
    by rw[zCo];exact RLL.freeze hF hβ l _ f2 (fun j hj=>hf j (by rw[hff];simp only;omega)) h2,by funext j;simp[zf]⟩
end
def RLL.split {w:World}{G:Gh}{k:Nat}:∀(rows:List (List SV)) (vs:List Value) (f:FP) (i:Nat) (row:List SV),rows[i]? = some row→(∀r∈rows,r.length=k)→RLL w G rows vs f →
  ∃f1 f2:FP,RL w G row (vs.drop (i*k)) f1∧ones k (vs.drop (i*k))∧(f=fun h=>f1 h+f2 h)∧∀(row':List SV) (vs':List Value) (f':FP),row'.length=k→ones k (vs'.drop (i*k)) →
   (∀j,j<i*k∨(i+1)*k≤j→vs'[j]? = vs[j]?)→RL w G row' (vs'.drop (i*k)) f'→RLL w G (rows.set i row') vs' (fun h=>f' h+f2 h):=by
 intro rows
 induction rows with
 |nil=>intro vs f i row hi;simp at hi
 | cons r rows ih=>
   intro vs f i row hi hl h;simp only[RLL]at h;obtain⟨f1,f2,h1,ho,h2,hff⟩:=h;have hrl:r.length=k:=hl r (by simp);cases i with
   | zero=>
     simp only[List.getElem?_cons_zero,zSe]at hi;subst hi;refine⟨f1,f2,by simpa using h1,by simpa[hrl]using ho,hff,fun row' vs' f' hlen ho' hsame hr=>?_⟩;simp only[List.set_cons_zero,RLL]
     refine⟨f',f2,by simpa using hr,by simpa[hlen]using ho',?_,rfl⟩
     have:vs'.drop row'.length=vs.drop r.length:=by
      apply List.ext_getElem?;intro j;simp only[List.getElem?_drop,hlen,hrl]
      exact hsame _ (.inr (by omega))
     rw[this];exact h2
   | succ i=>
     simp only[List.getElem?_cons_succ]at hi;obtain⟨g1,g2,hr,hgo,hg,hput⟩:=ih (vs.drop r.length) f2 i row hi (fun q hq=>hl q (by simp[hq])) h2;have e:(i+1)*k=k+i*k:=by rw[Nat.add_mul];omega
     refine⟨g1,fun h=>f1 h+g2 h,?_,by rw[List.drop_drop,hrl]at hgo;rw[e];exact hgo,by rw[hff,hg];funext j;simp only;omega,fun row' vs' f' hlen ho' hsame hr'=>?_⟩
     ·rw[List.drop_drop,hrl]at hr;rw[e];exact hr
     ·simp only[List.set_cons_succ,RLL]
      refine⟨f1,fun h=>f' h+g2 h,?_,fun j v hj hv=>ho j v hj (by rw[←hsame j (.inl (by rw[e];omega))];exact hv),?_,by funext j;simp only;omega⟩
      ·have htake:∀(l:List SV) (a b:List Value) (fp:FP),(∀j,j<l.length→a[j]? = b[j]?)→RL w G l b fp→RL w G l a fp:=by
        intro l
        induction l with
        |nil=>intro a b fp _ h;simpa[RL]using h
        | cons x l ihl=>
          intro a b fp hab h;simp only[RL]at h ⊢;obtain⟨v,vs',p1,p2,hv,q1,q2,hp⟩:=h;subst hv;have h0:=hab 0 (by simp);cases a with
          |nil=>simp at h0
          | cons y a=>
            simp only[List.getElem?_cons_zero,zSe]at h0;subst h0;exact⟨y,a,p1,p2,rfl,q1,ihl a vs' p2 (fun j hj=>by have:=hab (j+1) (by simpa using hj);simpa using this) q2,hp⟩
       exact htake r vs' vs f1 (fun j hj=>hsame j (.inl (by rw[e];omega))) h1
      ·refine hput row' _ f' hlen (by rw[List.drop_drop,hrl,←e];exact ho') ?_ ?_
       ·intro j hj;simp only[List.getElem?_drop,hrl]
        refine hsame _ ?_;have e2:(i+1+1)*k=k+(i+1)*k:=by rw[Nat.add_mul (i+1) 1 k];omega
        rcases hj with hj|hj
        ·left;omega
        ·right;rw[e2];omega
       ·rw[List.drop_drop,hrl,←e];exact hr'
def RL.agree {w:World}{G:Gh}:∀(l:List SV) (a b:List Value) (f:FP),(∀j,j<l.length→a[j]? = b[j]?)→RL w G l b f→RL w G l a f:=by
 intro l
 induction l with
 |nil=>intro a b fp _ h;simpa[RL]using h
 | cons x l ihl=>
   intro a b fp hab h;simp only[RL]at h ⊢;obtain⟨v,vs',p1,p2,hv,q1,q2,hp⟩:=h;subst hv;have h0:=hab 0 (by simp);cases a with
   |nil=>simp at h0
   | cons y a=>
     simp only[List.getElem?_cons_zero,zSe]at h0;subst h0;exact⟨y,a,p1,p2,rfl,q1,ihl a vs' p2 (fun j hj=>by have:=hab (j+1) (by simpa using hj);simpa using this) q2,hp⟩
def RLL.agree {w:World}{G:Gh}{k:Nat}:∀(l:List (List SV)) (a b:List Value) (f:FP),(∀r∈l,r.length=k)→(∀j,j<l.length*k→a[j]? = b[j]?)→RLL w G l b f→RLL w G l a f:=by
 intro l
 induction l with
 |nil=>intro a b fp _ _ h;simpa[RLL]using h
 | cons r l ih=>
   intro a b f hl hab h;simp only[RLL]at h ⊢;obtain⟨f1,f2,h1,ho,h2,hff⟩:=h;have hrl:r.length=k:=hl r (by simp);refine⟨f1,f2,RL.agree r a b f1 (fun j hj=>hab j ?_) h1,fun j v hj hv=>ho j v hj (by rw[←hab j (by simp only[zLc,Nat.add_mul];omega)];exact hv),ih _ _ f2 (fun q hq=>hl q (by simp[hq])) (fun j hj=>?_) h2,hff⟩
   ·simp only[zLc,Nat.add_mul];omega
   ·simp only[List.getElem?_drop,hrl];exact hab _ (by simp only[zLc,Nat.add_mul];omega)
def RLL.append {w:World}{G:Gh}{k:Nat}:∀(a b:List (List SV)) (vs:List Value) (f g:FP),(∀r∈a,r.length=k)→RLL w G a vs f→RLL w G b (vs.drop (a.length*k)) g→RLL w G (a++b) vs (fun h=>f h+g h):=by
 intro a
 induction a with
 |nil=>intro b vs f g _ h1 h2;simp only[RLL]at h1;subst h1;simpa[zf]using h2
 | cons r a ih=>
   intro b vs f g hl h1 h2;simp only[RLL,zCa]at h1 ⊢;obtain⟨f1,f2,hr,ho,hs,hff⟩:=h1;have hrl:r.length=k:=hl r (by simp);refine⟨f1,fun h=>f2 h+g h,hr,ho,ih b _ f2 g (fun q hq=>hl q (by simp[hq])) hs ?_,by rw[hff];funext j;simp only;omega⟩;rw[List.drop_drop,hrl];have:(r::a).length*k=k+a.length*k:=by simp only[zLc,Nat.add_mul];omega
   rw[←this];exact h2
def RLL.drop {w:World}{G:Gh}{k:Nat}:∀(n:Nat) (l:List (List SV)) (vs:List Value) (f:FP),(∀r∈l,r.length=k)→RLL w G l vs f→n≤l.length→∃f1:FP,RLL w G (l.drop n) (vs.drop (n*k)) f1∧∀g,f1 g≤f g
 |0,l,vs,f,_,h,_=>⟨f,by simpa using h,fun _=>zLr _⟩
 |n+1,[],vs,f,_,h,hn=>by simp at hn
 | n+1,r::l,vs,f,hl,h,hn=>by
   simp only[RLL]at h;obtain⟨f1,f2,h1,ho,h2,hff⟩:=h;have hrl:r.length=k:=hl r (by simp);obtain⟨g,hg,hle⟩:=RLL.drop n l _ f2 (fun q hq=>hl q (by simp[hq])) h2 (by simpa using hn);refine⟨g,?_,fun j=>by rw[hff];have:=hle j;simp only;omega⟩;rw[List.drop_drop,hrl]at hg;have:(n+1)*k=k+n*k:=by rw[Nat.add_mul];omega
   rw[this];simpa using hg
def RLL.take {w:World}{G:Gh}:∀(n:Nat) (l:List (List SV)) (vs:List Value) (f:FP),RLL w G l vs f→∃f1:FP,RLL w G (l.take n) vs f1∧∀g,f1 g≤f g
 |0,l,vs,f,h=>⟨zf,by simp[RLL],fun _=>by simp[zf]⟩
 |n+1,[],vs,f,h=>⟨f,by simpa using h,fun _=>zLr _⟩
 | n+1,r::l,vs,f,h=>by
   simp only[RLL]at h;obtain⟨f1,f2,h1,ho,h2,hff⟩:=h;obtain⟨g,hg,hle⟩:=RLL.take n l _ f2 h2;exact⟨fun h=>f1 h+g h,by simp only[List.take_succ_cons,RLL];exact⟨f1,g,h1,ho,hg,rfl⟩,fun j=>by rw[hff];have:=hle j;simp only;omega⟩
def RL.drop {w:World}{G:Gh}:∀(n:Nat) (l:List SV) (vs:List Value) (f:FP),RL w G l vs f→∃f1:FP,RL w G (l.drop n) (vs.drop n) f1∧∀g,f1 g≤f g
 |0,l,vs,f,h=>⟨f,by simpa using h,fun _=>zLr _⟩
 |n+1,[],vs,f,h=>⟨zf,by simp[RL],fun _=>by simp[zf]⟩
 | n+1,r::l,vs,f,h=>by
   simp only[RL]at h;obtain⟨v,vs',f1,f2,hv,h1,h2,hff⟩:=h;subst hv;obtain⟨g,hg,hle⟩:=RL.drop n l vs' f2 h2;exact⟨g,by simpa using hg,fun j=>by rw[hff];have:=hle j;simp only;omega⟩
def RL.take {w:World}{G:Gh}:∀(n:Nat) (l:List SV) (vs:List Value) (f:FP),RL w G l vs f→∃f1:FP,RL w G (l.take n) (vs.take n) f1∧∀g,f1 g≤f g
 |0,l,vs,f,h=>⟨zf,by simp[RL],fun _=>by simp[zf]⟩
 |n+1,[],vs,f,h=>⟨zf,by simp[RL],fun _=>by simp[zf]⟩
 | n+1,r::l,vs,f,h=>by
   simp only[RL]at h;obtain⟨v,vs',f1,f2,hv,h1,h2,hff⟩:=h;subst hv;obtain⟨g,hg,hle⟩:=RL.take n l vs' f2 h2;refine⟨fun h=>f1 h+g h,?_,fun j=>by rw[hff];have:=hle j;simp only;omega⟩;simp only[List.take_succ_cons,RL]
   exact⟨v,_,f1,g,rfl,h1,hg,rfl⟩
def RL.length_le {w:World}{G:Gh}:∀(l:List SV) (vs:List Value) (f:FP),RL w G l vs f→l.length≤vs.length
 |[],vs,f,h=>by simp
 | r::l,vs,f,h=>by
   simp only[RL]at h;obtain⟨v,vs',f1,f2,hv,h1,h2,hff⟩:=h;subst hv;have:=RL.length_le l vs' f2 h2;simp;omega
def RL.append {w:World}{G:Gh}:∀(a b:List SV) (vs:List Value) (f g:FP),RL w G a vs f→RL w G b (vs.drop a.length) g→RL w G (a++b) vs (fun h=>f h+g h)
 |[],b,vs,f,g,h1,h2=>by simp only[RL]at h1;subst h1;simpa[zf]using h2
 | x::a,b,vs,f,g,h1,h2=>by
   simp only[RL,zCa]at h1 ⊢;obtain⟨v,vs',f1,f2,hv,q1,q2,hff⟩:=h1;subst hv;exact⟨v,vs',f1,fun h=>f2 h+g h,rfl,q1,RL.append a b vs' f2 g q2 (by simpa using h2),by rw[hff];funext j;simp only;omega⟩
end
end Go.AM
section
namespace Go.AM
def fpa {f a b:FP}(h:f=fun x=>a x+b x)(g:Nat):f g=a g+b g:=by rw[h]
def R.str {w:World}{G:Gh}{b:ByteArray}:R w G (.s b.data.toList) (.string b) zf:=by
 simp only[R];exact⟨trivial,by cases b;simp⟩
def R.const (w:World)(G:Gh):∀v:Value,R w G (zCW v) v zf:=by
 intro v;unfold zCW;split
 ·simp[R]
 ·simp[R]
 ·exact R.str
 ·simp[R]
 ·simp[R]
 ·exact R_u _ _ _
section
variable {w0 w w':World}{L:Lv}{st:St}{tmps:Array Value}{G G':Gh}{fE fO fX:FP}
def Core.less (h:Core w0 L st tmps w G fE fO fX){f:FP}(hf:∀ g,f g≤fX g):Core w0 L st tmps w G fE fO f :=
 {h with
  le:=fun g=>by have:=h.le g;have:=hf g;omega
  fz:=fun g hg=>by have:=h.fz g hg;have:=hf g;omega
  lf:=fun g hg=>by have:=h.lf g hg;have:=hf g;omega
  lt:=fun g hg=>h.lt g (by have:=hf g;omega)}
def Core.put (h:Core w0 L st tmps w G fE fO fX){sv:SV}{v:Value}{fV fX':FP}(hr:R w G sv v fV)(hX:∀ g,fX' g+fV g≤fX g)(t:Nat) :
  ∃fE',Core w0 L (setE st t sv) (tmps.setIfInBounds t v) w G fE' fO fX':=by
 by_cases ht:t<st.env.length
 ·obtain⟨u,f1,f2,hu,h1,hff,hput⟩:=RL.split st.env tmps.toList fE t ht h.E;refine⟨fun g=>fV g+f2 g,?_⟩
  exact
   {size:=by simp[setE,h.size]
    E:=by simpa[setE,Array.toList_setIfInBounds]using hput sv v fV hr
    O:=h.O
    le:=fun g=>by have:=h.le g;have:=hX g;have:=fpa hff g;omega
    fz:=fun g hg=>by have:=h.fz g hg;have:=hX g;have:=fpa hff g;omega
    lf:=fun g hg=>by have:=h.lf g hg;have:=hX g;have:=fpa hff g;omega
    lt:=fun g hg=>h.lt g (by have:=hX g;have:=fpa hff g;omega)
    nodup:=h.nodup,fl:=h.fl,fm:=h.fm,bk:=h.bk,fsize:=h.fsize,keep:=h.keep,lsize:=h.lsize,grow:=h.grow,os:=h.os,tape:=h.tape,output:=h.output}
 ·refine⟨fE,?_⟩;have e1:setE st t sv=st:=by cases st;simp only[setE,zVD _ t sv (by simpa using ht)]
  have e2:tmps.setIfInBounds t v=tmps:=by
   apply Array.ext';rw[Array.toList_setIfInBounds,List.set_eq_of_length_le (by have:=h.size;simpa[this]using ht)]
  rw[e1,e2];exact h.less (fun g=>by have:=hX g;omega)
def Core.putD (h:Core w0 L st tmps w G fE fO fX){sv:SV}{v:Value}{fV fX':FP}(hr:R w G sv v fV)(hX:∀ g,fX' g+fV g≤fX g)(d:Option Tmp)(a:Act)(ha:a.tmps=tmps) :
  ∃fE',Core w0 L (setD st d sv) (a.put d v).tmps w G fE' fO fX':=by
 cases d with
 |none=>exact⟨fE,by simpa[setD,Act.put,ha]using h.less (fun g=>by have:=hX g;omega)⟩
 |some t=>obtain⟨f,hf⟩:=h.put hr hX t;exact⟨f,by simpa[setD,Act.put,ha]using hf⟩
def Core.look (h:Core w0 L st tmps w G fE fO fX)(t:Nat):∃f:FP,R w G (lkp st.env t) (tmps.getD t undef) f∧∀g,f g≤fE g:=by
 by_cases ht:t<st.env.length
 ·obtain⟨u,f1,f2,hu,h1,hff,_⟩:=RL.split st.env tmps.toList fE t ht h.E
  have e:tmps.getD t undef=u:=by
   have:tmps[t]? = some u:=by simpa using hu
   simp[Array.getD_eq_getD_getElem?,this]
  rw[e];exact⟨f1,h1,fun g=>by rw[hff];simp only;omega⟩
 ·rw[zIL _ _ (by omega)];exact⟨zf,R_u _ _ _,fun g=>by simp[zf]⟩
def Core.takeT (h:Core w0 L st tmps w G fE fO fX)(t:Nat) :
  ∃(fE' f:FP),R w G (lkp st.env t) (tmps.getD t undef) f∧Core w0 L (setE st t .u) tmps w G fE' fO (fun g=>fX g+f g):=by
 by_cases ht:t<st.env.length
 ·obtain⟨u,f1,f2,hu,h1,hff,hput⟩:=RL.split st.env tmps.toList fE t ht h.E
  have e:tmps.getD t undef=u:=by
   have:tmps[t]? = some u:=by simpa using hu
   simp[Array.getD_eq_getD_getElem?,this]
  have h2:=hput .u u zf (R_u _ _ _)
  have e2:tmps.toList.set t u=tmps.toList:=by
   apply List.ext_getElem?;intro j;by_cases hj:t=j
   ·subst hj;rw[List.getElem?_set_self' ];simp[hu]
   ·rw[List.getElem?_set_ne hj]
  rw[e2]at h2;rw[e];refine⟨fun g=>zf g+f2 g,f1,h1,?_⟩
  exact
   {size:=by simp[setE,h.size]
    E:=h2
    O:=h.O
    le:=fun g=>by have:=h.le g;have:=fpa hff g;simp only[zf];omega
    fz:=fun g hg=>by have:=h.fz g hg;have:=fpa hff g;simp only[zf];omega
    lf:=fun g hg=>by have:=h.lf g hg;have:=fpa hff g;simp only[zf];omega
    lt:=fun g hg=>h.lt g (by have:=fpa hff g;simp only[zf]at hg;omega)
    nodup:=h.nodup,fl:=h.fl,fm:=h.fm,bk:=h.bk,fsize:=h.fsize,keep:=h.keep,lsize:=h.lsize,grow:=h.grow,os:=h.os,tape:=h.tape,output:=h.output}
 ·have e1:setE st t .u=st:=by cases st;simp only[setE,zVD _ t .u (by simpa using ht)]
  rw[zIL _ _ (by omega),e1];exact⟨fE,zf,R_u _ _ _,h.less (fun g=>by simp[zf])⟩
def Core.ev (h:Core w0 L st tmps w G fE fO fX)(a:Act)(ha:a.tmps=tmps)(x:Operand):∃f:FP,R w G (ev st.env x) (a.eval x) f∧∀g,f g≤fE g:=by
 cases x with
 |tmp t=>simpa[AM.ev,Act.eval,ha]using h.look t
 |const v=>exact⟨zf,R.const _ _ _,fun g=>by simp[zf]⟩
 |global g=>exact⟨zf,R_u _ _ _,fun g=>by simp[zf]⟩
 |func f=>exact⟨zf,by simp[AM.ev,Act.eval,R,RL],fun g=>by simp[zf]⟩
def Core.ev0 (h:Core w0 L st tmps w G fE fO fX)(a:Act)(ha:a.tmps=tmps)(x:Operand)(hx:zAg (AM.ev st.env x)=false):R w G (AM.ev st.env x) (a.eval x) zf:=by
 obtain⟨f,hr,_⟩:=h.ev a ha x;have:=R.zf_of _ _ _ hx hr;rw[this]at hr;exact hr
def Core.take (h:Core w0 L st tmps w G fE fO fX)(a:Act)(ha:a.tmps=tmps)(x:Operand) :
  ∃(fE' f:FP),R w G (AM.ev st.env x) (a.eval x) f∧Core w0 L (strip st x) tmps w G fE' fO (fun g=>fX g+f g):=by
 cases x with
 | tmp t=>
   simp only[strip,AM.ev,Act.eval,ha]
   split
   ·exact h.takeT t
   ·rename_i hn;obtain⟨f,hr,_⟩:=h.look t;have:=R.zf_of _ _ _ (by simpa using hn) hr;rw[this]at hr;exact⟨fE,zf,hr,by simpa[zHg]using h⟩
 |const v=>exact⟨fE,zf,R.const _ _ _,by simpa[strip,zHg]using h⟩
 |global g=>exact⟨fE,zf,R_u _ _ _,by simpa[strip,zHg]using h⟩
 |func f=>exact⟨fE,zf,by simp[AM.ev,Act.eval,R,RL],by simpa[strip,zHg]using h⟩
def Core.takeL (a:Act)(ha:a.tmps=tmps):∀(xs:List Operand) {st:St} {fE fX:FP} (_:Core w0 L st tmps w G fE fO fX),
  ∃(fE' f:FP),RL w G (zFP st xs) (xs.map a.eval) f∧Core w0 L (zFJ st xs) tmps w G fE' fO (fun g=>fX g+f g)
 |[],st,fE,fX,h=>⟨fE,zf,by simp[zFP,RL],by simpa[zFJ,zHg]using h⟩
 | x::xs,st,fE,fX,h=>by
   obtain⟨fE1,f1,hr,h1⟩:=h.take a ha x;obtain⟨fE2,f2,hr2,h2⟩:=Core.takeL a ha xs h1;refine⟨fE2,fun g=>f1 g+f2 g,?_,?_⟩
   ·simp only[zFP,RL,zMc];exact⟨_,_,f1,f2,rfl,hr,hr2,rfl⟩
   ·exact h2.less (fun g=>by dsimp only;omega)
def Core.frame (h:Core w0 L st tmps w G fE fO fX)(hsize:w.heap.size≤w'.heap.size)(hos:w'.os=w.os)(htape:w'.tape=w.tape)(hout:w'.output=w.output)
  (hF:∀g,G.F g→G'.F g) (hβ:G'.β=G.β) (hF':∀g,G'.F g→G.F g∨(fE g+fO g+fX g=0∧¬L.lv g∧g<w'.heap.size) )
  (hb:∀g,g<w.heap.size→w'.heap[g]? = w.heap[g]?):Core w0 L st tmps w' G' fE fO fX where
 size:=h.size
 E:=RL.frame hF hβ (fun g hg=>hb g (h.fsize g hg)) _ _ _ (fun g hg=>hb g (h.lt g (by omega))) h.E
 O:=ROs.frame hF hβ (fun g hg=>hb g (h.fsize g hg)) _ _ (fun g hg=>hb g (h.lt g (by omega))) h.O
 le:=h.le
 fz:=fun g hg=>by rcases hF' g hg with h1|h1;exact h.fz g h1;exact h1.1
 lf:=h.lf
 lt:=fun g hg=>Nat.lt_of_lt_of_le (h.lt g hg) hsize
 nodup:=h.nodup
 fl:=fun g hg hL=>by rcases hF' g hg with h1|h1;exact h.fl g h1 hL;exact absurd hL h1.2.1
 fsize:=fun g hg=>by rcases hF' g hg with h1|h1;exact Nat.lt_of_lt_of_le (h.fsize g h1) hsize;exact h1.2.2
 keep:=fun g hg=>(hb g (Nat.lt_of_lt_of_le (h.lsize g hg) h.grow)).trans (h.keep g hg)
 lsize:=h.lsize
 fm:=fun g hg=>hF g (h.fm g hg)
 bk:=fun n r hn hb=>by rw[hβ];exact h.bk n r hn hb
 grow:=Nat.le_trans h.grow hsize
 os:=hos.trans h.os
 tape:=htape.trans h.tape
 output:=hout.trans h.output
def Core.drew (h:Core w0 L st tmps w G fE fO fX):Core w0 L st tmps w.drew G fE fO fX :=
 h.frame (zLr _) rfl rfl rfl (fun _ h=>h) rfl (fun _ h=>.inl h) (fun _ _=>rfl)
def Core.alloc (h:Core w0 L st tmps w G fE fO fX)(o:Obj):Core w0 L st tmps (w.alloc o) G fE fO fX :=
 h.frame (by simp) rfl rfl rfl (fun _ h=>h) rfl (fun _ h=>.inl h) (fun g hg=>heap_alloc_old w o hg)
def Core.fresh (h:Core w0 L st tmps w G fE fO fX)(o:Obj):Core w0 L st tmps (w.alloc o) G fE fO (fun g=>fX g+one w.heap.size g):=by
 have h':=h.alloc o
 have hz:fE w.heap.size+fO w.heap.size+fX w.heap.size=0:=by
  have:=h.lt w.heap.size;omega
 exact
  {h' with
   le:=fun g=>by have:=h.le g;simp only[one];split<;>first|omega|(subst_vars;omega)
   fz:=fun g hg=>by
    have:=h.fz g hg;have:=h.fsize g hg;simp only[one];split<;>omega
   lf:=fun g hg=>by
    have:=h.lf g hg;have:=h.lsize g hg;have:=h.grow;simp only[one];split<;>omega
   lt:=fun g hg=>by
    simp only[one]at hg;split at hg
    ·subst_vars;simp
    ·exact h'.lt g (by omega)}
end
end Go.AM
end
section
namespace Go.AM
def Gh.bind (G:Gh)(o:Nat)(r:BRec):Gh:=⟨G.F,fun n=>if n=o then some r else G.β n⟩
def Gh.bind_ne {G:Gh}{o:Nat}{r:BRec}:∀n,n≠o→(G.bind o r).β n=G.β n:=fun n hn=>by simp[Gh.bind,hn]
def Gh.bind_eq {G:Gh}{o:Nat}{r:BRec}:(G.bind o r).β o=some r:=by simp[Gh.bind]
section
variable {w0 w w':World}{L:Lv}{st:St}{tmps:Array Value}{G G':Gh}{fE fO fX:FP}
def Core.killSt (h:Core w0 L st tmps w G fE fO fX)(o:Nat)(ho:o<100000)(hF:G'.F=G.F)(hβ:∀ n,n≠o→G'.β n=G.β n) :
  ∃fO',(∀g,fO' g≤fO g)∧Core w0 L (killSt o st) tmps w G' fE fO' fX:=by
 obtain⟨f1,f2,hk,hff⟩:=ROs.kill hF hβ st.ob fO h.O;refine⟨f1,fun g=>by rw[hff];simp only;omega,?_⟩
 exact
  {size:=by simp[AM.killSt,zAb,h.size]
   E:=RL.kill hF hβ _ _ _ h.E
   O:=hk
   le:=fun g=>by have:=h.le g;have:=fpa hff g;omega
   fz:=fun g hg=>by have:=h.fz g (by rw[←hF];exact hg);have:=fpa hff g;omega
   lf:=fun g hg=>by have:=h.lf g hg;have:=fpa hff g;omega
   lt:=fun g hg=>h.lt g (by have:=fpa hff g;omega)
   nodup:=zCx o h.nodup
   fl:=fun g hg hL=>h.fl g (by rw[←hF];exact hg) hL
   fsize:=fun g hg=>h.fsize g (by rw[←hF];exact hg)
   fm:=fun g hg=>by rw[hF];exact h.fm g hg
   bk:=fun n r hn hb=>by rw[hβ n (by omega)];exact h.bk n r hn hb
   keep:=h.keep,lsize:=h.lsize,grow:=h.grow,os:=h.os,tape:=h.tape,output:=h.output}
def Core.addOb (h:Core w0 L st tmps w G fE fO fX)(o k:Nat)(ho:o<100000)(rows:List (List SV))(nm:Bool)(r:BRec){fV fX':FP}
  (hro:RO w (G.bind o r) ⟨o,k,rows,nm⟩ fV) (hX:∀g,fX' g+fV g≤fX g) :
  ∃fO',Core w0 L (addOb st o k rows nm) tmps w (G.bind o r) fE fO' fX':=by
 obtain⟨fO1,hle,h1⟩:=h.killSt (G':=G.bind o r) o ho rfl Gh.bind_ne;refine⟨fun g=>fV g+fO1 g,?_⟩
 exact
  {size:=h1.size
   E:=h1.E
   O:=⟨fV,fO1,hro,h1.O,rfl⟩
   le:=fun g=>by have:=h1.le g;have:=hX g;(try dsimp only);omega
   fz:=fun g hg=>by have:=h1.fz g hg;have:=hX g;(try dsimp only);omega
   lf:=fun g hg=>by have:=h1.lf g hg;have:=hX g;(try dsimp only);omega
   lt:=fun g hg=>h1.lt g (by have:=hX g;(try dsimp only at hg);omega)
   nodup:=by
    show(o::names (zCZ o st.ob)).Nodup;exact List.nodup_cons.2 ⟨zKl o _,h1.nodup⟩
   fl:=h1.fl
   fm:=h1.fm,bk:=h1.bk,fsize:=h1.fsize,keep:=h1.keep,lsize:=h1.lsize,grow:=h1.grow,os:=h1.os,tape:=h1.tape,output:=h1.output}
def zBN:∀(l:List Ob) (o:Nat) (x:Ob),zAZ l o=some x→x.name=o
 |[],o,x,h=>by simp[zAZ]at h
 | y::l,o,x,h=>by
   simp only[zAZ]at h;split at h
   ·rename_i hn;simp at h;subst h;exact hn
   ·exact zBN l o x h
def zHJ (o:Nat)(rows:List (List SV)):∀l:List Ob,names (zAk l o rows)=names l
 |[]=>rfl
 | x::l=>by
   simp only[zAk]
   split
   ·rfl
   ·simp only[names,zMc];exact congrArg _ (zHJ o rows l)
def ROs.split:∀(l:List Ob) (f:FP) (o:Nat) (x:Ob),zAZ l o=some x→ROs w G l f →
  ∃f1 f2:FP,RO w G x f1∧(f=fun h=>f1 h+f2 h)∧∀(w':World) (rows':List (List SV)) (f1':FP),(∀g,G.F g→w'.heap[g]? = w.heap[g]?)→(∀g,1≤f2 g→w'.heap[g]? = w.heap[g]?) →
   RO w' G {x with rows:=rows'} f1'→ROs w' G (zAk l o rows') (fun h=>f1' h+f2 h)
 |[],f,o,x,hg,h=>by simp[zAZ]at hg
 | y::l,f,o,x,hg,h=>by
   obtain⟨f1,f2,h1,h2,hff⟩:=h;simp only[zAZ]at hg;split at hg
   ·rename_i hn;simp at hg;subst hg;refine⟨f1,f2,h1,hff,fun w' rows' f1' hF hb hr=>?_⟩;rw[zAk,if_pos hn];exact⟨f1',f2,hr,ROs.frame (G:=G) (fun _ h=>h) rfl hF _ _ hb h2,rfl⟩
   ·rename_i hn;obtain⟨g1,g2,hr,hgg,hput⟩:=ROs.split l f2 o x hg h2;refine⟨g1,fun h=>f1 h+g2 h,hr,by rw[hff,hgg];funext j;simp only;omega,fun w' rows' f1' hF hb hr'=>?_⟩;rw[zAk,if_neg hn];refine⟨f1,fun h=>f1' h+g2 h,?_,hput w' rows' f1' hF (fun g hg=>hb g (by(try dsimp only);omega)) hr',by funext j;simp only;omega⟩;have:=ROs.frame (G:=G) (w':=w') (fun _ h=>h) rfl hF [y] (fun h=>f1 h+zf h) (fun g hg=>hb g (by simp only[zf]at hg;(try dsimp only);omega)) ⟨f1,zf,h1,rfl,rfl⟩;obtain⟨a,b,ha,hb',hab⟩:=this;have hb0:b=zf:=hb';subst hb0;have:f1=a:=by funext j;have:=congrFun hab j;simpa[zf]using this
    rw[this];exact ha
def zFX (w:World)(g h:Nat)(cs:Array Value)(hne:h≠g):(w.setRow g cs).heap[h]? = w.heap[h]?:=by
 simp only[World.setRow,Array.getElem?_modify]
 rw[if_neg (fun e=>hne e.symm)]
def Core.write (h:Core w0 L st tmps w G fE fO fX){o:Nat}{x:Ob}(hg:zAZ st.ob o=some x){r:BRec}(hr:G.β o=some r){g base csz:Nat}(hblk:r.blk=some (g,base,csz)) :
  r.k=x.k∧r.n=x.rows.length∧(∀row∈x.rows,row.length=x.k)∧∃(c:Array Value) (e:TypeId) (f':FP),w.heap[g]? = some (.cells c e (0,0))∧c.size=csz∧base+r.n*r.k≤csz ∧
   RLL w (if x.nm then G else G.pure) x.rows (c.toList.drop base) f'∧(∀j,f' j+fX j≤1) ∧
   ∀(c':Array Value) (rows':List (List SV)) (f'' fX':FP),c'.size=c.size→rows'.length=x.rows.length→(∀row∈rows',row.length=x.k) →
    RLL w (if x.nm then G else G.pure) rows' (c'.toList.drop base) f''→(∀j,f'' j+fX' j≤f' j+fX j)→∃fO',Core w0 L ⟨st.env,zAk st.ob o rows'⟩ tmps (w.setRow g c') G fE fO' fX':=by
 have hname:=zBN _ _ _ hg;obtain⟨f1,f2,hro,hff,hput⟩:=ROs.split st.ob fO o x hg h.O;obtain⟨r',hr',hk,hn,hl,hm⟩:=hro;rw[hname,hr]at hr';simp only[zSe]at hr';subst hr';rw[hblk]at hm;obtain⟨c,e,f',hh,hs,hb,hrr,hf1⟩:=hm;refine⟨hk,hn,hl,c,e,f',hh,hs,hb,hrr,fun j=>by have:=h.le j;have:=fpa hff j;have:=fpa hf1 j;omega,?_⟩;intro c' rows' f'' fX' hsz hlen hl' hrr' hX;have one_g:one g g=1:=by simp[one]
 have hgF:¬G.F g:=fun hF=>by have:=h.fz g hF;have:=fpa hff g;have:=fpa hf1 g;omega
 have hgL:¬L.lv g:=fun hF=>by have:=h.lf g hF;have:=fpa hff g;have:=fpa hf1 g;omega
 have hlt:g<w.heap.size:=(Array.getElem?_eq_some_iff.1 hh).1;have hoth:∀j,j≠g→(w.setRow g c').heap[j]? = w.heap[j]?:=fun j hj=>zFX w g j c' hj
 have hF:∀j,G.F j→(w.setRow g c').heap[j]? = w.heap[j]?:=fun j hj=>hoth j (fun e=>hgF (e▸hj))
 have hz:fE g=0∧f2 g=0∧f' g+fX g=0:=by
  have:=h.le g;have:=fpa hff g;have:=fpa hf1 g;omega
 have hRO:=hput (w.setRow g c') rows' (fun j=>one g j+f'' j) hF (fun j hj=>hoth j (fun e=>by subst e;omega)) (by
  refine⟨r,by rw[hname];exact hr,hk,by simpa[hlen]using hn,hl',?_⟩;rw[hblk];refine⟨c',e,f'',setRow_heap w g c c' e (0,0) hh,by rw[hsz,hs],hb,?_,rfl⟩;have hf'':∀j,1≤f'' j→(w.setRow g c').heap[j]? = w.heap[j]?:=fun j hj=>hoth j (fun e=>by subst e;have:=hX j;omega)
  simp only at hrr' ⊢;split
  ·rename_i hnm;rw[if_pos hnm]at hrr';exact RLL.frame (fun _ h=>h) rfl hF _ _ _ hf'' hrr'
  ·rename_i hnm;rw[if_neg hnm]at hrr';exact RLL.frame (G:=G.pure) (fun _ h=>h) rfl hF _ _ _ hf'' hrr')
 refine⟨fun j=>one g j+f'' j+f2 j,?_⟩
 exact
  {size:=h.size
   E:=RL.frame (fun _ h=>h) rfl hF _ _ _ (fun j hj=>hoth j (fun e=>by subst e;omega)) h.E
   O:=hRO
   le:=fun j=>by have:=h.le j;have:=fpa hff j;have:=fpa hf1 j;have:=hX j;(try dsimp only);omega
   fz:=fun j hj=>by have:=h.fz j hj;have:=fpa hff j;have:=fpa hf1 j;have:=hX j;(try dsimp only);omega
   lf:=fun j hj=>by have:=h.lf j hj;have:=fpa hff j;have:=fpa hf1 j;have:=hX j;(try dsimp only);omega
   lt:=fun j hj=>by
    simp only[size_setRow]
    exact h.lt j (by have:=fpa hff j;have:=fpa hf1 j;have:=hX j;(try dsimp only at hj);omega)
   nodup:=by rw[zHJ];exact h.nodup
   fl:=h.fl,fm:=h.fm,bk:=h.bk
   fsize:=fun j hj=>by simp only[size_setRow];exact h.fsize j hj
   keep:=fun j hj=>by rw[hoth j (fun e=>hgL (e▸hj))];exact h.keep j hj
   lsize:=h.lsize
   grow:=by simp only[size_setRow];exact h.grow
   os:=h.os,tape:=h.tape,output:=h.output}
def Core.obRec (h:Core w0 L st tmps w G fE fO fX){o:Nat}{x:Ob}(hg:zAZ st.ob o=some x):∃r f,G.β o=some r∧RO w G x f∧∀j,f j≤fO j:=by
 obtain⟨f1,f2,hro,hff,_⟩:=ROs.split st.ob fO o x hg h.O;obtain⟨r,hr,rest⟩:=hro;have hname:=zBN _ _ _ hg;exact⟨r,f1,by rw[←hname];exact hr,⟨r,hr,rest⟩,fun j=>by have:=fpa hff j;omega⟩
end
end Go.AM
end
section
namespace Go.AM
def zKm (d:TypeDesc):TK→Prop
 |.int k=>d = .int k
 |.bool=>d = .bool
 |.str=>d = .string
 |.ptr=>∃e,d = .pointer e
 |.slice e=>d = .slice e
 |.struct fs=>∃fields:Array Field,d = .struct fields∧(fields.toList.map fun f=>(f.type,f.offset))=fs∧(∀f∈fields.toList,f.name ≠ "_")
 |.func=>∃ps rs v,d = .func ps rs v
 |.other=>True
def zQK:TypeDesc→Bool
 |.struct _|.array _ _=>true
 |_=>false
structure LayOk (P:Program)(T:Nat→TI):Prop where
 kk:∀t,(T t).kind ≠ .other→(T t).known=true
 ok:∀t,(T t).known=true→∃(i:TypeInfo) (z:Value) (d:TypeDesc),P.info? t=some i∧i.size=(T t).size∧i.bytes=(T t).bytes∧i.zero=some z ∧
  z.cells.toList.map zCW=(T t).zero∧(∀v∈z.cells.toList,v.oneCell'=true)∧(T t).zero.length=(T t).size∧zCG (T t).zero=true∧True∧P.underlying t=some d∧zKm d (T t).kind ∧
  zQK d=zAf T t∧(zAf T t=false→(T t).size=1)∧(zAf T t=true→P.stoodInHeld t=false∧z = .agg z.cells)
section
variable {P:Program}{T:Nat→TI}{w0 w w':World}{L:Lv}{st st1:St}{a:Act}{G G':Gh}{fE fO fX fV:FP}{o:Oper}{K:St→Prop}{Q:Exit→Act→World→Prop}{v:Value}{sv:SV}
def Nx (w0:World)(L:Lv)(ds:List Deferred)(K:St→Prop):Act→World→Prop:=fun a' w'=>∃st' G',K st'∧SR w0 L st' a'.tmps w' G'∧a'.defers=ds
def Act.put_defers (a:Act)(d:Option Tmp)(v:Value):(a.put d v).defers=a.defers:=by cases d<;>rfl
def nx_put (hc:Core w0 L st1 a.tmps w' G' fE fO fX)(hr:R w' G' sv v fV)(hX:∀ g,fV g≤fX g)(hK:K (setD st1 o.dst sv)) :
  Nx w0 L a.defers K (a.put o.dst v) w':=by
 obtain⟨fE',h'⟩:=hc.putD (fX':=zf) hr (fun g=>by have:=hX g;simp only[zf];omega) o.dst a rfl;exact⟨_,G',hK,⟨fE',fO,h'⟩,Act.put_defers _ _ _⟩
def zEv (hrun:(execOp a.eval o).run P w = .ok (.value v) w')(hc:Core w0 L st1 a.tmps w' G' fE fO fX)(hr:R w' G' sv v fV)(hX:∀ g,fV g≤fX g)
  (hK:K (setD st1 o.dst sv)):o.wp P a w (Nx w0 L a.defers K) Q:=by
 unfold Oper.wp;rw[hrun];exact nx_put hc hr hX hK
def loudC (T:Nat→TI):Op→Bool
 |.convert _ d _=>match(T d).kind with|.slice _=>true|_=>false
 |_=>false
def Ow (P:Program)(T:Nat→TI)(o:Oper)(a:Act)(w:World)(N:Act→World→Prop)(Q:Exit→Act→World→Prop):Prop :=
 o.wp P a w N Q∧((∃v,(execOp a.eval o).run P w = .ok (.value v) w)∨loudC T o.op=true)
def zBg (hrun:(execOp a.eval o).run P w = .ok (.value v) w)(hc:Core w0 L st1 a.tmps w G' fE fO fX)(hr:R w G' sv v fV)(hX:∀ g,fV g≤fX g)
  (hK:K (setD st1 o.dst sv)):Ow P T o a w (Nx w0 L a.defers K) Q:=⟨zEv hrun hc hr hX hK,.inl ⟨v,hrun⟩⟩
def zTL {x:Operand}(h:o.op = .move x∨o.op = .assign x):(execOp a.eval o).run P w = .ok (.value (a.eval x)) w:=by
 rcases h with h|h<;>simp[execOp,h]
def zKy {x:Operand}(ho:o.op = .move x)(h:SR w0 L st a.tmps w G)(hk:zAL T C o st K):Ow P T o a w (Nx w0 L a.defers K) Q:=by
 obtain⟨fE,fO,h⟩:=h;have hrun:=zTL (P:=P) (w:=w) (a:=a) (o:=o) (.inl ho);simp only[zAL,ho]at hk;cases x with
 | tmp t=>
   simp only at hk;obtain⟨fE1,f1,hr,h1⟩:=h.takeT t;have hev:a.eval (.tmp t)=a.tmps.getD t undef:=rfl;rw[←hev]at hr;cases hl:lkp st.env t with
   | own k rows=>
     rw[hl]at hk hr;simp only at hk;obtain⟨ht,hk⟩:=hk
     have hadd:∃r:BRec,r.k=k∧r.n=rows.length∧RO w (G.bind t r) ⟨t,k,rows,false⟩ f1∧R w (G.bind t r) (.ar t) (a.eval (.tmp t)) zf:=by
      simp only[R]at hr;rcases hr with⟨e0,e1,p,e2⟩|⟨g,base,cap,c,e,f',hv,hc,hh,hb,hl',hrr,hff⟩
      ·subst e0 e1;refine⟨⟨none,k,0⟩,rfl,rfl,⟨⟨none,k,0⟩,Gh.bind_eq,rfl,rfl,by simp,rfl,rfl⟩,?_⟩;simp only[R]
       exact⟨trivial,⟨none,k,0⟩,Gh.bind_eq,rfl,p,e2⟩
      ·have hmul:rows.length*k≤cap*k:=Nat.mul_le_mul_right k hc;refine⟨⟨some (g,base,c.size),k,rows.length⟩,rfl,rfl,⟨_,Gh.bind_eq,rfl,rfl,hl',?_⟩,?_⟩
       ·exact⟨c,e,f',hh,rfl,(by show base+rows.length*k≤c.size;omega),(by rw[if_neg (by simp)];exact hrr),hff⟩
       ·simp only[R]
        exact⟨trivial,_,Gh.bind_eq,cap,hv,hc,hb⟩
     obtain⟨r,_,_,hro,har⟩:=hadd;obtain⟨fO2,h2⟩:=h1.addOb t k ht rows false r (fX':=zf) hro (fun g=>by simp only[zf];omega)
     have e3:a.tmps.setIfInBounds t (a.eval (.tmp t))=a.tmps:=by
      apply Array.ext';rw[Array.toList_setIfInBounds];apply List.ext_getElem?;intro j;by_cases hj:t=j
      ·subst hj;rw[List.getElem?_set_self',hev];cases hq:a.tmps[t]? with
       |none=>simp[hq]
       |some u=>simp[hq,Array.getD_eq_getD_getElem?]
      ·rw[List.getElem?_set_ne hj]
     obtain⟨fE3,h3⟩:=h2.put (fX':=zf) har (fun g=>by simp[zf]) t;rw[e3]at h3;exact zBg hrun h3 har (fun g=>by simp[zf]) hk
   | _=>
     rw[hl]at hk hr;simp only at hk
     first
      |(split at hk
        ·exact zBg hrun h1 hr (fun g=>by simp[zf]) hk
        ·rename_i hn;have hz:=R.zf_of _ _ _ (by simpa using hn) hr;rw[hz]at hr
         exact zBg hrun h hr (fun g=>by simp[zf]) hk)
      |(have hz:=R.zf_of _ _ _ (by simp[zAg]) hr
        rw[hz]at hr
        exact zBg hrun h hr (fun g=>by simp[zf]) (by simpa[zAg]using hk))
 | const v=>
   simp only at hk;exact zBg hrun h (h.ev0 a rfl (.const v) (by simp only[ev];unfold zCW;split<;>rfl)) (fun g=>by simp[zf]) hk
 |global g=>exact zBg hrun h (h.ev0 a rfl (.global g) (by simp[ev,zAg])) (fun g=>by simp[zf]) hk
 |func f=>exact zBg hrun h (h.ev0 a rfl (.func f) (by simp[ev,zAg])) (fun g=>by simp[zf]) hk
def zPZ {x:Operand}(ho:o.op = .assign x)(h:SR w0 L st a.tmps w G)(hk:zAL T C o st K):Ow P T o a w (Nx w0 L a.defers K) Q:=by
 obtain⟨fE,fO,h⟩:=h;simp only[zAL,ho]at hk;obtain⟨fE1,f1,hr,h1⟩:=h.take a rfl x;exact zBg (zTL (.inr ho)) h1 hr (fun g=>by simp[zf]) hk
def zKx {c x y:Operand}(ho:o.op = .pick c x y)(h:SR w0 L st a.tmps w G)(hk:zAL T C o st K):Ow P T o a w (Nx w0 L a.defers K) Q:=by
 obtain⟨fE,fO,h⟩:=h;obtain⟨fc,hc,_⟩:=h.ev a rfl c;simp only[zAL,ho]at hk
 have hrun:∀q:Bool,a.eval c = .bool q→(execOp a.eval o).run P w = .ok (.value (if q then a.eval x else a.eval y)) w:=by
  intro q hq;cases q<;>simp[execOp,ho,hq,asBool]
 split at hk
 ·rename_i q p r e1 e2 e3;rw[e1]at hc;simp only[R]at hc;obtain⟨f2,h2,_⟩:=h.ev a rfl x;obtain⟨f3,h3,_⟩:=h.ev a rfl y;rw[e2]at h2;rw[e3]at h3;simp only[R]at h2 h3;refine zBg (hrun q hc.2) h (sv:=.b (bif q then p else r)) (fV:=zf) ?_ (fun g=>by simp[zf]) hk;simp only[R]
  exact⟨trivial,by cases q<;>simp[h2.2,h3.2]⟩
 ·rename_i q e1 _;rw[e1]at hc;simp only[R]at hc;cases q with
  | true=>
    obtain⟨fE1,f1,hr,h1⟩:=h.take a rfl x;exact zBg (hrun true hc.2) h1 hr (fun g=>by simp[zf]) hk
  | false=>
    obtain⟨fE1,f1,hr,h1⟩:=h.take a rfl y;exact zBg (hrun false hc.2) h1 hr (fun g=>by simp[zf]) hk
 ·exact hk.elim
end
end Go.AM
end
section
namespace Go.AM
section
variable {P:Program}{T:Nat→TI}{C:zAx}{w0 w w':World}{L:Lv}{st st1:St}{a:Act}{G G':Gh}{fE fO fX fV:FP}{o:Oper}{K:St→Prop}{Q:Exit→Act→World→Prop}{v:Value}{sv:SV}
def zRU {op:BinOp}{t ty:TypeId}{x y:Operand}(ho:o.op = .binOp op t x y ty){k:IntKind}{n:Int}(hx:a.eval x = .int k n) :
  (execOp a.eval o).run P w=((binOp op t (.int k n) (a.eval y)).run P w).andThen fun v w'=>.ok (.value v) w':=by
 simp[execOp,ho,hx,eqGuard_at_int]
def zPj {op:BinOp}{t ty:TypeId}{x y:Operand}(ho:o.op = .binOp op t x y ty){n:Bool}(hx:a.eval x = .bool n) :
  (execOp a.eval o).run P w=((binOp op t (.bool n) (a.eval y)).run P w).andThen fun v w'=>.ok (.value v) w':=by
 simp[execOp,ho,hx,eqGuard_at_bool]
def zRT {op:BinOp}{t ty:TypeId}{x y:Operand}(ho:o.op = .binOp op t x y ty){n:ByteArray}(hx:a.eval x = .string n) :
  (execOp a.eval o).run P w=((binOp op t (.string n) (a.eval y)).run P w).andThen fun v w'=>.ok (.value v) w':=by
 simp[execOp,ho,hx,eqGuard_at_string]
def zNb {op:BinOp}{t ty:TypeId}{x y:Operand}(ho:o.op = .binOp op t x y ty){p:Option Addr}{n m:Nat}(hx:a.eval x = .slice p n m) :
  (execOp a.eval o).run P w=((binOp op t (.slice p n m) (a.eval y)).run P w).andThen fun v w'=>.ok (.value v) w':=by
 simp[execOp,ho,hx,eqGuard_at_slice]
def zAM (h:Core w0 L st a.tmps w G fE fO zf)(hrun:(execOp a.eval o).run P w = .ok (.value v) w)(hr:R w G sv v zf)(hK:K (setD st o.dst sv)) :
  Ow P T o a w (Nx w0 L a.defers K) Q:=zBg hrun h hr (fun g=>by simp[zf]) hK
def zIf {op:BinOp}{t ty:TypeId}{x y:Operand}(ho:o.op = .binOp op t x y ty)(h:Core w0 L st a.tmps w G fE fO zf)
  (hk:binK op (ev st.env x) (ev st.env y) fun v=>K (setD st o.dst v)):Ow P T o a w (Nx w0 L a.defers K) Q:=by
 obtain⟨f1,h1,_⟩:=h.ev a rfl x;obtain⟨f2,h2,_⟩:=h.ev a rfl y;unfold binK at hk;split at hk
 ·rename_i k n k' m e1 e2;rw[e1]at h1;rw[e2]at h2;simp only[R]at h1 h2;have hrun:=zRU (P:=P) (w:=w) ho h1.2;rw[h2.2]at hrun;split at hk
  ·obtain⟨rfl,hk⟩:=hk;exact zAM h (v:=.int k (k.wrap (n+m))) (by rw[hrun];simp[binOp,Op.intArith]) (by simp[R]) hk
  ·obtain⟨rfl,hk⟩:=hk;exact zAM h (v:=.int k (k.wrap (n-m))) (by rw[hrun];simp[binOp,Op.intArith]) (by simp[R]) hk
  ·obtain⟨rfl,hk⟩:=hk;exact zAM h (v:=.int k (k.wrap (n*m))) (by rw[hrun];simp[binOp,Op.intArith]) (by simp[R]) hk
  ·obtain⟨rfl,hm,hk⟩:=hk;exact zAM h (v:=.int k (k.wrap (n.tdiv m))) (by rw[hrun];simp[binOp,Op.intDiv,hm]) (by simp[R]) hk
  ·obtain⟨rfl,hm,hk⟩:=hk;exact zAM h (v:=.int k (n.tmod m)) (by rw[hrun];simp[binOp,Op.intDiv,hm]) (by simp[R]) hk
  ·obtain⟨hm,hk⟩:=hk
   exact zAM h (v:=.int k (k.wrap (n*2^min m.toNat k.bits))) (by rw[hrun];have:¬m<0:=by omega
                                                                 simp[binOp,Op.shift,this]) (by simp[R]) hk
  ·obtain⟨hm,hk⟩:=hk
   exact zAM h (v:=.int k (n.fdiv (2^min m.toNat k.bits))) (by rw[hrun];have:¬m<0:=by omega
                                                               simp[binOp,Op.shift,this]) (by simp[R]) hk
  ·obtain⟨rfl,hk⟩:=hk;exact zAM h (v:=.int k (andI k n m)) (by rw[hrun];simp[binOp,Op.intBits,andI]) (by simp[R]) hk
  ·obtain⟨rfl,hk⟩:=hk;exact zAM h (v:=.int k (orI k n m)) (by rw[hrun];simp[binOp,Op.intBits,orI]) (by simp[R]) hk
  ·obtain⟨rfl,hk⟩:=hk;exact zAM h (v:=.int k (xorI k n m)) (by rw[hrun];simp[binOp,Op.intBits,xorI]) (by simp[R]) hk
  ·split at hk
   ·rename_i r hr;obtain⟨rfl,hk⟩:=hk;refine zAM h (v:=.bool r) ?_ (by simp[R]) hk;rw[hrun];unfold cmpB at hr;split at hr<;>simp only[zSe,reduceCtorEq]at hr<;>subst hr<;>simp[binOp,Op.intCmp]
    all_goals (by_cases e:n=m<;>simp[e,bne])
   ·exact hk.elim
 ·rename_i l m e1 e2;rw[e1]at h1;rw[e2]at h2;simp only[R]at h1 h2;have hrun:=zRT (P:=P) (w:=w) ho h1.2;rw[h2.2]at hrun;split at hk
  ·obtain⟨hl,hk⟩:=hk;refine zAM h (v:=.string ⟨(l++m).toArray⟩) ?_ (by simp[R]) hk;rw[hrun]
   have hs:¬(((ByteArray.mk l.toArray).size+(ByteArray.mk m.toArray).size:Nat):Int)>IntKind.i64.max:=by
    simp only[IntKind.max_i64,ByteArray.size,List.size_toArray];omega
   have he:ByteArray.mk l.toArray++ByteArray.mk m.toArray=ByteArray.mk (l++m).toArray:=by
    apply ByteArray.ext;simp
   simp only[binOp,Op.stringOp,if_neg hs,he]
   simp
  ·split at hk
   ·rename_i r hr;refine zAM h (v:=.bool r) ?_ (by simp[R]) hk;rw[hrun];unfold strB at hr;split at hr<;>simp only[zSe,reduceCtorEq]at hr<;>subst hr<;>simp[binOp,Op.stringOp]
    all_goals (by_cases e:l=m<;>simp[e])
   ·exact hk.elim
 ·exact hk.elim
end
end Go.AM
end
