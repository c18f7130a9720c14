/- Part 10 of the proof of FnTidy; no condition. -/
import Derived.Test.YtdpapeledldifaaGreatX08
set_option autoImplicit true
set_option relaxedAutoImplicit true
set_option linter.all false
section
namespace Go.TM
open Go.AM
section
variable {R:Type}
abbrev zQl (R:Type):=Operand→List Operand→Option Tmp→TS→(TS→Option R)→Option R
def valV (T:Nat→TI)(t:Nat)(cs:List V):V:=match(T t).kind with|.struct _=>.agg cs|_=>lkV cs 0
def ofZ:SV→V
 |.i k n=>.i k n
 |.b x=>.b x
 |.s x=>.s x
 |.nil=>.nil
 |.nilp=>.nilp
 |_=>.u
def ofZL:List SV→List V
 |[]=>[]
 |x::l=>ofZ x::ofZL l
def zOk:List SV→Bool
 |[]=>true
 |x::l=>(match x with|.i _ _|.b _|.s _|.nil|.nilp=>true|_=>false)&&zOk l
def zWq:∀l:List SV,zOk l=true→eL (ofZL l)=l
 |[],_=>rfl
 | x::l,h=>by
   simp only[zOk,zBa]at h;simp only[ofZL,eL,zWq l h.2]
   congr 1;cases x<;>first|rfl|simp at h
def openT (o off d:Nat)(K:TS→Option R)(s:TS):Option R:=match getT s.ob o with
 | some (.box n cs)=>match lkV cs off with
   |.own g dd l=>chkO (Nat.blt d 100000&&d != o&&ble (off+1) cs.length)
     (match getT (addT ⟨s.n,s.al,zAh s.ob o (wrV cs off [.u])⟩ d (.arr d g dd l)).ob o with
     |some (.box _ cs1)=>chkO (ble (off+1) cs1.length) (K ⟨s.n,(addT ⟨s.n,s.al,zAh s.ob o (wrV cs off [.u])⟩ d (.arr d g dd l)).al,
       zAh (addT ⟨s.n,s.al,zAh s.ob o (wrV cs off [.u])⟩ d (.arr d g dd l)).ob o (wrV cs1 off [.ar d])⟩)
     |_=>none)
   |.emp g=>chkO (Nat.blt d 100000&&d != o&&ble (off+1) cs.length)
     (match getT (addT ⟨s.n,s.al,zAh s.ob o (wrV cs off [.u])⟩ d (.arr d g true [])).ob o with
     |some (.box _ cs1)=>chkO (ble (off+1) cs1.length) (K ⟨s.n,(addT ⟨s.n,s.al,zAh s.ob o (wrV cs off [.u])⟩ d (.arr d g true [])).al,
       zAh (addT ⟨s.n,s.al,zAh s.ob o (wrV cs off [.u])⟩ d (.arr d g true [])).ob o (wrV cs1 off [.ar d])⟩)
     |_=>none)
   |_=>K s
 |_=>none
def zWg (o d:Nat):Nat→Nat→(TS→Option R)→TS→Option R
 |0,_,K,s=>K s
 |n+1,j,K,s=>openT o j (d+1000*(j+1)) (zWg o d n (j+1) K) s
def zAW (off n:Nat)(l:List V):List V:=(l.drop off).take n
def shVL (T:Nat→TI):List TK→List V→Bool
 |[],row=>(match row with | []=>true|_=>false)
 | k::ks,row=>match row with
   |[]=>false
   | c::cs=>(match k,c with
     |.int k,.i k' _=>eqK k k'
     |.bool,.b _=>true
     |.str,.s _=>true
     |.slice e,.sl g _=>g.sz==(T e).size
     |_,_=>false)&&shVL T ks cs
def zWw (T:Nat→TI)(t o off:Nat)(d:Option Tmp)(K:TS→Option R)(s:TS):Option R:=match getT s.ob o with
 |some (.box _ cs)=>chkO ((T t).known&&ble (off+(T t).size) cs.length&&!zBG (valV T t (zAW off (T t).size cs))) (K (zAe s d (valV T t (zAW off (T t).size cs))))
 |_=>none
def loadXT (T:Nat→TI)(t:Nat)(x:Operand)(d:Option Tmp)(K:TS→Option R)(s:TS):Option R:=match evT s x with
 | .p o i off=>match i with
   |0=>zWw T t o off d K s
   |_+1=>none
 |_=>none
def openN (o i off d:Nat)(K:TS→Option R)(s:TS):Option R:=match getT s.ob o with
 | some (.opn _ _ _ l j cs)=>grdO (decide (i=j)&&decide (j<l.length)) (match lkV cs off with
   |.own g dd r=>chkO (Nat.blt d 100000&&d != o&&ble (off+1) cs.length)
     (match getT (addT ⟨s.n,s.al,zAl s.ob o (wrV cs off [.u])⟩ d (.arr d g dd r)).ob o with
     |some (.opn _ _ _ l1 j1 cs1)=>chkO (ble (off+1) cs1.length) (grdO (decide (i=j1)&&decide (j1<l1.length)) (K ⟨s.n,(addT ⟨s.n,s.al,zAl s.ob o (wrV cs off [.u])⟩ d (.arr d g dd r)).al,
       zAl (addT ⟨s.n,s.al,zAl s.ob o (wrV cs off [.u])⟩ d (.arr d g dd r)).ob o (wrV cs1 off [.ar d])⟩))
     |_=>none)
   |.emp g=>chkO (Nat.blt d 100000&&d != o&&ble (off+1) cs.length)
     (match getT (addT ⟨s.n,s.al,zAl s.ob o (wrV cs off [.u])⟩ d (.arr d g true [])).ob o with
     |some (.opn _ _ _ l1 j1 cs1)=>chkO (ble (off+1) cs1.length) (grdO (decide (i=j1)&&decide (j1<l1.length)) (K ⟨s.n,(addT ⟨s.n,s.al,zAl s.ob o (wrV cs off [.u])⟩ d (.arr d g true [])).al,
       zAl (addT ⟨s.n,s.al,zAl s.ob o (wrV cs off [.u])⟩ d (.arr d g true [])).ob o (wrV cs1 off [.ar d])⟩))
     |_=>none)
   |_=>K s)
 |_=>none
def zWh (o i d:Nat):Nat→Nat→(TS→Option R)→TS→Option R
 |0,_,K,s=>K s
 |n+1,j,K,s=>openN o i j (d+1000*(j+1)) (zWh o i d n (j+1) K) s
def zWx (T:Nat→TI)(t o i off:Nat)(d:Option Tmp)(K:TS→Option R)(s:TS):Option R:=match getT s.ob o with
 |some (.opn _ _ _ l j cs)=>grdO (decide (i=j)&&decide (j<l.length)) (chkO ((T t).known&&ble (off+(T t).size) cs.length&&!zBG (valV T t (zAW off (T t).size cs))) (K (zAe s d (valV T t (zAW off (T t).size cs)))))
 |_=>none
def loadXN (T:Nat→TI)(t:Nat)(x:Operand)(d:Option Tmp)(K:TS→Option R)(s:TS):Option R:=match evT s x with
 |.p o i off=>zWx T t o i off d K s
 |_=>none
def zOD:TK→Bool
 |.slice _=>true
 |_=>false
def loadT (T:Nat→TI)(t:Nat)(a:Operand)(d:Option Tmp)(s:TS)(K:TS→Option R):Option R:=match evT s a with
 |.ro cs=>chkO ((T t).known&&(T t).size != 0&&ble (T t).size cs.length) (K (zAe s d (valV T t (zAW 0 (T t).size cs))))
 | .p o i off=>match getT s.ob o with
   | some (.box _ _)=>(match i with
     |0=>zWg o (dOf d) (T t).size off (loadXT T t a d K) s
     |_+1=>none)
   |some (.arr _ g dd l)=>chkO ((T t).known&&!zOD (T t).kind) (atO l i fun x=>
     chkO (ble (off+(T t).size) g.sz&&shVL T (flat T 4 t) (zAW off (T t).size (cells dd g x))&&!zBG (valV T t (zAW off (T t).size (cells dd g x))))
      (K (zAe s d (valV T t (zAW off (T t).size (cells dd g x))))))
   |some (.opn _ _ _ _ _ _)=>zWh o i (dOf d) (T t).size off (loadXN T t a d K) s
   |some (.spl _ g l k)=>chkO ((T t).known&&!zOD (T t).kind) (grdO (decide (k≤i)) (atO l i fun x=>
     chkO (ble (off+(T t).size) g.sz&&shVL T (flat T 4 t) (zAW off (T t).size (cells false g x))&&!zBG (valV T t (zAW off (T t).size (cells false g x))))
      (K (zAe s d (valV T t (zAW off (T t).size (cells false g x)))))))
   |none=>none
 |_=>none
def nrmV (T:Nat→TI)(d:Bool):List TK→List V→List V
 | k::ks,v::vs=>(match k,v with
   | .slice e,.nil=>(match gt T 4 e with
     |some g=>(match d with|true=>.emp g|false=>.sl g [])
     |none=>.nil)
   |_,_=>v)::nrmV T d ks vs
 |_,vs=>vs
def storeT (T:Nat→TI)(t:Nat)(a:V)(x:Operand)(s:TS)(K:TS→Option R):Option R:=match a with
 | .p o i off=>match getT (zBB s x).ob o with
   | some (.box _ cs)=>(match i with
     |0=>chkO ((T t).known&&(zAq (evT s x)).length==(T t).size&&zEP (zAq (evT s x))&&ble (off+(T t).size) cs.length)
       (K ⟨s.n,(zBB s x).al,zAh (zBB s x).ob o (wrV cs off (zAq (evT s x)))⟩)
     |_+1=>none)
   |some (.arr _ g dd l)=>chkO ((T t).known&&(zAq (evT s x)).length==(T t).size&&zJr (zAq (evT s x))&&zEP (zAq (evT s x))&&ble (off+(T t).size) g.sz)
     (atO l i fun y=>rdC false dd g (wrV (cells dd g y) off (nrmV T dd (flat T 4 t) (zAq (evT s x)))) fun z rest=>
      (match rest with
      |[]=>K ⟨s.n,(zBB s x).al,zJa g dd (zBB s x).ob o (l.set i z)⟩
      |_::_=>none))
   |some (.opn _ _ _ l j cs)=>chkO ((T t).known&&(zAq (evT s x)).length==(T t).size&&zEP (zAq (evT s x))&&ble (off+(T t).size) cs.length)
     (grdO (decide (i=j)&&decide (j<l.length)) (K ⟨s.n,(zBB s x).al,zAl (zBB s x).ob o (wrV cs off (zAq (evT s x)))⟩))
   |some (.spl _ _ _ _)=>none
   |none=>none
 |_=>none
def eqFV (T:Nat→TI):Nat→List (Nat×Nat)→List V→List V→Option Bool
 |_,[],[],[]=>some true
 | n,(t,o)::fs,x::l,y::m=>bif o==n then(match(T t).kind,x,y,eqFV T (n+1) fs l m with
   |.int _,.i k a,.i k' b,some q=>bif eqK k k' then some (decide (a=b)&&q)else none
   |.bool,.b a,.b b,some q=>some (decide (a=b)&&q)
   |.str,.s a,.s b,some q=>some (decide (a=b)&&q)
   |_,_,_,_=>none)else none
 |_,_,_,_=>none
def binT (op:BinOp)(x y:V)(K:V→Option R):Option R:=match x,y with
 | .i k a,.i k' b=>match op with
   |.add=>chkO (eqK k k') (K (.i k (k.wrap (a+b))))
   |.sub=>chkO (eqK k k') (K (.i k (k.wrap (a-b))))
   |.mul=>chkO (eqK k k') (K (.i k (k.wrap (a*b))))
   |.quo=>chkO (eqK k k') (grdO (!decide (b=0)) (K (.i k (k.wrap (a.tdiv b)))))
   |.rem=>chkO (eqK k k') (grdO (!decide (b=0)) (K (.i k (a.tmod b))))
   |.shl=>grdO (decide (0≤b)) (K (.i k (k.wrap (a*2^min b.toNat k.bits))))
   |.shr=>grdO (decide (0≤b)) (K (.i k (a.fdiv (2^min b.toNat k.bits))))
   | .and|.or|.xor=>match bitI op k a b with
     |some r=>chkO (eqK k k') (K (.i k r))
     |none=>none
   | _=>match cmpB op a b with
     |some r=>chkO (eqK k k') (K (.b r))
     |none=>none
 | .s a,.s b=>match op with
   |.add=>grdO (decide (a.length+b.length≤9223372036854775807)) (K (.s (a++b)))
   | _=>match strB op a b with
     |some r=>K (.b r)
     |none=>none
 | .b p,.b q=>match op with
   |.eql=>K (.b (decide (p=q)))
   |.neq=>K (.b (!decide (p=q)))
   |_=>none
 |_,_=>none
def zJu (s:TS)(d:Int):Option Operand→Option Int
 |none=>some d
 | some x=>match evT s x with
   |.i _ n=>some n
   |_=>none
def lenT (s:TS)(x:V):Option Nat:=match x with
 |.nil=>some 0
 |.emp _=>some 0
 |.sl _ l=>some l.length
 |.own _ _ l=>some l.length
 | .ar o=>match getT s.ob o with
   |some (.arr _ _ _ l)=>some l.length
   |some (.box _ _)=>some 1
   |some (.opn _ _ _ l _ _)=>some l.length
   |some (.spl _ _ l _)=>some l.length
   |none=>none
 |_=>none
def takeT (s:TS)(k0:Nat)(x:Operand)(Kn:TS→Option R)(K:(g:GT)→Bool→List g.Den→TS→Option R):Option R:=match evT s x with
 |.nil=>Kn s
 |.emp g=>chkO (g.sz==k0) (Kn (zBB s x))
 |.own g d l=>K g d l (zBB s x)
 | .ar o=>match getT s.ob o with
   |some (.arr _ g d l)=>K g d l (zIj o s)
   |_=>none
 |_=>none
def moreT (s:TS)(y:Operand)(Kn:TS→Option R)(K:(g:GT)→Bool→List g.Den→TS→Option R):Option R:=match evT s y with
 |.nil=>Kn s
 |.emp _=>Kn (zBB s y)
 |.own g d l=>K g d l (zBB s y)
 |.sl g l=>K g false l s
 |_=>none
def zSD {g g':GT}(l:List g'.Den)(K:List g.Den→Option R):Option R:=match hs:g.same g' with
 |true=>K (zEj hs l)
 |false=>none
def maxI:Nat:=9223372036854775807
def maxB:Nat:=140737488355328
def appT (T:Nat→TI)(e:Nat)(g:GT)(x y:Operand)(d:Option Tmp)(s:TS)(K:TS→Option R):Option R :=
 moreT s y
  (fun s1=>takeT s1 (T e).size x (fun s2=>K (zAe s2 d (.own g true [])))
   fun g1 d1 l1 s2=>zSD (g:=g) l1 fun l1=>grdO (decide (l1.length≤maxI)&&decide (l1.length*(T e).bytes≤maxB)) (K (zAe s2 d (.own g d1 l1))))
  fun g' d' l' s1=>zSD (g:=g) l' fun l'=>takeT s1 (T e).size x (fun s2=>grdO (decide (l'.length≤maxI)&&decide (l'.length*(T e).bytes≤maxB)) (K (zAe s2 d (.own g d' l'))))
   fun g1 d1 l1 s2=>zSD (g:=g) l1 fun l1=>chkO (d1==d'||g.flat) (grdO (decide (l1.length+l'.length≤maxI)&&decide ((l1.length+l'.length)*(T e).bytes≤maxB)) (K (zAe s2 d (.own g d1 (l1++l')))))
def sliceT (T:Nat→TI)(t:Nat)(x:Operand)(lo hi mx:Option Operand)(d:Option Tmp)(s:TS)(K:TS→Option R):Option R :=
 match(T t).kind with
 | .str=>match evT s x with
   | .s l=>match zJu s 0 lo,zJu s l.length hi,mx with
     |some a,some b,none=>grdO (decide (0≤a)&&decide (a≤b)&&decide (b≤l.length)) (K (zAe s d (.s ((l.take b.toNat).drop a.toNat))))
     |_,_,_=>none
   |_=>none
 | .slice e=>match evT s x with
   | .sl g l=>chkO ((T e).known&&g.sz==(T e).size) (match mx with
     | none=>match zJu s 0 lo,zJu s l.length hi with
       |some a,some b=>grdO (decide (0≤a)&&decide (a≤b)&&decide (b≤l.length)) (K (zAe s d (.sl g ((l.take b.toNat).drop a.toNat))))
       |_,_=>none
     | some m=>match zJu s 0 lo,hi,zJu s 0 hi,zJu s 0 (some m)with
       |some a,some _,some b,some c=>grdO (decide (0≤a)&&decide (a≤b)&&decide (b≤c)&&decide (c≤l.length)&&!decide (c=0)) (K (zAe s d (.sl g ((l.take b.toNat).drop a.toNat))))
       |_,_,_,_=>none)
   | .nil=>match lo,hi,mx with
     |none,none,none=>chkO ((T e).known) (K (zAe s d .nil))
     |_,_,_=>none
   |.emp _=>none
   | _=>match mx with
     | none=>takeT s (T e).size x (fun _=>none) fun g dd l s'=>chkO ((T e).known&&g.sz==(T e).size) (match zJu s 0 lo,zJu s l.length hi with
       |some a,some b=>grdO (decide (0≤a)&&decide (a≤b)&&decide (b≤l.length)) (K (zAe s' d (.own g dd ((l.take b.toNat).drop a.toNat))))
       |_,_=>none)
     |some _=>none
 |_=>none
def zIy (T:Nat→TI)(fs:List (Nat×Nat))(n:Nat):List (Nat×V)→Bool
 |[]=>true
 | (j,v)::ps=>(match fs[j]? with
   |some (ft,fo)=>(T ft).known&&(zAq v).length==(T ft).size&&zEP (zAq v)&&ble (fo+(T ft).size) n
   |none=>false)&&zIy T fs n ps
def zHF (fs:List (Nat×Nat))(row:List V):List (Nat×V)→List V
 |[]=>row
 |(j,v)::ps=>zHF fs (wrV row ((fs.getD j (0,0)).2) (zAq v)) ps
def zipV:List (Nat×Operand)→List V→List (Nat×V)
 |(j,_)::ps,v::vs=>(j,v)::zipV ps vs
 |_,_=>[]
def zNc (n:Nat):List V→Bool
 |[]=>true
 |v::l=>(zAq v).length==n&&zEP (zAq v)&&zJr (zAq v)&&zNc n l
def deepL:List V→Bool
 |[]=>true
 |v::l=>(match v with|.sl _ _=>false|_=>true)&&deepL l
def deepR:List V→Bool
 |[]=>true
 |v::l=>deepL (zAq v)&&deepR l
def zTP (d:Bool)(g:GT):List V→(List g.Den→Option R)→Option R
 |[],K=>K []
 | v::l,K=>rdC true d g (zAq v) fun x rest=>match rest with
   |[]=>zTP d g l fun r=>K (x::r)
   |_::_=>none
def evTL (s:TS):List Operand→List V
 |[]=>[]
 |x::l=>evT s x::evTL s l
def kSkT (d:Option Tmp)(K:TS→Option R)(s:TS):Option R:=K (zAe s d .sk)
def idxT (s:TS)(d:Option Tmp)(K:TS→Option R)(g:GT)(l:List g.Den)(n:Int):Option R :=
 grdO (decide (0≤n)) (atO l n.toNat fun x=>K (zAe s d (.ro (cells false g x))))
def frzV:V→V
 |.own g _ l=>.sl g l
 |.emp g=>.sl g []
 |.agg cs=>.agg (frzVL cs)
 |.tup cs=>.tup (frzVL cs)
 |v=>v
where frzVL:List V→List V
 |[]=>[]
 |x::l=>frzV x::frzVL l
def zOG (s:TS)(x:Operand):TS:=match x with
 | .tmp t=>match zBG (zBx s t)with
   |true=>setT s t (frzV (zBx s t))
   |false=>s
 |_=>s
noncomputable def tstep (T:Nat→TI)(C:zQl R)(o:Oper)(s:TS)(K:TS→Option R):Option R:=match o.op with
 | .move x=>match x with
   | .tmp t=>match zBx s t with
     |.own g d l=>chkO (Nat.blt t 100000) (K (zAe (setT (addT (setT s t .u) t (.arr t g d l)) t (.ar t)) o.dst (.ar t)))
     |.emp g=>chkO (Nat.blt t 100000) (K (zAe (setT (addT (setT s t .u) t (.arr t g true [])) t (.ar t)) o.dst (.ar t)))
     | v=>match zBG v with
       |true=>K (zAe (setT s t .u) o.dst v)
       |false=>K (zAe s o.dst v)
   |x=>K (zAe s o.dst (evT s x))
 |.assign x=>K (zAe (zBB s x) o.dst (evT s x))
 | .pick c a b=>match evT s c with
   | .b x=>match evT s a,evT s b with
     |.b p,.b q=>K (zAe s o.dst (.b (bif x then p else q)))
     |v,w=>cndO x (K (zAe (zBB s a) o.dst v)) (K (zAe (zBB s b) o.dst w))
   |_=>none
 | .alloc e=>match o.dst with
   |some d=>chkO (Nat.blt d 100000&&(T e).known&&zOk (T e).zero&&(T e).zero.length==(T e).size) (K (setT (addT s d (.box d (ofZL (T e).zero))) d (.p d 0 0)))
   |none=>none
 | .box e x=>match o.dst with
   |some d=>chkO (Nat.blt d 100000&&(T e).known&&(zAq (evT s x)).length==(T e).size&&zEP (zAq (evT s x))) (K (setT (addT (zBB s x) d (.box d (zEE d (zAq (evT s x))))) d (.p d 0 0)))
   |none=>none
 | .build t ps=>match(T t).kind with
   |.struct fs=>chkO ((T t).known&&zHx T fs&&zOk (T t).zero&&zIy T fs (T t).size (zipV ps.toList (zKi s (opnds ps)))) (K (zAe (zGV s (opnds ps)) o.dst (.agg (zHF fs (ofZL (T t).zero) (zipV ps.toList (zKi s (opnds ps)))))))
   |_=>none
 | .buildSlice t len ps=>match(T t).kind with
   | .slice e=>match gt T 8 e with
     | some g=>chkO ((T e).known&&ps.size==len&&ble (len*(T e).size) 16777216&&zUc 0 ps.toList&&zNc (T e).size (zKi s (opnds ps))&&tyOk T e g) (match zKi s (opnds ps)with
       |[]=>K (zAe (zGV s (opnds ps)) o.dst (.emp g))
       |v::vs=>zTP (deepR (v::vs)) g (v::vs) fun l=>K (zAe (zGV s (opnds ps)) o.dst (.own g (deepR (v::vs)) l)))
     |none=>none
   |_=>none
 |.load t a=>loadT T t a o.dst s K
 |.store t a x=>storeT T t (evT s a) x s (kSkT o.dst K)
 | .nilCheck x=>match evT s x with
   |.p a b c=>K (zAe s o.dst (.p a b c))
   |.ro c=>K (zAe s o.dst (.ro c))
   |_=>none
 | .binOp op t x y _=>match evT s x,evT s y with
   | .agg a,.agg b=>match(T t).kind with
     | .struct fs=>match op,eqFV T 0 fs a b with
       |.eql,some r=>K (zAe s o.dst (.b r))
       |.neq,some r=>K (zAe s o.dst (.b !r))
       |_,_=>none
     |_=>none
   | .sl g l,.nil=>match op,(T t).kind with
     |.eql,.slice _=>chkO (zIP y) (cndO (decide (l.length=0)) (zBK (K (zAe s o.dst (.b true))) (K (zAe s o.dst (.b false)))) (K (zAe s o.dst (.b false))))
     |.neq,.slice _=>chkO (zIP y) (grdO (!decide (l.length=0)) (K (zAe s o.dst (.b true))))
     |_,_=>none
   | .b p,.b q=>match op,(T t).kind with
     |.eql,.bool=>K (zAe s o.dst (.b (decide (p=q))))
     |.neq,.bool=>K (zAe s o.dst (.b (!decide (p=q))))
     |_,_=>none
   |.i k a,.i k' b=>binT op (.i k a) (.i k' b) fun v=>K (zAe s o.dst v)
   |.s a,.s b=>binT op (.s a) (.s b) fun v=>K (zAe s o.dst v)
   |_,_=>none
 | .unOp op _ x=>match op,evT s x with
   |.not,.b x=>K (zAe s o.dst (.b !x))
   |.neg,.i k n=>K (zAe s o.dst (.i k (k.wrap (0-n))))
   |_,_=>none
 | .convert src dst x=>match(T dst).kind,evT s x with
   |.int k,.i _ n=>chkO (T src).known (K (zAe s o.dst (.i k (k.wrap n))))
   | .slice e,.s l=>match(T e).kind,(T src).kind with
     |.int .u8,.str=>K (zAe s o.dst (.sl .byte l))
     |_,_=>none
   | .str,.s l=>match(T src).kind with
     |.str=>K (zAe s o.dst (.s l))
     |_=>none
   | .str,.sl g l=>match(T src).kind with
     | .slice e=>(match(T e).kind with
       |.int .u8=>zSD (g:=.byte) l fun l=>K (zAe s o.dst (.s l))
       |_=>none)
     |_=>none
   | .str,.own g _ l=>match(T src).kind with
     | .slice e=>(match(T e).kind with
       |.int .u8=>zSD (g:=.byte) l fun l=>K (zAe s o.dst (.s l))
       |_=>none)
     |_=>none
   |_,_=>none
 | .makeFunc f first caps=>match f with
   |.func n=>chkO (first.size==0&&!zDO (evTL s caps.toList)) (K (zAe s o.dst (.fn n (evTL s caps.toList))))
   |_=>none
 | .makeSlice t l c=>match(T t).kind,evT s l,evT s c with
   | .slice e,.i .i64 n,.i .i64 m=>match gt T 8 e with
     |some g=>chkO ((T e).known&&g.flat&&eqSVs (T e).zero (encC true g g.dflt)&&g.sz==(T e).size) (grdO (decide (n=m)&&decide (0≤n)&&decide (n≤9223372036854775807)&&decide (n*(T e).bytes≤140737488355328)) (K (zAe s o.dst (.own g true (List.replicate n.toNat g.dflt)))))
     |none=>none
   |_,_,_=>none
 |.slice t x lo hi mx=>sliceT T t x lo hi mx o.dst s K
 | .fieldAddr s' x f=>match(T s').kind,evT s x with
   | .struct fs,.p a i off=>match fs[f]? with
     |some (ft,fo)=>chkO ((T ft).known&&(T ft).size != 0) (K (zAe s o.dst (.p a i (off+fo))))
     |none=>none
   | .struct fs,.ro cs=>match fs[f]? with
     |some (ft,fo)=>chkO ((T ft).known&&(T ft).size != 0) (K (zAe s o.dst (.ro (cs.drop fo))))
     |none=>none
   |_,_=>none
 | .field s' x f=>match(T s').kind,evT s x with
   | .struct fs,.agg cs=>match fs[f]? with
     |some (ft,fo)=>chkO ((T ft).known&&!zDO cs&&ble (fo+(T ft).size) cs.length) (K (zAe s o.dst (valV T ft (zAW fo (T ft).size cs))))
     |none=>none
   |_,_=>none
 | .indexAddr t x ix=>match(T t).kind,evT s x,evT s ix with
   |.slice e,.sl g l,.i _ n=>chkO ((T e).known&&tyOk T e g) (idxT s o.dst K g l n)
   |.slice e,.own g _ l,.i _ n=>chkO ((T e).known&&tyOk T e g) (idxT (zOG s x) o.dst K g l n)
   | .slice e,.ar a,.i _ n=>match getT s.ob a with
     |some (.arr _ g _ l)=>chkO ((T e).known&&g.sz==(T e).size) (grdO (decide (0≤n)&&decide (n<l.length)) (K (zAe s o.dst (.p a n.toNat 0))))
     |some (.opn _ g _ l _ _)=>chkO ((T e).known&&g.sz==(T e).size) (grdO (decide (0≤n)&&decide (n<l.length)) (K (zAe s o.dst (.p a n.toNat 0))))
     |some (.spl _ g l _)=>chkO ((T e).known&&g.sz==(T e).size) (grdO (decide (0≤n)&&decide (n<l.length)) (K (zAe s o.dst (.p a n.toNat 0))))
     |_=>none
   |_,_,_=>none
 | .index t x ix=>match(T t).kind,evT s x,evT s ix with
   |.str,.s l,.i _ n=>grdO (decide (0≤n)) (atO l n.toNat fun c=>K (zAe s o.dst (.i .u8 (c:UInt8).toNat)))
   |_,_,_=>none
 | .extract x j=>match x with
   | .tmp t=>match zBx s t with
     |.tup vs=>chkO (Nat.blt j vs.length) (K (zAe (match zBG (lkV vs j)with|true=>setT s t (.tup (updV vs j .u))|false=>s) o.dst (lkV vs j)))
     |_=>none
   |_=>none
 | .call c=>match c.callee with
   | .builtin .len=>match c.args.toList,c.argTypes.toList with
     | [x],[t]=>match(T t).kind,evT s x with
       |.str,.s l=>K (zAe s o.dst (.i .i64 l.length))
       | .slice _,v=>match lenT s v with
         |some n=>K (zAe s o.dst (.i .i64 n))
         |none=>none
       |_,_=>none
     |_,_=>none
   | .builtin .append=>match c.args.toList,c.argTypes.toList with
     | [x,y],[t,t']=>match(T t).kind,(T t').kind with
       | .slice e,.slice _=>match gt T 8 e with
         |some g=>chkO ((T e).known&&g.sz==(T e).size) (appT T e g x y o.dst s K)
         |none=>none
       |_,_=>none
     |_,_=>none
   |.value f=>C f c.args.toList o.dst s K
   |_=>none
 |_=>none
where eqSVs:List SV→List SV→Bool
 |[],[]=>true
 | x::l,y::m=>(match x,y with
   |.i k n,.i k' n'=>eqK k k'&&decide (n=n')
   |.b p,.b q=>p==q
   |.s [],.s []=>true
   |.own k [],.own k' []=>k==k'
   |_,_=>false)&&eqSVs l m
 |_,_=>false
end
end Go.TM
end
