/- Part 10 of the proof of FnDeep; no condition. -/
import Derived.Test.YtdpapeledldifaaGreatX08
open Option renaming some -> U
open Decidable renaming decide -> aa
open Bool renaming true -> ad
open Bool renaming false -> ag
open Option renaming none -> aj
open Sum renaming inl -> an
open Sum renaming inr -> ao
open List renaming length -> au
open Int renaming toNat -> aH
open List renaming drop -> kZ
open List renaming take -> nY
set_option autoImplicit true
set_option relaxedAutoImplicit true
set_option linter.all false
section
namespace Go.TM
open Go.AM
section
variable {R:Type}
abbrev ni (R:Type):=Operand->List Operand->Option Tmp->TS->(TS->Option R)->Option R
def dh (T:Nat->TI)(t:Nat)(cs:List V):V:=match(T t).kind with|.struct _=>.agg cs|_=>du cs 0
def M0:SV->V
 |.i k n=>.i k n
 |.b x=>.b x
 |.s x=>.s x
 |.nil=>.nil
 |.nilp=>.nilp
 |_=>.u
def nj:List SV->List V
 |[]=>[]
 |x::l=>M0 x::nj l
def rY:List SV->Bool
 |[]=>ad
 |x::l=>(match x with|.i _ _|.b _|.s _|.nil|.nilp=>ad|_=>ag)&&rY l
def Ai:∀l:List SV,rY l=ad->eL (nj l)=l
 |[],_=>rfl
 | x::l,h=>by
   simp only[rY,aG]at h;simp only[nj,eL,Ai l h.2]
   congr 1;cases x<;>first|rfl|simp at h
def Aj (o off d:Nat)(K:TS->Option R)(s:TS):Option R:=match ba s.ob o with
 | some (.box n cs)=>match du cs off with
   |.own g dd l=>aX (Nat.blt d 100000&&d != o&&ble (off+1) cs.length)
     (match ba (dU ⟨s.n,s.al,di s.ob o (bA cs off [.u])⟩ d (.arr d g dd l)).ob o with
     |some (.box _ cs1)=>aX (ble (off+1) cs1.length) (K ⟨s.n,(dU ⟨s.n,s.al,di s.ob o (bA cs off [.u])⟩ d (.arr d g dd l)).al,
       di (dU ⟨s.n,s.al,di s.ob o (bA cs off [.u])⟩ d (.arr d g dd l)).ob o (bA cs1 off [.ar d])⟩)
     |_=>aj)
   |.emp g=>aX (Nat.blt d 100000&&d != o&&ble (off+1) cs.length)
     (match ba (dU ⟨s.n,s.al,di s.ob o (bA cs off [.u])⟩ d (.arr d g ad [])).ob o with
     |some (.box _ cs1)=>aX (ble (off+1) cs1.length) (K ⟨s.n,(dU ⟨s.n,s.al,di s.ob o (bA cs off [.u])⟩ d (.arr d g ad [])).al,
       di (dU ⟨s.n,s.al,di s.ob o (bA cs off [.u])⟩ d (.arr d g ad [])).ob o (bA cs1 off [.ar d])⟩)
     |_=>aj)
   |_=>K s
 |_=>aj
def Ak (o d:Nat):Nat->Nat->(TS->Option R)->TS->Option R
 |0,_,K,s=>K s
 |n+1,j,K,s=>Aj o j (d+1000*(j+1)) (Ak o d n (j+1) K) s
def c_ (off n:Nat)(l:List V):List V:=(l.drop off).take n
def oz (T:Nat->TI):List TK->List V->Bool
 |[],row=>(match row with | []=>ad|_=>ag)
 | k::ks,row=>match row with
   |[]=>ag
   | c::cs=>(match k,c with
     |.int k,.i k' _=>c9 k k'
     |.bool,.b _=>ad
     |.str,.s _=>ad
     |.slice e,.sl g _=>g.sz==(T e).size
     |_,_=>ag)&&oz T ks cs
def Al (T:Nat->TI)(t o off:Nat)(d:Option Tmp)(K:TS->Option R)(s:TS):Option R:=match ba s.ob o with
 |some (.box _ cs)=>aX ((T t).known&&ble (off+(T t).size) cs.length&&!eu (dh T t (c_ off (T t).size cs))) (K (bC s d (dh T t (c_ off (T t).size cs))))
 |_=>aj
def F3 (T:Nat->TI)(t:Nat)(x:Operand)(d:Option Tmp)(K:TS->Option R)(s:TS):Option R:=match bw s x with
 | .p o i off=>match i with
   |0=>Al T t o off d K s
   |_+1=>aj
 |_=>aj
def ve (o i off d:Nat)(K:TS->Option R)(s:TS):Option R:=match ba s.ob o with
 | some (.opn _ _ _ l j cs)=>af (aa (i=j)&&aa (j<l.length)) (match du cs off with
   |.own g dd r=>aX (Nat.blt d 100000&&d != o&&ble (off+1) cs.length)
     (match ba (dU ⟨s.n,s.al,dv s.ob o (bA cs off [.u])⟩ d (.arr d g dd r)).ob o with
     |some (.opn _ _ _ l1 j1 cs1)=>aX (ble (off+1) cs1.length) (af (aa (i=j1)&&aa (j1<l1.length)) (K ⟨s.n,(dU ⟨s.n,s.al,dv s.ob o (bA cs off [.u])⟩ d (.arr d g dd r)).al,
       dv (dU ⟨s.n,s.al,dv s.ob o (bA cs off [.u])⟩ d (.arr d g dd r)).ob o (bA cs1 off [.ar d])⟩))
     |_=>aj)
   |.emp g=>aX (Nat.blt d 100000&&d != o&&ble (off+1) cs.length)
     (match ba (dU ⟨s.n,s.al,dv s.ob o (bA cs off [.u])⟩ d (.arr d g ad [])).ob o with
     |some (.opn _ _ _ l1 j1 cs1)=>aX (ble (off+1) cs1.length) (af (aa (i=j1)&&aa (j1<l1.length)) (K ⟨s.n,(dU ⟨s.n,s.al,dv s.ob o (bA cs off [.u])⟩ d (.arr d g ad [])).al,
       dv (dU ⟨s.n,s.al,dv s.ob o (bA cs off [.u])⟩ d (.arr d g ad [])).ob o (bA cs1 off [.ar d])⟩))
     |_=>aj)
   |_=>K s)
 |_=>aj
def Am (o i d:Nat):Nat->Nat->(TS->Option R)->TS->Option R
 |0,_,K,s=>K s
 |n+1,j,K,s=>ve o i j (d+1000*(j+1)) (Am o i d n (j+1) K) s
def An (T:Nat->TI)(t o i off:Nat)(d:Option Tmp)(K:TS->Option R)(s:TS):Option R:=match ba s.ob o with
 |some (.opn _ _ _ l j cs)=>af (aa (i=j)&&aa (j<l.length)) (aX ((T t).known&&ble (off+(T t).size) cs.length&&!eu (dh T t (c_ off (T t).size cs))) (K (bC s d (dh T t (c_ off (T t).size cs)))))
 |_=>aj
def F4 (T:Nat->TI)(t:Nat)(x:Operand)(d:Option Tmp)(K:TS->Option R)(s:TS):Option R:=match bw s x with
 |.p o i off=>An T t o i off d K s
 |_=>aj
def vg:TK->Bool
 |.slice _=>ad
 |_=>ag
def F5 (T:Nat->TI)(t:Nat)(a:Operand)(d:Option Tmp)(s:TS)(K:TS->Option R):Option R:=match bw s a with
 |.ro cs=>aX ((T t).known&&(T t).size != 0&&ble (T t).size cs.length) (K (bC s d (dh T t (c_ 0 (T t).size cs))))
 | .p o i off=>match ba s.ob o with
   | some (.box _ _)=>(match i with
     |0=>Ak o (zp d) (T t).size off (F3 T t a d K) s
     |_+1=>aj)
   |some (.arr _ g dd l)=>aX ((T t).known&&!vg (T t).kind) (aq l i fun x=>
     aX (ble (off+(T t).size) g.sz&&oz T (flat T 4 t) (c_ off (T t).size (cells dd g x))&&!eu (dh T t (c_ off (T t).size (cells dd g x))))
      (K (bC s d (dh T t (c_ off (T t).size (cells dd g x))))))
   |some (.opn _ _ _ _ _ _)=>Am o i (zp d) (T t).size off (F4 T t a d K) s
   |some (.spl _ g l k)=>aX ((T t).known&&!vg (T t).kind) (af (aa (k<=i)) (aq l i fun x=>
     aX (ble (off+(T t).size) g.sz&&oz T (flat T 4 t) (c_ off (T t).size (cells ag g x))&&!eu (dh T t (c_ off (T t).size (cells ag g x))))
      (K (bC s d (dh T t (c_ off (T t).size (cells ag g x)))))))
   |none=>aj
 |_=>aj
def vh (T:Nat->TI)(d:Bool):List TK->List V->List V
 | k::ks,v::vs=>(match k,v with
   | .slice e,.nil=>(match gt T 4 e with
     |some g=>(match d with|true=>.emp g|false=>.sl g [])
     |none=>.nil)
   |_,_=>v)::vh T d ks vs
 |_,vs=>vs
def F6 (T:Nat->TI)(t:Nat)(a:V)(x:Operand)(s:TS)(K:TS->Option R):Option R:=match a with
 | .p o i off=>match ba (cU s x).ob o with
   | some (.box _ cs)=>(match i with
     |0=>aX ((T t).known&&(eI (bw s x)).length==(T t).size&&lk (eI (bw s x))&&ble (off+(T t).size) cs.length)
       (K ⟨s.n,(cU s x).al,di (cU s x).ob o (bA cs off (eI (bw s x)))⟩)
     |_+1=>aj)
   |some (.arr _ g dd l)=>aX ((T t).known&&(eI (bw s x)).length==(T t).size&&rT (eI (bw s x))&&lk (eI (bw s x))&&ble (off+(T t).size) g.sz)
     (aq l i fun y=>fD ag dd g (bA (cells dd g y) off (vh T dd (flat T 4 t) (eI (bw s x)))) fun z rest=>
      (match rest with
      |[]=>K ⟨s.n,(cU s x).al,rV g dd (cU s x).ob o (l.set i z)⟩
      |_::_=>aj))
   |some (.opn _ _ _ l j cs)=>aX ((T t).known&&(eI (bw s x)).length==(T t).size&&lk (eI (bw s x))&&ble (off+(T t).size) cs.length)
     (af (aa (i=j)&&aa (j<l.length)) (K ⟨s.n,(cU s x).al,dv (cU s x).ob o (bA cs off (eI (bw s x)))⟩))
   |some (.spl _ _ _ _)=>aj
   |none=>aj
 |_=>aj
def vi (T:Nat->TI):Nat->List (Nat×Nat)->List V->List V->Option Bool
 |_,[],[],[]=>U ad
 | n,(t,o)::fs,x::l,y::m=>bif o==n then(match(T t).kind,x,y,vi T (n+1) fs l m with
   |.int _,.i k a,.i k' b,U q=>bif c9 k k' then U (aa (a=b)&&q)else aj
   |.bool,.b a,.b b,U q=>U (aa (a=b)&&q)
   |.str,.s a,.s b,U q=>U (aa (a=b)&&q)
   |_,_,_,_=>aj)else aj
 |_,_,_,_=>aj
def vk (op:BinOp)(x y:V)(K:V->Option R):Option R:=match x,y with
 | .i k a,.i k' b=>match op with
   |.add=>aX (c9 k k') (K (.i k (k.wrap (a+b))))
   |.sub=>aX (c9 k k') (K (.i k (k.wrap (a-b))))
   |.mul=>aX (c9 k k') (K (.i k (k.wrap (a*b))))
   |.quo=>aX (c9 k k') (af (!aa (b=0)) (K (.i k (k.wrap (a.tdiv b)))))
   |.rem=>aX (c9 k k') (af (!aa (b=0)) (K (.i k (a.tmod b))))
   |.shl=>af (aa (0<=b)) (K (.i k (k.wrap (a*2^min b.toNat k.bits))))
   |.shr=>af (aa (0<=b)) (K (.i k (a.fdiv (2^min b.toNat k.bits))))
   | .and|.or|.xor=>match pD op k a b with
     |some r=>aX (c9 k k') (K (.i k r))
     |none=>aj
   | _=>match kp op a b with
     |some r=>aX (c9 k k') (K (.b r))
     |none=>aj
 | .s a,.s b=>match op with
   |.add=>af (aa (a.length+b.length<=9223372036854775807)) (K (.s (a++b)))
   | _=>match ru op a b with
     |some r=>K (.b r)
     |none=>aj
 | .b p,.b q=>match op with
   |.eql=>K (.b (aa (p=q)))
   |.neq=>K (.b (!aa (p=q)))
   |_=>aj
 |_,_=>aj
def kE (s:TS)(d:Int):Option Operand->Option Int
 |none=>U d
 | some x=>match bw s x with
   |.i _ n=>U n
   |_=>aj
def Ao (s:TS)(x:V):Option Nat:=match x with
 |.nil=>U 0
 |.emp _=>U 0
 |.sl _ l=>U l.length
 |.own _ _ l=>U l.length
 | .ar o=>match ba s.ob o with
   |some (.arr _ _ _ l)=>U l.length
   |some (.box _ _)=>U 1
   |some (.opn _ _ _ l _ _)=>U l.length
   |some (.spl _ _ l _)=>U l.length
   |none=>aj
 |_=>aj
def takeT (s:TS)(k0:Nat)(x:Operand)(Kn:TS->Option R)(K:(g:GT)->Bool->List g.Den->TS->Option R):Option R:=match bw s x with
 |.nil=>Kn s
 |.emp g=>aX (g.sz==k0) (Kn (cU s x))
 |.own g d l=>K g d l (cU s x)
 | .ar o=>match ba s.ob o with
   |some (.arr _ g d l)=>K g d l (j7 o s)
   |_=>aj
 |_=>aj
def Ap (s:TS)(y:Operand)(Kn:TS->Option R)(K:(g:GT)->Bool->List g.Den->TS->Option R):Option R:=match bw s y with
 |.nil=>Kn s
 |.emp _=>Kn (cU s y)
 |.own g d l=>K g d l (cU s y)
 |.sl g l=>K g ag l s
 |_=>aj
def oA {g g':GT}(l:List g'.Den)(K:List g.Den->Option R):Option R:=match hs:g.same g' with
 |true=>K (fC hs l)
 |false=>aj
def vm:Nat:=9223372036854775807
def vo:Nat:=140737488355328
def Aq (T:Nat->TI)(e:Nat)(g:GT)(x y:Operand)(d:Option Tmp)(s:TS)(K:TS->Option R):Option R :=
 Ap s y
  (fun s1=>takeT s1 (T e).size x (fun s2=>K (bC s2 d (.own g ad [])))
   fun g1 d1 l1 s2=>oA (g:=g) l1 fun l1=>af (aa (l1.length<=vm)&&aa (l1.length*(T e).bytes<=vo)) (K (bC s2 d (.own g d1 l1))))
  fun g' d' l' s1=>oA (g:=g) l' fun l'=>takeT s1 (T e).size x (fun s2=>af (aa (l'.length<=vm)&&aa (l'.length*(T e).bytes<=vo)) (K (bC s2 d (.own g d' l'))))
   fun g1 d1 l1 s2=>oA (g:=g) l1 fun l1=>aX (d1==d'||g.flat) (af (aa (l1.length+l'.length<=vm)&&aa ((l1.length+l'.length)*(T e).bytes<=vo)) (K (bC s2 d (.own g d1 (l1++l')))))
def F7 (T:Nat->TI)(t:Nat)(x:Operand)(lo hi mx:Option Operand)(d:Option Tmp)(s:TS)(K:TS->Option R):Option R :=
 match(T t).kind with
 | .str=>match bw s x with
   | .s l=>match kE s 0 lo,kE s l.length hi,mx with
     |some a,U b,aj=>af (aa (0<=a)&&aa (a<=b)&&aa (b<=l.length)) (K (bC s d (.s ((l.take b.toNat).drop a.toNat))))
     |_,_,_=>aj
   |_=>aj
 | .slice e=>match bw s x with
   | .sl g l=>aX ((T e).known&&g.sz==(T e).size) (match mx with
     | none=>match kE s 0 lo,kE s l.length hi with
       |some a,U b=>af (aa (0<=a)&&aa (a<=b)&&aa (b<=l.length)) (K (bC s d (.sl g ((l.take b.toNat).drop a.toNat))))
       |_,_=>aj
     | some m=>match kE s 0 lo,hi,kE s 0 hi,kE s 0 (U m)with
       |some a,U _,U b,U c=>af (aa (0<=a)&&aa (a<=b)&&aa (b<=c)&&aa (c<=l.length)&&!aa (c=0)) (K (bC s d (.sl g ((l.take b.toNat).drop a.toNat))))
       |_,_,_,_=>aj)
   | .nil=>match lo,hi,mx with
     |none,aj,aj=>aX ((T e).known) (K (bC s d .nil))
     |_,_,_=>aj
   |.emp _=>aj
   | _=>match mx with
     | none=>takeT s (T e).size x (fun _=>aj) fun g dd l s'=>aX ((T e).known&&g.sz==(T e).size) (match kE s 0 lo,kE s l.length hi with
       |some a,U b=>af (aa (0<=a)&&aa (a<=b)&&aa (b<=l.length)) (K (bC s' d (.own g dd ((l.take b.toNat).drop a.toNat))))
       |_,_=>aj)
     |some _=>aj
 |_=>aj
def vq (T:Nat->TI)(fs:List (Nat×Nat))(n:Nat):List (Nat×V)->Bool
 |[]=>ad
 | (j,v)::ps=>(match fs[j]? with
   |some (ft,fo)=>(T ft).known&&(eI v).length==(T ft).size&&lk (eI v)&&ble (fo+(T ft).size) n
   |none=>ag)&&vq T fs n ps
def vr (fs:List (Nat×Nat))(row:List V):List (Nat×V)->List V
 |[]=>row
 |(j,v)::ps=>vr fs (bA row ((fs.getD j (0,0)).2) (eI v)) ps
def oB:List (Nat×Operand)->List V->List (Nat×V)
 |(j,_)::ps,v::vs=>(j,v)::oB ps vs
 |_,_=>[]
def vu (n:Nat):List V->Bool
 |[]=>ad
 |v::l=>(eI v).length==n&&lk (eI v)&&rT (eI v)&&vu n l
def F8:List V->Bool
 |[]=>ad
 |v::l=>(match v with|.sl _ _=>ag|_=>ad)&&F8 l
def Ar:List V->Bool
 |[]=>ad
 |v::l=>F8 (eI v)&&Ar l
def vv (d:Bool)(g:GT):List V->(List g.Den->Option R)->Option R
 |[],K=>K []
 | v::l,K=>fD ad d g (eI v) fun x rest=>match rest with
   |[]=>vv d g l fun r=>K (x::r)
   |_::_=>aj
def gL (s:TS):List Operand->List V
 |[]=>[]
 |x::l=>bw s x::gL s l
def vw (d:Option Tmp)(K:TS->Option R)(s:TS):Option R:=K (bC s d .sk)
def As (s:TS)(d:Option Tmp)(K:TS->Option R)(g:GT)(l:List g.Den)(n:Int):Option R :=
 af (aa (0<=n)) (aq l n.toNat fun x=>K (bC s d (.ro (cells ag g x))))
def nk:V->V
 |.own g _ l=>.sl g l
 |.emp g=>.sl g []
 |.agg cs=>.agg (frzVL cs)
 |.tup cs=>.tup (frzVL cs)
 |v=>v
where frzVL:List V->List V
 |[]=>[]
 |x::l=>nk x::frzVL l
def l_ (s:TS)(x:Operand):TS:=match x with
 | .tmp t=>match eu (cT s t)with
   |true=>dT s t (nk (cT s t))
   |false=>s
 |_=>s
noncomputable def b9 (T:Nat->TI)(C:ni R)(o:Oper)(s:TS)(K:TS->Option R):Option R:=match o.op with
 | .move x=>match x with
   | .tmp t=>match cT s t with
     |.own g d l=>aX (Nat.blt t 100000) (K (bC (dT (dU (dT s t .u) t (.arr t g d l)) t (.ar t)) o.dst (.ar t)))
     |.emp g=>aX (Nat.blt t 100000) (K (bC (dT (dU (dT s t .u) t (.arr t g ad [])) t (.ar t)) o.dst (.ar t)))
     | v=>match eu v with
       |true=>K (bC (dT s t .u) o.dst v)
       |false=>K (bC s o.dst v)
   |x=>K (bC s o.dst (bw s x))
 |.assign x=>K (bC (cU s x) o.dst (bw s x))
 | .pick c a b=>match bw s c with
   | .b x=>match bw s a,bw s b with
     |.b p,.b q=>K (bC s o.dst (.b (bif x then p else q)))
     |v,w=>ah x (K (bC (cU s a) o.dst v)) (K (bC (cU s b) o.dst w))
   |_=>aj
 | .alloc e=>match o.dst with
   |some d=>aX (Nat.blt d 100000&&(T e).known&&rY (T e).zero&&(T e).zero.length==(T e).size) (K (dT (dU s d (.box d (nj (T e).zero))) d (.p d 0 0)))
   |none=>aj
 | .box e x=>match o.dst with
   |some d=>aX (Nat.blt d 100000&&(T e).known&&(eI (bw s x)).length==(T e).size&&lk (eI (bw s x))) (K (dT (dU (cU s x) d (.box d (jd d (eI (bw s x))))) d (.p d 0 0)))
   |none=>aj
 | .build t ps=>match(T t).kind with
   |.struct fs=>aX ((T t).known&&pF T fs&&rY (T t).zero&&vq T fs (T t).size (oB ps.toList (ll s (cy ps)))) (K (bC (ou s (cy ps)) o.dst (.agg (vr fs (nj (T t).zero) (oB ps.toList (ll s (cy ps)))))))
   |_=>aj
 | .buildSlice t len ps=>match(T t).kind with
   | .slice e=>match gt T 8 e with
     | some g=>aX ((T e).known&&ps.size==len&&ble (len*(T e).size) 16777216&&pE 0 ps.toList&&vu (T e).size (ll s (cy ps))&&nh T e g) (match ll s (cy ps)with
       |[]=>K (bC (ou s (cy ps)) o.dst (.emp g))
       |v::vs=>vv (Ar (v::vs)) g (v::vs) fun l=>K (bC (ou s (cy ps)) o.dst (.own g (Ar (v::vs)) l)))
     |none=>aj
   |_=>aj
 |.load t a=>F5 T t a o.dst s K
 |.store t a x=>F6 T t (bw s a) x s (vw o.dst K)
 | .nilCheck x=>match bw s x with
   |.p a b c=>K (bC s o.dst (.p a b c))
   |.ro c=>K (bC s o.dst (.ro c))
   |_=>aj
 | .binOp op t x y _=>match bw s x,bw s y with
   | .agg a,.agg b=>match(T t).kind with
     | .struct fs=>match op,vi T 0 fs a b with
       |.eql,U r=>K (bC s o.dst (.b r))
       |.neq,U r=>K (bC s o.dst (.b !r))
       |_,_=>aj
     |_=>aj
   | .sl g l,.nil=>match op,(T t).kind with
     |.eql,.slice _=>aX (mQ y) (ah (aa (l.length=0)) (cm (K (bC s o.dst (.b ad))) (K (bC s o.dst (.b ag)))) (K (bC s o.dst (.b ag))))
     |.neq,.slice _=>aX (mQ y) (af (!aa (l.length=0)) (K (bC s o.dst (.b ad))))
     |_,_=>aj
   | .b p,.b q=>match op,(T t).kind with
     |.eql,.bool=>K (bC s o.dst (.b (aa (p=q))))
     |.neq,.bool=>K (bC s o.dst (.b (!aa (p=q))))
     |_,_=>aj
   |.i k a,.i k' b=>vk op (.i k a) (.i k' b) fun v=>K (bC s o.dst v)
   |.s a,.s b=>vk op (.s a) (.s b) fun v=>K (bC s o.dst v)
   |_,_=>aj
 | .unOp op _ x=>match op,bw s x with
   |.not,.b x=>K (bC s o.dst (.b !x))
   |.neg,.i k n=>K (bC s o.dst (.i k (k.wrap (0-n))))
   |_,_=>aj
 | .convert src dst x=>match(T dst).kind,bw s x with
   |.int k,.i _ n=>aX (T src).known (K (bC s o.dst (.i k (k.wrap n))))
   | .slice e,.s l=>match(T e).kind,(T src).kind with
     |.int .u8,.str=>K (bC s o.dst (.sl .byte l))
     |_,_=>aj
   | .str,.s l=>match(T src).kind with
     |.str=>K (bC s o.dst (.s l))
     |_=>aj
   | .str,.sl g l=>match(T src).kind with
     | .slice e=>(match(T e).kind with
       |.int .u8=>oA (g:=.byte) l fun l=>K (bC s o.dst (.s l))
       |_=>aj)
     |_=>aj
   | .str,.own g _ l=>match(T src).kind with
     | .slice e=>(match(T e).kind with
       |.int .u8=>oA (g:=.byte) l fun l=>K (bC s o.dst (.s l))
       |_=>aj)
     |_=>aj
   |_,_=>aj
 | .makeFunc f first caps=>match f with
   |.func n=>aX (first.size==0&&!lX (gL s caps.toList)) (K (bC s o.dst (.fn n (gL s caps.toList))))
   |_=>aj
 | .makeSlice t l c=>match(T t).kind,bw s l,bw s c with
   | .slice e,.i .i64 n,.i .i64 m=>match gt T 8 e with
     |some g=>aX ((T e).known&&g.flat&&eqSVs (T e).zero (aM ad g g.dflt)&&g.sz==(T e).size) (af (aa (n=m)&&aa (0<=n)&&aa (n<=9223372036854775807)&&aa (n*(T e).bytes<=140737488355328)) (K (bC s o.dst (.own g ad (List.replicate n.toNat g.dflt)))))
     |none=>aj
   |_,_,_=>aj
 |.slice t x lo hi mx=>F7 T t x lo hi mx o.dst s K
 | .fieldAddr s' x f=>match(T s').kind,bw s x with
   | .struct fs,.p a i off=>match fs[f]? with
     |some (ft,fo)=>aX ((T ft).known&&(T ft).size != 0) (K (bC s o.dst (.p a i (off+fo))))
     |none=>aj
   | .struct fs,.ro cs=>match fs[f]? with
     |some (ft,fo)=>aX ((T ft).known&&(T ft).size != 0) (K (bC s o.dst (.ro (cs.drop fo))))
     |none=>aj
   |_,_=>aj
 | .field s' x f=>match(T s').kind,bw s x with
   | .struct fs,.agg cs=>match fs[f]? with
     |some (ft,fo)=>aX ((T ft).known&&!lX cs&&ble (fo+(T ft).size) cs.length) (K (bC s o.dst (dh T ft (c_ fo (T ft).size cs))))
     |none=>aj
   |_,_=>aj
 | .indexAddr t x ix=>match(T t).kind,bw s x,bw s ix with
   |.slice e,.sl g l,.i _ n=>aX ((T e).known&&nh T e g) (As s o.dst K g l n)
   |.slice e,.own g _ l,.i _ n=>aX ((T e).known&&nh T e g) (As (l_ s x) o.dst K g l n)
   | .slice e,.ar a,.i _ n=>match ba s.ob a with
     |some (.arr _ g _ l)=>aX ((T e).known&&g.sz==(T e).size) (af (aa (0<=n)&&aa (n<l.length)) (K (bC s o.dst (.p a n.toNat 0))))
     |some (.opn _ g _ l _ _)=>aX ((T e).known&&g.sz==(T e).size) (af (aa (0<=n)&&aa (n<l.length)) (K (bC s o.dst (.p a n.toNat 0))))
     |some (.spl _ g l _)=>aX ((T e).known&&g.sz==(T e).size) (af (aa (0<=n)&&aa (n<l.length)) (K (bC s o.dst (.p a n.toNat 0))))
     |_=>aj
   |_,_,_=>aj
 | .index t x ix=>match(T t).kind,bw s x,bw s ix with
   |.str,.s l,.i _ n=>af (aa (0<=n)) (aq l n.toNat fun c=>K (bC s o.dst (.i .u8 (c:UInt8).toNat)))
   |_,_,_=>aj
 | .extract x j=>match x with
   | .tmp t=>match cT s t with
     |.tup vs=>aX (Nat.blt j vs.length) (K (bC (match eu (du vs j)with|true=>dT s t (.tup (nd vs j .u))|false=>s) o.dst (du vs j)))
     |_=>aj
   |_=>aj
 | .call c=>match c.callee with
   | .builtin .len=>match c.args.toList,c.argTypes.toList with
     | [x],[t]=>match(T t).kind,bw s x with
       |.str,.s l=>K (bC s o.dst (.i .i64 l.length))
       | .slice _,v=>match Ao s v with
         |some n=>K (bC s o.dst (.i .i64 n))
         |none=>aj
       |_,_=>aj
     |_,_=>aj
   | .builtin .append=>match c.args.toList,c.argTypes.toList with
     | [x,y],[t,t']=>match(T t).kind,(T t').kind with
       | .slice e,.slice _=>match gt T 8 e with
         |some g=>aX ((T e).known&&g.sz==(T e).size) (Aq T e g x y o.dst s K)
         |none=>aj
       |_,_=>aj
     |_,_=>aj
   |.value f=>C f c.args.toList o.dst s K
   |_=>aj
 |_=>aj
where eqSVs:List SV->List SV->Bool
 |[],[]=>ad
 | x::l,y::m=>(match x,y with
   |.i k n,.i k' n'=>c9 k k'&&aa (n=n')
   |.b p,.b q=>p==q
   |.s [],.s []=>ad
   |.own k [],.own k' []=>k==k'
   |_,_=>ag)&&eqSVs l m
 |_,_=>ag
end
end Go.TM
end
