/- Part 10 of the proof of FnTidyAll; no condition. -/
import Derived.Test.YtmjlecabpbiigaaGreatX08
open Option renaming some -> U
open Decidable renaming decide -> aa
open Bool renaming true -> ae
open Bool renaming false -> ag
open Option renaming none -> aj
open Sum renaming inr -> an
open Sum renaming inl -> ao
open List renaming length -> au
open Int renaming toNat -> aw
open List renaming drop -> cU
open List renaming take -> de
set_option autoImplicit true
set_option relaxedAutoImplicit true
set_option linter.all false
section
namespace Go.TM
open Go.AM
section
variable {R:Type}
abbrev nw (R:Type):=Operand->List Operand->Option Tmp->TS->(TS->Option R)->Option R
def dt (T:Nat->TI)(t:Nat)(cs:List V):V:=match(T t).kind with|.struct _=>.agg cs|_=>dE cs 0
def NU:SV->V
 |.i k n=>.i k n
 |.b x=>.b x
 |.s x=>.s x
 |.nil=>.nil
 |.nilp=>.nilp
 |_=>.u
def nx:List SV->List V
 |[]=>[]
 |x::l=>NU x::nx l
def ss:List SV->Bool
 |[]=>ae
 |x::l=>(match x with|.i _ _|.b _|.s _|.nil|.nilp=>ae|_=>ag)&&ss l
def AT:∀l:List SV,ss l=ae->eL (nx l)=l
 |[],_=>rfl
 | x::l,h=>by
   simp only[ss,aK]at h;simp only[nx,eL,AT l h.2]
   congr 1;cases x<;>first|rfl|simp at h
def AU (o off d:Nat)(K:TS->Option R)(s:TS):Option R:=match bb s.ob o with
 | some (.box n cs)=>match dE cs off with
   |.own g dd l=>aX (Nat.blt d 100000&&d != o&&ble (off+1) cs.length)
     (match bb (dP ⟨s.n,s.al,du s.ob o (bz cs off [.u])⟩ d (.arr d g dd l)).ob o with
     |some (.box _ cs1)=>aX (ble (off+1) cs1.length) (K ⟨s.n,(dP ⟨s.n,s.al,du s.ob o (bz cs off [.u])⟩ d (.arr d g dd l)).al,
       du (dP ⟨s.n,s.al,du s.ob o (bz cs off [.u])⟩ d (.arr d g dd l)).ob o (bz cs1 off [.ar d])⟩)
     |_=>aj)
   |.emp g=>aX (Nat.blt d 100000&&d != o&&ble (off+1) cs.length)
     (match bb (dP ⟨s.n,s.al,du s.ob o (bz cs off [.u])⟩ d (.arr d g ae [])).ob o with
     |some (.box _ cs1)=>aX (ble (off+1) cs1.length) (K ⟨s.n,(dP ⟨s.n,s.al,du s.ob o (bz cs off [.u])⟩ d (.arr d g ae [])).al,
       du (dP ⟨s.n,s.al,du s.ob o (bz cs off [.u])⟩ d (.arr d g ae [])).ob o (bz cs1 off [.ar d])⟩)
     |_=>aj)
   |_=>K s
 |_=>aj
def AV (o d:Nat):Nat->Nat->(TS->Option R)->TS->Option R
 |0,_,K,s=>K s
 |n+1,j,K,s=>AU o j (d+1000*(j+1)) (AV o d n (j+1) K) s
def dm (off n:Nat)(l:List V):List V:=(l.drop off).take n
def oO (T:Nat->TI):List TK->List V->Bool
 |[],row=>(match row with | []=>ae|_=>ag)
 | k::ks,row=>match row with
   |[]=>ag
   | c::cs=>(match k,c with
     |.int k,.i k' _=>dj k k'
     |.bool,.b _=>ae
     |.str,.s _=>ae
     |.slice e,.sl g _=>g.sz==(T e).size
     |_,_=>ag)&&oO T ks cs
def AW (T:Nat->TI)(t o off:Nat)(d:Option Tmp)(K:TS->Option R)(s:TS):Option R:=match bb s.ob o with
 |some (.box _ cs)=>aX ((T t).known&&ble (off+(T t).size) cs.length&&!eJ (dt T t (dm off (T t).size cs))) (K (bB s d (dt T t (dm off (T t).size cs))))
 |_=>aj
def GM (T:Nat->TI)(t:Nat)(x:Operand)(d:Option Tmp)(K:TS->Option R)(s:TS):Option R:=match bp s x with
 | .p o i off=>match i with
   |0=>AW T t o off d K s
   |_+1=>aj
 |_=>aj
def vC (o i off d:Nat)(K:TS->Option R)(s:TS):Option R:=match bb s.ob o with
 | some (.opn _ _ _ l j cs)=>af (aa (i=j)&&aa (j<l.length)) (match dE cs off with
   |.own g dd r=>aX (Nat.blt d 100000&&d != o&&ble (off+1) cs.length)
     (match bb (dP ⟨s.n,s.al,dF s.ob o (bz cs off [.u])⟩ d (.arr d g dd r)).ob o with
     |some (.opn _ _ _ l1 j1 cs1)=>aX (ble (off+1) cs1.length) (af (aa (i=j1)&&aa (j1<l1.length)) (K ⟨s.n,(dP ⟨s.n,s.al,dF s.ob o (bz cs off [.u])⟩ d (.arr d g dd r)).al,
       dF (dP ⟨s.n,s.al,dF s.ob o (bz cs off [.u])⟩ d (.arr d g dd r)).ob o (bz cs1 off [.ar d])⟩))
     |_=>aj)
   |.emp g=>aX (Nat.blt d 100000&&d != o&&ble (off+1) cs.length)
     (match bb (dP ⟨s.n,s.al,dF s.ob o (bz cs off [.u])⟩ d (.arr d g ae [])).ob o with
     |some (.opn _ _ _ l1 j1 cs1)=>aX (ble (off+1) cs1.length) (af (aa (i=j1)&&aa (j1<l1.length)) (K ⟨s.n,(dP ⟨s.n,s.al,dF s.ob o (bz cs off [.u])⟩ d (.arr d g ae [])).al,
       dF (dP ⟨s.n,s.al,dF s.ob o (bz cs off [.u])⟩ d (.arr d g ae [])).ob o (bz cs1 off [.ar d])⟩))
     |_=>aj)
   |_=>K s)
 |_=>aj
def AY (o i d:Nat):Nat->Nat->(TS->Option R)->TS->Option R
 |0,_,K,s=>K s
 |n+1,j,K,s=>vC o i j (d+1000*(j+1)) (AY o i d n (j+1) K) s
def AZ (T:Nat->TI)(t o i off:Nat)(d:Option Tmp)(K:TS->Option R)(s:TS):Option R:=match bb s.ob o with
 |some (.opn _ _ _ l j cs)=>af (aa (i=j)&&aa (j<l.length)) (aX ((T t).known&&ble (off+(T t).size) cs.length&&!eJ (dt T t (dm off (T t).size cs))) (K (bB s d (dt T t (dm off (T t).size cs)))))
 |_=>aj
def GN (T:Nat->TI)(t:Nat)(x:Operand)(d:Option Tmp)(K:TS->Option R)(s:TS):Option R:=match bp s x with
 |.p o i off=>AZ T t o i off d K s
 |_=>aj
def vD:TK->Bool
 |.slice _=>ae
 |_=>ag
def GO (T:Nat->TI)(t:Nat)(a:Operand)(d:Option Tmp)(s:TS)(K:TS->Option R):Option R:=match bp s a with
 |.ro cs=>aX ((T t).known&&(T t).size != 0&&ble (T t).size cs.length) (K (bB s d (dt T t (dm 0 (T t).size cs))))
 | .p o i off=>match bb s.ob o with
   | some (.box _ _)=>(match i with
     |0=>AV o (z0 d) (T t).size off (GM T t a d K) s
     |_+1=>aj)
   |some (.arr _ g dd l)=>aX ((T t).known&&!vD (T t).kind) (aq l i fun x=>
     aX (ble (off+(T t).size) g.sz&&oO T (flat T 4 t) (dm off (T t).size (cells dd g x))&&!eJ (dt T t (dm off (T t).size (cells dd g x))))
      (K (bB s d (dt T t (dm off (T t).size (cells dd g x))))))
   |some (.opn _ _ _ _ _ _)=>AY o i (z0 d) (T t).size off (GN T t a d K) s
   |some (.spl _ g l k)=>aX ((T t).known&&!vD (T t).kind) (af (aa (k<=i)) (aq l i fun x=>
     aX (ble (off+(T t).size) g.sz&&oO T (flat T 4 t) (dm off (T t).size (cells ag g x))&&!eJ (dt T t (dm off (T t).size (cells ag g x))))
      (K (bB s d (dt T t (dm off (T t).size (cells ag g x)))))))
   |none=>aj
 |_=>aj
def vE (T:Nat->TI)(d:Bool):List TK->List V->List V
 | k::ks,v::vs=>(match k,v with
   | .slice e,.nil=>(match gt T 4 e with
     |some g=>(match d with|true=>.emp g|false=>.sl g [])
     |none=>.nil)
   |_,_=>v)::vE T d ks vs
 |_,vs=>vs
def GP (T:Nat->TI)(t:Nat)(a:V)(x:Operand)(s:TS)(K:TS->Option R):Option R:=match a with
 | .p o i off=>match bb (cY s x).ob o with
   | some (.box _ cs)=>(match i with
     |0=>aX ((T t).known&&(eU (bp s x)).length==(T t).size&&lD (eU (bp s x))&&ble (off+(T t).size) cs.length)
       (K ⟨s.n,(cY s x).al,du (cY s x).ob o (bz cs off (eU (bp s x)))⟩)
     |_+1=>aj)
   |some (.arr _ g dd l)=>aX ((T t).known&&(eU (bp s x)).length==(T t).size&&si (eU (bp s x))&&lD (eU (bp s x))&&ble (off+(T t).size) g.sz)
     (aq l i fun y=>fQ ag dd g (bz (cells dd g y) off (vE T dd (flat T 4 t) (eU (bp s x)))) fun z rest=>
      (match rest with
      |[]=>K ⟨s.n,(cY s x).al,sn g dd (cY s x).ob o (l.set i z)⟩
      |_::_=>aj))
   |some (.opn _ _ _ l j cs)=>aX ((T t).known&&(eU (bp s x)).length==(T t).size&&lD (eU (bp s x))&&ble (off+(T t).size) cs.length)
     (af (aa (i=j)&&aa (j<l.length)) (K ⟨s.n,(cY s x).al,dF (cY s x).ob o (bz cs off (eU (bp s x)))⟩))
   |some (.spl _ _ _ _)=>aj
   |none=>aj
 |_=>aj
def vF (T:Nat->TI):Nat->List (Nat×Nat)->List V->List V->Option Bool
 |_,[],[],[]=>U ae
 | n,(t,o)::fs,x::l,y::m=>bif o==n then(match(T t).kind,x,y,vF T (n+1) fs l m with
   |.int _,.i k a,.i k' b,U q=>bif dj k k' then U (aa (a=b)&&q)else aj
   |.bool,.b a,.b b,U q=>U (aa (a=b)&&q)
   |.str,.s a,.s b,U q=>U (aa (a=b)&&q)
   |_,_,_,_=>aj)else aj
 |_,_,_,_=>aj
def vG (op:BinOp)(x y:V)(K:V->Option R):Option R:=match x,y with
 | .i k a,.i k' b=>match op with
   |.add=>aX (dj k k') (K (.i k (k.wrap (a+b))))
   |.sub=>aX (dj k k') (K (.i k (k.wrap (a-b))))
   |.mul=>aX (dj k k') (K (.i k (k.wrap (a*b))))
   |.quo=>aX (dj k k') (af (!aa (b=0)) (K (.i k (k.wrap (a.tdiv b)))))
   |.rem=>aX (dj k k') (af (!aa (b=0)) (K (.i k (a.tmod b))))
   |.shl=>af (aa (0<=b)) (K (.i k (k.wrap (a*2^min b.toNat k.bits))))
   |.shr=>af (aa (0<=b)) (K (.i k (a.fdiv (2^min b.toNat k.bits))))
   | .and|.or|.xor=>match pQ op k a b with
     |some r=>aX (dj k k') (K (.i k r))
     |none=>aj
   | _=>match kG op a b with
     |some r=>aX (dj k k') (K (.b r))
     |none=>aj
 | .s a,.s b=>match op with
   |.add=>af (aa (a.length+b.length<=9223372036854775807)) (K (.s (a++b)))
   | _=>match rK op a b with
     |some r=>K (.b r)
     |none=>aj
 | .b p,.b q=>match op with
   |.eql=>K (.b (aa (p=q)))
   |.neq=>K (.b (!aa (p=q)))
   |_=>aj
 |_,_=>aj
def kR (s:TS)(d:Int):Option Operand->Option Int
 |none=>U d
 | some x=>match bp s x with
   |.i _ n=>U n
   |_=>aj
def A1 (s:TS)(x:V):Option Nat:=match x with
 |.nil=>U 0
 |.emp _=>U 0
 |.sl _ l=>U l.length
 |.own _ _ l=>U l.length
 | .ar o=>match bb s.ob o with
   |some (.arr _ _ _ l)=>U l.length
   |some (.box _ _)=>U 1
   |some (.opn _ _ _ l _ _)=>U l.length
   |some (.spl _ _ l _)=>U l.length
   |none=>aj
 |_=>aj
def takeT (s:TS)(k0:Nat)(x:Operand)(Kn:TS->Option R)(K:(g:GT)->Bool->List g.Den->TS->Option R):Option R:=match bp s x with
 |.nil=>Kn s
 |.emp g=>aX (g.sz==k0) (Kn (cY s x))
 |.own g d l=>K g d l (cY s x)
 | .ar o=>match bb s.ob o with
   |some (.arr _ g d l)=>K g d l (kj o s)
   |_=>aj
 |_=>aj
def A2 (s:TS)(y:Operand)(Kn:TS->Option R)(K:(g:GT)->Bool->List g.Den->TS->Option R):Option R:=match bp s y with
 |.nil=>Kn s
 |.emp _=>Kn (cY s y)
 |.own g d l=>K g d l (cY s y)
 |.sl g l=>K g ag l s
 |_=>aj
def oP {g g':GT}(l:List g'.Den)(K:List g.Den->Option R):Option R:=match hs:g.same g' with
 |true=>K (fP hs l)
 |false=>aj
def vH:Nat:=9223372036854775807
def vI:Nat:=140737488355328
def A3 (T:Nat->TI)(e:Nat)(g:GT)(x y:Operand)(d:Option Tmp)(s:TS)(K:TS->Option R):Option R :=
 A2 s y
  (fun s1=>takeT s1 (T e).size x (fun s2=>K (bB s2 d (.own g ae [])))
   fun g1 d1 l1 s2=>oP (g:=g) l1 fun l1=>af (aa (l1.length<=vH)&&aa (l1.length*(T e).bytes<=vI)) (K (bB s2 d (.own g d1 l1))))
  fun g' d' l' s1=>oP (g:=g) l' fun l'=>takeT s1 (T e).size x (fun s2=>af (aa (l'.length<=vH)&&aa (l'.length*(T e).bytes<=vI)) (K (bB s2 d (.own g d' l'))))
   fun g1 d1 l1 s2=>oP (g:=g) l1 fun l1=>aX (d1==d'||g.flat) (af (aa (l1.length+l'.length<=vH)&&aa ((l1.length+l'.length)*(T e).bytes<=vI)) (K (bB s2 d (.own g d1 (l1++l')))))
def GQ (T:Nat->TI)(t:Nat)(x:Operand)(lo hi mx:Option Operand)(d:Option Tmp)(s:TS)(K:TS->Option R):Option R :=
 match(T t).kind with
 | .str=>match bp s x with
   | .s l=>match kR s 0 lo,kR s l.length hi,mx with
     |some a,U b,aj=>af (aa (0<=a)&&aa (a<=b)&&aa (b<=l.length)) (K (bB s d (.s ((l.take b.toNat).drop a.toNat))))
     |_,_,_=>aj
   |_=>aj
 | .slice e=>match bp s x with
   | .sl g l=>aX ((T e).known&&g.sz==(T e).size) (match mx with
     | none=>match kR s 0 lo,kR s l.length hi with
       |some a,U b=>af (aa (0<=a)&&aa (a<=b)&&aa (b<=l.length)) (K (bB s d (.sl g ((l.take b.toNat).drop a.toNat))))
       |_,_=>aj
     | some m=>match kR s 0 lo,hi,kR s 0 hi,kR s 0 (U m)with
       |some a,U _,U b,U c=>af (aa (0<=a)&&aa (a<=b)&&aa (b<=c)&&aa (c<=l.length)&&!aa (c=0)) (K (bB s d (.sl g ((l.take b.toNat).drop a.toNat))))
       |_,_,_,_=>aj)
   | .nil=>match lo,hi,mx with
     |none,aj,aj=>aX ((T e).known) (K (bB s d .nil))
     |_,_,_=>aj
   |.emp _=>aj
   | _=>match mx with
     | none=>takeT s (T e).size x (fun _=>aj) fun g dd l s'=>aX ((T e).known&&g.sz==(T e).size) (match kR s 0 lo,kR s l.length hi with
       |some a,U b=>af (aa (0<=a)&&aa (a<=b)&&aa (b<=l.length)) (K (bB s' d (.own g dd ((l.take b.toNat).drop a.toNat))))
       |_,_=>aj)
     |some _=>aj
 |_=>aj
def vJ (T:Nat->TI)(fs:List (Nat×Nat))(n:Nat):List (Nat×V)->Bool
 |[]=>ae
 | (j,v)::ps=>(match fs[j]? with
   |some (ft,fo)=>(T ft).known&&(eU v).length==(T ft).size&&lD (eU v)&&ble (fo+(T ft).size) n
   |none=>ag)&&vJ T fs n ps
def vK (fs:List (Nat×Nat))(row:List V):List (Nat×V)->List V
 |[]=>row
 |(j,v)::ps=>vK fs (bz row ((fs.getD j (0,0)).2) (eU v)) ps
def oQ:List (Nat×Operand)->List V->List (Nat×V)
 |(j,_)::ps,v::vs=>(j,v)::oQ ps vs
 |_,_=>[]
def vL (n:Nat):List V->Bool
 |[]=>ae
 |v::l=>(eU v).length==n&&lD (eU v)&&si (eU v)&&vL n l
def GR:List V->Bool
 |[]=>ae
 |v::l=>(match v with|.sl _ _=>ag|_=>ae)&&GR l
def A4:List V->Bool
 |[]=>ae
 |v::l=>GR (eU v)&&A4 l
def vM (d:Bool)(g:GT):List V->(List g.Den->Option R)->Option R
 |[],K=>K []
 | v::l,K=>fQ ae d g (eU v) fun x rest=>match rest with
   |[]=>vM d g l fun r=>K (x::r)
   |_::_=>aj
def hJ (s:TS):List Operand->List V
 |[]=>[]
 |x::l=>bp s x::hJ s l
def vN (d:Option Tmp)(K:TS->Option R)(s:TS):Option R:=K (bB s d .sk)
def A5 (s:TS)(d:Option Tmp)(K:TS->Option R)(g:GT)(l:List g.Den)(n:Int):Option R :=
 af (aa (0<=n)) (aq l n.toNat fun x=>K (bB s d (.ro (cells ag g x))))
def ny:V->V
 |.own g _ l=>.sl g l
 |.emp g=>.sl g []
 |.agg cs=>.agg (frzVL cs)
 |.tup cs=>.tup (frzVL cs)
 |v=>v
where frzVL:List V->List V
 |[]=>[]
 |x::l=>ny x::frzVL l
def mo (s:TS)(x:Operand):TS:=match x with
 | .tmp t=>match eJ (cQ s t)with
   |true=>dk s t (ny (cQ s t))
   |false=>s
 |_=>s
noncomputable def bZ (T:Nat->TI)(C:nw R)(o:Oper)(s:TS)(K:TS->Option R):Option R:=match o.op with
 | .move x=>match x with
   | .tmp t=>match cQ s t with
     |.own g d l=>aX (Nat.blt t 100000) (K (bB (dk (dP (dk s t .u) t (.arr t g d l)) t (.ar t)) o.dst (.ar t)))
     |.emp g=>aX (Nat.blt t 100000) (K (bB (dk (dP (dk s t .u) t (.arr t g ae [])) t (.ar t)) o.dst (.ar t)))
     | v=>match eJ v with
       |true=>K (bB (dk s t .u) o.dst v)
       |false=>K (bB s o.dst v)
   |x=>K (bB s o.dst (bp s x))
 |.assign x=>K (bB (cY s x) o.dst (bp s x))
 | .pick c a b=>match bp s c with
   | .b x=>match bp s a,bp s b with
     |.b p,.b q=>K (bB s o.dst (.b (bif x then p else q)))
     |v,w=>ai x (K (bB (cY s a) o.dst v)) (K (bB (cY s b) o.dst w))
   |_=>aj
 | .alloc e=>match o.dst with
   |some d=>aX (Nat.blt d 100000&&(T e).known&&ss (T e).zero&&(T e).zero.length==(T e).size) (K (dk (dP s d (.box d (nx (T e).zero))) d (.p d 0 0)))
   |none=>aj
 | .box e x=>match o.dst with
   |some d=>aX (Nat.blt d 100000&&(T e).known&&(eU (bp s x)).length==(T e).size&&lD (eU (bp s x))) (K (dk (dP (cY s x) d (.box d (ju d (eU (bp s x))))) d (.p d 0 0)))
   |none=>aj
 | .build t ps=>match(T t).kind with
   |.struct fs=>aX ((T t).known&&pS T fs&&ss (T t).zero&&vJ T fs (T t).size (oQ ps.toList (lE s (cx ps)))) (K (bB (oK s (cx ps)) o.dst (.agg (vK fs (nx (T t).zero) (oQ ps.toList (lE s (cx ps)))))))
   |_=>aj
 | .buildSlice t len ps=>match(T t).kind with
   | .slice e=>match gt T 12 e with
     | some g=>aX ((T e).known&&ps.size==len&&ble (len*(T e).size) 16777216&&pR 0 ps.toList&&vL (T e).size (lE s (cx ps))&&nv T e g) (match lE s (cx ps)with
       |[]=>K (bB (oK s (cx ps)) o.dst (.emp g))
       |v::vs=>vM (A4 (v::vs)) g (v::vs) fun l=>K (bB (oK s (cx ps)) o.dst (.own g (A4 (v::vs)) l)))
     |none=>aj
   |_=>aj
 |.load t a=>GO T t a o.dst s K
 |.store t a x=>GP T t (bp s a) x s (vN o.dst K)
 | .nilCheck x=>match bp s x with
   |.p a b c=>K (bB s o.dst (.p a b c))
   |.ro c=>K (bB s o.dst (.ro c))
   |_=>aj
 | .binOp op t x y _=>match bp s x,bp s y with
   | .agg a,.agg b=>match(T t).kind with
     | .struct fs=>match op,vF T 0 fs a b with
       |.eql,U r=>K (bB s o.dst (.b r))
       |.neq,U r=>K (bB s o.dst (.b !r))
       |_,_=>aj
     |_=>aj
   | .sl g l,.nil=>match op,(T t).kind with
     |.eql,.slice _=>aX (mY y) (ai (aa (l.length=0)) (ca (K (bB s o.dst (.b ae))) (K (bB s o.dst (.b ag)))) (K (bB s o.dst (.b ag))))
     |.neq,.slice _=>aX (mY y) (af (!aa (l.length=0)) (K (bB s o.dst (.b ae))))
     |_,_=>aj
   | .b p,.b q=>match op,(T t).kind with
     |.eql,.bool=>K (bB s o.dst (.b (aa (p=q))))
     |.neq,.bool=>K (bB s o.dst (.b (!aa (p=q))))
     |_,_=>aj
   |.i k a,.i k' b=>vG op (.i k a) (.i k' b) fun v=>K (bB s o.dst v)
   |.s a,.s b=>vG op (.s a) (.s b) fun v=>K (bB s o.dst v)
   |_,_=>aj
 | .unOp op _ x=>match op,bp s x with
   |.not,.b x=>K (bB s o.dst (.b !x))
   |.neg,.i k n=>K (bB s o.dst (.i k (k.wrap (0-n))))
   |_,_=>aj
 | .convert src dst x=>match(T dst).kind,bp s x with
   |.int k,.i _ n=>aX (T src).known (K (bB s o.dst (.i k (k.wrap n))))
   | .slice e,.s l=>match(T e).kind,(T src).kind with
     |.int .u8,.str=>K (bB s o.dst (.sl .byte l))
     |_,_=>aj
   | .str,.s l=>match(T src).kind with
     |.str=>K (bB s o.dst (.s l))
     |_=>aj
   | .str,.sl g l=>match(T src).kind with
     | .slice e=>(match(T e).kind with
       |.int .u8=>oP (g:=.byte) l fun l=>K (bB s o.dst (.s l))
       |_=>aj)
     |_=>aj
   | .str,.own g _ l=>match(T src).kind with
     | .slice e=>(match(T e).kind with
       |.int .u8=>oP (g:=.byte) l fun l=>K (bB s o.dst (.s l))
       |_=>aj)
     |_=>aj
   |_,_=>aj
 | .makeFunc f first caps=>match f with
   |.func n=>aX (first.size==0&&!ml (hJ s caps.toList)) (K (bB s o.dst (.fn n (hJ s caps.toList))))
   |_=>aj
 | .makeSlice t l c=>match(T t).kind,bp s l,bp s c with
   | .slice e,.i .i64 n,.i .i64 m=>match gt T 8 e with
     |some g=>aX ((T e).known&&g.flat&&eqSVs (T e).zero (aO ae g g.dflt)&&g.sz==(T e).size) (af (aa (n=m)&&aa (0<=n)&&aa (n<=9223372036854775807)&&aa (n*(T e).bytes<=140737488355328)) (K (bB s o.dst (.own g ae (List.replicate n.toNat g.dflt)))))
     |none=>aj
   |_,_,_=>aj
 |.slice t x lo hi mx=>GQ T t x lo hi mx o.dst s K
 | .fieldAddr s' x f=>match(T s').kind,bp s x with
   | .struct fs,.p a i off=>match fs[f]? with
     |some (ft,fo)=>aX ((T ft).known&&(T ft).size != 0) (K (bB s o.dst (.p a i (off+fo))))
     |none=>aj
   | .struct fs,.ro cs=>match fs[f]? with
     |some (ft,fo)=>aX ((T ft).known&&(T ft).size != 0) (K (bB s o.dst (.ro (cs.drop fo))))
     |none=>aj
   |_,_=>aj
 | .field s' x f=>match(T s').kind,bp s x with
   | .struct fs,.agg cs=>match fs[f]? with
     |some (ft,fo)=>aX ((T ft).known&&!ml cs&&ble (fo+(T ft).size) cs.length) (K (bB s o.dst (dt T ft (dm fo (T ft).size cs))))
     |none=>aj
   |_,_=>aj
 | .indexAddr t x ix=>match(T t).kind,bp s x,bp s ix with
   |.slice e,.sl g l,.i _ n=>aX ((T e).known&&nv T e g) (A5 s o.dst K g l n)
   |.slice e,.own g _ l,.i _ n=>aX ((T e).known&&nv T e g) (A5 (mo s x) o.dst K g l n)
   | .slice e,.ar a,.i _ n=>match bb s.ob a with
     |some (.arr _ g _ l)=>aX ((T e).known&&g.sz==(T e).size) (af (aa (0<=n)&&aa (n<l.length)) (K (bB s o.dst (.p a n.toNat 0))))
     |some (.opn _ g _ l _ _)=>aX ((T e).known&&g.sz==(T e).size) (af (aa (0<=n)&&aa (n<l.length)) (K (bB s o.dst (.p a n.toNat 0))))
     |some (.spl _ g l _)=>aX ((T e).known&&g.sz==(T e).size) (af (aa (0<=n)&&aa (n<l.length)) (K (bB s o.dst (.p a n.toNat 0))))
     |_=>aj
   |_,_,_=>aj
 | .index t x ix=>match(T t).kind,bp s x,bp s ix with
   |.str,.s l,.i _ n=>af (aa (0<=n)) (aq l n.toNat fun c=>K (bB s o.dst (.i .u8 (c:UInt8).toNat)))
   |_,_,_=>aj
 | .extract x j=>match x with
   | .tmp t=>match cQ s t with
     |.tup vs=>aX (Nat.blt j vs.length) (K (bB (match eJ (dE vs j)with|true=>dk s t (.tup (nq vs j .u))|false=>s) o.dst (dE vs j)))
     |_=>aj
   |_=>aj
 | .call c=>match c.callee with
   | .builtin .len=>match c.args.toList,c.argTypes.toList with
     | [x],[t]=>match(T t).kind,bp s x with
       |.str,.s l=>K (bB s o.dst (.i .i64 l.length))
       | .slice _,v=>match A1 s v with
         |some n=>K (bB s o.dst (.i .i64 n))
         |none=>aj
       |_,_=>aj
     |_,_=>aj
   | .builtin .append=>match c.args.toList,c.argTypes.toList with
     | [x,y],[t,t']=>match(T t).kind,(T t').kind with
       | .slice e,.slice _=>match gt T 8 e with
         |some g=>aX ((T e).known&&g.sz==(T e).size) (A3 T e g x y o.dst s K)
         |none=>aj
       |_,_=>aj
     |_,_=>aj
   |.value f=>C f c.args.toList o.dst s K
   |_=>aj
 |_=>aj
where eqSVs:List SV->List SV->Bool
 |[],[]=>ae
 | x::l,y::m=>(match x,y with
   |.i k n,.i k' n'=>dj k k'&&aa (n=n')
   |.b p,.b q=>p==q
   |.s [],.s []=>ae
   |.own k [],.own k' []=>k==k'
   |_,_=>ag)&&eqSVs l m
 |_,_=>ag
end
end Go.TM
end
