/- Part 18 of the proof of FnDeep; no condition. -/
import Derived.Test.YtdpapeledldifaaGreatX16
open Option renaming some -> U
open Decidable renaming decide -> aa
open Bool renaming true -> ad
open Bool renaming false -> ag
open Option renaming none -> aj
open Sum renaming inl -> an
open Sum renaming inr -> ao
open List renaming length -> au
open Int renaming toNat -> aH
open List renaming drop -> kZ
open List renaming take -> nY
set_option autoImplicit true
set_option relaxedAutoImplicit true
set_option linter.all false
section
namespace Go.TM
open Go.AM
section
variable {R:Type}
def subV (o:Nat)(y:V):V->V
 |.ar n=>bif n==o then y else .ar n
 |x=>lY o x
def vF (o:Nat)(y:V):List (Nat×V)->List (Nat×V)
 |[]=>[]
 |p::l=>(p.1,subV o y p.2)::vF o y l
def nq (s:TS)(o:Nat)(K:TS->Option R):Option R:=match ba s.ob o with
 |some (.arr _ g _ l)=>K ⟨s.n,vF o (.sl g l) s.al,ot o s.ob⟩
 |_=>aj
def vG (s:TS)(t o:Nat)(K:TS->Option R):Option R:=match ba s.ob o with
 |some (.arr _ g d l)=>K (dT (j7 o s) t (.own g d l))
 |_=>aj
def AL (t j:Nat)(K:TS->Option R)(s:TS):Option R:=match cT s t with
 | .agg cs=>match du cs j with
   | .ar o=>match ba (cU s (.tmp t)).ob o with
     |some (.arr _ g d l)=>K (dT (j7 o (cU s (.tmp t))) t (.agg (nd (jd o cs) j (.own g d l))))
     |_=>aj
   |_=>K s
 |_=>K s
def vH (t:Nat):Nat->Nat->(TS->Option R)->TS->Option R
 |0,_,K,s=>K s
 |n+1,j,K,s=>AL t j (vH t n (j+1) K) s
def AN (ob off:Nat)(K:TS->Option R)(s:TS):Option R:=match ba s.ob ob with
 | some (.box _ cs)=>match du cs off with
   | .ar o=>match ba s.ob o with
     | some (.arr _ g d l)=>aX (ble (off+1) cs.length) (match ba (j7 o s).ob ob with
       |some (.box _ cs1)=>aX (ble (off+1) cs1.length) (K ⟨s.n,(j7 o s).al,di (j7 o s).ob ob (bA cs1 off [.own g d l])⟩)
       |_=>aj)
     |_=>aj
   |_=>K s
 |_=>K s
def iq:List TO->Nat->TO->List TO
 |[],_,_=>[]
 |x::l,o,y=>bif x.name==o then y::l else x::iq l o y
def AO (o i:Nat)(K:TS->Option R)(s:TS):Option R:=match ba s.ob o with
 |some (.arr n g d l)=>aq l i fun x=>K ⟨s.n,s.al,iq s.ob o (.opn n g (.all d) l i (cells d g x))⟩
 |some (.spl n g l k)=>af (aa (k=i)) (aq l i fun x=>K ⟨s.n,s.al,iq s.ob o (.opn n g .spl l i (cells ag g x))⟩)
 |_=>K s
def vI (o:Nat)(K:TS->Option R)(s:TS):Option R:=match ba s.ob o with
 |some (.spl n g l k)=>af (aa (k=l.length)) (K ⟨s.n,s.al,iq s.ob o (.arr n g ad l)⟩)
 |_=>K s
def AP (o:Nat)(K:TS->Option R)(s:TS):Option R:=match ba s.ob o with
 |some (.arr n g d l)=>aX (!d) (K ⟨s.n,s.al,iq s.ob o (.spl n g l 0)⟩)
 |_=>K s
def AR (o:Nat)(K:TS->Option R)(s:TS):Option R:=match ba s.ob o with
 |some (.arr n g _ l)=>K ⟨s.n,s.al,iq s.ob o (.arr n g ag l)⟩
 |_=>K s
def AS (o off m:Nat)(K:TS->Option R)(s:TS):Option R:=match ba s.ob o with
 |some (.opn _ _ _ _ i _)=>ve o i off m K s
 |_=>K s
def AT (o off:Nat)(K:TS->Option R)(s:TS):Option R:=match ba s.ob o with
 | some (.opn _ _ _ l j cs)=>(match du cs off with
   | .ar a=>(match ba s.ob a with
     | some (.arr _ g d r)=>aX (ble (off+1) cs.length) (af (aa (j<l.length)) (match ba (j7 a s).ob o with
       |some (.opn _ _ _ l1 j1 cs1)=>aX (ble (off+1) cs1.length) (af (aa (j=j1)&&aa (j1<l1.length)) (K ⟨s.n,(j7 a s).al,dv (j7 a s).ob o (bA cs1 off [.own g d r])⟩))
       |_=>aj))
     |_=>aj)
   |_=>K s)
 |_=>K s
def sf (o off:Nat)(K:TS->Option R)(s:TS):Option R:=match ba s.ob o with
 | some (.opn _ _ _ _ _ cs)=>(match du cs off with
   |.ar a=>vI a (AT o off K) s
   |_=>K s)
 |_=>K s
def vJ (o off:Nat)(K:TS->Option R)(s:TS):Option R:=match ba s.ob o with
 | some (.opn _ _ _ l j cs)=>(match du cs off with
   | .own g _ r=>aX (ble (off+1) cs.length) (af (aa (j<l.length)) (match ba (dv s.ob o (bA cs off [.u])) o with
     |some (.opn _ _ _ l1 j1 cs1)=>aX (ble (off+1) cs1.length) (af (aa (j=j1)&&aa (j1<l1.length)) (K ⟨s.n,s.al,dv (dv s.ob o (bA cs off [.u])) o (bA cs1 off [.sl g r])⟩))
     |_=>aj))
   | .emp g=>aX (ble (off+1) cs.length) (af (aa (j<l.length)) (match ba (dv s.ob o (bA cs off [.u])) o with
     |some (.opn _ _ _ l1 j1 cs1)=>aX (ble (off+1) cs1.length) (af (aa (j=j1)&&aa (j1<l1.length)) (K ⟨s.n,s.al,dv (dv s.ob o (bA cs off [.u])) o (bA cs1 off [.sl g []])⟩))
     |_=>aj))
   |_=>K s)
 |_=>K s
def AU (o:Nat):Nat->Nat->(TS->Option R)->TS->Option R
 |0,_,K,s=>K s
 |n+1,j,K,s=>sf o j (AU o n (j+1) K) s
def AV (o:Nat):Nat->Nat->(TS->Option R)->TS->Option R
 |0,_,K,s=>K s
 |n+1,j,K,s=>vJ o j (AV o n (j+1) K) s
def vK (o:Nat)(K:TS->Option R)(s:TS):Option R:=match ba s.ob o with
 | some (.opn n g d l j cs)=>af (aa (j<l.length)) (match d with
   | .all d=>fD ag d g cs fun z rest=>(match rest with
     |[]=>K ⟨s.n,s.al,iq s.ob o (.arr n g d (l.set j z))⟩
     |_::_=>aj)
   | .spl=>fD ag ad g cs fun z rest=>(match rest with
     |[]=>K ⟨s.n,s.al,iq s.ob o (.spl n g (l.set j z) (j+1))⟩
     |_::_=>aj))
 |_=>K s
def vL (o:Nat)(K:TS->Option R)(s:TS):Option R:=match ba s.ob o with
 | some (.opn _ _ d _ _ cs)=>AU o cs.length 0 (match d.b with
   |true=>vK o K
   |false=>AV o cs.length 0 (vK o K)) s
 |_=>K s
def vM (o:Nat)(K:TS->Option R)(s:TS):Option R:=vL o (vI o K) s
def sg (ob off:Nat)(K:TS->Option R)(s:TS):Option R:=match ba s.ob ob with
 | some (.box _ cs)=>(match du cs off with
   |.ar a=>vM a (AN ob off K) s
   |_=>K s)
 |_=>K s
def AW (o off:Nat)(K:TS->Option R)(s:TS):Option R:=match ba s.ob o with
 | some (.box _ cs)=>(match du cs off with
   | .own g _ r=>aX (ble (off+1) cs.length) (match ba (di s.ob o (bA cs off [.u])) o with
     |some (.box _ cs1)=>aX (ble (off+1) cs1.length) (K ⟨s.n,s.al,di (di s.ob o (bA cs off [.u])) o (bA cs1 off [.sl g r])⟩)
     |_=>aj)
   | .emp g=>aX (ble (off+1) cs.length) (match ba (di s.ob o (bA cs off [.u])) o with
     |some (.box _ cs1)=>aX (ble (off+1) cs1.length) (K ⟨s.n,s.al,di (di s.ob o (bA cs off [.u])) o (bA cs1 off [.sl g []])⟩)
     |_=>aj)
   |_=>K s)
 |_=>K s
def vN:Pat->Bool
 |.own _ _=>ad
 |.agg p=>vN p
 |.cons p q=>vN p||vN q
 |_=>ag
def AY (t:Nat)(p:Pat)(K:TS->Option R)(s:TS):Option R:=match p with
 | .own _ _=>(match cT s t with
   |.ar o=>vG s t o K
   |_=>K s)
 | .sl _=>(match cT s t with
   |.own _ _ _=>K (l_ s (.tmp t))
   |.emp _=>K (l_ s (.tmp t))
   |.ar o=>nq s o K
   |_=>K s)
 | .agg q=>(match cT s t with
   | .agg cs=>vH t cs.length 0 (fun s=>match vN q with
     |true=>K s
     |false=>K (l_ s (.tmp t))) s
   |_=>K s)
 |_=>K s
def m9:List (Nat×Pat)->(TS->Option R)->TS->Option R
 |[],K,s=>K s
 |p::l,K,s=>AY p.1 p.2 (m9 l K) s
def p_ (o:Nat):Pat->Nat->(TS->Option R)->TS->Option R
 | .cons p q,j,K,s=>(match p with
   |.own _ _=>sg o j (p_ o q (j+1) K) s
   |.sl _=>sg o j (AW o j (p_ o q (j+1) K)) s
   |_=>p_ o q (j+1) K s)
 |_,_,K,s=>K s
def oH (o:Nat):Pat->Nat->(TS->Option R)->TS->Option R
 | .cons p q,j,K,s=>(match p with
   |.own _ _=>sf o j (oH o q (j+1) K) s
   |.sl _=>sf o j (vJ o j (oH o q (j+1) K)) s
   |.ar m=>AS o j m (oH o q (j+1) K) s
   |_=>oH o q (j+1) K s)
 |_,_,K,s=>K s
def j4:List OPat->(TS->Option R)->TS->Option R
 |[],K,s=>K s
 | o::l,K,s=>(match o with
   |.box n p=>p_ n p 0 (j4 l K) s
   |.arr n _ _=>vM n (j4 l K) s
   |.opn n _ _ p=>oH n p 0 (j4 l K) s
   |.spl n _=>vL n (AP n (j4 l K)) s)
def j9 (N:Nat)(p:SPat)(K:p.Den->Option R)(s:TS):Option R:=aX (kI p.al) (j4 p.ob (m9 p.al fun s=>aX (s.n==N) (Gw p s K)) s)
def qa (x:Operand)(K:TS->Option R)(s:TS):Option R:=match x with
 | .tmp t=>(match cT s t with
   |.ar o=>vG s t o K
   |.agg cs=>vH t cs.length 0 K s
   |_=>K s)
 |_=>K s
def vO:List Operand->(TS->Option R)->TS->Option R
 |[],K,s=>K s
 |x::l,K,s=>qa x (vO l K) s
def oI (x:Operand)(K:TS->Option R)(s:TS):Option R:=match x with
 | .tmp t=>(match cT s t with
   |.ar o=>nq s o K
   |_=>K (l_ s x))
 |_=>K s
def AZ:List Operand->(TS->Option R)->TS->Option R
 |[],K,s=>K s
 |x::l,K,s=>oI x (AZ l K) s
def GI (d:Bool)(s:TS)(a:V):Bool:=match a with
 | .p o _ _=>(match ba s.ob o with
   |some (.arr _ _ d' _)=>d==d'
   |_=>ag)
 |_=>ag
def sh (t:Nat):Nat->Nat->(TS->Option R)->TS->Option R
 |0,_,K,s=>K s
 | n+1,j,K,s=>(match cT s t with
   | .agg cs=>(match du cs j with
     |.ar o=>nq s o (sh t n (j+1) K)
     |_=>sh t n (j+1) K s)
   |_=>K s)
def A1 (x:Operand)(K:TS->Option R)(s:TS):Option R:=match x with
 | .tmp t=>(match cT s t with
   |.agg cs=>sh t cs.length 0 K s
   |_=>K s)
 |_=>K s
def A2:List Operand->(TS->Option R)->TS->Option R
 |[],K,s=>K s
 |x::l,K,s=>A1 x (A2 l K) s
def A3 (o:Nat):Nat->Nat->(TS->Option R)->TS->Option R
 |0,_,K,s=>K s
 |n+1,j,K,s=>sg o j (A3 o n (j+1) K) s
def oJ:List TO->(TS->Option R)->TS->Option R
 |[],K,s=>K s
 | x::l,K,s=>(match x with
   |.box n cs=>A3 n cs.length 0 (oJ l K) s
   |.arr _ _ _ _=>oJ l K s
   |.opn n _ _ _ _ _=>vM n (oJ l K) s
   |.spl _ _ _ _=>oJ l K s)
def vP (v:V)(K:TS->Option R)(s:TS):Option R:=match v with
 |.p o i _=>AO o i K s
 |_=>K s
def si (T:Nat->TI)(gz:List Nat)(o:Oper)(K:TS->Option R)(s:TS):Option R:=match o.op with
 | .buildSlice _ _ ps=>(match gz.contains 6500000 with
   |true=>vO (cy ps) (AZ (cy ps) K) s
   |false=>vO (cy ps) K s)
 | .load t a=>(match vg (T t).kind||gz.contains 7000000 with
   |true=>vP (bw s a) K s
   |false=>K s)
 | .store _ a x=>(match gz.contains 6000000 with
   |true=>qa x (oI x K) s
   | false=>(match gz.contains 5000000 with
     |true=>vP (bw s a) K s
     | false=>(match GI ag s (bw s a)with
       |true=>qa x (oI x K) s
       | false=>(match GI ad s (bw s a)with
         |true=>qa x K s
         |false=>K s))))
 | .convert _ d x=>(match(T d).kind with
   |.str=>oI x K s
   |_=>K s)
 | .slice _ x _ _ _=>(match gz.contains (iL o.dst)with
   |true=>oI x K s
   |false=>K s)
 | .call c=>(match c.callee with
   | .builtin .append=>(match c.args.toList with
     | [_,y]=>(match y with
       | .tmp t=>(match cT s t with
         |.ar o=>nq s o K
         |_=>K s)
       |_=>K s)
     |_=>K s)
   | .value _=>(match gz.contains (1000000+iL o.dst)with
     |true=>oJ s.ob (frzC gz o c K) s
     |false=>frzC gz o c K s)
   | .builtin .len=>(match gz.contains 8000000 with
     | true=>(match c.args.toList with
       | [y]=>(match bw s y with
         |.ar o=>AR o K s
         |_=>K s)
       |_=>K s)
     |false=>K s)
   |_=>K s)
 |_=>K s
where frzC (gz:List Nat) (o:Oper) (c:Call) (K:TS->Option R) (s:TS):Option R:=match gz.contains (iL o.dst)with
 |true=>A2 c.args.toList K s
 |false=>K s
variable {r:R}{s:TS}{K:TS->Option R}{K':St->Prop}
def NJ (o:Nat)(y v:V):AM.subV o (e y) (e v)=e (subV o y v):=by
 cases v with
 | ar n=>
   simp only[e,AM.subV,subV]
   by_cases h:n=o
   ·simp[h]
   ·have:(n==o)=ag:=by simpa using h
    simp[h,this,e]
 |_=>first|rfl|(simp only[subV,<-Ab];rfl)
def A4 (o:Nat)(y:V):∀al:List (Nat×V),pV o (e y) (eA al)=eA (vF o y al)
 |[]=>rfl
 |p::l=>by simp only[eA,pV,vF,NJ,A4 o y l]
def vQ {o:Nat}(h:nq s o K=U r)(hK:∀ s,K s=U r->gK K' (eS s)):gK K' (eS s):=by
 unfold nq at h;split at h
 ·rename_i n g d l hg;refine gD (E6 o ?_);unfold rJ;rw[jf hg];refine⟨rfl,?_⟩;simp only[kF]
  have:=hK _ h;simp only[eS]at this ⊢;rw[Fq,show SV.sl g.sz (l.map (aM ag g))=e (.sl g l)from rfl,A4,pZ];exact this
 ·cases h
def NK {o:Nat}(h:AR o K s=U r)(hK:∀ s,K s=U r->gK K' (eS s))(hset:∀ (l:List TO) {n:Nat} {g:GT} {d:Bool} {r:List g.Den},ba l o=U (.arr n g d r)->bo (iq l o (.arr n g ag r))=dn (bo l) o (cC (r.map (aM d g)))):gK K' (eS s):=by
 unfold AR at h;split at h
 ·rename_i n g d l hg;refine gD (Mw o ?_);unfold frzIn;rw[jf hg];refine⟨rfl,?_⟩;have:=hK _ h;simp only[eS]at this ⊢;rw[hset s.ob hg]at this;exact this
 ·exact hK _ h
def GJ {t o:Nat}(hv:cT s t = .ar o)(h:vG s t o K=U r)(hK:∀ s,K s=U r->gK K' (eS s)):gK K' (eS s):=by
 unfold vG at h;split at h
 ·rename_i n g d l hg;refine gD (Mv t ?_);unfold uM;rw[jD,hv];simp only[e]
  rw[jf hg];refine⟨rfl,?_⟩;rw[p4,show SV.own g.sz (l.map (aM d g))=e (.own g d l)from rfl,gI];exact hK _ h
 ·cases h
def vR {t:Nat}(h:gK K' (eS (l_ s (.tmp t)))):gK K' (eS s):=by
 refine gD (Mu t ?_);rw[AB];exact h
def NL {t j:Nat}(h:AL t j K s=U r)(hK:∀ s,K s=U r->gK K' (eS s)):gK K' (eS s):=by
 unfold AL at h;split at h
 ·rename_i cs hv;split at h
  ·rename_i o ho;split at h
   ·rename_i n g d l hg;refine gD (MD (t:=t) (j:=j) ?_);unfold zR;rw[jD,hv];simp only[e]
    rw[<-je,ho];simp only[e]
    rw[jE,jf hg];simp only
    rw[lZ,p4,show SV.own g.sz (l.map (aM d g))=e (.own g d l)from rfl,<-z_,show SV.agg (eL (nd (jd o cs) j (.own g d l)))=e (.agg (nd (jd o cs) j (.own g d l)))from rfl,gI];exact hK _ h
   ·cases h
  ·exact hK _ h
 ·exact hK _ h
def A5 {t:Nat}:∀(n j:Nat) {s:TS},vH t n j K s=U r->(∀s,K s=U r->gK K' (eS s))->gK K' (eS s)
 |0,j,s,h,hK=>hK _ h
 |n+1,j,s,h,hK=>NL h fun s h=>A5 n (j+1) h hK
def NM {ob off:Nat}(h:AN ob off K s=U r)(hK:∀ s,K s=U r->gK K' (eS s)):gK K' (eS s):=by
 unfold AN at h;split at h
 ·rename_i n cs hg;split at h
  ·rename_i o ho;split at h
   ·rename_i m g d l hg2;obtain⟨h1,h2⟩:=bl h;split at h2
    ·rename_i n1 cs1 hg3;obtain⟨h3,h4⟩:=bl h2;refine gD (ME (ob:=ob) (off:=off) ?_);unfold uX;rw[jG hg];simp only[List.getElem?_cons_zero]
     rw[<-je,ho];simp only[e]
     rw[jf hg2];refine bF (by simp only[cF,h1];rfl) ?_;rw[p4,jG hg3];simp only[List.getElem?_cons_zero]
     refine bF (by simp only[cF,h3];rfl) ?_;have hw:wr (eL cs1) off [SV.own g.sz (l.map (aM d g))]=eL (bA cs1 off [.own g d l]):=by rw[gH];rfl
     rw[hw,oC hg3 (ov _ _ _ (by simpa using dQ h3))];exact hK _ h4
    ·cases h2
   ·cases h
  ·exact hK _ h
 ·exact hK _ h
def sj (g:GT)(d:Bool):∀l:List g.Den,iM (l.map (aM d g))=ad
 |[]=>rfl
 |x::l=>by simp only[bL,iM,pY g d x,sj g d l,bp]
def sn {o:Nat}{y:TO}{b:Bool}:∀(l:List TO) {x:TO},ba l o=U x->eO y={eO x with nm:=b}->bo (iq l o y)=nb (bo l) o b
 |[],_,h,_=>by cases h
 | z::l,x,h,he=>by
   simp only[ba]at h;simp only[iq,bo,nb,kC]
   by_cases hx:z.name=o
   ·have h':(z.name==o)=ad:=by simpa using hx
    rw[h',cond_true]at h;simp only[aK]at h;subst h;rw[h',cond_true,if_pos hx];show eO y::bo l=_;rw[he];simp only[kC]
   ·have h':(z.name==o)=ag:=by simpa using hx
    rw[h',cond_false]at h;simp only[h',cond_false,hx,if_false,bo,sn l h he]
def GK {α:Type}{l:List α}{i:Nat}{x:α}(h:l[i]? = U x):l.set i x=l:=by
 apply List.ext_getElem?;intro j;by_cases hj:i=j
 ·subst hj;have hlt:=mX h;rw[List.getElem?_set_self hlt,h]
 ·rw[List.getElem?_set_ne hj]
def GL:∀a b:List (List SV),iM (a++b)=(iM a&&iM b)
 |[],_=>rfl
 |x::a,b=>by simp only[cD,iM,GL a b,Bool.and_assoc]
def GM (d:DM)(g:GT)(i:Nat)(l:List g.Den):iM (cp d g i l)=ad:=by
 cases d
 ·exact sj g _ l
 ·simp only[cp,GL,sj,bp]
def GN {o:Nat}{y:TO}{rows:List (List SV)}:∀(l:List TO) {x:TO},ba l o=U x->eO y={eO x with rows:=rows}->bo (iq l o y)=dn (bo l) o rows
 |[],x,h,_=>by cases h
 | z::l,x,h,he=>by
   unfold ba at h;simp only[iq,bo,dn,kC]
   cases h':(z.name==o)with
   | true=>
     rw[h',cond_true]at h;obtain rfl:=Option.some.inj h;have hx:z.name=o:=eq_of_beq h';simp only[cond_true,hx,if_true,bo,he,kC]
   | false=>
     rw[h',cond_false]at h;have hx:¬z.name=o:=fun e=>by simp[e]at h'
     simp only[cond_false,hx,if_false,bo,GN l h he]
def A6 {o:Nat}{y:TO}:∀(l:List TO) {x:TO},ba l o=U x->eO y=eO x->bo (iq l o y)=bo l
 |[],_,h,_=>by cases h
 | z::l,x,h,he=>by
   simp only[ba]at h;simp only[iq,bo]
   cases hz:z.name==o with
   | true=>
     rw[hz,cond_true]at h;simp only[aK]at h;subst h;simp only[cond_true,bo,he]
   | false=>
     rw[hz,cond_false]at h;simp only[cond_false,bo,A6 l h he]
def GO {o:Nat}(h:vI o K s=U r)(hK:∀ s,K s=U r->gK K' (eS s)):gK K' (eS s):=by
 unfold vI at h;split at h
 ·rename_i n g l k hg;obtain⟨h1,h2⟩:=cL h;simp only[aI]at h1;subst h1;have:=hK _ h2;simp only[eS]at this ⊢;rw[A6 s.ob hg]at this
  ·exact this
  ·simp only[eO,cp,List.take_length,List.drop_length,List.map_nil,cN]
 ·exact hK _ h
def NN {o:Nat}(h:AP o K s=U r)(hK:∀ s,K s=U r->gK K' (eS s)):gK K' (eS s):=by
 unfold AP at h;split at h
 ·rename_i n g d l hg;obtain⟨h1,h2⟩:=bl h;have h1:d=ag:=by simpa using h1
  subst h1;have:=hK _ h2;simp only[eS]at this ⊢;rw[A6 s.ob hg]at this
  ·exact this
  ·simp only[eO,cp,List.take_zero,List.drop_zero,List.map_nil,dz]
 ·exact hK _ h
def NO {o off m:Nat}(h:AS o off m K s=U r)(hK:∀ s,K s=U r->gK K' (eS s)):gK K' (eS s):=by
 unfold AS at h;split at h
 ·exact gD (EC (K:=fun st=>gK K' st) (Gi h hK))
 ·exact hK _ h
def NP {o i:Nat}(h:AO o i K s=U r)(hK:∀ s,K s=U r->gK K' (eS s)):gK K' (eS s):=by
 unfold AO at h;split at h
 ·rename_i n g d l hg;obtain⟨x,hx,h1⟩:=oy h;refine gD (u6 o ad ?_ ?_)
  ·intro y hy;rw[jf hg]at hy;simp only[aK]at hy;rw[<-hy];exact sj g d l
  ·have:=hK _ h1;simp only[eS]at this ⊢;rw[sn (b:=ad) s.ob hg]at this
   ·exact this
   ·simp only[eO,nc]
    simp only[cp]
    rw[GK];rw[List.getElem?_map,hx];rfl
 ·rename_i n g l k hg;obtain⟨h0,h1⟩:=cL h;simp only[aI]at h0;subst h0;obtain⟨x,hx,h1⟩:=oy h1;refine gD (u6 o ad ?_ ?_)
  ·intro y hy;rw[vz hg]at hy;simp only[aK]at hy;rw[<-hy];exact GM .spl g k l
  ·have:=hK _ h1;simp only[eS]at this ⊢;rw[sn (b:=ad) s.ob hg]at this
   ·exact this
   ·simp only[eO,nc]
    rw[GK];exact Gf (bI _) hx
 ·exact hK _ h
def NQ {o off:Nat}(h:AT o off K s=U r)(hK:∀ s,K s=U r->gK K' (eS s)):gK K' (eS s):=by
 unfold AT at h;split at h
 ·rename_i n g0 d0 l j cs hg;split at h
  ·rename_i a ha;split at h
   ·rename_i m g d rr hg2;obtain⟨h1,h2⟩:=bl h;obtain⟨hlt,h2⟩:=cL h2;simp only[aI]at hlt;split at h2
    ·rename_i n1 g1 d1 l1 j1 cs1 hg3;obtain⟨h3,h4⟩:=bl h2;obtain⟨h5,h4'⟩:=cL h4;simp only[aG,aI]at h5;obtain⟨h5,h6⟩:=h5;subst h5;refine gD (MN (ob:=o) (i:=j) (off:=off) ?_);unfold zY;rw[iN hg];simp only[ln hlt]
     rw[<-je,ha];simp only[e]
     rw[jf hg2];refine bF (by simp only[cF,h1];rfl) ?_;rw[p4,iN hg3];simp only[ln h6]
     refine bF (by simp only[cF,h3];rfl) ?_;have hw:wr (eL cs1) off [SV.own g.sz (rr.map (aM d g))]=eL (bA cs1 off [.own g d rr]):=by rw[gH];rfl
     rw[hw,p6 hg3];exact hK _ h4'
    ·cases h2
   ·cases h
  ·exact hK _ h
 ·exact hK _ h
def A7 {o off:Nat}(h:sf o off K s=U r)(hK:∀ s,K s=U r->gK K' (eS s)):gK K' (eS s):=by
 unfold sf at h;split at h
 ·split at h
  ·exact GO h fun s h=>NQ h hK
  ·exact hK _ h
 ·exact hK _ h
def GP {o off n:Nat}{g0:GT}{d0:DM}{l:List g0.Den}{j:Nat}{cs:List V}{g:GT}{d:Bool}{rr:List g.Den}{v:V}(hg:ba s.ob o=U (.opn n g0 d0 l j cs))(ha:du cs off=v)(hev:e v = .own g.sz (rr.map (aM d g)))
  (h:aX (ble (off+1) cs.length) (af (aa (j<l.length)) (match ba (dv s.ob o (bA cs off [.u])) o with
   |some (.opn _ _ _ l1 j1 cs1)=>aX (ble (off+1) cs1.length) (af (aa (j=j1)&&aa (j1<l1.length)) (K ⟨s.n,s.al,dv (dv s.ob o (bA cs off [.u])) o (bA cs1 off [.sl g rr])⟩))
   |_=>aj))=U r) (hK:∀s,K s=U r->gK K' (eS s)):gK K' (eS s):=by
 obtain⟨h1,h2⟩:=bl h;obtain⟨hlt,h2⟩:=cL h2;simp only[aI]at hlt;split at h2
 ·rename_i n1 g1 d1 l1 j1 cs1 hg3;obtain⟨h3,h4⟩:=bl h2;obtain⟨h5,h4'⟩:=cL h4;simp only[aG,aI]at h5;obtain⟨h5,h6⟩:=h5;subst h5;refine gD (FN (ob:=o) (i:=j) (off:=off) ?_);unfold u7;rw[iN hg];simp only[ln hlt]
  rw[<-je,ha,hev];simp only
  refine bF (by simp only[cF,h1];rfl) ?_;have hw:wr (eL cs) off [SV.u]=eL (bA cs off [.u]):=by rw[gH];rfl
  rw[hw,p6 hg];have hg3':ba (⟨s.n,s.al,dv s.ob o (bA cs off [.u])⟩:TS).ob o=U (.opn n1 g1 d1 l1 j cs1):=hg3;rw[iN hg3'];simp only[ln h6]
  refine bF (by simp only[cF,h3];rfl) ?_;have hw1:wr (eL cs1) off [SV.sl g.sz (cC (rr.map (aM d g)))]=eL (bA cs1 off [.sl g rr]):=by rw[gH,kF];rfl
  rw[hw1,p6 hg3'];exact hK _ h4'
 ·cases h2
def GQ {o off:Nat}(h:vJ o off K s=U r)(hK:∀ s,K s=U r->gK K' (eS s)):gK K' (eS s):=by
 unfold vJ at h;split at h
 ·rename_i n g0 d0 l j cs hg;split at h
  ·rename_i g d rr ha;exact GP hg ha rfl h hK
  ·rename_i g ha;exact GP (rr:=[]) (d:=ad) hg ha rfl h hK
  ·exact hK _ h
 ·exact hK _ h
def GR {o:Nat}:∀(n j:Nat) {s:TS} {K:TS->Option R},AU o n j K s=U r->(∀s,K s=U r->gK K' (eS s))->gK K' (eS s)
 |0,j,s,K,h,hK=>hK _ h
 |n+1,j,s,K,h,hK=>A7 h fun s h=>GR n (j+1) h hK
def GS {o:Nat}:∀(n j:Nat) {s:TS} {K:TS->Option R},AV o n j K s=U r->(∀s,K s=U r->gK K' (eS s))->gK K' (eS s)
 |0,j,s,K,h,hK=>hK _ h
 |n+1,j,s,K,h,hK=>GQ h fun s h=>GS n (j+1) h hK
def NR {o n:Nat}{g:GT}{d:Bool}{l:List g.Den}{j:Nat}{cs:List V}(hg:ba s.ob o=U (.opn n g (.all d) l j cs)){z:g.Den}(h5:eL cs=aM d g z)(h:gK K' (eS ⟨s.n,s.al,iq s.ob o (.arr n g d (l.set j z))⟩)):gK K' (eS s):=by
 have hrows:(l.map (aM d g)).set j (eL cs)=(l.set j z).map (aM d g):=by rw[h5,List.map_set]
 refine gD (u6 o ag ?_ ?_)
 ·intro y hy;rw[iN hg]at hy;simp only[aK]at hy;rw[<-hy];simp only[cp,hrows]
  exact sj g d _
 ·simp only[eS]at h ⊢;rw[sn (b:=ag) s.ob hg]at h
  ·exact h
  ·simp only[eO,cp,hrows]
def NS {g:GT}{l:List g.Den}{j:Nat}{z:g.Den}(h:j<l.length):(cp .spl g j l).set j (aM ad g z)=cp .spl g (j+1) (l.set j z):=by
 simp only[cp]
 rw[List.set_append_right _ _ (by simp only[dG,cA];omega),List.take_succ,List.take_set_of_le (bI _),List.getElem?_set_self h,List.drop_set_of_lt (Nat.lt_succ_self _),List.drop_eq_getElem_cons h];have:j-((l.take j).map (aM ad g)).length=0:=by simp only[dG,cA];omega
 rw[this];simp only[bL,List.set_cons_zero,Option.toList_some,List.map_append,List.map_nil,b_,cD,dz]
def GU {o:Nat}(h:vK o K s=U r)(hK:∀ s,K s=U r->gK K' (eS s)):gK K' (eS s):=by
 unfold vK at h;split at h
 ·rename_i n g d l j cs hg;obtain⟨hlt,h2⟩:=cL h;simp only[aI]at hlt;cases d with
  | all d=>
    obtain⟨z,rest,h4,h5⟩:=rX g _ _ h2;cases rest with
    |cons a b=>cases h4
    | nil=>
      simp only[eL,cN]at h5;exact NR hg h5 (hK _ h4)
  | spl=>
    obtain⟨z,rest,h4,h5⟩:=rX g _ _ h2;cases rest with
    |cons a b=>cases h4
    | nil=>
      simp only[eL,cN]at h5;have hrows:(cp .spl g j l).set j (eL cs)=cp .spl g (j+1) (l.set j z):=by rw[h5,NS hlt]
      refine gD (u6 o ag ?_ ?_)
      ·intro y hy;rw[iN hg]at hy;simp only[aK]at hy;rw[<-hy];simp only[hrows]
       exact GM _ g _ _
      ·have:=hK _ h4;simp only[eS]at this ⊢;rw[sn (b:=ag) s.ob hg]at this
       ·exact this
       ·simp only[eO,hrows]
 ·exact hK _ h
def GV {o:Nat}(h:vL o K s=U r)(hK:∀ s,K s=U r->gK K' (eS s)):gK K' (eS s):=by
 unfold vL at h;split at h
 ·rename_i n g d l j cs hg;refine GR _ _ h fun s h=>?_
  cases hd:d.b with
  |true=>rw[hd]at h;exact GU h hK
  |false=>rw[hd]at h;exact GS _ _ h fun s h=>GU h hK
 ·exact hK _ h
def A8 {o:Nat}(h:vM o K s=U r)(hK:∀ s,K s=U r->gK K' (eS s)):gK K' (eS s) :=
 GV h fun s h=>GO h hK
def A9 {ob off:Nat}(h:sg ob off K s=U r)(hK:∀ s,K s=U r->gK K' (eS s)):gK K' (eS s):=by
 unfold sg at h;split at h
 ·split at h
  ·exact A8 h fun s h=>NM h hK
  ·exact hK _ h
 ·exact hK _ h
def GW {o off n:Nat}{cs:List V}{g:GT}{d:Bool}{rr:List g.Den}{v:V}(hg:ba s.ob o=U (.box n cs))(ha:du cs off=v)(hev:e v = .own g.sz (rr.map (aM d g)))
  (h:aX (ble (off+1) cs.length) (match ba (di s.ob o (bA cs off [.u])) o with
   |some (.box _ cs1)=>aX (ble (off+1) cs1.length) (K ⟨s.n,s.al,di (di s.ob o (bA cs off [.u])) o (bA cs1 off [.sl g rr])⟩)
   |_=>aj)=U r) (hK:∀s,K s=U r->gK K' (eS s)):gK K' (eS s):=by
 obtain⟨h1,h2⟩:=bl h;split at h2
 ·rename_i n1 cs1 hg3;obtain⟨h3,h4⟩:=bl h2;refine gD (FN (ob:=o) (i:=0) (off:=off) ?_);unfold u7;rw[jG hg];simp only[List.getElem?_cons_zero]
  rw[<-je,ha,hev];simp only
  refine bF (by simp only[cF,h1];rfl) ?_;have hw:wr (eL cs) off [SV.u]=eL (bA cs off [.u]):=by rw[gH];rfl
  rw[hw,oC hg (ov _ _ _ (by simpa using dQ h1))];have hg3':ba (⟨s.n,s.al,di s.ob o (bA cs off [.u])⟩:TS).ob o=U (.box n1 cs1):=hg3;rw[jG hg3'];simp only[List.getElem?_cons_zero]
  refine bF (by simp only[cF,h3];rfl) ?_;have hw1:wr (eL cs1) off [SV.sl g.sz (cC (rr.map (aM d g)))]=eL (bA cs1 off [.sl g rr]):=by rw[gH,kF];rfl
  rw[hw1,oC hg3' (ov _ _ _ (by simpa using dQ h3))];exact hK _ h4
 ·cases h2
def NT {o off:Nat}(h:AW o off K s=U r)(hK:∀ s,K s=U r->gK K' (eS s)):gK K' (eS s):=by
 unfold AW at h;split at h
 ·rename_i n cs hg;split at h
  ·rename_i g d rr ha;exact GW hg ha rfl h hK
  ·rename_i g ha;exact GW (rr:=[]) (d:=ad) hg ha rfl h hK
  ·exact hK _ h
 ·exact hK _ h
def NU {t:Nat}{p:Pat}(h:AY t p K s=U r)(hK:∀ s,K s=U r->gK K' (eS s)):gK K' (eS s):=by
 unfold AY at h;split at h
 ·split at h
  ·rename_i hv;exact GJ hv h hK
  ·exact hK _ h
 ·split at h
  ·exact vR (hK _ h)
  ·exact vR (hK _ h)
  ·exact vQ h hK
  ·exact hK _ h
 ·split at h
  ·refine A5 _ _ h fun s h=>?_
   split at h
   ·exact hK _ h
   ·exact vR (hK _ h)
  ·exact hK _ h
 ·exact hK _ h
def GX:∀(l:List (Nat×Pat)) {s:TS},m9 l K s=U r->(∀s,K s=U r->gK K' (eS s))->gK K' (eS s)
 |[],s,h,hK=>hK _ h
 |p::l,s,h,hK=>NU h fun s h=>GX l h hK
def vS {o:Nat}:∀(p:Pat) (j:Nat) {s:TS} {K:TS->Option R},p_ o p j K s=U r->(∀s,K s=U r->gK K' (eS s))->gK K' (eS s)
 | .cons p q,j,s,K,h,hK=>by
   unfold p_ at h;split at h
   ·exact A9 h fun s h=>vS q (j+1) h hK
   ·exact A9 h fun s h=>NT h fun s h=>vS q (j+1) h hK
   ·exact vS q (j+1) h hK
 |.i _,_,_,_,h,hK|.b,_,_,_,h,hK|.s,_,_,_,h,hK|.sl _,_,_,_,h,hK|.own _ _,_,_,_,h,hK|.ptr _ _,_,_,_,h,hK|.ptrI _ _,_,_,_,h,hK
 |.ar _,_,_,_,h,hK|.nilp,_,_,_,h,hK|.u,_,_,_,h,hK|.nil,_,_,_,h,hK|.sc _,_,_,_,h,hK|.agg _,_,_,_,h,hK|.tup _,_,_,_,h,hK|.fn _ _,_,_,_,h,hK|.ro _,_,_,_,h,hK|.nop,_,_,_,h,hK=>hK _ h
def so {o:Nat}:∀(p:Pat) (j:Nat) {s:TS} {K:TS->Option R},oH o p j K s=U r->(∀s,K s=U r->gK K' (eS s))->gK K' (eS s)
 | .cons p q,j,s,K,h,hK=>by
   unfold oH at h;split at h
   ·exact A7 h fun s h=>so q (j+1) h hK
   ·exact A7 h fun s h=>GQ h fun s h=>so q (j+1) h hK
   ·exact NO h fun s h=>so q (j+1) h hK
   ·exact so q (j+1) h hK
 |.i _,_,_,_,h,hK|.b,_,_,_,h,hK|.s,_,_,_,h,hK|.sl _,_,_,_,h,hK|.own _ _,_,_,_,h,hK|.ptr _ _,_,_,_,h,hK|.ptrI _ _,_,_,_,h,hK
 |.ar _,_,_,_,h,hK|.nilp,_,_,_,h,hK|.u,_,_,_,h,hK|.nil,_,_,_,h,hK|.sc _,_,_,_,h,hK|.agg _,_,_,_,h,hK|.tup _,_,_,_,h,hK|.fn _ _,_,_,_,h,hK|.ro _,_,_,_,h,hK|.nop,_,_,_,h,hK=>hK _ h
def sq:∀(l:List OPat) {s:TS},j4 l K s=U r->(∀s,K s=U r->gK K' (eS s))->gK K' (eS s)
 |[],s,h,hK=>hK _ h
 | o::l,s,h,hK=>by
   unfold j4 at h;split at h
   ·exact vS _ _ h fun s h=>sq l h hK
   ·exact A8 h fun s h=>sq l h hK
   ·exact so _ _ h fun s h=>sq l h hK
   ·exact GV h fun s h=>NN h fun s h=>sq l h hK
def vT {x:Operand}(h:qa x K s=U r)(hK:∀ s,K s=U r->gK K' (eS s)):gK K' (eS s):=by
 unfold qa at h;split at h
 ·split at h
  ·rename_i hv;exact GJ hv h hK
  ·exact A5 _ _ h hK
  ·exact hK _ h
 ·exact hK _ h
def A_:∀(l:List Operand) {s:TS},vO l K s=U r->(∀s,K s=U r->gK K' (eS s))->gK K' (eS s)
 |[],s,h,hK=>hK _ h
 |x::l,s,h,hK=>vT h fun s h=>A_ l h hK
def ss {x:Operand}(h:oI x K s=U r)(hK:∀ s,K s=U r->gK K' (eS s)):gK K' (eS s):=by
 unfold oI at h;split at h
 ·split at h
  ·exact vQ h hK
  ·exact vR (hK _ h)
 ·exact hK _ h
def Ba {t:Nat}:∀(n j:Nat) {s:TS},sh t n j K s=U r->(∀s,K s=U r->gK K' (eS s))->gK K' (eS s)
 |0,j,s,h,hK=>hK _ h
 | n+1,j,s,h,hK=>by
   unfold sh at h;split at h
   ·split at h
    ·exact vQ h fun s h=>Ba n (j+1) h hK
    ·exact Ba n (j+1) h hK
   ·exact hK _ h
def NV {x:Operand}(h:A1 x K s=U r)(hK:∀ s,K s=U r->gK K' (eS s)):gK K' (eS s):=by
 unfold A1 at h;split at h
 ·split at h
  ·exact Ba _ _ h hK
  ·exact hK _ h
 ·exact hK _ h
def GY:∀(l:List Operand) {s:TS},A2 l K s=U r->(∀s,K s=U r->gK K' (eS s))->gK K' (eS s)
 |[],s,h,hK=>hK _ h
 |x::l,s,h,hK=>NV h fun s h=>GY l h hK
def GZ {o:Nat}:∀(n j:Nat) {s:TS},A3 o n j K s=U r->(∀s,K s=U r->gK K' (eS s))->gK K' (eS s)
 |0,j,s,h,hK=>hK _ h
 |n+1,j,s,h,hK=>A9 h fun s h=>GZ n (j+1) h hK
def su:∀(l:List TO) {s:TS},oJ l K s=U r->(∀s,K s=U r->gK K' (eS s))->gK K' (eS s)
 |[],s,h,hK=>hK _ h
 | x::l,s,h,hK=>by
   unfold oJ at h;split at h
   ·exact GZ _ _ h fun s h=>su l h hK
   ·exact su l h hK
   ·exact A8 h fun s h=>su l h hK
   ·exact su l h hK
def G4:∀(l:List Operand) {s:TS},AZ l K s=U r->(∀s,K s=U r->gK K' (eS s))->gK K' (eS s)
 |[],_,h,hK=>hK _ h
 |_::l,_,h,hK=>ss h fun _ h=>G4 l h hK
def G5 {v:V}(h:vP v K s=U r)(hK:∀ s,K s=U r->gK K' (eS s)):gK K' (eS s):=by
 unfold vP at h;split at h
 ·exact NP h hK
 ·exact hK _ h
def NW {T:Nat->TI}{gz:List Nat}{o:Oper}(h:si T gz o K s=U r)(hK:∀ s,K s=U r->gK K' (eS s)):gK K' (eS s):=by
 unfold si at h;split at h
 ·split at h
  ·exact A_ _ h fun s h=>G4 _ h hK
  ·exact A_ _ h hK
 ·split at h
  ·exact G5 h hK
  ·exact hK _ h
 ·split at h
  ·exact vT h fun s h=>ss h hK
  split at h
  ·exact G5 h hK
  ·split at h
   ·exact vT h fun s h=>ss h hK
   ·split at h
    ·exact vT h hK
    ·exact hK _ h
 ·split at h
  ·exact ss h hK
  ·exact hK _ h
 ·split at h
  ·exact ss h hK
  ·exact hK _ h
 ·split at h
  ·split at h
   ·split at h
    ·split at h
     ·exact vQ h hK
     ·exact hK _ h
    ·exact hK _ h
   ·exact hK _ h
  ·have hf:∀{s},si.frzC gz o (by assumption) K s=U r->gK K' (eS s):=by
    intro s h;unfold si.frzC at h;split at h
    ·exact GY _ h hK
    ·exact hK _ h
   split at h
   ·exact su _ h fun s h=>hf h
   ·exact hf h
  ·split at h
   ·split at h
    ·split at h
     ·exact NK h hK fun l _ _ _ _ hg=>GN l hg (by simp only[eO,kF])
     ·exact hK _ h
    ·exact hK _ h
   ·exact hK _ h
  ·exact hK _ h
 ·exact hK _ h
def sw {N:Nat}{p:SPat}{K:p.Den->Option R}(h:j9 N p K s=U r)(hK:∀ x,K x=U r->K' (eS (dW N p x))):gK K' (eS s):=by
 obtain⟨h0,h1⟩:=bl h;refine sq _ h1 fun s1 h2=>GX _ h2 fun s2 h3=>?_
 obtain⟨hn,h3⟩:=bl h3;obtain⟨x,h4,h5⟩:=ND h0 h3;have hn:=eq_of_beq hn;rw[hn]at h5;exact h5 _ (hK x h4)
end
end Go.TM
end
