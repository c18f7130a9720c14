/- Part 18 of the proof of FnTidyAll; no condition. -/
import Derived.Test.YtmjlecabpbiigaaGreatX16
open Option renaming some -> U
open Decidable renaming decide -> aa
open Bool renaming true -> ae
open Bool renaming false -> ag
open Option renaming none -> aj
open Sum renaming inr -> an
open Sum renaming inl -> ao
open List renaming length -> au
open Int renaming toNat -> aw
open List renaming drop -> cU
open List renaming take -> de
set_option autoImplicit true
set_option relaxedAutoImplicit true
set_option linter.all false
section
namespace Go.TM
open Go.AM
section
variable {R:Type}
def subV (o:Nat)(y:V):V->V
 |.ar n=>bif n==o then y else .ar n
 |x=>mm o x
def vU (o:Nat)(y:V):List (Nat×V)->List (Nat×V)
 |[]=>[]
 |p::l=>(p.1,subV o y p.2)::vU o y l
def nB (s:TS)(o:Nat)(K:TS->Option R):Option R:=match bb s.ob o with
 |some (.arr _ g _ l)=>K ⟨s.n,vU o (.sl g l) s.al,oJ o s.ob⟩
 |_=>aj
def vV (s:TS)(t o:Nat)(K:TS->Option R):Option R:=match bb s.ob o with
 |some (.arr _ g d l)=>K (dk (kj o s) t (.own g d l))
 |_=>aj
def Bm (t j:Nat)(K:TS->Option R)(s:TS):Option R:=match cQ s t with
 | .agg cs=>match dE cs j with
   | .ar o=>match bb (cY s (.tmp t)).ob o with
     |some (.arr _ g d l)=>K (dk (kj o (cY s (.tmp t))) t (.agg (nq (ju o cs) j (.own g d l))))
     |_=>aj
   |_=>K s
 |_=>K s
def vW (t:Nat):Nat->Nat->(TS->Option R)->TS->Option R
 |0,_,K,s=>K s
 |n+1,j,K,s=>Bm t j (vW t n (j+1) K) s
def Bn (ob off:Nat)(K:TS->Option R)(s:TS):Option R:=match bb s.ob ob with
 | some (.box _ cs)=>match dE cs off with
   | .ar o=>match bb s.ob o with
     | some (.arr _ g d l)=>aX (ble (off+1) cs.length) (match bb (kj o s).ob ob with
       |some (.box _ cs1)=>aX (ble (off+1) cs1.length) (K ⟨s.n,(kj o s).al,du (kj o s).ob ob (bz cs1 off [.own g d l])⟩)
       |_=>aj)
     |_=>aj
   |_=>K s
 |_=>K s
def iC:List TO->Nat->TO->List TO
 |[],_,_=>[]
 |x::l,o,y=>bif x.name==o then y::l else x::iC l o y
def Bo (o i:Nat)(K:TS->Option R)(s:TS):Option R:=match bb s.ob o with
 |some (.arr n g d l)=>aq l i fun x=>K ⟨s.n,s.al,iC s.ob o (.opn n g (.all d) l i (cells d g x))⟩
 |some (.spl n g l k)=>af (aa (k=i)) (aq l i fun x=>K ⟨s.n,s.al,iC s.ob o (.opn n g .spl l i (cells ag g x))⟩)
 |_=>K s
def vX (o:Nat)(K:TS->Option R)(s:TS):Option R:=match bb s.ob o with
 |some (.spl n g l k)=>af (aa (k=l.length)) (K ⟨s.n,s.al,iC s.ob o (.arr n g ae l)⟩)
 |_=>K s
def Bp (o:Nat)(K:TS->Option R)(s:TS):Option R:=match bb s.ob o with
 |some (.arr n g d l)=>aX (!d) (K ⟨s.n,s.al,iC s.ob o (.spl n g l 0)⟩)
 |_=>K s
def Bq (o:Nat)(K:TS->Option R)(s:TS):Option R:=match bb s.ob o with
 |some (.arr n g _ l)=>K ⟨s.n,s.al,iC s.ob o (.arr n g ag l)⟩
 |_=>K s
def Br (o off m:Nat)(K:TS->Option R)(s:TS):Option R:=match bb s.ob o with
 |some (.opn _ _ _ _ i _)=>vC o i off m K s
 |_=>K s
def Bs (o off:Nat)(K:TS->Option R)(s:TS):Option R:=match bb s.ob o with
 | some (.opn _ _ _ l j cs)=>(match dE cs off with
   | .ar a=>(match bb s.ob a with
     | some (.arr _ g d r)=>aX (ble (off+1) cs.length) (af (aa (j<l.length)) (match bb (kj a s).ob o with
       |some (.opn _ _ _ l1 j1 cs1)=>aX (ble (off+1) cs1.length) (af (aa (j=j1)&&aa (j1<l1.length)) (K ⟨s.n,(kj a s).al,dF (kj a s).ob o (bz cs1 off [.own g d r])⟩))
       |_=>aj))
     |_=>aj)
   |_=>K s)
 |_=>K s
def sD (o off:Nat)(K:TS->Option R)(s:TS):Option R:=match bb s.ob o with
 | some (.opn _ _ _ _ _ cs)=>(match dE cs off with
   |.ar a=>vX a (Bs o off K) s
   |_=>K s)
 |_=>K s
def vY (o off:Nat)(K:TS->Option R)(s:TS):Option R:=match bb s.ob o with
 | some (.opn _ _ _ l j cs)=>(match dE cs off with
   | .own g _ r=>aX (ble (off+1) cs.length) (af (aa (j<l.length)) (match bb (dF s.ob o (bz cs off [.u])) o with
     |some (.opn _ _ _ l1 j1 cs1)=>aX (ble (off+1) cs1.length) (af (aa (j=j1)&&aa (j1<l1.length)) (K ⟨s.n,s.al,dF (dF s.ob o (bz cs off [.u])) o (bz cs1 off [.sl g r])⟩))
     |_=>aj))
   | .emp g=>aX (ble (off+1) cs.length) (af (aa (j<l.length)) (match bb (dF s.ob o (bz cs off [.u])) o with
     |some (.opn _ _ _ l1 j1 cs1)=>aX (ble (off+1) cs1.length) (af (aa (j=j1)&&aa (j1<l1.length)) (K ⟨s.n,s.al,dF (dF s.ob o (bz cs off [.u])) o (bz cs1 off [.sl g []])⟩))
     |_=>aj))
   |_=>K s)
 |_=>K s
def Bt (o:Nat):Nat->Nat->(TS->Option R)->TS->Option R
 |0,_,K,s=>K s
 |n+1,j,K,s=>sD o j (Bt o n (j+1) K) s
def Bv (o:Nat):Nat->Nat->(TS->Option R)->TS->Option R
 |0,_,K,s=>K s
 |n+1,j,K,s=>vY o j (Bv o n (j+1) K) s
def vZ (o:Nat)(K:TS->Option R)(s:TS):Option R:=match bb s.ob o with
 | some (.opn n g d l j cs)=>af (aa (j<l.length)) (match d with
   | .all d=>fQ ag d g cs fun z rest=>(match rest with
     |[]=>K ⟨s.n,s.al,iC s.ob o (.arr n g d (l.set j z))⟩
     |_::_=>aj)
   | .spl=>fQ ag ae g cs fun z rest=>(match rest with
     |[]=>K ⟨s.n,s.al,iC s.ob o (.spl n g (l.set j z) (j+1))⟩
     |_::_=>aj))
 |_=>K s
def v9 (o:Nat)(K:TS->Option R)(s:TS):Option R:=match bb s.ob o with
 | some (.opn _ _ d _ _ cs)=>Bt o cs.length 0 (match d.b with
   |true=>vZ o K
   |false=>Bv o cs.length 0 (vZ o K)) s
 |_=>K s
def sG (o:Nat)(K:TS->Option R)(s:TS):Option R:=v9 o (vX o K) s
def sH (ob off:Nat)(K:TS->Option R)(s:TS):Option R:=match bb s.ob ob with
 | some (.box _ cs)=>(match dE cs off with
   |.ar a=>sG a (Bn ob off K) s
   |_=>K s)
 |_=>K s
def Bw (o off:Nat)(K:TS->Option R)(s:TS):Option R:=match bb s.ob o with
 | some (.box _ cs)=>(match dE cs off with
   | .own g _ r=>aX (ble (off+1) cs.length) (match bb (du s.ob o (bz cs off [.u])) o with
     |some (.box _ cs1)=>aX (ble (off+1) cs1.length) (K ⟨s.n,s.al,du (du s.ob o (bz cs off [.u])) o (bz cs1 off [.sl g r])⟩)
     |_=>aj)
   | .emp g=>aX (ble (off+1) cs.length) (match bb (du s.ob o (bz cs off [.u])) o with
     |some (.box _ cs1)=>aX (ble (off+1) cs1.length) (K ⟨s.n,s.al,du (du s.ob o (bz cs off [.u])) o (bz cs1 off [.sl g []])⟩)
     |_=>aj)
   |_=>K s)
 |_=>K s
def v_:Pat->Bool
 |.own _ _=>ae
 |.agg p=>v_ p
 |.cons p q=>v_ p||v_ q
 |_=>ag
def Bx (t:Nat)(K:TS->Option R)(s:TS):Option R:=match cQ s t with
 |.ar o=>vV s t o K
 |_=>K s
def By (t:Nat)(p:Pat)(K:TS->Option R)(s:TS):Option R:=match p with
 | .own _ _=>(match cQ s t with
   |.ar o=>sG o (Bx t K) s
   |_=>K s)
 | .sl _=>(match cQ s t with
   |.own _ _ _=>K (mo s (.tmp t))
   |.emp _=>K (mo s (.tmp t))
   |.ar o=>nB s o K
   |_=>K s)
 | .agg q=>(match cQ s t with
   | .agg cs=>vW t cs.length 0 (fun s=>match v_ q with
     |true=>K s
     |false=>K (mo s (.tmp t))) s
   |_=>K s)
 |_=>K s
def ni:List (Nat×Pat)->(TS->Option R)->TS->Option R
 |[],K,s=>K s
 |p::l,K,s=>By p.1 p.2 (ni l K) s
def qm (o:Nat):Pat->Nat->(TS->Option R)->TS->Option R
 | .cons p q,j,K,s=>(match p with
   |.own _ _=>sH o j (qm o q (j+1) K) s
   |.sl _=>sH o j (Bw o j (qm o q (j+1) K)) s
   |_=>qm o q (j+1) K s)
 |_,_,K,s=>K s
def oW (o:Nat):Pat->Nat->(TS->Option R)->TS->Option R
 | .cons p q,j,K,s=>(match p with
   |.own _ _=>sD o j (oW o q (j+1) K) s
   |.sl _=>sD o j (vY o j (oW o q (j+1) K)) s
   |.ar m=>Br o j m (oW o q (j+1) K) s
   |_=>oW o q (j+1) K s)
 |_,_,K,s=>K s
def kf:List OPat->(TS->Option R)->TS->Option R
 |[],K,s=>K s
 | o::l,K,s=>(match o with
   |.box n p=>qm n p 0 (kf l K) s
   |.arr n _ _=>sG n (kf l K) s
   |.opn n _ _ p=>oW n p 0 (kf l K) s
   |.spl n _=>v9 n (Bp n (kf l K)) s)
def km (N:Nat)(p:SPat)(K:p.Den->Option R)(s:TS):Option R:=aX (kV p.al) (kf p.ob (ni p.al fun s=>aX (s.n==N) (He p s K)) s)
def qn (x:Operand)(K:TS->Option R)(s:TS):Option R:=match x with
 | .tmp t=>(match cQ s t with
   |.ar o=>vV s t o K
   |.agg cs=>vW t cs.length 0 K s
   |_=>K s)
 |_=>K s
def wb:List Operand->(TS->Option R)->TS->Option R
 |[],K,s=>K s
 |x::l,K,s=>qn x (wb l K) s
def mv (x:Operand)(K:TS->Option R)(s:TS):Option R:=match x with
 | .tmp t=>(match cQ s t with
   |.ar o=>nB s o K
   |_=>K (mo s x))
 |_=>K s
def Bz:List Operand->(TS->Option R)->TS->Option R
 |[],K,s=>K s
 |x::l,K,s=>mv x (Bz l K) s
def Hq (d:Bool)(s:TS)(a:V):Bool:=match a with
 | .p o _ _=>(match bb s.ob o with
   |some (.arr _ _ d' _)=>d==d'
   |_=>ag)
 |_=>ag
def sI (t:Nat):Nat->Nat->(TS->Option R)->TS->Option R
 |0,_,K,s=>K s
 | n+1,j,K,s=>(match cQ s t with
   | .agg cs=>(match dE cs j with
     |.ar o=>nB s o (sI t n (j+1) K)
     |_=>sI t n (j+1) K s)
   |_=>K s)
def BA (x:Operand)(K:TS->Option R)(s:TS):Option R:=match x with
 | .tmp t=>(match cQ s t with
   |.agg cs=>sI t cs.length 0 K s
   |_=>K s)
 |_=>K s
def BB:List Operand->(TS->Option R)->TS->Option R
 |[],K,s=>K s
 |x::l,K,s=>BA x (BB l K) s
def BC (o:Nat):Nat->Nat->(TS->Option R)->TS->Option R
 |0,_,K,s=>K s
 |n+1,j,K,s=>sH o j (BC o n (j+1) K) s
def oX:List TO->(TS->Option R)->TS->Option R
 |[],K,s=>K s
 | x::l,K,s=>(match x with
   |.box n cs=>BC n cs.length 0 (oX l K) s
   |.arr _ _ _ _=>oX l K s
   |.opn n _ _ _ _ _=>sG n (oX l K) s
   |.spl _ _ _ _=>oX l K s)
def wc (v:V)(K:TS->Option R)(s:TS):Option R:=match v with
 |.p o i _=>Bo o i K s
 |_=>K s
def BD (x:Operand)(K:TS->Option R)(s:TS):Option R:=match x with
 | .tmp t=>(match cQ s t with
   |.own g d l=>aX (Nat.blt t 100000) (K (dk (dP (dk s t .u) t (.arr t g d l)) t (.ar t)))
   |.emp g=>aX (Nat.blt t 100000) (K (dk (dP (dk s t .u) t (.arr t g ae [])) t (.ar t)))
   |_=>K s)
 |_=>K s
def sJ (T:Nat->TI)(gz:List Nat)(o:Oper)(K:TS->Option R)(s:TS):Option R:=match o.op with
 | .buildSlice _ _ ps=>(match gz.contains 6500000 with
   |true=>wb (cx ps) (Bz (cx ps) K) s
   |false=>wb (cx ps) K s)
 | .load t a=>(match vD (T t).kind||gz.contains 7000000 with
   |true=>wc (bp s a) K s
   |false=>K s)
 | .store _ a x=>(match gz.contains 6000000 with
   |true=>qn x (mv x K) s
   | false=>(match gz.contains 5000000 with
     |true=>wc (bp s a) K s
     | false=>(match Hq ag s (bp s a)with
       |true=>qn x (mv x K) s
       | false=>(match Hq ae s (bp s a)with
         |true=>qn x K s
         |false=>K s))))
 | .convert _ d x=>(match(T d).kind with
   |.str=>mv x K s
   |_=>K s)
 | .slice _ x _ _ _=>(match gz.contains (i4 o.dst)with
   |true=>mv x K s
   |false=>K s)
 | .indexAddr _ x _=>(match gz.contains 9000000 with
   |true=>BD x K s
   |false=>K s)
 | .assign x=>(match gz.contains 9500000 with
   |true=>mv x K s
   |false=>K s)
 | .field _ x _=>(match gz.contains 9500000 with
   |true=>mv x K s
   |false=>K s)
 | .call c=>(match c.callee with
   | .builtin .append=>(match c.args.toList with
     | [_,y]=>(match y with
       | .tmp t=>(match cQ s t with
         |.ar o=>nB s o K
         |_=>K s)
       |_=>K s)
     |_=>K s)
   | .value _=>(match gz.contains (1000000+i4 o.dst)with
     |true=>oX s.ob (frzC gz o c K) s
     |false=>frzC gz o c K s)
   | .builtin .len=>(match gz.contains 8000000 with
     | true=>(match c.args.toList with
       | [y]=>(match bp s y with
         |.ar o=>Bq o K s
         |_=>K s)
       |_=>K s)
     |false=>K s)
   |_=>K s)
 |_=>K s
where frzC (gz:List Nat) (o:Oper) (c:Call) (K:TS->Option R) (s:TS):Option R:=match gz.contains (i4 o.dst)with
 |true=>BB c.args.toList K s
 |false=>K s
variable {r:R}{s:TS}{K:TS->Option R}{K':St->Prop}
def OC (o:Nat)(y v:V):AM.subV o (e y) (e v)=e (subV o y v):=by
 cases v with
 | ar n=>
   simp only[e,AM.subV,subV]
   by_cases h:n=o
   ·simp[h]
   ·have:(n==o)=ag:=by simpa using h
    simp[h,this,e]
 |_=>first|rfl|(simp only[subV,<-AK];rfl)
def BE (o:Nat)(y:V):∀al:List (Nat×V),qb o (e y) (eA al)=eA (vU o y al)
 |[]=>rfl
 |p::l=>by simp only[eA,qb,vU,OC,BE o y l]
def we {o:Nat}(h:nB s o K=U r)(hK:∀ s,K s=U r->gK K' (eS s)):gK K' (eS s):=by
 unfold nB at h;split at h
 ·rename_i n g d l hg;refine gh (FF o ?_);unfold rY;rw[jw hg];refine⟨rfl,?_⟩;simp only[kS]
  have:=hK _ h;simp only[eS]at this ⊢;rw[F0,show SV.sl g.sz (l.map (aO ag g))=e (.sl g l)from rfl,BE,qf];exact this
 ·cases h
def OD {o:Nat}(h:Bq o K s=U r)(hK:∀ s,K s=U r->gK K' (eS s))(hset:∀ (l:List TO) {n:Nat} {g:GT} {d:Bool} {r:List g.Den},bb l o=U (.arr n g d r)->bo (iC l o (.arr n g ag r))=dz (bo l) o (cC (r.map (aO d g)))):gK K' (eS s):=by
 unfold Bq at h;split at h
 ·rename_i n g d l hg;refine gh (No o ?_);unfold frzIn;rw[jw hg];refine⟨rfl,?_⟩;have:=hK _ h;simp only[eS]at this ⊢;rw[hset s.ob hg]at this;exact this
 ·exact hK _ h
def Hr {t o:Nat}(hv:cQ s t = .ar o)(h:vV s t o K=U r)(hK:∀ s,K s=U r->gK K' (eS s)):gK K' (eS s):=by
 unfold vV at h;split at h
 ·rename_i n g d l hg;refine gh (Nn t ?_);unfold u4;rw[i6,hv];simp only[e]
  rw[jw hg];refine⟨rfl,?_⟩;rw[qg,show SV.own g.sz (l.map (aO d g))=e (.own g d l)from rfl,fJ];exact hK _ h
 ·cases h
def wg {t:Nat}(h:gK K' (eS (mo s (.tmp t)))):gK K' (eS s):=by
 refine gh (Nl t ?_);rw[Bd];exact h
def OE {t j:Nat}(h:Bm t j K s=U r)(hK:∀ s,K s=U r->gK K' (eS s)):gK K' (eS s):=by
 unfold Bm at h;split at h
 ·rename_i cs hv;split at h
  ·rename_i o ho;split at h
   ·rename_i n g d l hg;refine gh (Nv (t:=t) (j:=j) ?_);unfold Aw;rw[i6,hv];simp only[e]
    rw[<-jv,ho];simp only[e]
    rw[jT,jw hg];simp only
    rw[mn,qg,show SV.own g.sz (l.map (aO d g))=e (.own g d l)from rfl,<-AI,show SV.agg (eL (nq (ju o cs) j (.own g d l)))=e (.agg (nq (ju o cs) j (.own g d l)))from rfl,fJ];exact hK _ h
   ·cases h
  ·exact hK _ h
 ·exact hK _ h
def BF {t:Nat}:∀(n j:Nat) {s:TS},vW t n j K s=U r->(∀s,K s=U r->gK K' (eS s))->gK K' (eS s)
 |0,j,s,h,hK=>hK _ h
 |n+1,j,s,h,hK=>OE h fun s h=>BF n (j+1) h hK
def OF {ob off:Nat}(h:Bn ob off K s=U r)(hK:∀ s,K s=U r->gK K' (eS s)):gK K' (eS s):=by
 unfold Bn at h;split at h
 ·rename_i n cs hg;split at h
  ·rename_i o ho;split at h
   ·rename_i m g d l hg2;obtain⟨h1,h2⟩:=bj h;split at h2
    ·rename_i n1 cs1 hg3;obtain⟨h3,h4⟩:=bj h2;refine gh (Nw (ob:=ob) (off:=off) ?_);unfold vi;rw[jV hg];simp only[List.getElem?_cons_zero]
     rw[<-jv,ho];simp only[e]
     rw[jw hg2];refine bG (by simp only[cN,h1];rfl) ?_;rw[qg,jV hg3];simp only[List.getElem?_cons_zero]
     refine bG (by simp only[cN,h3];rfl) ?_;have hw:wr (eL cs1) off [SV.own g.sz (l.map (aO d g))]=eL (bz cs1 off [.own g d l]):=by rw[g9];rfl
     rw[hw,oR hg3 (oL _ _ _ (by simpa using dZ h3))];exact hK _ h4
    ·cases h2
   ·cases h
  ·exact hK _ h
 ·exact hK _ h
def sK (g:GT)(d:Bool):∀l:List g.Den,i5 (l.map (aO d g))=ae
 |[]=>rfl
 |x::l=>by simp only[bF,i5,qe g d x,sK g d l,ba]
def sL {o:Nat}{y:TO}{b:Bool}:∀(l:List TO) {x:TO},bb l o=U x->eO y={eO x with nm:=b}->bo (iC l o y)=nn (bo l) o b
 |[],_,h,_=>by cases h
 | z::l,x,h,he=>by
   simp only[bb]at h;simp only[iC,bo,nn,kP]
   by_cases hx:z.name=o
   ·have h':(z.name==o)=ae:=by simpa using hx
    rw[h',cond_true]at h;simp only[aF]at h;subst h;rw[h',cond_true,if_pos hx];show eO y::bo l=_;rw[he];simp only[kP]
   ·have h':(z.name==o)=ag:=by simpa using hx
    rw[h',cond_false]at h;simp only[h',cond_false,hx,if_false,bo,sL l h he]
def Hs {α:Type}{l:List α}{i:Nat}{x:α}(h:l[i]? = U x):l.set i x=l:=by
 apply List.ext_getElem?;intro j;by_cases hj:i=j
 ·subst hj;have hlt:=nc h;rw[List.getElem?_set_self hlt,h]
 ·rw[List.getElem?_set_ne hj]
def Ht:∀a b:List (List SV),i5 (a++b)=(i5 a&&i5 b)
 |[],_=>rfl
 |x::a,b=>by simp only[cF,i5,Ht a b,Bool.and_assoc]
def Hu (d:DM)(g:GT)(i:Nat)(l:List g.Den):i5 (cn d g i l)=ae:=by
 cases d
 ·exact sK g _ l
 ·simp only[cn,Ht,sK,ba]
def Hv {o:Nat}{y:TO}{rows:List (List SV)}:∀(l:List TO) {x:TO},bb l o=U x->eO y={eO x with rows:=rows}->bo (iC l o y)=dz (bo l) o rows
 |[],x,h,_=>by cases h
 | z::l,x,h,he=>by
   unfold bb at h;simp only[iC,bo,dz,kP]
   cases h':(z.name==o)with
   | true=>
     rw[h',cond_true]at h;obtain rfl:=Option.some.inj h;have hx:z.name=o:=eq_of_beq h';simp only[cond_true,hx,if_true,bo,he,kP]
   | false=>
     rw[h',cond_false]at h;have hx:¬z.name=o:=fun e=>by simp[e]at h'
     simp only[cond_false,hx,if_false,bo,Hv l h he]
def BG {o:Nat}{y:TO}:∀(l:List TO) {x:TO},bb l o=U x->eO y=eO x->bo (iC l o y)=bo l
 |[],_,h,_=>by cases h
 | z::l,x,h,he=>by
   simp only[bb]at h;simp only[iC,bo]
   cases hz:z.name==o with
   | true=>
     rw[hz,cond_true]at h;simp only[aF]at h;subst h;simp only[cond_true,bo,he]
   | false=>
     rw[hz,cond_false]at h;simp only[cond_false,bo,BG l h he]
def Hw {o:Nat}(h:vX o K s=U r)(hK:∀ s,K s=U r->gK K' (eS s)):gK K' (eS s):=by
 unfold vX at h;split at h
 ·rename_i n g l k hg;obtain⟨h1,h2⟩:=cR h;simp only[aL]at h1;subst h1;have:=hK _ h2;simp only[eS]at this ⊢;rw[BG s.ob hg]at this
  ·exact this
  ·simp only[eO,cn,List.take_length,List.drop_length,List.map_nil,cB]
 ·exact hK _ h
def OG {o:Nat}(h:Bp o K s=U r)(hK:∀ s,K s=U r->gK K' (eS s)):gK K' (eS s):=by
 unfold Bp at h;split at h
 ·rename_i n g d l hg;obtain⟨h1,h2⟩:=bj h;have h1:d=ag:=by simpa using h1
  subst h1;have:=hK _ h2;simp only[eS]at this ⊢;rw[BG s.ob hg]at this
  ·exact this
  ·simp only[eO,cn,List.take_zero,List.drop_zero,List.map_nil,dy]
 ·exact hK _ h
def OH {o off m:Nat}(h:Br o off m K s=U r)(hK:∀ s,K s=U r->gK K' (eS s)):gK K' (eS s):=by
 unfold Br at h;split at h
 ·exact gh (E_ (K:=fun st=>gK K' st) (G4 h hK))
 ·exact hK _ h
def OI {o i:Nat}(h:Bo o i K s=U r)(hK:∀ s,K s=U r->gK K' (eS s)):gK K' (eS s):=by
 unfold Bo at h;split at h
 ·rename_i n g d l hg;obtain⟨x,hx,h1⟩:=oN h;refine gh (vu o ae ?_ ?_)
  ·intro y hy;rw[jw hg]at hy;simp only[aF]at hy;rw[<-hy];exact sK g d l
  ·have:=hK _ h1;simp only[eS]at this ⊢;rw[sL (b:=ae) s.ob hg]at this
   ·exact this
   ·simp only[eO,np]
    simp only[cn]
    rw[Hs];rw[List.getElem?_map,hx];rfl
 ·rename_i n g l k hg;obtain⟨h0,h1⟩:=cR h;simp only[aL]at h0;subst h0;obtain⟨x,hx,h1⟩:=oN h1;refine gh (vu o ae ?_ ?_)
  ·intro y hy;rw[vO hg]at hy;simp only[aF]at hy;rw[<-hy];exact Hu .spl g k l
  ·have:=hK _ h1;simp only[eS]at this ⊢;rw[sL (b:=ae) s.ob hg]at this
   ·exact this
   ·simp only[eO,np]
    rw[Hs];exact GY (bJ _) hx
 ·exact hK _ h
def OJ {o off:Nat}(h:Bs o off K s=U r)(hK:∀ s,K s=U r->gK K' (eS s)):gK K' (eS s):=by
 unfold Bs at h;split at h
 ·rename_i n g0 d0 l j cs hg;split at h
  ·rename_i a ha;split at h
   ·rename_i m g d rr hg2;obtain⟨h1,h2⟩:=bj h;obtain⟨hlt,h2⟩:=cR h2;simp only[aL]at hlt;split at h2
    ·rename_i n1 g1 d1 l1 j1 cs1 hg3;obtain⟨h3,h4⟩:=bj h2;obtain⟨h5,h4'⟩:=cR h4;simp only[aK,aL]at h5;obtain⟨h5,h6⟩:=h5;subst h5;refine gh (NH (ob:=o) (i:=j) (off:=off) ?_);unfold AE;rw[i7 hg];simp only[lF hlt]
     rw[<-jv,ha];simp only[e]
     rw[jw hg2];refine bG (by simp only[cN,h1];rfl) ?_;rw[qg,i7 hg3];simp only[lF h6]
     refine bG (by simp only[cN,h3];rfl) ?_;have hw:wr (eL cs1) off [SV.own g.sz (rr.map (aO d g))]=eL (bz cs1 off [.own g d rr]):=by rw[g9];rfl
     rw[hw,qi hg3];exact hK _ h4'
    ·cases h2
   ·cases h
  ·exact hK _ h
 ·exact hK _ h
def BH {o off:Nat}(h:sD o off K s=U r)(hK:∀ s,K s=U r->gK K' (eS s)):gK K' (eS s):=by
 unfold sD at h;split at h
 ·split at h
  ·exact Hw h fun s h=>OJ h hK
  ·exact hK _ h
 ·exact hK _ h
def Hx {o off n:Nat}{g0:GT}{d0:DM}{l:List g0.Den}{j:Nat}{cs:List V}{g:GT}{d:Bool}{rr:List g.Den}{v:V}(hg:bb s.ob o=U (.opn n g0 d0 l j cs))(ha:dE cs off=v)(hev:e v = .own g.sz (rr.map (aO d g)))
  (h:aX (ble (off+1) cs.length) (af (aa (j<l.length)) (match bb (dF s.ob o (bz cs off [.u])) o with
   |some (.opn _ _ _ l1 j1 cs1)=>aX (ble (off+1) cs1.length) (af (aa (j=j1)&&aa (j1<l1.length)) (K ⟨s.n,s.al,dF (dF s.ob o (bz cs off [.u])) o (bz cs1 off [.sl g rr])⟩))
   |_=>aj))=U r) (hK:∀s,K s=U r->gK K' (eS s)):gK K' (eS s):=by
 obtain⟨h1,h2⟩:=bj h;obtain⟨hlt,h2⟩:=cR h2;simp only[aL]at hlt;split at h2
 ·rename_i n1 g1 d1 l1 j1 cs1 hg3;obtain⟨h3,h4⟩:=bj h2;obtain⟨h5,h4'⟩:=cR h4;simp only[aK,aL]at h5;obtain⟨h5,h6⟩:=h5;subst h5;refine gh (Gx (ob:=o) (i:=j) (off:=off) ?_);unfold vv;rw[i7 hg];simp only[lF hlt]
  rw[<-jv,ha,hev];simp only
  refine bG (by simp only[cN,h1];rfl) ?_;have hw:wr (eL cs) off [SV.u]=eL (bz cs off [.u]):=by rw[g9];rfl
  rw[hw,qi hg];have hg3':bb (⟨s.n,s.al,dF s.ob o (bz cs off [.u])⟩:TS).ob o=U (.opn n1 g1 d1 l1 j cs1):=hg3;rw[i7 hg3'];simp only[lF h6]
  refine bG (by simp only[cN,h3];rfl) ?_;have hw1:wr (eL cs1) off [SV.sl g.sz (cC (rr.map (aO d g)))]=eL (bz cs1 off [.sl g rr]):=by rw[g9,kS];rfl
  rw[hw1,qi hg3'];exact hK _ h4'
 ·cases h2
def Hy {o off:Nat}(h:vY o off K s=U r)(hK:∀ s,K s=U r->gK K' (eS s)):gK K' (eS s):=by
 unfold vY at h;split at h
 ·rename_i n g0 d0 l j cs hg;split at h
  ·rename_i g d rr ha;exact Hx hg ha rfl h hK
  ·rename_i g ha;exact Hx (rr:=[]) (d:=ae) hg ha rfl h hK
  ·exact hK _ h
 ·exact hK _ h
def Hz {o:Nat}:∀(n j:Nat) {s:TS} {K:TS->Option R},Bt o n j K s=U r->(∀s,K s=U r->gK K' (eS s))->gK K' (eS s)
 |0,j,s,K,h,hK=>hK _ h
 |n+1,j,s,K,h,hK=>BH h fun s h=>Hz n (j+1) h hK
def HA {o:Nat}:∀(n j:Nat) {s:TS} {K:TS->Option R},Bv o n j K s=U r->(∀s,K s=U r->gK K' (eS s))->gK K' (eS s)
 |0,j,s,K,h,hK=>hK _ h
 |n+1,j,s,K,h,hK=>Hy h fun s h=>HA n (j+1) h hK
def OK {o n:Nat}{g:GT}{d:Bool}{l:List g.Den}{j:Nat}{cs:List V}(hg:bb s.ob o=U (.opn n g (.all d) l j cs)){z:g.Den}(h5:eL cs=aO d g z)(h:gK K' (eS ⟨s.n,s.al,iC s.ob o (.arr n g d (l.set j z))⟩)):gK K' (eS s):=by
 have hrows:(l.map (aO d g)).set j (eL cs)=(l.set j z).map (aO d g):=by rw[h5,List.map_set]
 refine gh (vu o ag ?_ ?_)
 ·intro y hy;rw[i7 hg]at hy;simp only[aF]at hy;rw[<-hy];simp only[cn,hrows]
  exact sK g d _
 ·simp only[eS]at h ⊢;rw[sL (b:=ag) s.ob hg]at h
  ·exact h
  ·simp only[eO,cn,hrows]
def OL {g:GT}{l:List g.Den}{j:Nat}{z:g.Den}(h:j<l.length):(cn .spl g j l).set j (aO ae g z)=cn .spl g (j+1) (l.set j z):=by
 simp only[cn]
 rw[List.set_append_right _ _ (by simp only[cG,bT];omega),List.take_succ,List.take_set_of_le (bJ _),List.getElem?_set_self h,List.drop_set_of_lt (Nat.lt_succ_self _),List.drop_eq_getElem_cons h];have:j-((l.take j).map (aO ae g)).length=0:=by simp only[cG,bT];omega
 rw[this];simp only[bF,List.set_cons_zero,Option.toList_some,List.map_append,List.map_nil,bD,cF,dy]
def HB {o:Nat}(h:vZ o K s=U r)(hK:∀ s,K s=U r->gK K' (eS s)):gK K' (eS s):=by
 unfold vZ at h;split at h
 ·rename_i n g d l j cs hg;obtain⟨hlt,h2⟩:=cR h;simp only[aL]at hlt;cases d with
  | all d=>
    obtain⟨z,rest,h4,h5⟩:=sq g _ _ h2;cases rest with
    |cons a b=>cases h4
    | nil=>
      simp only[eL,cB]at h5;exact OK hg h5 (hK _ h4)
  | spl=>
    obtain⟨z,rest,h4,h5⟩:=sq g _ _ h2;cases rest with
    |cons a b=>cases h4
    | nil=>
      simp only[eL,cB]at h5;have hrows:(cn .spl g j l).set j (eL cs)=cn .spl g (j+1) (l.set j z):=by rw[h5,OL hlt]
      refine gh (vu o ag ?_ ?_)
      ·intro y hy;rw[i7 hg]at hy;simp only[aF]at hy;rw[<-hy];simp only[hrows]
       exact Hu _ g _ _
      ·have:=hK _ h4;simp only[eS]at this ⊢;rw[sL (b:=ag) s.ob hg]at this
       ·exact this
       ·simp only[eO,hrows]
 ·exact hK _ h
def HC {o:Nat}(h:v9 o K s=U r)(hK:∀ s,K s=U r->gK K' (eS s)):gK K' (eS s):=by
 unfold v9 at h;split at h
 ·rename_i n g d l j cs hg;refine Hz _ _ h fun s h=>?_
  cases hd:d.b with
  |true=>rw[hd]at h;exact HB h hK
  |false=>rw[hd]at h;exact HA _ _ h fun s h=>HB h hK
 ·exact hK _ h
def wh {o:Nat}(h:sG o K s=U r)(hK:∀ s,K s=U r->gK K' (eS s)):gK K' (eS s) :=
 HC h fun s h=>Hw h hK
def BI {ob off:Nat}(h:sH ob off K s=U r)(hK:∀ s,K s=U r->gK K' (eS s)):gK K' (eS s):=by
 unfold sH at h;split at h
 ·split at h
  ·exact wh h fun s h=>OF h hK
  ·exact hK _ h
 ·exact hK _ h
def HD {o off n:Nat}{cs:List V}{g:GT}{d:Bool}{rr:List g.Den}{v:V}(hg:bb s.ob o=U (.box n cs))(ha:dE cs off=v)(hev:e v = .own g.sz (rr.map (aO d g)))
  (h:aX (ble (off+1) cs.length) (match bb (du s.ob o (bz cs off [.u])) o with
   |some (.box _ cs1)=>aX (ble (off+1) cs1.length) (K ⟨s.n,s.al,du (du s.ob o (bz cs off [.u])) o (bz cs1 off [.sl g rr])⟩)
   |_=>aj)=U r) (hK:∀s,K s=U r->gK K' (eS s)):gK K' (eS s):=by
 obtain⟨h1,h2⟩:=bj h;split at h2
 ·rename_i n1 cs1 hg3;obtain⟨h3,h4⟩:=bj h2;refine gh (Gx (ob:=o) (i:=0) (off:=off) ?_);unfold vv;rw[jV hg];simp only[List.getElem?_cons_zero]
  rw[<-jv,ha,hev];simp only
  refine bG (by simp only[cN,h1];rfl) ?_;have hw:wr (eL cs) off [SV.u]=eL (bz cs off [.u]):=by rw[g9];rfl
  rw[hw,oR hg (oL _ _ _ (by simpa using dZ h1))];have hg3':bb (⟨s.n,s.al,du s.ob o (bz cs off [.u])⟩:TS).ob o=U (.box n1 cs1):=hg3;rw[jV hg3'];simp only[List.getElem?_cons_zero]
  refine bG (by simp only[cN,h3];rfl) ?_;have hw1:wr (eL cs1) off [SV.sl g.sz (cC (rr.map (aO d g)))]=eL (bz cs1 off [.sl g rr]):=by rw[g9,kS];rfl
  rw[hw1,oR hg3' (oL _ _ _ (by simpa using dZ h3))];exact hK _ h4
 ·cases h2
def OM {o off:Nat}(h:Bw o off K s=U r)(hK:∀ s,K s=U r->gK K' (eS s)):gK K' (eS s):=by
 unfold Bw at h;split at h
 ·rename_i n cs hg;split at h
  ·rename_i g d rr ha;exact HD hg ha rfl h hK
  ·rename_i g ha;exact HD (rr:=[]) (d:=ae) hg ha rfl h hK
  ·exact hK _ h
 ·exact hK _ h
def ON {t:Nat}(h:Bx t K s=U r)(hK:∀ s,K s=U r->gK K' (eS s)):gK K' (eS s):=by
 unfold Bx at h;split at h
 ·rename_i hv;exact Hr hv h hK
 ·exact hK _ h
def OO {t:Nat}{p:Pat}(h:By t p K s=U r)(hK:∀ s,K s=U r->gK K' (eS s)):gK K' (eS s):=by
 unfold By at h;split at h
 ·split at h
  ·exact wh h fun s h=>ON h hK
  ·exact hK _ h
 ·split at h
  ·exact wg (hK _ h)
  ·exact wg (hK _ h)
  ·exact we h hK
  ·exact hK _ h
 ·split at h
  ·refine BF _ _ h fun s h=>?_
   split at h
   ·exact hK _ h
   ·exact wg (hK _ h)
  ·exact hK _ h
 ·exact hK _ h
def HE:∀(l:List (Nat×Pat)) {s:TS},ni l K s=U r->(∀s,K s=U r->gK K' (eS s))->gK K' (eS s)
 |[],s,h,hK=>hK _ h
 |p::l,s,h,hK=>OO h fun s h=>HE l h hK
def wi {o:Nat}:∀(p:Pat) (j:Nat) {s:TS} {K:TS->Option R},qm o p j K s=U r->(∀s,K s=U r->gK K' (eS s))->gK K' (eS s)
 | .cons p q,j,s,K,h,hK=>by
   unfold qm at h;split at h
   ·exact BI h fun s h=>wi q (j+1) h hK
   ·exact BI h fun s h=>OM h fun s h=>wi q (j+1) h hK
   ·exact wi q (j+1) h hK
 |.i _,_,_,_,h,hK|.b,_,_,_,h,hK|.s,_,_,_,h,hK|.sl _,_,_,_,h,hK|.own _ _,_,_,_,h,hK|.ptr _ _,_,_,_,h,hK|.ptrI _ _,_,_,_,h,hK
 |.ar _,_,_,_,h,hK|.nilp,_,_,_,h,hK|.u,_,_,_,h,hK|.nil,_,_,_,h,hK|.sc _,_,_,_,h,hK|.agg _,_,_,_,h,hK|.tup _,_,_,_,h,hK|.fn _ _,_,_,_,h,hK|.ro _,_,_,_,h,hK|.nop,_,_,_,h,hK=>hK _ h
def sM {o:Nat}:∀(p:Pat) (j:Nat) {s:TS} {K:TS->Option R},oW o p j K s=U r->(∀s,K s=U r->gK K' (eS s))->gK K' (eS s)
 | .cons p q,j,s,K,h,hK=>by
   unfold oW at h;split at h
   ·exact BH h fun s h=>sM q (j+1) h hK
   ·exact BH h fun s h=>Hy h fun s h=>sM q (j+1) h hK
   ·exact OH h fun s h=>sM q (j+1) h hK
   ·exact sM q (j+1) h hK
 |.i _,_,_,_,h,hK|.b,_,_,_,h,hK|.s,_,_,_,h,hK|.sl _,_,_,_,h,hK|.own _ _,_,_,_,h,hK|.ptr _ _,_,_,_,h,hK|.ptrI _ _,_,_,_,h,hK
 |.ar _,_,_,_,h,hK|.nilp,_,_,_,h,hK|.u,_,_,_,h,hK|.nil,_,_,_,h,hK|.sc _,_,_,_,h,hK|.agg _,_,_,_,h,hK|.tup _,_,_,_,h,hK|.fn _ _,_,_,_,h,hK|.ro _,_,_,_,h,hK|.nop,_,_,_,h,hK=>hK _ h
def sN:∀(l:List OPat) {s:TS},kf l K s=U r->(∀s,K s=U r->gK K' (eS s))->gK K' (eS s)
 |[],s,h,hK=>hK _ h
 | o::l,s,h,hK=>by
   unfold kf at h;split at h
   ·exact wi _ _ h fun s h=>sN l h hK
   ·exact wh h fun s h=>sN l h hK
   ·exact sM _ _ h fun s h=>sN l h hK
   ·exact HC h fun s h=>OG h fun s h=>sN l h hK
def wj {x:Operand}(h:qn x K s=U r)(hK:∀ s,K s=U r->gK K' (eS s)):gK K' (eS s):=by
 unfold qn at h;split at h
 ·split at h
  ·rename_i hv;exact Hr hv h hK
  ·exact BF _ _ h hK
  ·exact hK _ h
 ·exact hK _ h
def BJ:∀(l:List Operand) {s:TS},wb l K s=U r->(∀s,K s=U r->gK K' (eS s))->gK K' (eS s)
 |[],s,h,hK=>hK _ h
 |x::l,s,h,hK=>wj h fun s h=>BJ l h hK
def oY {x:Operand}(h:mv x K s=U r)(hK:∀ s,K s=U r->gK K' (eS s)):gK K' (eS s):=by
 unfold mv at h;split at h
 ·split at h
  ·exact we h hK
  ·exact wg (hK _ h)
 ·exact hK _ h
def BK {t:Nat}:∀(n j:Nat) {s:TS},sI t n j K s=U r->(∀s,K s=U r->gK K' (eS s))->gK K' (eS s)
 |0,j,s,h,hK=>hK _ h
 | n+1,j,s,h,hK=>by
   unfold sI at h;split at h
   ·split at h
    ·exact we h fun s h=>BK n (j+1) h hK
    ·exact BK n (j+1) h hK
   ·exact hK _ h
def OP {x:Operand}(h:BA x K s=U r)(hK:∀ s,K s=U r->gK K' (eS s)):gK K' (eS s):=by
 unfold BA at h;split at h
 ·split at h
  ·exact BK _ _ h hK
  ·exact hK _ h
 ·exact hK _ h
def HF:∀(l:List Operand) {s:TS},BB l K s=U r->(∀s,K s=U r->gK K' (eS s))->gK K' (eS s)
 |[],s,h,hK=>hK _ h
 |x::l,s,h,hK=>OP h fun s h=>HF l h hK
def HG {o:Nat}:∀(n j:Nat) {s:TS},BC o n j K s=U r->(∀s,K s=U r->gK K' (eS s))->gK K' (eS s)
 |0,j,s,h,hK=>hK _ h
 |n+1,j,s,h,hK=>BI h fun s h=>HG n (j+1) h hK
def sO:∀(l:List TO) {s:TS},oX l K s=U r->(∀s,K s=U r->gK K' (eS s))->gK K' (eS s)
 |[],s,h,hK=>hK _ h
 | x::l,s,h,hK=>by
   unfold oX at h;split at h
   ·exact HG _ _ h fun s h=>sO l h hK
   ·exact sO l h hK
   ·exact wh h fun s h=>sO l h hK
   ·exact sO l h hK
def HH:∀(l:List Operand) {s:TS},Bz l K s=U r->(∀s,K s=U r->gK K' (eS s))->gK K' (eS s)
 |[],_,h,hK=>hK _ h
 |_::l,_,h,hK=>oY h fun _ h=>HH l h hK
def HI {v:V}(h:wc v K s=U r)(hK:∀ s,K s=U r->gK K' (eS s)):gK K' (eS s):=by
 unfold wc at h;split at h
 ·exact OI h hK
 ·exact hK _ h
def OQ {x:Operand}(h:BD x K s=U r)(hK:∀ s,K s=U r->gK K' (eS s)):gK K' (eS s):=by
 unfold BD at h;split at h
 ·rename_i t;split at h
  ·rename_i g d l hv;obtain⟨h1,h2⟩:=bj h;refine gh (FH t ?_);unfold u3;rw[i6,hv];refine⟨by simpa[Nat.blt_eq]using h1,?_⟩;have:=nt (s:=dk s t .u) t (.arr t g d l) rfl;simp only[eO]at this;rw[show(SV.u)=e .u from rfl,fJ,this,show(SV.ar t)=e (.ar t)from rfl,fJ];exact hK _ h2
  ·rename_i g hv;obtain⟨h1,h2⟩:=bj h;refine gh (FH t ?_);unfold u3;rw[i6,hv];refine⟨by simpa[Nat.blt_eq]using h1,?_⟩;have:=nt (s:=dk s t .u) t (.arr t g ae []) rfl;simp only[eO,List.map_nil]at this;rw[show(SV.u)=e .u from rfl,fJ,this,show(SV.ar t)=e (.ar t)from rfl,fJ];exact hK _ h2
  ·exact hK _ h
 ·exact hK _ h
def OR {T:Nat->TI}{gz:List Nat}{o:Oper}(h:sJ T gz o K s=U r)(hK:∀ s,K s=U r->gK K' (eS s)):gK K' (eS s):=by
 unfold sJ at h;split at h
 ·split at h
  ·exact BJ _ h fun s h=>HH _ h hK
  ·exact BJ _ h hK
 ·split at h
  ·exact HI h hK
  ·exact hK _ h
 ·split at h
  ·exact wj h fun s h=>oY h hK
  split at h
  ·exact HI h hK
  ·split at h
   ·exact wj h fun s h=>oY h hK
   ·split at h
    ·exact wj h hK
    ·exact hK _ h
 ·split at h
  ·exact oY h hK
  ·exact hK _ h
 ·split at h
  ·exact oY h hK
  ·exact hK _ h
 ·split at h
  ·exact OQ h hK
  ·exact hK _ h
 ·split at h
  ·exact oY h hK
  ·exact hK _ h
 ·split at h
  ·exact oY h hK
  ·exact hK _ h
 ·split at h
  ·split at h
   ·split at h
    ·split at h
     ·exact we h hK
     ·exact hK _ h
    ·exact hK _ h
   ·exact hK _ h
  ·have hf:∀{s},sJ.frzC gz o (by assumption) K s=U r->gK K' (eS s):=by
    intro s h;unfold sJ.frzC at h;split at h
    ·exact HF _ h hK
    ·exact hK _ h
   split at h
   ·exact sO _ h fun s h=>hf h
   ·exact hf h
  ·split at h
   ·split at h
    ·split at h
     ·exact OD h hK fun l _ _ _ _ hg=>Hv l hg (by simp only[eO,kS])
     ·exact hK _ h
    ·exact hK _ h
   ·exact hK _ h
  ·exact hK _ h
 ·exact hK _ h
def sP {N:Nat}{p:SPat}{K:p.Den->Option R}(h:km N p K s=U r)(hK:∀ x,K x=U r->K' (eS (eb N p x))):gK K' (eS s):=by
 obtain⟨h0,h1⟩:=bj h;refine sN _ h1 fun s1 h2=>HE _ h2 fun s2 h3=>?_
 obtain⟨hn,h3⟩:=bj h3;obtain⟨x,h4,h5⟩:=Ox h0 h3;have hn:=eq_of_beq hn;rw[hn]at h5;exact h5 _ (hK x h4)
end
end Go.TM
end
