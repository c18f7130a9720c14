/- Part 18 of the proof that the law FnRefs holds of every input; no condition. -/
import Derived.Test.YtdpapeledldifaaGreatX16
set_option autoImplicit true
set_option relaxedAutoImplicit true
set_option linter.all false
section
namespace Go.TM
open Go.AM
section
variable {R:Type}
def subV (o:Nat)(y:V):V→V
 |.ar n=>bif n==o then y else .ar n
 |x=>zMl o x
def subA (o:Nat)(y:V):List (Nat×V)→List (Nat×V)
 |[]=>[]
 |p::l=>(p.1,subV o y p.2)::subA o y l
def zHu (s:TS)(o:Nat)(K:TS→Option R):Option R:=match getT s.ob o with
 |some (.arr _ g _ l)=>K ⟨s.n,subA o (.sl g l) s.al,zJT o s.ob⟩
 |_=>none
def zIX (s:TS)(t o:Nat)(K:TS→Option R):Option R:=match getT s.ob o with
 |some (.arr _ g d l)=>K (setT (zIK o s) t (.own g d l))
 |_=>none
def zJn (t j:Nat)(K:TS→Option R)(s:TS):Option R:=match zBn s t with
 | .agg cs=>match lkV cs j with
   | .ar o=>match getT (zAv s (.tmp t)).ob o with
     |some (.arr _ g d l)=>K (setT (zIK o (zAv s (.tmp t))) t (.agg (updV (zDn o cs) j (.own g d l))))
     |_=>none
   |_=>K s
 |_=>K s
def zFc (t:Nat):Nat→Nat→(TS→Option R)→TS→Option R
 |0,_,K,s=>K s
 |n+1,j,K,s=>zJn t j (zFc t n (j+1) K) s
def zQo (ob off:Nat)(K:TS→Option R)(s:TS):Option R:=match getT s.ob ob with
 | some (.box _ cs)=>match lkV cs off with
   | .ar o=>match getT s.ob o with
     | some (.arr _ g d l)=>chkO (ble (off+1) cs.length) (match getT (zIK o s).ob ob with
       |some (.box _ cs1)=>chkO (ble (off+1) cs1.length) (K ⟨s.n,(zIK o s).al,zAg (zIK o s).ob ob (wrV cs1 off [.own g d l])⟩)
       |_=>none)
     |_=>none
   |_=>K s
 |_=>K s
def zIG:List TO→Nat→TO→List TO
 |[],_,_=>[]
 |x::l,o,y=>bif x.name==o then y::l else x::zIG l o y
def opnR (o i:Nat)(K:TS→Option R)(s:TS):Option R:=match getT s.ob o with
 |some (.arr n g d l)=>atO l i fun x=>K ⟨s.n,s.al,zIG s.ob o (.opn n g (.all d) l i (cells d g x))⟩
 |some (.spl n g l k)=>grdO (decide (k=i)) (atO l i fun x=>K ⟨s.n,s.al,zIG s.ob o (.opn n g .spl l i (cells false g x))⟩)
 |_=>K s
def arrT (o:Nat)(K:TS→Option R)(s:TS):Option R:=match getT s.ob o with
 |some (.spl n g l k)=>grdO (decide (k=l.length)) (K ⟨s.n,s.al,zIG s.ob o (.arr n g true l)⟩)
 |_=>K s
def splT (o:Nat)(K:TS→Option R)(s:TS):Option R:=match getT s.ob o with
 |some (.arr n g d l)=>chkO (!d) (K ⟨s.n,s.al,zIG s.ob o (.spl n g l 0)⟩)
 |_=>K s
def zUw (o off m:Nat)(K:TS→Option R)(s:TS):Option R:=match getT s.ob o with
 |some (.opn _ _ _ _ i _)=>openN o i off m K s
 |_=>K s
def zQn (o off:Nat)(K:TS→Option R)(s:TS):Option R:=match getT s.ob o with
 | some (.opn _ _ _ l j cs)=>(match lkV cs off with
   | .ar a=>(match getT s.ob a with
     | some (.arr _ g d r)=>chkO (ble (off+1) cs.length) (grdO (decide (j<l.length)) (match getT (zIK a s).ob o with
       |some (.opn _ _ _ l1 j1 cs1)=>chkO (ble (off+1) cs1.length) (grdO (decide (j=j1)&&decide (j1<l1.length)) (K ⟨s.n,(zIK a s).al,zAj (zIK a s).ob o (wrV cs1 off [.own g d r])⟩))
       |_=>none))
     |_=>none)
   |_=>K s)
 |_=>K s
def zJl (o off:Nat)(K:TS→Option R)(s:TS):Option R:=match getT s.ob o with
 | some (.opn _ _ _ _ _ cs)=>(match lkV cs off with
   |.ar a=>arrT a (zQn o off K) s
   |_=>K s)
 |_=>K s
def frzIT (o off:Nat)(K:TS→Option R)(s:TS):Option R:=match getT s.ob o with
 | some (.opn _ _ _ l j cs)=>(match lkV cs off with
   | .own g _ r=>chkO (ble (off+1) cs.length) (grdO (decide (j<l.length)) (match getT (zAj s.ob o (wrV cs off [.u])) o with
     |some (.opn _ _ _ l1 j1 cs1)=>chkO (ble (off+1) cs1.length) (grdO (decide (j=j1)&&decide (j1<l1.length)) (K ⟨s.n,s.al,zAj (zAj s.ob o (wrV cs off [.u])) o (wrV cs1 off [.sl g r])⟩))
     |_=>none))
   | .emp g=>chkO (ble (off+1) cs.length) (grdO (decide (j<l.length)) (match getT (zAj s.ob o (wrV cs off [.u])) o with
     |some (.opn _ _ _ l1 j1 cs1)=>chkO (ble (off+1) cs1.length) (grdO (decide (j=j1)&&decide (j1<l1.length)) (K ⟨s.n,s.al,zAj (zAj s.ob o (wrV cs off [.u])) o (wrV cs1 off [.sl g []])⟩))
     |_=>none))
   |_=>K s)
 |_=>K s
def zNC (o:Nat):Nat→Nat→(TS→Option R)→TS→Option R
 |0,_,K,s=>K s
 |n+1,j,K,s=>zJl o j (zNC o n (j+1) K) s
def zVm (o:Nat):Nat→Nat→(TS→Option R)→TS→Option R
 |0,_,K,s=>K s
 |n+1,j,K,s=>frzIT o j (zVm o n (j+1) K) s
def finNT (o:Nat)(K:TS→Option R)(s:TS):Option R:=match getT s.ob o with
 | some (.opn n g d l j cs)=>grdO (decide (j<l.length)) (match d with
   | .all d=>rdC false d g cs fun z rest=>(match rest with
     |[]=>K ⟨s.n,s.al,zIG s.ob o (.arr n g d (l.set j z))⟩
     |_::_=>none)
   | .spl=>rdC false true g cs fun z rest=>(match rest with
     |[]=>K ⟨s.n,s.al,zIG s.ob o (.spl n g (l.set j z) (j+1))⟩
     |_::_=>none))
 |_=>K s
def zNB (o:Nat)(K:TS→Option R)(s:TS):Option R:=match getT s.ob o with
 | some (.opn _ _ d _ _ cs)=>zNC o cs.length 0 (match d.b with
   |true=>finNT o K
   |false=>zVm o cs.length 0 (finNT o K)) s
 |_=>K s
def zNA (o:Nat)(K:TS→Option R)(s:TS):Option R:=zNB o (arrT o K) s
def zGz (ob off:Nat)(K:TS→Option R)(s:TS):Option R:=match getT s.ob ob with
 | some (.box _ cs)=>(match lkV cs off with
   |.ar a=>zNA a (zQo ob off K) s
   |_=>K s)
 |_=>K s
def frzBT (o off:Nat)(K:TS→Option R)(s:TS):Option R:=match getT s.ob o with
 | some (.box _ cs)=>(match lkV cs off with
   | .own g _ r=>chkO (ble (off+1) cs.length) (match getT (zAg s.ob o (wrV cs off [.u])) o with
     |some (.box _ cs1)=>chkO (ble (off+1) cs1.length) (K ⟨s.n,s.al,zAg (zAg s.ob o (wrV cs off [.u])) o (wrV cs1 off [.sl g r])⟩)
     |_=>none)
   | .emp g=>chkO (ble (off+1) cs.length) (match getT (zAg s.ob o (wrV cs off [.u])) o with
     |some (.box _ cs1)=>chkO (ble (off+1) cs1.length) (K ⟨s.n,s.al,zAg (zAg s.ob o (wrV cs off [.u])) o (wrV cs1 off [.sl g []])⟩)
     |_=>none)
   |_=>K s)
 |_=>K s
def ownP:Pat→Bool
 |.own _ _=>true
 |.agg p=>ownP p
 |.cons p q=>ownP p||ownP q
 |_=>false
def prepV (t:Nat)(p:Pat)(K:TS→Option R)(s:TS):Option R:=match p with
 | .own _ _=>(match zBn s t with
   |.ar o=>zIX s t o K
   |_=>K s)
 | .sl _=>(match zBn s t with
   |.own _ _ _=>K (zMr s (.tmp t))
   |.emp _=>K (zMr s (.tmp t))
   |.ar o=>zHu s o K
   |_=>K s)
 | .agg q=>(match zBn s t with
   | .agg cs=>zFc t cs.length 0 (fun s=>match ownP q with
     |true=>K s
     |false=>K (zMr s (.tmp t))) s
   |_=>K s)
 |_=>K s
def zOV:List (Nat×Pat)→(TS→Option R)→TS→Option R
 |[],K,s=>K s
 |p::l,K,s=>prepV p.1 p.2 (zOV l K) s
def zTH (o:Nat):Pat→Nat→(TS→Option R)→TS→Option R
 | .cons p q,j,K,s=>(match p with
   |.own _ _=>zGz o j (zTH o q (j+1) K) s
   |.sl _=>zGz o j (frzBT o j (zTH o q (j+1) K)) s
   |_=>zTH o q (j+1) K s)
 |_,_,K,s=>K s
def zQK (o:Nat):Pat→Nat→(TS→Option R)→TS→Option R
 | .cons p q,j,K,s=>(match p with
   |.own _ _=>zJl o j (zQK o q (j+1) K) s
   |.sl _=>zJl o j (frzIT o j (zQK o q (j+1) K)) s
   |.ar m=>zUw o j m (zQK o q (j+1) K) s
   |_=>zQK o q (j+1) K s)
 |_,_,K,s=>K s
def zII:List OPat→(TS→Option R)→TS→Option R
 |[],K,s=>K s
 | o::l,K,s=>(match o with
   |.box n p=>zTH n p 0 (zII l K) s
   |.arr n _ _=>zNA n (zII l K) s
   |.opn n _ _ p=>zQK n p 0 (zII l K) s
   |.spl n _=>zNB n (splT n (zII l K)) s)
def zID (N:Nat)(p:SPat)(K:p.Den→Option R)(s:TS):Option R:=chkO (okA p.al) (zII p.ob (zOV p.al fun s=>chkO (s.n==N) (decS p s K)) s)
def zKf (x:Operand)(K:TS→Option R)(s:TS):Option R:=match x with
 | .tmp t=>(match zBn s t with
   |.ar o=>zIX s t o K
   |.agg cs=>zFc t cs.length 0 K s
   |_=>K s)
 |_=>K s
def zQm:List Operand→(TS→Option R)→TS→Option R
 |[],K,s=>K s
 |x::l,K,s=>zKf x (zQm l K) s
def frzX (x:Operand)(K:TS→Option R)(s:TS):Option R:=match x with
 | .tmp t=>(match zBn s t with
   |.ar o=>zHu s o K
   |_=>K (zMr s x))
 |_=>K s
def isArr (d:Bool)(s:TS)(a:V):Bool:=match a with
 | .p o _ _=>(match getT s.ob o with
   |some (.arr _ _ d' _)=>d==d'
   |_=>false)
 |_=>false
def zJZ (t:Nat):Nat→Nat→(TS→Option R)→TS→Option R
 |0,_,K,s=>K s
 | n+1,j,K,s=>(match zBn s t with
   | .agg cs=>(match lkV cs j with
     |.ar o=>zHu s o (zJZ t n (j+1) K)
     |_=>zJZ t n (j+1) K s)
   |_=>K s)
def zVo (x:Operand)(K:TS→Option R)(s:TS):Option R:=match x with
 | .tmp t=>(match zBn s t with
   |.agg cs=>zJZ t cs.length 0 K s
   |_=>K s)
 |_=>K s
def zQf:List Operand→(TS→Option R)→TS→Option R
 |[],K,s=>K s
 |x::l,K,s=>zVo x (zQf l K) s
def zQp (o:Nat):Nat→Nat→(TS→Option R)→TS→Option R
 |0,_,K,s=>K s
 |n+1,j,K,s=>zGz o j (zQp o n (j+1) K) s
def zGG:List TO→(TS→Option R)→TS→Option R
 |[],K,s=>K s
 | x::l,K,s=>(match x with
   |.box n cs=>zQp n cs.length 0 (zGG l K) s
   |.arr _ _ _ _=>zGG l K s
   |.opn n _ _ _ _ _=>zNA n (zGG l K) s
   |.spl _ _ _ _=>zGG l K s)
def opnV (v:V)(K:TS→Option R)(s:TS):Option R:=match v with
 |.p o i _=>opnR o i K s
 |_=>K s
def zUn (T:Nat→TI)(gz:List Nat)(o:Oper)(K:TS→Option R)(s:TS):Option R:=match o.op with
 |.buildSlice _ _ ps=>zQm (opnds ps) K s
 | .load t a=>(match zMn (T t).kind with
   |true=>opnV (evT s a) K s
   |false=>K s)
 | .store _ a x=>(match gz.contains 6000000 with
   |true=>zKf x (frzX x K) s
   | false=>(match gz.contains 5000000 with
     |true=>opnV (evT s a) K s
     | false=>(match isArr false s (evT s a)with
       |true=>zKf x (frzX x K) s
       | false=>(match isArr true s (evT s a)with
         |true=>zKf x K s
         |false=>K s))))
 | .convert _ d x=>(match(T d).kind with
   |.str=>frzX x K s
   |_=>K s)
 | .slice _ x _ _ _=>(match gz.contains (zDP o.dst)with
   |true=>frzX x K s
   |false=>K s)
 | .call c=>(match c.callee with
   | .builtin .append=>(match c.args.toList with
     | [_,y]=>(match y with
       | .tmp t=>(match zBn s t with
         |.ar o=>zHu s o K
         |_=>K s)
       |_=>K s)
     |_=>K s)
   | .value _=>(match gz.contains (1000000+zDP o.dst)with
     |true=>zGG s.ob (frzC gz o c K) s
     |false=>frzC gz o c K s)
   |_=>K s)
 |_=>K s
where frzC (gz:List Nat) (o:Oper) (c:Call) (K:TS→Option R) (s:TS):Option R:=match gz.contains (zDP o.dst)with
 |true=>zQf c.args.toList K s
 |false=>K s
variable {r:R}{s:TS}{K:TS→Option R}{K':St→Prop}
theorem subV_e (o:Nat)(y v:V):AM.subV o (e y) (e v)=e (subV o y v):=by
 cases v with
 | ar n =>
   simp only[e,AM.subV,subV]
   by_cases h:n=o
   ·simp[h]
   ·have:(n==o)=false:=by simpa using h
    simp[h,this,e]
 |_=>first|rfl|(simp only[subV,←zVU];rfl)
theorem zUR (o:Nat)(y:V):∀al:List (Nat×V),zKH o (e y) (eA al)=eA (subA o y al)
 |[]=>rfl
 |p::l=>by simp only[eA,zKH,subA,subV_e,zUR o y l]
theorem zDp {o:Nat}(h:zHu s o K=some r)(hK:∀ s,K s=some r→gK K' (eS s)):gK K' (eS s):=by
 unfold zHu at h
 split at h
 ·rename_i n g d l hg
  refine zBL (zSR o ?_)
  unfold zVn
  rw[zBO hg]
  refine⟨rfl,?_⟩
  simp only[zBv]
  have:=hK _ h
  simp only[eS]at this ⊢
  rw[zOC,show SV.sl g.sz (l.map (encC false g))=e (.sl g l)from rfl,zUR,zFa]
  exact this
 ·cases h
theorem zFl {t o:Nat}(hv:zBn s t = .ar o)(h:zIX s t o K=some r)(hK:∀ s,K s=some r→gK K' (eS s)):gK K' (eS s):=by
 unfold zIX at h
 split at h
 ·rename_i n g d l hg
  refine zBL (zTQ t ?_)
  unfold zNF
  rw[zCe,hv]
  simp only[e]
  rw[zBO hg]
  refine⟨rfl,?_⟩
  rw[zFZ,show SV.own g.sz (l.map (encC d g))=e (.own g d l)from rfl,zCk]
  exact hK _ h
 ·cases h
theorem zGp {t:Nat}(h:gK K' (eS (zMr s (.tmp t)))):gK K' (eS s):=by
 refine zBL (gK_frz t ?_)
 rw[zVk]
 exact h
theorem zJm {t j:Nat}(h:zJn t j K s=some r)(hK:∀ s,K s=some r→gK K' (eS s)):gK K' (eS s):=by
 unfold zJn at h
 split at h
 ·rename_i cs hv
  split at h
  ·rename_i o ho
   split at h
   ·rename_i n g d l hg
    refine zBL (zQc (t:=t) (j:=j) ?_)
    unfold zNG
    rw[zCe,hv]
    simp only[e]
    rw[←zGs,ho]
    simp only[e]
    rw[zCa,zBO hg]
    simp only
    rw[zEd,zFZ,show SV.own g.sz (l.map (encC d g))=e (.own g d l)from rfl,←zQk,show SV.agg (eL (updV (zDn o cs) j (.own g d l)))=e (.agg (updV (zDn o cs) j (.own g d l)))from rfl,zCk]
    exact hK _ h
   ·cases h
  ·exact hK _ h
 ·exact hK _ h
theorem zCx {t:Nat}:∀(n j:Nat) {s:TS},zFc t n j K s=some r→(∀s,K s=some r→gK K' (eS s))→gK K' (eS s)
 |0,j,s,h,hK=>hK _ h
 |n+1,j,s,h,hK=>zJm h fun s h=>zCx n (j+1) h hK
theorem zNE {ob off:Nat}(h:zQo ob off K s=some r)(hK:∀ s,K s=some r→gK K' (eS s)):gK K' (eS s):=by
 unfold zQo at h
 split at h
 ·rename_i n cs hg
  split at h
  ·rename_i o ho
   split at h
   ·rename_i m g d l hg2
    obtain⟨h1,h2⟩:=zAD h
    split at h2
    ·rename_i n1 cs1 hg3
     obtain⟨h3,h4⟩:=zAD h2
     refine zBL (zVe (ob:=ob) (off:=off) ?_)
     unfold zSf
     rw[zBN hg]
     simp only[List.getElem?_cons_zero]
     rw[←zGs,ho]
     simp only[e]
     rw[zBO hg2]
     refine zAQ (by simp only[zAO,h1];rfl) ?_
     rw[zFZ,zBN hg3]
     simp only[List.getElem?_cons_zero]
     refine zAQ (by simp only[zAO,h3];rfl) ?_
     have hw:wr (eL cs1) off [SV.own g.sz (l.map (encC d g))]=eL (wrV cs1 off [.own g d l]):=by rw[zCr];rfl
     rw[hw,zBh hg3 (zCY _ _ _ (by simpa using zBS h3))]
     exact hK _ h4
    ·cases h2
   ·cases h
  ·exact hK _ h
 ·exact hK _ h
theorem zCK (g:GT)(d:Bool):∀l:List g.Den,zBE (l.map (encC d g))=true
 |[]=>rfl
 |x::l=>by simp only[List.map_cons,zBE,zED g d x,zCK g d l,Bool.and_self]
theorem zGZ {o:Nat}{y:TO}{b:Bool}:∀(l:List TO) {x:TO},getT l o=some x→eO y={eO x with nm:=b}→eOs (zIG l o y)=zOM (eOs l) o b
 |[],_,h,_=>by cases h
 | z::l,x,h,he=>by
   simp only[getT]at h
   simp only[zIG,eOs,zOM,zEk]
   by_cases hx:z.name=o
   ·have h':(z.name==o)=true:=by simpa using hx
    rw[h',cond_true]at h
    simp only[zSe]at h
    subst h
    rw[h',cond_true,if_pos hx]
    show eO y::eOs l=_
    rw[he]
    simp only[zEk]
   ·have h':(z.name==o)=false:=by simpa using hx
    rw[h',cond_false]at h
    simp only[h',cond_false,hx,if_false,eOs,zGZ l h he]
theorem zRo {α:Type}{l:List α}{i:Nat}{x:α}(h:l[i]? = some x):l.set i x=l:=by
 apply List.ext_getElem?
 intro j
 by_cases hj:i=j
 ·subst hj
  have hlt:=zCG h
  rw[List.getElem?_set_self hlt,h]
 ·rw[List.getElem?_set_ne hj]
theorem zGf:∀a b:List (List SV),zBE (a++b)=(zBE a&&zBE b)
 |[],_=>rfl
 |x::a,b=>by simp only[List.cons_append,zBE,zGf a b,Bool.and_assoc]
theorem zFh (d:DM)(g:GT)(i:Nat)(l:List g.Den):zBE (encM d g i l)=true:=by
 cases d
 ·exact zCK g _ l
 ·simp only[encM,zGf,zCK,Bool.and_self]
theorem zMM {o:Nat}{y:TO}:∀(l:List TO) {x:TO},getT l o=some x→eO y=eO x→eOs (zIG l o y)=eOs l
 |[],_,h,_=>by cases h
 | z::l,x,h,he=>by
   simp only[getT]at h
   simp only[zIG,eOs]
   cases hz:z.name==o with
   | true =>
     rw[hz,cond_true]at h
     simp only[zSe]at h
     subst h
     simp only[cond_true,eOs,he]
   | false =>
     rw[hz,cond_false]at h
     simp only[cond_false,eOs,zMM l h he]
theorem zKk {o:Nat}(h:arrT o K s=some r)(hK:∀ s,K s=some r→gK K' (eS s)):gK K' (eS s):=by
 unfold arrT at h
 split at h
 ·rename_i n g l k hg
  obtain⟨h1,h2⟩:=zAM h
  simp only[zDe]at h1
  subst h1
  have:=hK _ h2
  simp only[eS]at this ⊢
  rw[zMM s.ob hg]at this
  ·exact this
  ·simp only[eO,encM,List.take_length,List.drop_length,List.map_nil,List.append_nil]
 ·exact hK _ h
theorem zTC {o:Nat}(h:splT o K s=some r)(hK:∀ s,K s=some r→gK K' (eS s)):gK K' (eS s):=by
 unfold splT at h
 split at h
 ·rename_i n g d l hg
  obtain⟨h1,h2⟩:=zAD h
  have h1:d=false:=by simpa using h1
  subst h1
  have:=hK _ h2
  simp only[eS]at this ⊢
  rw[zMM s.ob hg]at this
  ·exact this
  ·simp only[eO,encM,List.take_zero,List.drop_zero,List.map_nil,List.nil_append]
 ·exact hK _ h
theorem zOb {o off m:Nat}(h:zUw o off m K s=some r)(hK:∀ s,K s=some r→gK K' (eS s)):gK K' (eS s):=by
 unfold zUw at h
 split at h
 ·exact zBL (zSQ (K:=fun st=>gK K' st) (zJP h hK))
 ·exact hK _ h
theorem zTI {o i:Nat}(h:opnR o i K s=some r)(hK:∀ s,K s=some r→gK K' (eS s)):gK K' (eS s):=by
 unfold opnR at h
 split at h
 ·rename_i n g d l hg
  obtain⟨x,hx,h1⟩:=zEo h
  refine zBL (gK_nm o true ?_ ?_)
  ·intro y hy
   rw[zBO hg]at hy
   simp only[zSe]at hy
   rw[←hy]
   exact zCK g d l
  ·have:=hK _ h1
   simp only[eS]at this ⊢
   rw[zGZ (b:=true) s.ob hg]at this
   ·exact this
   ·simp only[eO,zDr]
    simp only[encM]
    rw[zRo]
    rw[List.getElem?_map,hx];rfl
 ·rename_i n g l k hg
  obtain⟨h0,h1⟩:=zAM h
  simp only[zDe]at h0
  subst h0
  obtain⟨x,hx,h1⟩:=zEo h1
  refine zBL (gK_nm o true ?_ ?_)
  ·intro y hy
   rw[zGo hg]at hy
   simp only[zSe]at hy
   rw[←hy]
   exact zFh .spl g k l
  ·have:=hK _ h1
   simp only[eS]at this ⊢
   rw[zGZ (b:=true) s.ob hg]at this
   ·exact this
   ·simp only[eO,zDr]
    rw[zRo]
    exact zSY (Nat.le_refl _) hx
 ·exact hK _ h
theorem zND {o off:Nat}(h:zQn o off K s=some r)(hK:∀ s,K s=some r→gK K' (eS s)):gK K' (eS s):=by
 unfold zQn at h
 split at h
 ·rename_i n g0 d0 l j cs hg
  split at h
  ·rename_i a ha
   split at h
   ·rename_i m g d rr hg2
    obtain⟨h1,h2⟩:=zAD h
    obtain⟨hlt,h2⟩:=zAM h2
    simp only[zDe]at hlt
    split at h2
    ·rename_i n1 g1 d1 l1 j1 cs1 hg3
     obtain⟨h3,h4⟩:=zAD h2
     obtain⟨h5,h4'⟩:=zAM h4
     simp only[zBa,zDe]at h5
     obtain⟨h5,h6⟩:=h5
     subst h5
     refine zBL (zVd (ob:=o) (i:=j) (off:=off) ?_)
     unfold zVw
     rw[zBF hg]
     simp only[zDv hlt]
     rw[←zGs,ha]
     simp only[e]
     rw[zBO hg2]
     refine zAQ (by simp only[zAO,h1];rfl) ?_
     rw[zFZ,zBF hg3]
     simp only[zDv h6]
     refine zAQ (by simp only[zAO,h3];rfl) ?_
     have hw:wr (eL cs1) off [SV.own g.sz (rr.map (encC d g))]=eL (wrV cs1 off [.own g d rr]):=by rw[zCr];rfl
     rw[hw,zCF hg3]
     exact hK _ h4'
    ·cases h2
   ·cases h
  ·exact hK _ h
 ·exact hK _ h
theorem zEm {o off:Nat}(h:zJl o off K s=some r)(hK:∀ s,K s=some r→gK K' (eS s)):gK K' (eS s):=by
 unfold zJl at h
 split at h
 ·split at h
  ·exact zKk h fun s h=>zND h hK
  ·exact hK _ h
 ·exact hK _ h
theorem zOz {o off n:Nat}{g0:GT}{d0:DM}{l:List g0.Den}{j:Nat}{cs:List V}{g:GT}{d:Bool}{rr:List g.Den}{v:V}(hg:getT s.ob o=some (.opn n g0 d0 l j cs))(ha:lkV cs off=v)(hev:e v = .own g.sz (rr.map (encC d g)))
  (h:chkO (ble (off+1) cs.length) (grdO (decide (j<l.length)) (match getT (zAj s.ob o (wrV cs off [.u])) o with
   |some (.opn _ _ _ l1 j1 cs1)=>chkO (ble (off+1) cs1.length) (grdO (decide (j=j1)&&decide (j1<l1.length)) (K ⟨s.n,s.al,zAj (zAj s.ob o (wrV cs off [.u])) o (wrV cs1 off [.sl g rr])⟩))
   |_=>none))=some r) (hK:∀s,K s=some r→gK K' (eS s)):gK K' (eS s):=by
 obtain⟨h1,h2⟩:=zAD h
 obtain⟨hlt,h2⟩:=zAM h2
 simp only[zDe]at hlt
 split at h2
 ·rename_i n1 g1 d1 l1 j1 cs1 hg3
  obtain⟨h3,h4⟩:=zAD h2
  obtain⟨h5,h4'⟩:=zAM h4
  simp only[zBa,zDe]at h5
  obtain⟨h5,h6⟩:=h5
  subst h5
  refine zBL (zVc (ob:=o) (i:=j) (off:=off) ?_)
  unfold frzI
  rw[zBF hg]
  simp only[zDv hlt]
  rw[←zGs,ha,hev]
  simp only
  refine zAQ (by simp only[zAO,h1];rfl) ?_
  have hw:wr (eL cs) off [SV.u]=eL (wrV cs off [.u]):=by rw[zCr];rfl
  rw[hw,zCF hg]
  have hg3':getT (⟨s.n,s.al,zAj s.ob o (wrV cs off [.u])⟩:TS).ob o=some (.opn n1 g1 d1 l1 j cs1):=hg3
  rw[zBF hg3']
  simp only[zDv h6]
  refine zAQ (by simp only[zAO,h3];rfl) ?_
  have hw1:wr (eL cs1) off [SV.sl g.sz (zBb (rr.map (encC d g)))]=eL (wrV cs1 off [.sl g rr]):=by rw[zCr,zBv];rfl
  rw[hw1,zCF hg3']
  exact hK _ h4'
 ·cases h2
theorem zJY {o off:Nat}(h:frzIT o off K s=some r)(hK:∀ s,K s=some r→gK K' (eS s)):gK K' (eS s):=by
 unfold frzIT at h
 split at h
 ·rename_i n g0 d0 l j cs hg
  split at h
  ·rename_i g d rr ha
   exact zOz hg ha rfl h hK
  ·rename_i g ha
   exact zOz (rr:=[]) (d:=true) hg ha rfl h hK
  ·exact hK _ h
 ·exact hK _ h
theorem zFk {o:Nat}:∀(n j:Nat) {s:TS} {K:TS→Option R},zNC o n j K s=some r→(∀s,K s=some r→gK K' (eS s))→gK K' (eS s)
 |0,j,s,K,h,hK=>hK _ h
 |n+1,j,s,K,h,hK=>zEm h fun s h=>zFk n (j+1) h hK
theorem zHt {o:Nat}:∀(n j:Nat) {s:TS} {K:TS→Option R},zVm o n j K s=some r→(∀s,K s=some r→gK K' (eS s))→gK K' (eS s)
 |0,j,s,K,h,hK=>hK _ h
 |n+1,j,s,K,h,hK=>zJY h fun s h=>zHt n (j+1) h hK
theorem zVt {o n:Nat}{g:GT}{d:Bool}{l:List g.Den}{j:Nat}{cs:List V}(hg:getT s.ob o=some (.opn n g (.all d) l j cs)){z:g.Den}(h5:eL cs=encC d g z)(h:gK K' (eS ⟨s.n,s.al,zIG s.ob o (.arr n g d (l.set j z))⟩)):gK K' (eS s):=by
 have hrows:(l.map (encC d g)).set j (eL cs)=(l.set j z).map (encC d g):=by rw[h5,List.map_set]
 refine zBL (gK_nm o false ?_ ?_)
 ·intro y hy
  rw[zBF hg]at hy
  simp only[zSe]at hy
  rw[←hy]
  simp only[encM,hrows]
  exact zCK g d _
 ·simp only[eS]at h ⊢
  rw[zGZ (b:=false) s.ob hg]at h
  ·exact h
  ·simp only[eO,encM,hrows]
theorem encM_set {g:GT}{l:List g.Den}{j:Nat}{z:g.Den}(h:j<l.length):(encM .spl g j l).set j (encC true g z)=encM .spl g (j+1) (l.set j z):=by
 simp only[encM]
 rw[List.set_append_right _ _ (by simp only[List.length_map,List.length_take];omega),List.take_succ,List.take_set_of_le (Nat.le_refl _),List.getElem?_set_self h,List.drop_set_of_lt (Nat.lt_succ_self _),List.drop_eq_getElem_cons h]
 have:j-((l.take j).map (encC true g)).length=0:=by simp only[List.length_map,List.length_take];omega
 rw[this]
 simp only[List.map_cons,List.set_cons_zero,Option.toList_some,List.map_append,List.map_nil,List.append_assoc,List.cons_append,List.nil_append]
theorem zJd {o:Nat}(h:finNT o K s=some r)(hK:∀ s,K s=some r→gK K' (eS s)):gK K' (eS s):=by
 unfold finNT at h
 split at h
 ·rename_i n g d l j cs hg
  obtain⟨hlt,h2⟩:=zAM h
  simp only[zDe]at hlt
  cases d with
  | all d =>
    obtain⟨z,rest,h4,h5⟩:=zJI g _ _ h2
    cases rest with
    |cons a b=>cases h4
    | nil =>
      simp only[eL,List.append_nil]at h5
      exact zVt hg h5 (hK _ h4)
  | spl =>
    obtain⟨z,rest,h4,h5⟩:=zJI g _ _ h2
    cases rest with
    |cons a b=>cases h4
    | nil =>
      simp only[eL,List.append_nil]at h5
      have hrows:(encM .spl g j l).set j (eL cs)=encM .spl g (j+1) (l.set j z):=by rw[h5,encM_set hlt]
      refine zBL (gK_nm o false ?_ ?_)
      ·intro y hy
       rw[zBF hg]at hy
       simp only[zSe]at hy
       rw[←hy]
       simp only[hrows]
       exact zFh _ g _ _
      ·have:=hK _ h4
       simp only[eS]at this ⊢
       rw[zGZ (b:=false) s.ob hg]at this
       ·exact this
       ·simp only[eO,hrows]
 ·exact hK _ h
theorem zGy {o:Nat}(h:zNB o K s=some r)(hK:∀ s,K s=some r→gK K' (eS s)):gK K' (eS s):=by
 unfold zNB at h
 split at h
 ·rename_i n g d l j cs hg
  refine zFk _ _ h fun s h=>?_
  cases hd:d.b with
  |true=>rw[hd]at h;exact zJd h hK
  |false=>rw[hd]at h;exact zHt _ _ h fun s h=>zJd h hK
 ·exact hK _ h
theorem zEl {o:Nat}(h:zNA o K s=some r)(hK:∀ s,K s=some r→gK K' (eS s)):gK K' (eS s) :=
 zGy h fun s h=>zKk h hK
theorem zDx {ob off:Nat}(h:zGz ob off K s=some r)(hK:∀ s,K s=some r→gK K' (eS s)):gK K' (eS s):=by
 unfold zGz at h
 split at h
 ·split at h
  ·exact zEl h fun s h=>zNE h hK
  ·exact hK _ h
 ·exact hK _ h
theorem zPA {o off n:Nat}{cs:List V}{g:GT}{d:Bool}{rr:List g.Den}{v:V}(hg:getT s.ob o=some (.box n cs))(ha:lkV cs off=v)(hev:e v = .own g.sz (rr.map (encC d g)))
  (h:chkO (ble (off+1) cs.length) (match getT (zAg s.ob o (wrV cs off [.u])) o with
   |some (.box _ cs1)=>chkO (ble (off+1) cs1.length) (K ⟨s.n,s.al,zAg (zAg s.ob o (wrV cs off [.u])) o (wrV cs1 off [.sl g rr])⟩)
   |_=>none)=some r) (hK:∀s,K s=some r→gK K' (eS s)):gK K' (eS s):=by
 obtain⟨h1,h2⟩:=zAD h
 split at h2
 ·rename_i n1 cs1 hg3
  obtain⟨h3,h4⟩:=zAD h2
  refine zBL (zVc (ob:=o) (i:=0) (off:=off) ?_)
  unfold frzI
  rw[zBN hg]
  simp only[List.getElem?_cons_zero]
  rw[←zGs,ha,hev]
  simp only
  refine zAQ (by simp only[zAO,h1];rfl) ?_
  have hw:wr (eL cs) off [SV.u]=eL (wrV cs off [.u]):=by rw[zCr];rfl
  rw[hw,zBh hg (zCY _ _ _ (by simpa using zBS h1))]
  have hg3':getT (⟨s.n,s.al,zAg s.ob o (wrV cs off [.u])⟩:TS).ob o=some (.box n1 cs1):=hg3
  rw[zBN hg3']
  simp only[List.getElem?_cons_zero]
  refine zAQ (by simp only[zAO,h3];rfl) ?_
  have hw1:wr (eL cs1) off [SV.sl g.sz (zBb (rr.map (encC d g)))]=eL (wrV cs1 off [.sl g rr]):=by rw[zCr,zBv];rfl
  rw[hw1,zBh hg3' (zCY _ _ _ (by simpa using zBS h3))]
  exact hK _ h4
 ·cases h2
theorem zQe {o off:Nat}(h:frzBT o off K s=some r)(hK:∀ s,K s=some r→gK K' (eS s)):gK K' (eS s):=by
 unfold frzBT at h
 split at h
 ·rename_i n cs hg
  split at h
  ·rename_i g d rr ha
   exact zPA hg ha rfl h hK
  ·rename_i g ha
   exact zPA (rr:=[]) (d:=true) hg ha rfl h hK
  ·exact hK _ h
 ·exact hK _ h
theorem zQJ {t:Nat}{p:Pat}(h:prepV t p K s=some r)(hK:∀ s,K s=some r→gK K' (eS s)):gK K' (eS s):=by
 unfold prepV at h
 split at h
 ·split at h
  ·rename_i hv;exact zFl hv h hK
  ·exact hK _ h
 ·split at h
  ·exact zGp (hK _ h)
  ·exact zGp (hK _ h)
  ·exact zDp h hK
  ·exact hK _ h
 ·split at h
  ·refine zCx _ _ h fun s h=>?_
   split at h
   ·exact hK _ h
   ·exact zGp (hK _ h)
  ·exact hK _ h
 ·exact hK _ h
theorem zJK:∀(l:List (Nat×Pat)) {s:TS},zOV l K s=some r→(∀s,K s=some r→gK K' (eS s))→gK K' (eS s)
 |[],s,h,hK=>hK _ h
 |p::l,s,h,hK=>zQJ h fun s h=>zJK l h hK
theorem zEa {o:Nat}:∀(p:Pat) (j:Nat) {s:TS} {K:TS→Option R},zTH o p j K s=some r→(∀s,K s=some r→gK K' (eS s))→gK K' (eS s)
 | .cons p q,j,s,K,h,hK=>by
   unfold zTH at h
   split at h
   ·exact zDx h fun s h=>zEa q (j+1) h hK
   ·exact zDx h fun s h=>zQe h fun s h=>zEa q (j+1) h hK
   ·exact zEa q (j+1) h hK
 |.i _,_,_,_,h,hK|.b,_,_,_,h,hK|.s,_,_,_,h,hK|.sl _,_,_,_,h,hK|.own _ _,_,_,_,h,hK|.ptr _ _,_,_,_,h,hK|.ptrI _ _,_,_,_,h,hK
 |.ar _,_,_,_,h,hK|.nilp,_,_,_,h,hK|.u,_,_,_,h,hK|.nil,_,_,_,h,hK|.sc _,_,_,_,h,hK|.agg _,_,_,_,h,hK|.tup _,_,_,_,h,hK|.fn _ _,_,_,_,h,hK|.ro _,_,_,_,h,hK|.nop,_,_,_,h,hK=>hK _ h
theorem zDS {o:Nat}:∀(p:Pat) (j:Nat) {s:TS} {K:TS→Option R},zQK o p j K s=some r→(∀s,K s=some r→gK K' (eS s))→gK K' (eS s)
 | .cons p q,j,s,K,h,hK=>by
   unfold zQK at h
   split at h
   ·exact zEm h fun s h=>zDS q (j+1) h hK
   ·exact zEm h fun s h=>zJY h fun s h=>zDS q (j+1) h hK
   ·exact zOb h fun s h=>zDS q (j+1) h hK
   ·exact zDS q (j+1) h hK
 |.i _,_,_,_,h,hK|.b,_,_,_,h,hK|.s,_,_,_,h,hK|.sl _,_,_,_,h,hK|.own _ _,_,_,_,h,hK|.ptr _ _,_,_,_,h,hK|.ptrI _ _,_,_,_,h,hK
 |.ar _,_,_,_,h,hK|.nilp,_,_,_,h,hK|.u,_,_,_,h,hK|.nil,_,_,_,h,hK|.sc _,_,_,_,h,hK|.agg _,_,_,_,h,hK|.tup _,_,_,_,h,hK|.fn _ _,_,_,_,h,hK|.ro _,_,_,_,h,hK|.nop,_,_,_,h,hK=>hK _ h
theorem zDR:∀(l:List OPat) {s:TS},zII l K s=some r→(∀s,K s=some r→gK K' (eS s))→gK K' (eS s)
 |[],s,h,hK=>hK _ h
 | o::l,s,h,hK=>by
   unfold zII at h
   split at h
   ·exact zEa _ _ h fun s h=>zDR l h hK
   ·exact zEl h fun s h=>zDR l h hK
   ·exact zDS _ _ h fun s h=>zDR l h hK
   ·exact zGy h fun s h=>zTC h fun s h=>zDR l h hK
theorem zDs {x:Operand}(h:zKf x K s=some r)(hK:∀ s,K s=some r→gK K' (eS s)):gK K' (eS s):=by
 unfold zKf at h
 split at h
 ·split at h
  ·rename_i hv;exact zFl hv h hK
  ·exact zCx _ _ h hK
  ·exact hK _ h
 ·exact hK _ h
theorem zGx:∀(l:List Operand) {s:TS},zQm l K s=some r→(∀s,K s=some r→gK K' (eS s))→gK K' (eS s)
 |[],s,h,hK=>hK _ h
 |x::l,s,h,hK=>zDs h fun s h=>zGx l h hK
theorem zFb {x:Operand}(h:frzX x K s=some r)(hK:∀ s,K s=some r→gK K' (eS s)):gK K' (eS s):=by
 unfold frzX at h
 split at h
 ·split at h
  ·exact zDp h hK
  ·exact zGp (hK _ h)
 ·exact hK _ h
theorem zEh {t:Nat}:∀(n j:Nat) {s:TS},zJZ t n j K s=some r→(∀s,K s=some r→gK K' (eS s))→gK K' (eS s)
 |0,j,s,h,hK=>hK _ h
 | n+1,j,s,h,hK=>by
   unfold zJZ at h
   split at h
   ·split at h
    ·exact zDp h fun s h=>zEh n (j+1) h hK
    ·exact zEh n (j+1) h hK
   ·exact hK _ h
theorem zPD {x:Operand}(h:zVo x K s=some r)(hK:∀ s,K s=some r→gK K' (eS s)):gK K' (eS s):=by
 unfold zVo at h
 split at h
 ·split at h
  ·exact zEh _ _ h hK
  ·exact hK _ h
 ·exact hK _ h
theorem zGr:∀(l:List Operand) {s:TS},zQf l K s=some r→(∀s,K s=some r→gK K' (eS s))→gK K' (eS s)
 |[],s,h,hK=>hK _ h
 |x::l,s,h,hK=>zPD h fun s h=>zGr l h hK
theorem zHA {o:Nat}:∀(n j:Nat) {s:TS},zQp o n j K s=some r→(∀s,K s=some r→gK K' (eS s))→gK K' (eS s)
 |0,j,s,h,hK=>hK _ h
 |n+1,j,s,h,hK=>zDx h fun s h=>zHA n (j+1) h hK
theorem zCT:∀(l:List TO) {s:TS},zGG l K s=some r→(∀s,K s=some r→gK K' (eS s))→gK K' (eS s)
 |[],s,h,hK=>hK _ h
 | x::l,s,h,hK=>by
   unfold zGG at h
   split at h
   ·exact zHA _ _ h fun s h=>zCT l h hK
   ·exact zCT l h hK
   ·exact zEl h fun s h=>zCT l h hK
   ·exact zCT l h hK
theorem zKP {v:V}(h:opnV v K s=some r)(hK:∀ s,K s=some r→gK K' (eS s)):gK K' (eS s):=by
 unfold opnV at h
 split at h
 ·exact zTI h hK
 ·exact hK _ h
theorem zQI {T:Nat→TI}{gz:List Nat}{o:Oper}(h:zUn T gz o K s=some r)(hK:∀ s,K s=some r→gK K' (eS s)):gK K' (eS s):=by
 unfold zUn at h
 split at h
 ·exact zGx _ h hK
 ·split at h
  ·exact zKP h hK
  ·exact hK _ h
 ·split at h
  ·exact zDs h fun s h=>zFb h hK
  split at h
  ·exact zKP h hK
  ·split at h
   ·exact zDs h fun s h=>zFb h hK
   ·split at h
    ·exact zDs h hK
    ·exact hK _ h
 ·split at h
  ·exact zFb h hK
  ·exact hK _ h
 ·split at h
  ·exact zFb h hK
  ·exact hK _ h
 ·split at h
  ·split at h
   ·split at h
    ·split at h
     ·exact zDp h hK
     ·exact hK _ h
    ·exact hK _ h
   ·exact hK _ h
  ·have hf:∀{s},zUn.frzC gz o (by assumption) K s=some r→gK K' (eS s):=by
    intro s h
    unfold zUn.frzC at h
    split at h
    ·exact zGr _ h hK
    ·exact hK _ h
   split at h
   ·exact zCT _ h fun s h=>hf h
   ·exact hf h
  ·exact hK _ h
 ·exact hK _ h
theorem zDO {N:Nat}{p:SPat}{K:p.Den→Option R}(h:zID N p K s=some r)(hK:∀ x,K x=some r→K' (eS (encS N p x))):gK K' (eS s):=by
 obtain⟨h0,h1⟩:=zAD h
 refine zDR _ h1 fun s1 h2=>zJK _ h2 fun s2 h3=>?_
 obtain⟨hn,h3⟩:=zAD h3
 obtain⟨x,h4,h5⟩:=zTT h0 h3
 have hn:=eq_of_beq hn
 rw[hn]at h5
 exact h5 _ (hK x h4)
end
end Go.TM
end
