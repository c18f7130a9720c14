/- Part 18 of the proof that the law FnExactFrameLess holds of every input; no condition. -/
import Derived.Test.YtdpapeledldifaaGreatX16
set_option autoImplicit true
set_option relaxedAutoImplicit true
set_option linter.all false
section
namespace Go.TM
open Go.AM
section
variable {R:Type}
def subV (o:Nat)(y:V):V→V
 |.ar n=>bif n==o then y else .ar n
 |x=>zMb o x
def subA (o:Nat)(y:V):List (Nat×V)→List (Nat×V)
 |[]=>[]
 |p::l=>(p.1,subV o y p.2)::subA o y l
def zHH (s:TS)(o:Nat)(K:TS→Option R):Option R:=match getT s.ob o with
 |some (.arr _ g _ l)=>K ⟨s.n,subA o (.sl g l) s.al,zIW o s.ob⟩
 |_=>none
def zHh (s:TS)(t o:Nat)(K:TS→Option R):Option R:=match getT s.ob o with
 |some (.arr _ g d l)=>K (setT (zHX o s) t (.own g d l))
 |_=>none
def zIo (t j:Nat)(K:TS→Option R)(s:TS):Option R:=match zBk s t with
 | .agg cs=>match lkV cs j with
   | .ar o=>match getT (zAx s (.tmp t)).ob o with
     |some (.arr _ g d l)=>K (setT (zHX o (zAx s (.tmp t))) t (.agg (updV (zDg o cs) j (.own g d l))))
     |_=>none
   |_=>K s
 |_=>K s
def zFH (t:Nat):Nat→Nat→(TS→Option R)→TS→Option R
 |0,_,K,s=>K s
 |n+1,j,K,s=>zIo t j (zFH t n (j+1) K) s
def zRG (ob off:Nat)(K:TS→Option R)(s:TS):Option R:=match getT s.ob ob with
 | some (.box _ cs)=>match lkV cs off with
   | .ar o=>match getT s.ob o with
     | some (.arr _ g d l)=>chkO (ble (off+1) cs.length) (match getT (zHX o s).ob ob with
       |some (.box _ cs1)=>chkO (ble (off+1) cs1.length) (K ⟨s.n,(zHX o s).al,zAi (zHX o s).ob ob (wrV cs1 off [.own g d l])⟩)
       |_=>none)
     |_=>none
   |_=>K s
 |_=>K s
def zHT:List TO→Nat→TO→List TO
 |[],_,_=>[]
 |x::l,o,y=>bif x.name==o then y::l else x::zHT l o y
def opnR (o i:Nat)(K:TS→Option R)(s:TS):Option R:=match getT s.ob o with
 |some (.arr n g d l)=>atO l i fun x=>K ⟨s.n,s.al,zHT s.ob o (.opn n g (.all d) l i (cells d g x))⟩
 |some (.spl n g l k)=>grdO (decide (k=i)) (atO l i fun x=>K ⟨s.n,s.al,zHT s.ob o (.opn n g .spl l i (cells false g x))⟩)
 |_=>K s
def arrT (o:Nat)(K:TS→Option R)(s:TS):Option R:=match getT s.ob o with
 |some (.spl n g l k)=>grdO (decide (k=l.length)) (K ⟨s.n,s.al,zHT s.ob o (.arr n g true l)⟩)
 |_=>K s
def splT (o:Nat)(K:TS→Option R)(s:TS):Option R:=match getT s.ob o with
 |some (.arr n g d l)=>chkO (!d) (K ⟨s.n,s.al,zHT s.ob o (.spl n g l 0)⟩)
 |_=>K s
def zUG (o off m:Nat)(K:TS→Option R)(s:TS):Option R:=match getT s.ob o with
 |some (.opn _ _ _ _ i _)=>openN o i off m K s
 |_=>K s
def zRF (o off:Nat)(K:TS→Option R)(s:TS):Option R:=match getT s.ob o with
 | some (.opn _ _ _ l j cs)=>(match lkV cs off with
   | .ar a=>(match getT s.ob a with
     | some (.arr _ g d r)=>chkO (ble (off+1) cs.length) (grdO (decide (j<l.length)) (match getT (zHX a s).ob o with
       |some (.opn _ _ _ l1 j1 cs1)=>chkO (ble (off+1) cs1.length) (grdO (decide (j=j1)&&decide (j1<l1.length)) (K ⟨s.n,(zHX a s).al,zAl (zHX a s).ob o (wrV cs1 off [.own g d r])⟩))
       |_=>none))
     |_=>none)
   |_=>K s)
 |_=>K s
def zIm (o off:Nat)(K:TS→Option R)(s:TS):Option R:=match getT s.ob o with
 | some (.opn _ _ _ _ _ cs)=>(match lkV cs off with
   |.ar a=>arrT a (zRF o off K) s
   |_=>K s)
 |_=>K s
def frzIT (o off:Nat)(K:TS→Option R)(s:TS):Option R:=match getT s.ob o with
 | some (.opn _ _ _ l j cs)=>(match lkV cs off with
   | .own g _ r=>chkO (ble (off+1) cs.length) (grdO (decide (j<l.length)) (match getT (zAl s.ob o (wrV cs off [.u])) o with
     |some (.opn _ _ _ l1 j1 cs1)=>chkO (ble (off+1) cs1.length) (grdO (decide (j=j1)&&decide (j1<l1.length)) (K ⟨s.n,s.al,zAl (zAl s.ob o (wrV cs off [.u])) o (wrV cs1 off [.sl g r])⟩))
     |_=>none))
   | .emp g=>chkO (ble (off+1) cs.length) (grdO (decide (j<l.length)) (match getT (zAl s.ob o (wrV cs off [.u])) o with
     |some (.opn _ _ _ l1 j1 cs1)=>chkO (ble (off+1) cs1.length) (grdO (decide (j=j1)&&decide (j1<l1.length)) (K ⟨s.n,s.al,zAl (zAl s.ob o (wrV cs off [.u])) o (wrV cs1 off [.sl g []])⟩))
     |_=>none))
   |_=>K s)
 |_=>K s
def zMq (o:Nat):Nat→Nat→(TS→Option R)→TS→Option R
 |0,_,K,s=>K s
 |n+1,j,K,s=>zIm o j (zMq o n (j+1) K) s
def zUi (o:Nat):Nat→Nat→(TS→Option R)→TS→Option R
 |0,_,K,s=>K s
 |n+1,j,K,s=>frzIT o j (zUi o n (j+1) K) s
def finNT (o:Nat)(K:TS→Option R)(s:TS):Option R:=match getT s.ob o with
 | some (.opn n g d l j cs)=>grdO (decide (j<l.length)) (match d with
   | .all d=>rdC false d g cs fun z rest=>(match rest with
     |[]=>K ⟨s.n,s.al,zHT s.ob o (.arr n g d (l.set j z))⟩
     |_::_=>none)
   | .spl=>rdC false true g cs fun z rest=>(match rest with
     |[]=>K ⟨s.n,s.al,zHT s.ob o (.spl n g (l.set j z) (j+1))⟩
     |_::_=>none))
 |_=>K s
def zMp (o:Nat)(K:TS→Option R)(s:TS):Option R:=match getT s.ob o with
 | some (.opn _ _ d _ _ cs)=>zMq o cs.length 0 (match d.b with
   |true=>finNT o K
   |false=>zUi o cs.length 0 (finNT o K)) s
 |_=>K s
def zMo (o:Nat)(K:TS→Option R)(s:TS):Option R:=zMp o (arrT o K) s
def zGQ (ob off:Nat)(K:TS→Option R)(s:TS):Option R:=match getT s.ob ob with
 | some (.box _ cs)=>(match lkV cs off with
   |.ar a=>zMo a (zRG ob off K) s
   |_=>K s)
 |_=>K s
def frzBT (o off:Nat)(K:TS→Option R)(s:TS):Option R:=match getT s.ob o with
 | some (.box _ cs)=>(match lkV cs off with
   | .own g _ r=>chkO (ble (off+1) cs.length) (match getT (zAi s.ob o (wrV cs off [.u])) o with
     |some (.box _ cs1)=>chkO (ble (off+1) cs1.length) (K ⟨s.n,s.al,zAi (zAi s.ob o (wrV cs off [.u])) o (wrV cs1 off [.sl g r])⟩)
     |_=>none)
   | .emp g=>chkO (ble (off+1) cs.length) (match getT (zAi s.ob o (wrV cs off [.u])) o with
     |some (.box _ cs1)=>chkO (ble (off+1) cs1.length) (K ⟨s.n,s.al,zAi (zAi s.ob o (wrV cs off [.u])) o (wrV cs1 off [.sl g []])⟩)
     |_=>none)
   |_=>K s)
 |_=>K s
def ownP:Pat→Bool
 |.own _ _=>true
 |.agg p=>ownP p
 |.cons p q=>ownP p||ownP q
 |_=>false
def prepV (t:Nat)(p:Pat)(K:TS→Option R)(s:TS):Option R:=match p with
 | .own _ _=>(match zBk s t with
   |.ar o=>zHh s t o K
   |_=>K s)
 | .sl _=>(match zBk s t with
   |.own _ _ _=>K (zMg s (.tmp t))
   |.emp _=>K (zMg s (.tmp t))
   |.ar o=>zHH s o K
   |_=>K s)
 | .agg q=>(match zBk s t with
   | .agg cs=>zFH t cs.length 0 (fun s=>match ownP q with
     |true=>K s
     |false=>K (zMg s (.tmp t))) s
   |_=>K s)
 |_=>K s
def zPS:List (Nat×Pat)→(TS→Option R)→TS→Option R
 |[],K,s=>K s
 |p::l,K,s=>prepV p.1 p.2 (zPS l K) s
def zTA (o:Nat):Pat→Nat→(TS→Option R)→TS→Option R
 | .cons p q,j,K,s=>(match p with
   |.own _ _=>zGQ o j (zTA o q (j+1) K) s
   |.sl _=>zGQ o j (frzBT o j (zTA o q (j+1) K)) s
   |_=>zTA o q (j+1) K s)
 |_,_,K,s=>K s
def zQj (o:Nat):Pat→Nat→(TS→Option R)→TS→Option R
 | .cons p q,j,K,s=>(match p with
   |.own _ _=>zIm o j (zQj o q (j+1) K) s
   |.sl _=>zIm o j (frzIT o j (zQj o q (j+1) K)) s
   |.ar m=>zUG o j m (zQj o q (j+1) K) s
   |_=>zQj o q (j+1) K s)
 |_,_,K,s=>K s
def zHV:List OPat→(TS→Option R)→TS→Option R
 |[],K,s=>K s
 | o::l,K,s=>(match o with
   |.box n p=>zTA n p 0 (zHV l K) s
   |.arr n _ _=>zMo n (zHV l K) s
   |.opn n _ _ p=>zQj n p 0 (zHV l K) s
   |.spl n _=>zMp n (splT n (zHV l K)) s)
def zHQ (N:Nat)(p:SPat)(K:p.Den→Option R)(s:TS):Option R:=chkO (okA p.al) (zHV p.ob (zPS p.al fun s=>chkO (s.n==N) (decS p s K)) s)
def zQG (x:Operand)(K:TS→Option R)(s:TS):Option R:=match x with
 | .tmp t=>(match zBk s t with
   |.ar o=>zHh s t o K
   |.agg cs=>zFH t cs.length 0 K s
   |_=>K s)
 |_=>K s
def zRE:List Operand→(TS→Option R)→TS→Option R
 |[],K,s=>K s
 |x::l,K,s=>zQG x (zRE l K) s
def frzX (x:Operand)(K:TS→Option R)(s:TS):Option R:=match x with
 | .tmp t=>(match zBk s t with
   |.ar o=>zHH s o K
   |_=>K (zMg s x))
 |_=>K s
def isArr (d:Bool)(s:TS)(a:V):Bool:=match a with
 | .p o _ _=>(match getT s.ob o with
   |some (.arr _ _ d' _)=>d==d'
   |_=>false)
 |_=>false
def zIb (t:Nat):Nat→Nat→(TS→Option R)→TS→Option R
 |0,_,K,s=>K s
 | n+1,j,K,s=>(match zBk s t with
   | .agg cs=>(match lkV cs j with
     |.ar o=>zHH s o (zIb t n (j+1) K)
     |_=>zIb t n (j+1) K s)
   |_=>K s)
def zUk (x:Operand)(K:TS→Option R)(s:TS):Option R:=match x with
 | .tmp t=>(match zBk s t with
   |.agg cs=>zIb t cs.length 0 K s
   |_=>K s)
 |_=>K s
def zQx:List Operand→(TS→Option R)→TS→Option R
 |[],K,s=>K s
 |x::l,K,s=>zUk x (zQx l K) s
def zRH (o:Nat):Nat→Nat→(TS→Option R)→TS→Option R
 |0,_,K,s=>K s
 |n+1,j,K,s=>zGQ o j (zRH o n (j+1) K) s
def zFi:List TO→(TS→Option R)→TS→Option R
 |[],K,s=>K s
 | x::l,K,s=>(match x with
   |.box n cs=>zRH n cs.length 0 (zFi l K) s
   |.arr _ _ _ _=>zFi l K s
   |.opn n _ _ _ _ _=>zMo n (zFi l K) s
   |.spl _ _ _ _=>zFi l K s)
def opnV (v:V)(K:TS→Option R)(s:TS):Option R:=match v with
 |.p o i _=>opnR o i K s
 |_=>K s
def zUA (T:Nat→TI)(gz:List Nat)(o:Oper)(K:TS→Option R)(s:TS):Option R:=match o.op with
 |.buildSlice _ _ ps=>zRE (opnds ps) K s
 | .load t a=>(match zMd (T t).kind with
   |true=>opnV (evT s a) K s
   |false=>K s)
 | .store _ a x=>(match gz.contains 5000000 with
   |true=>opnV (evT s a) K s
   | false=>(match isArr false s (evT s a)with
     |true=>zQG x (frzX x K) s
     | false=>(match isArr true s (evT s a)with
       |true=>zQG x K s
       |false=>K s)))
 | .convert _ d x=>(match(T d).kind with
   |.str=>frzX x K s
   |_=>K s)
 | .slice _ x _ _ _=>(match gz.contains (zDI o.dst)with
   |true=>frzX x K s
   |false=>K s)
 | .call c=>(match c.callee with
   | .builtin .append=>(match c.args.toList with
     | [_,y]=>(match y with
       | .tmp t=>(match zBk s t with
         |.ar o=>zHH s o K
         |_=>K s)
       |_=>K s)
     |_=>K s)
   | .value _=>(match gz.contains (1000000+zDI o.dst)with
     |true=>zFi s.ob (frzC gz o c K) s
     |false=>frzC gz o c K s)
   |_=>K s)
 |_=>K s
where frzC (gz:List Nat) (o:Oper) (c:Call) (K:TS→Option R) (s:TS):Option R:=match gz.contains (zDI o.dst)with
 |true=>zQx c.args.toList K s
 |false=>K s
variable {r:R}{s:TS}{K:TS→Option R}{K':St→Prop}
theorem subV_e (o:Nat)(y v:V):AM.subV o (e y) (e v)=e (subV o y v):=by
 cases v with
 | ar n =>
   simp only[e,AM.subV,subV]
   by_cases h:n=o
   ·simp[h]
   ·have:(n==o)=false:=by simpa using h
    simp[h,this,e]
 |_=>first|rfl|(simp only[subV,←zUS];rfl)
theorem zTe (o:Nat)(y:V):∀al:List (Nat×V),zJG o (e y) (eA al)=eA (subA o y al)
 |[]=>rfl
 |p::l=>by simp only[eA,zJG,subA,subV_e,zTe o y l]
theorem zDi {o:Nat}(h:zHH s o K=some r)(hK:∀ s,K s=some r→gK K' (eS s)):gK K' (eS s):=by
 unfold zHH at h
 split at h
 ·rename_i n g d l hg
  refine zBO (zSP o ?_)
  unfold zUj
  rw[zBR hg]
  refine⟨rfl,?_⟩
  simp only[zBv]
  have:=hK _ h
  simp only[eS]at this ⊢
  rw[zPA,show SV.sl g.sz (l.map (encC false g))=e (.sl g l)from rfl,zTe,zFG]
  exact this
 ·cases h
theorem zFR {t o:Nat}(hv:zBk s t = .ar o)(h:zHh s t o K=some r)(hK:∀ s,K s=some r→gK K' (eS s)):gK K' (eS s):=by
 unfold zHh at h
 split at h
 ·rename_i n g d l hg
  refine zBO (zTJ t ?_)
  unfold zMt
  rw[zCb,hv]
  simp only[e]
  rw[zBR hg]
  refine⟨rfl,?_⟩
  rw[zFF,show SV.own g.sz (l.map (encC d g))=e (.own g d l)from rfl,zCh]
  exact hK _ h
 ·cases h
theorem zGG {t:Nat}(h:gK K' (eS (zMg s (.tmp t)))):gK K' (eS s):=by
 refine zBO (gK_frz t ?_)
 rw[zUg]
 exact h
theorem zIn {t j:Nat}(h:zIo t j K s=some r)(hK:∀ s,K s=some r→gK K' (eS s)):gK K' (eS s):=by
 unfold zIo at h
 split at h
 ·rename_i cs hv
  split at h
  ·rename_i o ho
   split at h
   ·rename_i n g d l hg
    refine zBO (zQu (t:=t) (j:=j) ?_)
    unfold zMu
    rw[zCb,hv]
    simp only[e]
    rw[←zGJ,ho]
    simp only[e]
    rw[zCX,zBR hg]
    simp only
    rw[zEM,zFF,show SV.own g.sz (l.map (encC d g))=e (.own g d l)from rfl,←zRD,show SV.agg (eL (updV (zDg o cs) j (.own g d l)))=e (.agg (updV (zDg o cs) j (.own g d l)))from rfl,zCh]
    exact hK _ h
   ·cases h
  ·exact hK _ h
 ·exact hK _ h
theorem zCs {t:Nat}:∀(n j:Nat) {s:TS},zFH t n j K s=some r→(∀s,K s=some r→gK K' (eS s))→gK K' (eS s)
 |0,j,s,h,hK=>hK _ h
 |n+1,j,s,h,hK=>zIn h fun s h=>zCs n (j+1) h hK
theorem zMs {ob off:Nat}(h:zRG ob off K s=some r)(hK:∀ s,K s=some r→gK K' (eS s)):gK K' (eS s):=by
 unfold zRG at h
 split at h
 ·rename_i n cs hg
  split at h
  ·rename_i o ho
   split at h
   ·rename_i m g d l hg2
    obtain⟨h1,h2⟩:=zAF h
    split at h2
    ·rename_i n1 cs1 hg3
     obtain⟨h3,h4⟩:=zAF h2
     refine zBO (zUa (ob:=ob) (off:=off) ?_)
     unfold zSc
     rw[zBQ hg]
     simp only[List.getElem?_cons_zero]
     rw[←zGJ,ho]
     simp only[e]
     rw[zBR hg2]
     refine zAR (by simp only[zAO,h1];rfl) ?_
     rw[zFF,zBQ hg3]
     simp only[List.getElem?_cons_zero]
     refine zAR (by simp only[zAO,h3];rfl) ?_
     have hw:wr (eL cs1) off [SV.own g.sz (l.map (encC d g))]=eL (wrV cs1 off [.own g d l]):=by rw[zCn];rfl
     rw[hw,zBf hg3 (zCW _ _ _ (by simpa using zBU h3))]
     exact hK _ h4
    ·cases h2
   ·cases h
  ·exact hK _ h
 ·exact hK _ h
theorem zCH (g:GT)(d:Bool):∀l:List g.Den,zBG (l.map (encC d g))=true
 |[]=>rfl
 |x::l=>by simp only[List.map_cons,zBG,zDt g d x,zCH g d l,Bool.and_self]
theorem zFs {o:Nat}{y:TO}{b:Bool}:∀(l:List TO) {x:TO},getT l o=some x→eO y={eO x with nm:=b}→eOs (zHT l o y)=zPK (eOs l) o b
 |[],_,h,_=>by cases h
 | z::l,x,h,he=>by
   simp only[getT]at h
   simp only[zHT,eOs,zPK,zET]
   by_cases hx:z.name=o
   ·have h':(z.name==o)=true:=by simpa using hx
    rw[h',cond_true]at h
    simp only[Option.some.injEq]at h
    subst h
    rw[h',cond_true,if_pos hx]
    show eO y::eOs l=_
    rw[he]
    simp only[zET]
   ·have h':(z.name==o)=false:=by simpa using hx
    rw[h',cond_false]at h
    simp only[h',cond_false,hx,if_false,eOs,zFs l h he]
theorem zRp {α:Type}{l:List α}{i:Nat}{x:α}(h:l[i]? = some x):l.set i x=l:=by
 apply List.ext_getElem?
 intro j
 by_cases hj:i=j
 ·subst hj
  have hlt:=zCD h
  rw[List.getElem?_set_self hlt,h]
 ·rw[List.getElem?_set_ne hj]
theorem zFx:∀a b:List (List SV),zBG (a++b)=(zBG a&&zBG b)
 |[],_=>rfl
 |x::a,b=>by simp only[List.cons_append,zBG,zFx a b,Bool.and_assoc]
theorem zFN (d:DM)(g:GT)(i:Nat)(l:List g.Den):zBG (encM d g i l)=true:=by
 cases d
 ·exact zCH g _ l
 ·simp only[encM,zFx,zCH,Bool.and_self]
theorem zME {o:Nat}{y:TO}:∀(l:List TO) {x:TO},getT l o=some x→eO y=eO x→eOs (zHT l o y)=eOs l
 |[],_,h,_=>by cases h
 | z::l,x,h,he=>by
   simp only[getT]at h
   simp only[zHT,eOs]
   cases hz:z.name==o with
   | true =>
     rw[hz,cond_true]at h
     simp only[Option.some.injEq]at h
     subst h
     simp only[cond_true,eOs,he]
   | false =>
     rw[hz,cond_false]at h
     simp only[cond_false,eOs,zME l h he]
theorem zJi {o:Nat}(h:arrT o K s=some r)(hK:∀ s,K s=some r→gK K' (eS s)):gK K' (eS s):=by
 unfold arrT at h
 split at h
 ·rename_i n g l k hg
  obtain⟨h1,h2⟩:=zAQ h
  simp only[decide_eq_true_eq]at h1
  subst h1
  have:=hK _ h2
  simp only[eS]at this ⊢
  rw[zME s.ob hg]at this
  ·exact this
  ·simp only[eO,encM,List.take_length,List.drop_length,List.map_nil,List.append_nil]
 ·exact hK _ h
theorem zSv {o:Nat}(h:splT o K s=some r)(hK:∀ s,K s=some r→gK K' (eS s)):gK K' (eS s):=by
 unfold splT at h
 split at h
 ·rename_i n g d l hg
  obtain⟨h1,h2⟩:=zAF h
  have h1:d=false:=by simpa using h1
  subst h1
  have:=hK _ h2
  simp only[eS]at this ⊢
  rw[zME s.ob hg]at this
  ·exact this
  ·simp only[eO,encM,List.take_zero,List.drop_zero,List.map_nil,List.nil_append]
 ·exact hK _ h
theorem zPY {o off m:Nat}(h:zUG o off m K s=some r)(hK:∀ s,K s=some r→gK K' (eS s)):gK K' (eS s):=by
 unfold zUG at h
 split at h
 ·exact zBO (zSO (K:=fun st=>gK K' st) (zIS h hK))
 ·exact hK _ h
theorem zTB {o i:Nat}(h:opnR o i K s=some r)(hK:∀ s,K s=some r→gK K' (eS s)):gK K' (eS s):=by
 unfold opnR at h
 split at h
 ·rename_i n g d l hg
  obtain⟨x,hx,h1⟩:=zEX h
  refine zBO (gK_nm o true ?_ ?_)
  ·intro y hy
   rw[zBR hg]at hy
   simp only[Option.some.injEq]at hy
   rw[←hy]
   exact zCH g d l
  ·have:=hK _ h1
   simp only[eS]at this ⊢
   rw[zFs (b:=true) s.ob hg]at this
   ·exact this
   ·simp only[eO,zDk]
    simp only[encM]
    rw[zRp]
    rw[List.getElem?_map,hx];rfl
 ·rename_i n g l k hg
  obtain⟨h0,h1⟩:=zAQ h
  simp only[decide_eq_true_eq]at h0
  subst h0
  obtain⟨x,hx,h1⟩:=zEX h1
  refine zBO (gK_nm o true ?_ ?_)
  ·intro y hy
   rw[zGF hg]at hy
   simp only[Option.some.injEq]at hy
   rw[←hy]
   exact zFN .spl g k l
  ·have:=hK _ h1
   simp only[eS]at this ⊢
   rw[zFs (b:=true) s.ob hg]at this
   ·exact this
   ·simp only[eO,zDk]
    rw[zRp]
    exact zSV (Nat.le_refl _) hx
 ·exact hK _ h
theorem zMr {o off:Nat}(h:zRF o off K s=some r)(hK:∀ s,K s=some r→gK K' (eS s)):gK K' (eS s):=by
 unfold zRF at h
 split at h
 ·rename_i n g0 d0 l j cs hg
  split at h
  ·rename_i a ha
   split at h
   ·rename_i m g d rr hg2
    obtain⟨h1,h2⟩:=zAF h
    obtain⟨hlt,h2⟩:=zAQ h2
    simp only[decide_eq_true_eq]at hlt
    split at h2
    ·rename_i n1 g1 d1 l1 j1 cs1 hg3
     obtain⟨h3,h4⟩:=zAF h2
     obtain⟨h5,h4'⟩:=zAQ h4
     simp only[Bool.and_eq_true,decide_eq_true_eq]at h5
     obtain⟨h5,h6⟩:=h5
     subst h5
     refine zBO (zUZ (ob:=o) (i:=j) (off:=off) ?_)
     unfold zUs
     rw[zBH hg]
     simp only[zDn hlt]
     rw[←zGJ,ha]
     simp only[e]
     rw[zBR hg2]
     refine zAR (by simp only[zAO,h1];rfl) ?_
     rw[zFF,zBH hg3]
     simp only[zDn h6]
     refine zAR (by simp only[zAO,h3];rfl) ?_
     have hw:wr (eL cs1) off [SV.own g.sz (rr.map (encC d g))]=eL (wrV cs1 off [.own g d rr]):=by rw[zCn];rfl
     rw[hw,zCC hg3]
     exact hK _ h4'
    ·cases h2
   ·cases h
  ·exact hK _ h
 ·exact hK _ h
theorem zEV {o off:Nat}(h:zIm o off K s=some r)(hK:∀ s,K s=some r→gK K' (eS s)):gK K' (eS s):=by
 unfold zIm at h
 split at h
 ·split at h
  ·exact zJi h fun s h=>zMr h hK
  ·exact hK _ h
 ·exact hK _ h
theorem zPt {o off n:Nat}{g0:GT}{d0:DM}{l:List g0.Den}{j:Nat}{cs:List V}{g:GT}{d:Bool}{rr:List g.Den}{v:V}(hg:getT s.ob o=some (.opn n g0 d0 l j cs))(ha:lkV cs off=v)(hev:e v = .own g.sz (rr.map (encC d g)))
  (h:chkO (ble (off+1) cs.length) (grdO (decide (j<l.length)) (match getT (zAl s.ob o (wrV cs off [.u])) o with
   |some (.opn _ _ _ l1 j1 cs1)=>chkO (ble (off+1) cs1.length) (grdO (decide (j=j1)&&decide (j1<l1.length)) (K ⟨s.n,s.al,zAl (zAl s.ob o (wrV cs off [.u])) o (wrV cs1 off [.sl g rr])⟩))
   |_=>none))=some r) (hK:∀s,K s=some r→gK K' (eS s)):gK K' (eS s):=by
 obtain⟨h1,h2⟩:=zAF h
 obtain⟨hlt,h2⟩:=zAQ h2
 simp only[decide_eq_true_eq]at hlt
 split at h2
 ·rename_i n1 g1 d1 l1 j1 cs1 hg3
  obtain⟨h3,h4⟩:=zAF h2
  obtain⟨h5,h4'⟩:=zAQ h4
  simp only[Bool.and_eq_true,decide_eq_true_eq]at h5
  obtain⟨h5,h6⟩:=h5
  subst h5
  refine zBO (zUY (ob:=o) (i:=j) (off:=off) ?_)
  unfold frzI
  rw[zBH hg]
  simp only[zDn hlt]
  rw[←zGJ,ha,hev]
  simp only
  refine zAR (by simp only[zAO,h1];rfl) ?_
  have hw:wr (eL cs) off [SV.u]=eL (wrV cs off [.u]):=by rw[zCn];rfl
  rw[hw,zCC hg]
  have hg3':getT (⟨s.n,s.al,zAl s.ob o (wrV cs off [.u])⟩:TS).ob o=some (.opn n1 g1 d1 l1 j cs1):=hg3
  rw[zBH hg3']
  simp only[zDn h6]
  refine zAR (by simp only[zAO,h3];rfl) ?_
  have hw1:wr (eL cs1) off [SV.sl g.sz (zBa (rr.map (encC d g)))]=eL (wrV cs1 off [.sl g rr]):=by rw[zCn,zBv];rfl
  rw[hw1,zCC hg3']
  exact hK _ h4'
 ·cases h2
theorem zIa {o off:Nat}(h:frzIT o off K s=some r)(hK:∀ s,K s=some r→gK K' (eS s)):gK K' (eS s):=by
 unfold frzIT at h
 split at h
 ·rename_i n g0 d0 l j cs hg
  split at h
  ·rename_i g d rr ha
   exact zPt hg ha rfl h hK
  ·rename_i g ha
   exact zPt (rr:=[]) (d:=true) hg ha rfl h hK
  ·exact hK _ h
 ·exact hK _ h
theorem zFQ {o:Nat}:∀(n j:Nat) {s:TS} {K:TS→Option R},zMq o n j K s=some r→(∀s,K s=some r→gK K' (eS s))→gK K' (eS s)
 |0,j,s,K,h,hK=>hK _ h
 |n+1,j,s,K,h,hK=>zEV h fun s h=>zFQ n (j+1) h hK
theorem zHG {o:Nat}:∀(n j:Nat) {s:TS} {K:TS→Option R},zUi o n j K s=some r→(∀s,K s=some r→gK K' (eS s))→gK K' (eS s)
 |0,j,s,K,h,hK=>hK _ h
 |n+1,j,s,K,h,hK=>zIa h fun s h=>zHG n (j+1) h hK
theorem zUn {o n:Nat}{g:GT}{d:Bool}{l:List g.Den}{j:Nat}{cs:List V}(hg:getT s.ob o=some (.opn n g (.all d) l j cs)){z:g.Den}(h5:eL cs=encC d g z)(h:gK K' (eS ⟨s.n,s.al,zHT s.ob o (.arr n g d (l.set j z))⟩)):gK K' (eS s):=by
 have hrows:(l.map (encC d g)).set j (eL cs)=(l.set j z).map (encC d g):=by rw[h5,List.map_set]
 refine zBO (gK_nm o false ?_ ?_)
 ·intro y hy
  rw[zBH hg]at hy
  simp only[Option.some.injEq]at hy
  rw[←hy]
  simp only[encM,hrows]
  exact zCH g d _
 ·simp only[eS]at h ⊢
  rw[zFs (b:=false) s.ob hg]at h
  ·exact h
  ·simp only[eO,encM,hrows]
theorem encM_set {g:GT}{l:List g.Den}{j:Nat}{z:g.Den}(h:j<l.length):(encM .spl g j l).set j (encC true g z)=encM .spl g (j+1) (l.set j z):=by
 simp only[encM]
 rw[List.set_append_right _ _ (by simp only[List.length_map,List.length_take];omega),List.take_succ,List.take_set_of_le (Nat.le_refl _),List.getElem?_set_self h,List.drop_set_of_lt (Nat.lt_succ_self _),List.drop_eq_getElem_cons h]
 have:j-((l.take j).map (encC true g)).length=0:=by simp only[List.length_map,List.length_take];omega
 rw[this]
 simp only[List.map_cons,List.set_cons_zero,Option.toList_some,List.map_append,List.map_nil,List.append_assoc,List.cons_append,List.nil_append]
theorem zIf {o:Nat}(h:finNT o K s=some r)(hK:∀ s,K s=some r→gK K' (eS s)):gK K' (eS s):=by
 unfold finNT at h
 split at h
 ·rename_i n g d l j cs hg
  obtain⟨hlt,h2⟩:=zAQ h
  simp only[decide_eq_true_eq]at hlt
  cases d with
  | all d =>
    obtain⟨z,rest,h4,h5⟩:=zIL g _ _ h2
    cases rest with
    |cons a b=>cases h4
    | nil =>
      simp only[eL,List.append_nil]at h5
      exact zUn hg h5 (hK _ h4)
  | spl =>
    obtain⟨z,rest,h4,h5⟩:=zIL g _ _ h2
    cases rest with
    |cons a b=>cases h4
    | nil =>
      simp only[eL,List.append_nil]at h5
      have hrows:(encM .spl g j l).set j (eL cs)=encM .spl g (j+1) (l.set j z):=by rw[h5,encM_set hlt]
      refine zBO (gK_nm o false ?_ ?_)
      ·intro y hy
       rw[zBH hg]at hy
       simp only[Option.some.injEq]at hy
       rw[←hy]
       simp only[hrows]
       exact zFN _ g _ _
      ·have:=hK _ h4
       simp only[eS]at this ⊢
       rw[zFs (b:=false) s.ob hg]at this
       ·exact this
       ·simp only[eO,hrows]
 ·exact hK _ h
theorem zGP {o:Nat}(h:zMp o K s=some r)(hK:∀ s,K s=some r→gK K' (eS s)):gK K' (eS s):=by
 unfold zMp at h
 split at h
 ·rename_i n g d l j cs hg
  refine zFQ _ _ h fun s h=>?_
  cases hd:d.b with
  |true=>rw[hd]at h;exact zIf h hK
  |false=>rw[hd]at h;exact zHG _ _ h fun s h=>zIf h hK
 ·exact hK _ h
theorem zEU {o:Nat}(h:zMo o K s=some r)(hK:∀ s,K s=some r→gK K' (eS s)):gK K' (eS s) :=
 zGP h fun s h=>zJi h hK
theorem zDp {ob off:Nat}(h:zGQ ob off K s=some r)(hK:∀ s,K s=some r→gK K' (eS s)):gK K' (eS s):=by
 unfold zGQ at h
 split at h
 ·split at h
  ·exact zEU h fun s h=>zMs h hK
  ·exact hK _ h
 ·exact hK _ h
theorem zPu {o off n:Nat}{cs:List V}{g:GT}{d:Bool}{rr:List g.Den}{v:V}(hg:getT s.ob o=some (.box n cs))(ha:lkV cs off=v)(hev:e v = .own g.sz (rr.map (encC d g)))
  (h:chkO (ble (off+1) cs.length) (match getT (zAi s.ob o (wrV cs off [.u])) o with
   |some (.box _ cs1)=>chkO (ble (off+1) cs1.length) (K ⟨s.n,s.al,zAi (zAi s.ob o (wrV cs off [.u])) o (wrV cs1 off [.sl g rr])⟩)
   |_=>none)=some r) (hK:∀s,K s=some r→gK K' (eS s)):gK K' (eS s):=by
 obtain⟨h1,h2⟩:=zAF h
 split at h2
 ·rename_i n1 cs1 hg3
  obtain⟨h3,h4⟩:=zAF h2
  refine zBO (zUY (ob:=o) (i:=0) (off:=off) ?_)
  unfold frzI
  rw[zBQ hg]
  simp only[List.getElem?_cons_zero]
  rw[←zGJ,ha,hev]
  simp only
  refine zAR (by simp only[zAO,h1];rfl) ?_
  have hw:wr (eL cs) off [SV.u]=eL (wrV cs off [.u]):=by rw[zCn];rfl
  rw[hw,zBf hg (zCW _ _ _ (by simpa using zBU h1))]
  have hg3':getT (⟨s.n,s.al,zAi s.ob o (wrV cs off [.u])⟩:TS).ob o=some (.box n1 cs1):=hg3
  rw[zBQ hg3']
  simp only[List.getElem?_cons_zero]
  refine zAR (by simp only[zAO,h3];rfl) ?_
  have hw1:wr (eL cs1) off [SV.sl g.sz (zBa (rr.map (encC d g)))]=eL (wrV cs1 off [.sl g rr]):=by rw[zCn,zBv];rfl
  rw[hw1,zBf hg3' (zCW _ _ _ (by simpa using zBU h3))]
  exact hK _ h4
 ·cases h2
theorem zQw {o off:Nat}(h:frzBT o off K s=some r)(hK:∀ s,K s=some r→gK K' (eS s)):gK K' (eS s):=by
 unfold frzBT at h
 split at h
 ·rename_i n cs hg
  split at h
  ·rename_i g d rr ha
   exact zPu hg ha rfl h hK
  ·rename_i g ha
   exact zPu (rr:=[]) (d:=true) hg ha rfl h hK
  ·exact hK _ h
 ·exact hK _ h
theorem zQi {t:Nat}{p:Pat}(h:prepV t p K s=some r)(hK:∀ s,K s=some r→gK K' (eS s)):gK K' (eS s):=by
 unfold prepV at h
 split at h
 ·split at h
  ·rename_i hv;exact zFR hv h hK
  ·exact hK _ h
 ·split at h
  ·exact zGG (hK _ h)
  ·exact zGG (hK _ h)
  ·exact zDi h hK
  ·exact hK _ h
 ·split at h
  ·refine zCs _ _ h fun s h=>?_
   split at h
   ·exact hK _ h
   ·exact zGG (hK _ h)
  ·exact hK _ h
 ·exact hK _ h
theorem zIN:∀(l:List (Nat×Pat)) {s:TS},zPS l K s=some r→(∀s,K s=some r→gK K' (eS s))→gK K' (eS s)
 |[],s,h,hK=>hK _ h
 |p::l,s,h,hK=>zQi h fun s h=>zIN l h hK
theorem zEK {o:Nat}:∀(p:Pat) (j:Nat) {s:TS} {K:TS→Option R},zTA o p j K s=some r→(∀s,K s=some r→gK K' (eS s))→gK K' (eS s)
 | .cons p q,j,s,K,h,hK=>by
   unfold zTA at h
   split at h
   ·exact zDp h fun s h=>zEK q (j+1) h hK
   ·exact zDp h fun s h=>zQw h fun s h=>zEK q (j+1) h hK
   ·exact zEK q (j+1) h hK
 |.i _,_,_,_,h,hK|.b,_,_,_,h,hK|.s,_,_,_,h,hK|.sl _,_,_,_,h,hK|.own _ _,_,_,_,h,hK|.ptr _ _,_,_,_,h,hK|.ptrI _ _,_,_,_,h,hK
 |.ar _,_,_,_,h,hK|.nilp,_,_,_,h,hK|.u,_,_,_,h,hK|.nil,_,_,_,h,hK|.sc _,_,_,_,h,hK|.agg _,_,_,_,h,hK|.tup _,_,_,_,h,hK|.fn _ _,_,_,_,h,hK|.ro _,_,_,_,h,hK|.nop,_,_,_,h,hK=>hK _ h
theorem zDL {o:Nat}:∀(p:Pat) (j:Nat) {s:TS} {K:TS→Option R},zQj o p j K s=some r→(∀s,K s=some r→gK K' (eS s))→gK K' (eS s)
 | .cons p q,j,s,K,h,hK=>by
   unfold zQj at h
   split at h
   ·exact zEV h fun s h=>zDL q (j+1) h hK
   ·exact zEV h fun s h=>zIa h fun s h=>zDL q (j+1) h hK
   ·exact zPY h fun s h=>zDL q (j+1) h hK
   ·exact zDL q (j+1) h hK
 |.i _,_,_,_,h,hK|.b,_,_,_,h,hK|.s,_,_,_,h,hK|.sl _,_,_,_,h,hK|.own _ _,_,_,_,h,hK|.ptr _ _,_,_,_,h,hK|.ptrI _ _,_,_,_,h,hK
 |.ar _,_,_,_,h,hK|.nilp,_,_,_,h,hK|.u,_,_,_,h,hK|.nil,_,_,_,h,hK|.sc _,_,_,_,h,hK|.agg _,_,_,_,h,hK|.tup _,_,_,_,h,hK|.fn _ _,_,_,_,h,hK|.ro _,_,_,_,h,hK|.nop,_,_,_,h,hK=>hK _ h
theorem zDK:∀(l:List OPat) {s:TS},zHV l K s=some r→(∀s,K s=some r→gK K' (eS s))→gK K' (eS s)
 |[],s,h,hK=>hK _ h
 | o::l,s,h,hK=>by
   unfold zHV at h
   split at h
   ·exact zEK _ _ h fun s h=>zDK l h hK
   ·exact zEU h fun s h=>zDK l h hK
   ·exact zDL _ _ h fun s h=>zDK l h hK
   ·exact zGP h fun s h=>zSv h fun s h=>zDK l h hK
theorem zEv {x:Operand}(h:zQG x K s=some r)(hK:∀ s,K s=some r→gK K' (eS s)):gK K' (eS s):=by
 unfold zQG at h
 split at h
 ·split at h
  ·rename_i hv;exact zFR hv h hK
  ·exact zCs _ _ h hK
  ·exact hK _ h
 ·exact hK _ h
theorem zGO:∀(l:List Operand) {s:TS},zRE l K s=some r→(∀s,K s=some r→gK K' (eS s))→gK K' (eS s)
 |[],s,h,hK=>hK _ h
 |x::l,s,h,hK=>zEv h fun s h=>zGO l h hK
theorem zGk {x:Operand}(h:frzX x K s=some r)(hK:∀ s,K s=some r→gK K' (eS s)):gK K' (eS s):=by
 unfold frzX at h
 split at h
 ·split at h
  ·exact zDi h hK
  ·exact zGG (hK _ h)
 ·exact hK _ h
theorem zEQ {t:Nat}:∀(n j:Nat) {s:TS},zIb t n j K s=some r→(∀s,K s=some r→gK K' (eS s))→gK K' (eS s)
 |0,j,s,h,hK=>hK _ h
 | n+1,j,s,h,hK=>by
   unfold zIb at h
   split at h
   ·split at h
    ·exact zDi h fun s h=>zEQ n (j+1) h hK
    ·exact zEQ n (j+1) h hK
   ·exact hK _ h
theorem zPx {x:Operand}(h:zUk x K s=some r)(hK:∀ s,K s=some r→gK K' (eS s)):gK K' (eS s):=by
 unfold zUk at h
 split at h
 ·split at h
  ·exact zEQ _ _ h hK
  ·exact hK _ h
 ·exact hK _ h
theorem zGI:∀(l:List Operand) {s:TS},zQx l K s=some r→(∀s,K s=some r→gK K' (eS s))→gK K' (eS s)
 |[],s,h,hK=>hK _ h
 |x::l,s,h,hK=>zPx h fun s h=>zGI l h hK
theorem zGR {o:Nat}:∀(n j:Nat) {s:TS},zRH o n j K s=some r→(∀s,K s=some r→gK K' (eS s))→gK K' (eS s)
 |0,j,s,h,hK=>hK _ h
 |n+1,j,s,h,hK=>zDp h fun s h=>zGR n (j+1) h hK
theorem zCR:∀(l:List TO) {s:TS},zFi l K s=some r→(∀s,K s=some r→gK K' (eS s))→gK K' (eS s)
 |[],s,h,hK=>hK _ h
 | x::l,s,h,hK=>by
   unfold zFi at h
   split at h
   ·exact zGR _ _ h fun s h=>zCR l h hK
   ·exact zCR l h hK
   ·exact zEU h fun s h=>zCR l h hK
   ·exact zCR l h hK
theorem zJO {v:V}(h:opnV v K s=some r)(hK:∀ s,K s=some r→gK K' (eS s)):gK K' (eS s):=by
 unfold opnV at h
 split at h
 ·exact zTB h hK
 ·exact hK _ h
theorem zQh {T:Nat→TI}{gz:List Nat}{o:Oper}(h:zUA T gz o K s=some r)(hK:∀ s,K s=some r→gK K' (eS s)):gK K' (eS s):=by
 unfold zUA at h
 split at h
 ·exact zGO _ h hK
 ·split at h
  ·exact zJO h hK
  ·exact hK _ h
 ·split at h
  ·exact zJO h hK
  ·split at h
   ·exact zEv h fun s h=>zGk h hK
   ·split at h
    ·exact zEv h hK
    ·exact hK _ h
 ·split at h
  ·exact zGk h hK
  ·exact hK _ h
 ·split at h
  ·exact zGk h hK
  ·exact hK _ h
 ·split at h
  ·split at h
   ·split at h
    ·split at h
     ·exact zDi h hK
     ·exact hK _ h
    ·exact hK _ h
   ·exact hK _ h
  ·have hf:∀{s},zUA.frzC gz o (by assumption) K s=some r→gK K' (eS s):=by
    intro s h
    unfold zUA.frzC at h
    split at h
    ·exact zGI _ h hK
    ·exact hK _ h
   split at h
   ·exact zCR _ h fun s h=>hf h
   ·exact hf h
  ·exact hK _ h
 ·exact hK _ h
theorem zDH {N:Nat}{p:SPat}{K:p.Den→Option R}(h:zHQ N p K s=some r)(hK:∀ x,K x=some r→K' (eS (encS N p x))):gK K' (eS s):=by
 obtain⟨h0,h1⟩:=zAF h
 refine zDK _ h1 fun s1 h2=>zIN _ h2 fun s2 h3=>?_
 obtain⟨hn,h3⟩:=zAF h3
 obtain⟨x,h4,h5⟩:=zTM h0 h3
 have hn:=eq_of_beq hn
 rw[hn]at h5
 exact h5 _ (hK x h4)
end
end Go.TM
end
