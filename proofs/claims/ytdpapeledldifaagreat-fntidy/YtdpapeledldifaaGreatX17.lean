/- Part 18 of the proof of FnTidy; no condition. -/
import Derived.Test.YtdpapeledldifaaGreatX16
set_option autoImplicit true
set_option relaxedAutoImplicit true
set_option linter.all false
section
namespace Go.TM
open Go.AM
section
variable {R:Type}
def subV (o:Nat)(y:V):V→V
 |.ar n=>bif n==o then y else .ar n
 |x=>zOB o x
def subA (o:Nat)(y:V):List (Nat×V)→List (Nat×V)
 |[]=>[]
 |p::l=>(p.1,subV o y p.2)::subA o y l
def zIV (s:TS)(o:Nat)(K:TS→Option R):Option R:=match getT s.ob o with
 |some (.arr _ g _ l)=>K ⟨s.n,subA o (.sl g l) s.al,zKD o s.ob⟩
 |_=>none
def zIw (s:TS)(t o:Nat)(K:TS→Option R):Option R:=match getT s.ob o with
 |some (.arr _ g d l)=>K (setT (zIj o s) t (.own g d l))
 |_=>none
def zKZ (t j:Nat)(K:TS→Option R)(s:TS):Option R:=match zBx s t with
 | .agg cs=>match lkV cs j with
   | .ar o=>match getT (zBB s (.tmp t)).ob o with
     |some (.arr _ g d l)=>K (setT (zIj o (zBB s (.tmp t))) t (.agg (updV (zEE o cs) j (.own g d l))))
     |_=>none
   |_=>K s
 |_=>K s
def zGA (t:Nat):Nat→Nat→(TS→Option R)→TS→Option R
 |0,_,K,s=>K s
 |n+1,j,K,s=>zKZ t j (zGA t n (j+1) K) s
def zSB (ob off:Nat)(K:TS→Option R)(s:TS):Option R:=match getT s.ob ob with
 | some (.box _ cs)=>match lkV cs off with
   | .ar o=>match getT s.ob o with
     | some (.arr _ g d l)=>chkO (ble (off+1) cs.length) (match getT (zIj o s).ob ob with
       |some (.box _ cs1)=>chkO (ble (off+1) cs1.length) (K ⟨s.n,(zIj o s).al,zAh (zIj o s).ob ob (wrV cs1 off [.own g d l])⟩)
       |_=>none)
     |_=>none
   |_=>K s
 |_=>K s
def zGB:List TO→Nat→TO→List TO
 |[],_,_=>[]
 |x::l,o,y=>bif x.name==o then y::l else x::zGB l o y
def opnR (o i:Nat)(K:TS→Option R)(s:TS):Option R:=match getT s.ob o with
 |some (.arr n g d l)=>atO l i fun x=>K ⟨s.n,s.al,zGB s.ob o (.opn n g (.all d) l i (cells d g x))⟩
 |some (.spl n g l k)=>grdO (decide (k=i)) (atO l i fun x=>K ⟨s.n,s.al,zGB s.ob o (.opn n g .spl l i (cells false g x))⟩)
 |_=>K s
def arrT (o:Nat)(K:TS→Option R)(s:TS):Option R:=match getT s.ob o with
 |some (.spl n g l k)=>grdO (decide (k=l.length)) (K ⟨s.n,s.al,zGB s.ob o (.arr n g true l)⟩)
 |_=>K s
def splT (o:Nat)(K:TS→Option R)(s:TS):Option R:=match getT s.ob o with
 |some (.arr n g d l)=>chkO (!d) (K ⟨s.n,s.al,zGB s.ob o (.spl n g l 0)⟩)
 |_=>K s
def zXS (o:Nat)(K:TS→Option R)(s:TS):Option R:=match getT s.ob o with
 |some (.arr n g _ l)=>K ⟨s.n,s.al,zGB s.ob o (.arr n g false l)⟩
 |_=>K s
def zWi (o off m:Nat)(K:TS→Option R)(s:TS):Option R:=match getT s.ob o with
 |some (.opn _ _ _ _ i _)=>openN o i off m K s
 |_=>K s
def zSA (o off:Nat)(K:TS→Option R)(s:TS):Option R:=match getT s.ob o with
 | some (.opn _ _ _ l j cs)=>(match lkV cs off with
   | .ar a=>(match getT s.ob a with
     | some (.arr _ g d r)=>chkO (ble (off+1) cs.length) (grdO (decide (j<l.length)) (match getT (zIj a s).ob o with
       |some (.opn _ _ _ l1 j1 cs1)=>chkO (ble (off+1) cs1.length) (grdO (decide (j=j1)&&decide (j1<l1.length)) (K ⟨s.n,(zIj a s).al,zAl (zIj a s).ob o (wrV cs1 off [.own g d r])⟩))
       |_=>none))
     |_=>none)
   |_=>K s)
 |_=>K s
def zKX (o off:Nat)(K:TS→Option R)(s:TS):Option R:=match getT s.ob o with
 | some (.opn _ _ _ _ _ cs)=>(match lkV cs off with
   |.ar a=>arrT a (zSA o off K) s
   |_=>K s)
 |_=>K s
def frzIT (o off:Nat)(K:TS→Option R)(s:TS):Option R:=match getT s.ob o with
 | some (.opn _ _ _ l j cs)=>(match lkV cs off with
   | .own g _ r=>chkO (ble (off+1) cs.length) (grdO (decide (j<l.length)) (match getT (zAl s.ob o (wrV cs off [.u])) o with
     |some (.opn _ _ _ l1 j1 cs1)=>chkO (ble (off+1) cs1.length) (grdO (decide (j=j1)&&decide (j1<l1.length)) (K ⟨s.n,s.al,zAl (zAl s.ob o (wrV cs off [.u])) o (wrV cs1 off [.sl g r])⟩))
     |_=>none))
   | .emp g=>chkO (ble (off+1) cs.length) (grdO (decide (j<l.length)) (match getT (zAl s.ob o (wrV cs off [.u])) o with
     |some (.opn _ _ _ l1 j1 cs1)=>chkO (ble (off+1) cs1.length) (grdO (decide (j=j1)&&decide (j1<l1.length)) (K ⟨s.n,s.al,zAl (zAl s.ob o (wrV cs off [.u])) o (wrV cs1 off [.sl g []])⟩))
     |_=>none))
   |_=>K s)
 |_=>K s
def zOS (o:Nat):Nat→Nat→(TS→Option R)→TS→Option R
 |0,_,K,s=>K s
 |n+1,j,K,s=>zKX o j (zOS o n (j+1) K) s
def zXT (o:Nat):Nat→Nat→(TS→Option R)→TS→Option R
 |0,_,K,s=>K s
 |n+1,j,K,s=>frzIT o j (zXT o n (j+1) K) s
def finNT (o:Nat)(K:TS→Option R)(s:TS):Option R:=match getT s.ob o with
 | some (.opn n g d l j cs)=>grdO (decide (j<l.length)) (match d with
   | .all d=>rdC false d g cs fun z rest=>(match rest with
     |[]=>K ⟨s.n,s.al,zGB s.ob o (.arr n g d (l.set j z))⟩
     |_::_=>none)
   | .spl=>rdC false true g cs fun z rest=>(match rest with
     |[]=>K ⟨s.n,s.al,zGB s.ob o (.spl n g (l.set j z) (j+1))⟩
     |_::_=>none))
 |_=>K s
def zOR (o:Nat)(K:TS→Option R)(s:TS):Option R:=match getT s.ob o with
 | some (.opn _ _ d _ _ cs)=>zOS o cs.length 0 (match d.b with
   |true=>finNT o K
   |false=>zXT o cs.length 0 (finNT o K)) s
 |_=>K s
def zOQ (o:Nat)(K:TS→Option R)(s:TS):Option R:=zOR o (arrT o K) s
def zHa (ob off:Nat)(K:TS→Option R)(s:TS):Option R:=match getT s.ob ob with
 | some (.box _ cs)=>(match lkV cs off with
   |.ar a=>zOQ a (zSB ob off K) s
   |_=>K s)
 |_=>K s
def frzBT (o off:Nat)(K:TS→Option R)(s:TS):Option R:=match getT s.ob o with
 | some (.box _ cs)=>(match lkV cs off with
   | .own g _ r=>chkO (ble (off+1) cs.length) (match getT (zAh s.ob o (wrV cs off [.u])) o with
     |some (.box _ cs1)=>chkO (ble (off+1) cs1.length) (K ⟨s.n,s.al,zAh (zAh s.ob o (wrV cs off [.u])) o (wrV cs1 off [.sl g r])⟩)
     |_=>none)
   | .emp g=>chkO (ble (off+1) cs.length) (match getT (zAh s.ob o (wrV cs off [.u])) o with
     |some (.box _ cs1)=>chkO (ble (off+1) cs1.length) (K ⟨s.n,s.al,zAh (zAh s.ob o (wrV cs off [.u])) o (wrV cs1 off [.sl g []])⟩)
     |_=>none)
   |_=>K s)
 |_=>K s
def ownP:Pat→Bool
 |.own _ _=>true
 |.agg p=>ownP p
 |.cons p q=>ownP p||ownP q
 |_=>false
def prepV (t:Nat)(p:Pat)(K:TS→Option R)(s:TS):Option R:=match p with
 | .own _ _=>(match zBx s t with
   |.ar o=>zIw s t o K
   |_=>K s)
 | .sl _=>(match zBx s t with
   |.own _ _ _=>K (zOG s (.tmp t))
   |.emp _=>K (zOG s (.tmp t))
   |.ar o=>zIV s o K
   |_=>K s)
 | .agg q=>(match zBx s t with
   | .agg cs=>zGA t cs.length 0 (fun s=>match ownP q with
     |true=>K s
     |false=>K (zOG s (.tmp t))) s
   |_=>K s)
 |_=>K s
def zPn:List (Nat×Pat)→(TS→Option R)→TS→Option R
 |[],K,s=>K s
 |p::l,K,s=>prepV p.1 p.2 (zPn l K) s
def zUg (o:Nat):Pat→Nat→(TS→Option R)→TS→Option R
 | .cons p q,j,K,s=>(match p with
   |.own _ _=>zHa o j (zUg o q (j+1) K) s
   |.sl _=>zHa o j (frzBT o j (zUg o q (j+1) K)) s
   |_=>zUg o q (j+1) K s)
 |_,_,K,s=>K s
def zRa (o:Nat):Pat→Nat→(TS→Option R)→TS→Option R
 | .cons p q,j,K,s=>(match p with
   |.own _ _=>zKX o j (zRa o q (j+1) K) s
   |.sl _=>zKX o j (frzIT o j (zRa o q (j+1) K)) s
   |.ar m=>zWi o j m (zRa o q (j+1) K) s
   |_=>zRa o q (j+1) K s)
 |_,_,K,s=>K s
def zIh:List OPat→(TS→Option R)→TS→Option R
 |[],K,s=>K s
 | o::l,K,s=>(match o with
   |.box n p=>zUg n p 0 (zIh l K) s
   |.arr n _ _=>zOQ n (zIh l K) s
   |.opn n _ _ p=>zRa n p 0 (zIh l K) s
   |.spl n _=>zOR n (splT n (zIh l K)) s)
def zId (N:Nat)(p:SPat)(K:p.Den→Option R)(s:TS):Option R:=chkO (okA p.al) (zIh p.ob (zPn p.al fun s=>chkO (s.n==N) (decS p s K)) s)
def zLV (x:Operand)(K:TS→Option R)(s:TS):Option R:=match x with
 | .tmp t=>(match zBx s t with
   |.ar o=>zIw s t o K
   |.agg cs=>zGA t cs.length 0 K s
   |_=>K s)
 |_=>K s
def zOP:List Operand→(TS→Option R)→TS→Option R
 |[],K,s=>K s
 |x::l,K,s=>zLV x (zOP l K) s
def frzX (x:Operand)(K:TS→Option R)(s:TS):Option R:=match x with
 | .tmp t=>(match zBx s t with
   |.ar o=>zIV s o K
   |_=>K (zOG s x))
 |_=>K s
def frzXL:List Operand→(TS→Option R)→TS→Option R
 |[],K,s=>K s
 |x::l,K,s=>frzX x (frzXL l K) s
def isArr (d:Bool)(s:TS)(a:V):Bool:=match a with
 | .p o _ _=>(match getT s.ob o with
   |some (.arr _ _ d' _)=>d==d'
   |_=>false)
 |_=>false
def zKL (t:Nat):Nat→Nat→(TS→Option R)→TS→Option R
 |0,_,K,s=>K s
 | n+1,j,K,s=>(match zBx s t with
   | .agg cs=>(match lkV cs j with
     |.ar o=>zIV s o (zKL t n (j+1) K)
     |_=>zKL t n (j+1) K s)
   |_=>K s)
def zXV (x:Operand)(K:TS→Option R)(s:TS):Option R:=match x with
 | .tmp t=>(match zBx s t with
   |.agg cs=>zKL t cs.length 0 K s
   |_=>K s)
 |_=>K s
def zRs:List Operand→(TS→Option R)→TS→Option R
 |[],K,s=>K s
 |x::l,K,s=>zXV x (zRs l K) s
def zSC (o:Nat):Nat→Nat→(TS→Option R)→TS→Option R
 |0,_,K,s=>K s
 |n+1,j,K,s=>zHa o j (zSC o n (j+1) K) s
def zGg:List TO→(TS→Option R)→TS→Option R
 |[],K,s=>K s
 | x::l,K,s=>(match x with
   |.box n cs=>zSC n cs.length 0 (zGg l K) s
   |.arr _ _ _ _=>zGg l K s
   |.opn n _ _ _ _ _=>zOQ n (zGg l K) s
   |.spl _ _ _ _=>zGg l K s)
def opnV (v:V)(K:TS→Option R)(s:TS):Option R:=match v with
 |.p o i _=>opnR o i K s
 |_=>K s
def zWb (T:Nat→TI)(gz:List Nat)(o:Oper)(K:TS→Option R)(s:TS):Option R:=match o.op with
 | .buildSlice _ _ ps=>(match gz.contains 6500000 with
   |true=>zOP (opnds ps) (frzXL (opnds ps) K) s
   |false=>zOP (opnds ps) K s)
 | .load t a=>(match zOD (T t).kind||gz.contains 7000000 with
   |true=>opnV (evT s a) K s
   |false=>K s)
 | .store _ a x=>(match gz.contains 6000000 with
   |true=>zLV x (frzX x K) s
   | false=>(match gz.contains 5000000 with
     |true=>opnV (evT s a) K s
     | false=>(match isArr false s (evT s a)with
       |true=>zLV x (frzX x K) s
       | false=>(match isArr true s (evT s a)with
         |true=>zLV x K s
         |false=>K s))))
 | .convert _ d x=>(match(T d).kind with
   |.str=>frzX x K s
   |_=>K s)
 | .slice _ x _ _ _=>(match gz.contains (zDZ o.dst)with
   |true=>frzX x K s
   |false=>K s)
 | .call c=>(match c.callee with
   | .builtin .append=>(match c.args.toList with
     | [_,y]=>(match y with
       | .tmp t=>(match zBx s t with
         |.ar o=>zIV s o K
         |_=>K s)
       |_=>K s)
     |_=>K s)
   | .value _=>(match gz.contains (1000000+zDZ o.dst)with
     |true=>zGg s.ob (frzC gz o c K) s
     |false=>frzC gz o c K s)
   | .builtin .len=>(match gz.contains 8000000 with
     | true=>(match c.args.toList with
       | [y]=>(match evT s y with
         |.ar o=>zXS o K s
         |_=>K s)
       |_=>K s)
     |false=>K s)
   |_=>K s)
 |_=>K s
where frzC (gz:List Nat) (o:Oper) (c:Call) (K:TS→Option R) (s:TS):Option R:=match gz.contains (zDZ o.dst)with
 |true=>zRs c.args.toList K s
 |false=>K s
variable {r:R}{s:TS}{K:TS→Option R}{K':St→Prop}
def subV_e (o:Nat)(y v:V):AM.subV o (e y) (e v)=e (subV o y v):=by
 cases v with
 | ar n=>
   simp only[e,AM.subV,subV]
   by_cases h:n=o
   ·simp[h]
   ·have:(n==o)=false:=by simpa using h
    simp[h,this,e]
 |_=>first|rfl|(simp only[subV,←zXB];rfl)
def zWG (o:Nat)(y:V):∀al:List (Nat×V),zKw o (e y) (eA al)=eA (subA o y al)
 |[]=>rfl
 |p::l=>by simp only[eA,zKw,subA,subV_e,zWG o y l]
def zEF {o:Nat}(h:zIV s o K=some r)(hK:∀ s,K s=some r→gK K' (eS s)):gK K' (eS s):=by
 unfold zIV at h;split at h
 ·rename_i n g d l hg;refine zBQ (zTm o ?_);unfold zXU;rw[zBP hg];refine⟨rfl,?_⟩;simp only[zBp]
  have:=hK _ h;simp only[eS]at this ⊢;rw[zPU,show SV.sl g.sz (l.map (encC false g))=e (.sl g l)from rfl,zWG,zFx];exact this
 ·cases h
def zQP {o:Nat}(h:zXS o K s=some r)(hK:∀ s,K s=some r→gK K' (eS s))(hset:∀ (l:List TO) {n:Nat} {g:GT} {d:Bool} {r:List g.Den},getT l o=some (.arr n g d r)→eOs (zGB l o (.arr n g false r))=zAk (eOs l) o (zBX (r.map (encC d g)))):gK K' (eS s):=by
 unfold zXS at h;split at h
 ·rename_i n g d l hg;refine zBQ (gK_frzIn o ?_);unfold frzIn;rw[zBP hg];refine⟨rfl,?_⟩;have:=hK _ h;simp only[eS]at this ⊢;rw[hset s.ob hg]at this;exact this
 ·exact hK _ h
def zGL {t o:Nat}(hv:zBx s t = .ar o)(h:zIw s t o K=some r)(hK:∀ s,K s=some r→gK K' (eS s)):gK K' (eS s):=by
 unfold zIw at h;split at h
 ·rename_i n g d l hg;refine zBQ (zUp t ?_);unfold zOV;rw[zCp,hv];simp only[e]
  rw[zBP hg];refine⟨rfl,?_⟩;rw[zFw,show SV.own g.sz (l.map (encC d g))=e (.own g d l)from rfl,zCv];exact hK _ h
 ·cases h
def zHQ {t:Nat}(h:gK K' (eS (zOG s (.tmp t)))):gK K' (eS s):=by
 refine zBQ (gK_frz t ?_);rw[zXQ];exact h
def zKY {t j:Nat}(h:zKZ t j K s=some r)(hK:∀ s,K s=some r→gK K' (eS s)):gK K' (eS s):=by
 unfold zKZ at h;split at h
 ·rename_i cs hv;split at h
  ·rename_i o ho;split at h
   ·rename_i n g d l hg;refine zBQ (zRp (t:=t) (j:=j) ?_);unfold zOW;rw[zCp,hv];simp only[e]
    rw[←zHU,ho];simp only[e]
    rw[zCl,zBP hg];simp only
    rw[zEw,zFw,show SV.own g.sz (l.map (encC d g))=e (.own g d l)from rfl,←zRz,show SV.agg (eL (updV (zEE o cs) j (.own g d l)))=e (.agg (updV (zEE o cs) j (.own g d l)))from rfl,zCv];exact hK _ h
   ·cases h
  ·exact hK _ h
 ·exact hK _ h
def zDH {t:Nat}:∀(n j:Nat) {s:TS},zGA t n j K s=some r→(∀s,K s=some r→gK K' (eS s))→gK K' (eS s)
 |0,j,s,h,hK=>hK _ h
 |n+1,j,s,h,hK=>zKY h fun s h=>zDH n (j+1) h hK
def zOU {ob off:Nat}(h:zSB ob off K s=some r)(hK:∀ s,K s=some r→gK K' (eS s)):gK K' (eS s):=by
 unfold zSB at h;split at h
 ·rename_i n cs hg;split at h
  ·rename_i o ho;split at h
   ·rename_i m g d l hg2;obtain⟨h1,h2⟩:=zAF h;split at h2
    ·rename_i n1 cs1 hg3;obtain⟨h3,h4⟩:=zAF h2;refine zBQ (zXL (ob:=ob) (off:=off) ?_);unfold zUC;rw[zBT hg];simp only[List.getElem?_cons_zero]
     rw[←zHU,ho];simp only[e]
     rw[zBP hg2];refine zAQ (by simp only[zAN,h1];rfl) ?_;rw[zFw,zBT hg3];simp only[List.getElem?_cons_zero]
     refine zAQ (by simp only[zAN,h3];rfl) ?_;have hw:wr (eL cs1) off [SV.own g.sz (l.map (encC d g))]=eL (wrV cs1 off [.own g d l]):=by rw[zDC];rfl
     rw[hw,zBm hg3 (zCk _ _ _ (by simpa using zBY h3))];exact hK _ h4
    ·cases h2
   ·cases h
  ·exact hK _ h
 ·exact hK _ h
def zCU (g:GT)(d:Bool):∀l:List g.Den,zBL (l.map (encC d g))=true
 |[]=>rfl
 |x::l=>by simp only[zMc,zBL,zEX g d x,zCU g d l,zBs]
def zHB {o:Nat}{y:TO}{b:Bool}:∀(l:List TO) {x:TO},getT l o=some x→eO y={eO x with nm:=b}→eOs (zGB l o y)=zPe (eOs l) o b
 |[],_,h,_=>by cases h
 | z::l,x,h,he=>by
   simp only[getT]at h;simp only[zGB,eOs,zPe,zDo]
   by_cases hx:z.name=o
   ·have h':(z.name==o)=true:=by simpa using hx
    rw[h',cond_true]at h;simp only[zSe]at h;subst h;rw[h',cond_true,if_pos hx];show eO y::eOs l=_;rw[he];simp only[zDo]
   ·have h':(z.name==o)=false:=by simpa using hx
    rw[h',cond_false]at h;simp only[h',cond_false,hx,if_false,eOs,zHB l h he]
def zTH {α:Type}{l:List α}{i:Nat}{x:α}(h:l[i]? = some x):l.set i x=l:=by
 apply List.ext_getElem?;intro j;by_cases hj:i=j
 ·subst hj;have hlt:=zCP h;rw[List.getElem?_set_self hlt,h]
 ·rw[List.getElem?_set_ne hj]
def zHG:∀a b:List (List SV),zBL (a++b)=(zBL a&&zBL b)
 |[],_=>rfl
 |x::a,b=>by simp only[zCa,zBL,zHG a b,Bool.and_assoc]
def zGG (d:DM)(g:GT)(i:Nat)(l:List g.Den):zBL (encM d g i l)=true:=by
 cases d
 ·exact zCU g _ l
 ·simp only[encM,zHG,zCU,zBs]
def zKz {o:Nat}{y:TO}{rows:List (List SV)}:∀(l:List TO) {x:TO},getT l o=some x→eO y={eO x with rows:=rows}→eOs (zGB l o y)=zAk (eOs l) o rows
 |[],x,h,_=>by cases h
 | z::l,x,h,he=>by
   unfold getT at h;simp only[zGB,eOs,zAk,zDo]
   cases h':(z.name==o)with
   | true=>
     rw[h',cond_true]at h;obtain rfl:=Option.some.inj h;have hx:z.name=o:=eq_of_beq h';simp only[cond_true,hx,if_true,eOs,he,zDo]
   | false=>
     rw[h',cond_false]at h;have hx:¬z.name=o:=fun e=>by simp[e]at h'
     simp only[cond_false,hx,if_false,eOs,zKz l h he]
def zNZ {o:Nat}{y:TO}:∀(l:List TO) {x:TO},getT l o=some x→eO y=eO x→eOs (zGB l o y)=eOs l
 |[],_,h,_=>by cases h
 | z::l,x,h,he=>by
   simp only[getT]at h;simp only[zGB,eOs]
   cases hz:z.name==o with
   | true=>
     rw[hz,cond_true]at h;simp only[zSe]at h;subst h;simp only[cond_true,eOs,he]
   | false=>
     rw[hz,cond_false]at h;simp only[cond_false,eOs,zNZ l h he]
def zLb {o:Nat}(h:arrT o K s=some r)(hK:∀ s,K s=some r→gK K' (eS s)):gK K' (eS s):=by
 unfold arrT at h;split at h
 ·rename_i n g l k hg;obtain⟨h1,h2⟩:=zAP h;simp only[zDe]at h1;subst h1;have:=hK _ h2;simp only[eS]at this ⊢;rw[zNZ s.ob hg]at this
  ·exact this
  ·simp only[eO,encM,List.take_length,List.drop_length,List.map_nil,zAn]
 ·exact hK _ h
def zUb {o:Nat}(h:splT o K s=some r)(hK:∀ s,K s=some r→gK K' (eS s)):gK K' (eS s):=by
 unfold splT at h;split at h
 ·rename_i n g d l hg;obtain⟨h1,h2⟩:=zAF h;have h1:d=false:=by simpa using h1
  subst h1;have:=hK _ h2;simp only[eS]at this ⊢;rw[zNZ s.ob hg]at this
  ·exact this
  ·simp only[eO,encM,List.take_zero,List.drop_zero,List.map_nil,zNa]
 ·exact hK _ h
def zPu {o off m:Nat}(h:zWi o off m K s=some r)(hK:∀ s,K s=some r→gK K' (eS s)):gK K' (eS s):=by
 unfold zWi at h;split at h
 ·exact zBQ (zTl (K:=fun st=>gK K' st) (zJy h hK))
 ·exact hK _ h
def zUh {o i:Nat}(h:opnR o i K s=some r)(hK:∀ s,K s=some r→gK K' (eS s)):gK K' (eS s):=by
 unfold opnR at h;split at h
 ·rename_i n g d l hg;obtain⟨x,hx,h1⟩:=zFI h;refine zBQ (gK_nm o true ?_ ?_)
  ·intro y hy;rw[zBP hg]at hy;simp only[zSe]at hy;rw[←hy];exact zCU g d l
  ·have:=hK _ h1;simp only[eS]at this ⊢;rw[zHB (b:=true) s.ob hg]at this
   ·exact this
   ·simp only[eO,zEG]
    simp only[encM]
    rw[zTH];rw[List.getElem?_map,hx];rfl
 ·rename_i n g l k hg;obtain⟨h0,h1⟩:=zAP h;simp only[zDe]at h0;subst h0;obtain⟨x,hx,h1⟩:=zFI h1;refine zBQ (gK_nm o true ?_ ?_)
  ·intro y hy;rw[zHP hg]at hy;simp only[zSe]at hy;rw[←hy];exact zGG .spl g k l
  ·have:=hK _ h1;simp only[eS]at this ⊢;rw[zHB (b:=true) s.ob hg]at this
   ·exact this
   ·simp only[eO,zEG]
    rw[zTH];exact zTw (zLr _) hx
 ·exact hK _ h
def zOT {o off:Nat}(h:zSA o off K s=some r)(hK:∀ s,K s=some r→gK K' (eS s)):gK K' (eS s):=by
 unfold zSA at h;split at h
 ·rename_i n g0 d0 l j cs hg;split at h
  ·rename_i a ha;split at h
   ·rename_i m g d rr hg2;obtain⟨h1,h2⟩:=zAF h;obtain⟨hlt,h2⟩:=zAP h2;simp only[zDe]at hlt;split at h2
    ·rename_i n1 g1 d1 l1 j1 cs1 hg3;obtain⟨h3,h4⟩:=zAF h2;obtain⟨h5,h4'⟩:=zAP h4;simp only[zBa,zDe]at h5;obtain⟨h5,h6⟩:=h5;subst h5;refine zBQ (zXK (ob:=o) (i:=j) (off:=off) ?_);unfold zXh;rw[zBM hg];simp only[zEM hlt]
     rw[←zHU,ha];simp only[e]
     rw[zBP hg2];refine zAQ (by simp only[zAN,h1];rfl) ?_;rw[zFw,zBM hg3];simp only[zEM h6]
     refine zAQ (by simp only[zAN,h3];rfl) ?_;have hw:wr (eL cs1) off [SV.own g.sz (rr.map (encC d g))]=eL (wrV cs1 off [.own g d rr]):=by rw[zDC];rfl
     rw[hw,zCO hg3];exact hK _ h4'
    ·cases h2
   ·cases h
  ·exact hK _ h
 ·exact hK _ h
def zFG {o off:Nat}(h:zKX o off K s=some r)(hK:∀ s,K s=some r→gK K' (eS s)):gK K' (eS s):=by
 unfold zKX at h;split at h
 ·split at h
  ·exact zLb h fun s h=>zOT h hK
  ·exact hK _ h
 ·exact hK _ h
def zQQ {o off n:Nat}{g0:GT}{d0:DM}{l:List g0.Den}{j:Nat}{cs:List V}{g:GT}{d:Bool}{rr:List g.Den}{v:V}(hg:getT s.ob o=some (.opn n g0 d0 l j cs))(ha:lkV cs off=v)(hev:e v = .own g.sz (rr.map (encC d g)))
  (h:chkO (ble (off+1) cs.length) (grdO (decide (j<l.length)) (match getT (zAl s.ob o (wrV cs off [.u])) o with
   |some (.opn _ _ _ l1 j1 cs1)=>chkO (ble (off+1) cs1.length) (grdO (decide (j=j1)&&decide (j1<l1.length)) (K ⟨s.n,s.al,zAl (zAl s.ob o (wrV cs off [.u])) o (wrV cs1 off [.sl g rr])⟩))
   |_=>none))=some r) (hK:∀s,K s=some r→gK K' (eS s)):gK K' (eS s):=by
 obtain⟨h1,h2⟩:=zAF h;obtain⟨hlt,h2⟩:=zAP h2;simp only[zDe]at hlt;split at h2
 ·rename_i n1 g1 d1 l1 j1 cs1 hg3;obtain⟨h3,h4⟩:=zAF h2;obtain⟨h5,h4'⟩:=zAP h4;simp only[zBa,zDe]at h5;obtain⟨h5,h6⟩:=h5;subst h5;refine zBQ (zXJ (ob:=o) (i:=j) (off:=off) ?_);unfold frzI;rw[zBM hg];simp only[zEM hlt]
  rw[←zHU,ha,hev];simp only
  refine zAQ (by simp only[zAN,h1];rfl) ?_;have hw:wr (eL cs) off [SV.u]=eL (wrV cs off [.u]):=by rw[zDC];rfl
  rw[hw,zCO hg];have hg3':getT (⟨s.n,s.al,zAl s.ob o (wrV cs off [.u])⟩:TS).ob o=some (.opn n1 g1 d1 l1 j cs1):=hg3;rw[zBM hg3'];simp only[zEM h6]
  refine zAQ (by simp only[zAN,h3];rfl) ?_;have hw1:wr (eL cs1) off [SV.sl g.sz (zBX (rr.map (encC d g)))]=eL (wrV cs1 off [.sl g rr]):=by rw[zDC,zBp];rfl
  rw[hw1,zCO hg3'];exact hK _ h4'
 ·cases h2
def zKK {o off:Nat}(h:frzIT o off K s=some r)(hK:∀ s,K s=some r→gK K' (eS s)):gK K' (eS s):=by
 unfold frzIT at h;split at h
 ·rename_i n g0 d0 l j cs hg;split at h
  ·rename_i g d rr ha;exact zQQ hg ha rfl h hK
  ·rename_i g ha;exact zQQ (rr:=[]) (d:=true) hg ha rfl h hK
  ·exact hK _ h
 ·exact hK _ h
def zGK {o:Nat}:∀(n j:Nat) {s:TS} {K:TS→Option R},zOS o n j K s=some r→(∀s,K s=some r→gK K' (eS s))→gK K' (eS s)
 |0,j,s,K,h,hK=>hK _ h
 |n+1,j,s,K,h,hK=>zFG h fun s h=>zGK n (j+1) h hK
def zIU {o:Nat}:∀(n j:Nat) {s:TS} {K:TS→Option R},zXT o n j K s=some r→(∀s,K s=some r→gK K' (eS s))→gK K' (eS s)
 |0,j,s,K,h,hK=>hK _ h
 |n+1,j,s,K,h,hK=>zKK h fun s h=>zIU n (j+1) h hK
def zXb {o n:Nat}{g:GT}{d:Bool}{l:List g.Den}{j:Nat}{cs:List V}(hg:getT s.ob o=some (.opn n g (.all d) l j cs)){z:g.Den}(h5:eL cs=encC d g z)(h:gK K' (eS ⟨s.n,s.al,zGB s.ob o (.arr n g d (l.set j z))⟩)):gK K' (eS s):=by
 have hrows:(l.map (encC d g)).set j (eL cs)=(l.set j z).map (encC d g):=by rw[h5,List.map_set]
 refine zBQ (gK_nm o false ?_ ?_)
 ·intro y hy;rw[zBM hg]at hy;simp only[zSe]at hy;rw[←hy];simp only[encM,hrows]
  exact zCU g d _
 ·simp only[eS]at h ⊢;rw[zHB (b:=false) s.ob hg]at h
  ·exact h
  ·simp only[eO,encM,hrows]
def encM_set {g:GT}{l:List g.Den}{j:Nat}{z:g.Den}(h:j<l.length):(encM .spl g j l).set j (encC true g z)=encM .spl g (j+1) (l.set j z):=by
 simp only[encM]
 rw[List.set_append_right _ _ (by simp only[zLm,zLt];omega),List.take_succ,List.take_set_of_le (zLr _),List.getElem?_set_self h,List.drop_set_of_lt (Nat.lt_succ_self _),List.drop_eq_getElem_cons h];have:j-((l.take j).map (encC true g)).length=0:=by simp only[zLm,zLt];omega
 rw[this];simp only[zMc,List.set_cons_zero,Option.toList_some,List.map_append,List.map_nil,zAa,zCa,zNa]
def zKP {o:Nat}(h:finNT o K s=some r)(hK:∀ s,K s=some r→gK K' (eS s)):gK K' (eS s):=by
 unfold finNT at h;split at h
 ·rename_i n g d l j cs hg;obtain⟨hlt,h2⟩:=zAP h;simp only[zDe]at hlt;cases d with
  | all d=>
    obtain⟨z,rest,h4,h5⟩:=zJm g _ _ h2;cases rest with
    |cons a b=>cases h4
    | nil=>
      simp only[eL,zAn]at h5;exact zXb hg h5 (hK _ h4)
  | spl=>
    obtain⟨z,rest,h4,h5⟩:=zJm g _ _ h2;cases rest with
    |cons a b=>cases h4
    | nil=>
      simp only[eL,zAn]at h5;have hrows:(encM .spl g j l).set j (eL cs)=encM .spl g (j+1) (l.set j z):=by rw[h5,encM_set hlt]
      refine zBQ (gK_nm o false ?_ ?_)
      ·intro y hy;rw[zBM hg]at hy;simp only[zSe]at hy;rw[←hy];simp only[hrows]
       exact zGG _ g _ _
      ·have:=hK _ h4;simp only[eS]at this ⊢;rw[zHB (b:=false) s.ob hg]at this
       ·exact this
       ·simp only[eO,hrows]
 ·exact hK _ h
def zHZ {o:Nat}(h:zOR o K s=some r)(hK:∀ s,K s=some r→gK K' (eS s)):gK K' (eS s):=by
 unfold zOR at h;split at h
 ·rename_i n g d l j cs hg;refine zGK _ _ h fun s h=>?_
  cases hd:d.b with
  |true=>rw[hd]at h;exact zKP h hK
  |false=>rw[hd]at h;exact zIU _ _ h fun s h=>zKP h hK
 ·exact hK _ h
def zFF {o:Nat}(h:zOQ o K s=some r)(hK:∀ s,K s=some r→gK K' (eS s)):gK K' (eS s) :=
 zHZ h fun s h=>zLb h hK
def zEO {ob off:Nat}(h:zHa ob off K s=some r)(hK:∀ s,K s=some r→gK K' (eS s)):gK K' (eS s):=by
 unfold zHa at h;split at h
 ·split at h
  ·exact zFF h fun s h=>zOU h hK
  ·exact hK _ h
 ·exact hK _ h
def zQR {o off n:Nat}{cs:List V}{g:GT}{d:Bool}{rr:List g.Den}{v:V}(hg:getT s.ob o=some (.box n cs))(ha:lkV cs off=v)(hev:e v = .own g.sz (rr.map (encC d g)))
  (h:chkO (ble (off+1) cs.length) (match getT (zAh s.ob o (wrV cs off [.u])) o with
   |some (.box _ cs1)=>chkO (ble (off+1) cs1.length) (K ⟨s.n,s.al,zAh (zAh s.ob o (wrV cs off [.u])) o (wrV cs1 off [.sl g rr])⟩)
   |_=>none)=some r) (hK:∀s,K s=some r→gK K' (eS s)):gK K' (eS s):=by
 obtain⟨h1,h2⟩:=zAF h;split at h2
 ·rename_i n1 cs1 hg3;obtain⟨h3,h4⟩:=zAF h2;refine zBQ (zXJ (ob:=o) (i:=0) (off:=off) ?_);unfold frzI;rw[zBT hg];simp only[List.getElem?_cons_zero]
  rw[←zHU,ha,hev];simp only
  refine zAQ (by simp only[zAN,h1];rfl) ?_;have hw:wr (eL cs) off [SV.u]=eL (wrV cs off [.u]):=by rw[zDC];rfl
  rw[hw,zBm hg (zCk _ _ _ (by simpa using zBY h1))];have hg3':getT (⟨s.n,s.al,zAh s.ob o (wrV cs off [.u])⟩:TS).ob o=some (.box n1 cs1):=hg3;rw[zBT hg3'];simp only[List.getElem?_cons_zero]
  refine zAQ (by simp only[zAN,h3];rfl) ?_;have hw1:wr (eL cs1) off [SV.sl g.sz (zBX (rr.map (encC d g)))]=eL (wrV cs1 off [.sl g rr]):=by rw[zDC,zBp];rfl
  rw[hw1,zBm hg3' (zCk _ _ _ (by simpa using zBY h3))];exact hK _ h4
 ·cases h2
def zRr {o off:Nat}(h:frzBT o off K s=some r)(hK:∀ s,K s=some r→gK K' (eS s)):gK K' (eS s):=by
 unfold frzBT at h;split at h
 ·rename_i n cs hg;split at h
  ·rename_i g d rr ha;exact zQR hg ha rfl h hK
  ·rename_i g ha;exact zQR (rr:=[]) (d:=true) hg ha rfl h hK
  ·exact hK _ h
 ·exact hK _ h
def zRZ {t:Nat}{p:Pat}(h:prepV t p K s=some r)(hK:∀ s,K s=some r→gK K' (eS s)):gK K' (eS s):=by
 unfold prepV at h;split at h
 ·split at h
  ·rename_i hv;exact zGL hv h hK
  ·exact hK _ h
 ·split at h
  ·exact zHQ (hK _ h)
  ·exact zHQ (hK _ h)
  ·exact zEF h hK
  ·exact hK _ h
 ·split at h
  ·refine zDH _ _ h fun s h=>?_
   split at h
   ·exact hK _ h
   ·exact zHQ (hK _ h)
  ·exact hK _ h
 ·exact hK _ h
def zJp:∀(l:List (Nat×Pat)) {s:TS},zPn l K s=some r→(∀s,K s=some r→gK K' (eS s))→gK K' (eS s)
 |[],s,h,hK=>hK _ h
 |p::l,s,h,hK=>zRZ h fun s h=>zJp l h hK
def zEt {o:Nat}:∀(p:Pat) (j:Nat) {s:TS} {K:TS→Option R},zUg o p j K s=some r→(∀s,K s=some r→gK K' (eS s))→gK K' (eS s)
 | .cons p q,j,s,K,h,hK=>by
   unfold zUg at h;split at h
   ·exact zEO h fun s h=>zEt q (j+1) h hK
   ·exact zEO h fun s h=>zRr h fun s h=>zEt q (j+1) h hK
   ·exact zEt q (j+1) h hK
 |.i _,_,_,_,h,hK|.b,_,_,_,h,hK|.s,_,_,_,h,hK|.sl _,_,_,_,h,hK|.own _ _,_,_,_,h,hK|.ptr _ _,_,_,_,h,hK|.ptrI _ _,_,_,_,h,hK
 |.ar _,_,_,_,h,hK|.nilp,_,_,_,h,hK|.u,_,_,_,h,hK|.nil,_,_,_,h,hK|.sc _,_,_,_,h,hK|.agg _,_,_,_,h,hK|.tup _,_,_,_,h,hK|.fn _ _,_,_,_,h,hK|.ro _,_,_,_,h,hK|.nop,_,_,_,h,hK=>hK _ h
def zDc {o:Nat}:∀(p:Pat) (j:Nat) {s:TS} {K:TS→Option R},zRa o p j K s=some r→(∀s,K s=some r→gK K' (eS s))→gK K' (eS s)
 | .cons p q,j,s,K,h,hK=>by
   unfold zRa at h;split at h
   ·exact zFG h fun s h=>zDc q (j+1) h hK
   ·exact zFG h fun s h=>zKK h fun s h=>zDc q (j+1) h hK
   ·exact zPu h fun s h=>zDc q (j+1) h hK
   ·exact zDc q (j+1) h hK
 |.i _,_,_,_,h,hK|.b,_,_,_,h,hK|.s,_,_,_,h,hK|.sl _,_,_,_,h,hK|.own _ _,_,_,_,h,hK|.ptr _ _,_,_,_,h,hK|.ptrI _ _,_,_,_,h,hK
 |.ar _,_,_,_,h,hK|.nilp,_,_,_,h,hK|.u,_,_,_,h,hK|.nil,_,_,_,h,hK|.sc _,_,_,_,h,hK|.agg _,_,_,_,h,hK|.tup _,_,_,_,h,hK|.fn _ _,_,_,_,h,hK|.ro _,_,_,_,h,hK|.nop,_,_,_,h,hK=>hK _ h
def zDb:∀(l:List OPat) {s:TS},zIh l K s=some r→(∀s,K s=some r→gK K' (eS s))→gK K' (eS s)
 |[],s,h,hK=>hK _ h
 | o::l,s,h,hK=>by
   unfold zIh at h;split at h
   ·exact zEt _ _ h fun s h=>zDb l h hK
   ·exact zFF h fun s h=>zDb l h hK
   ·exact zDc _ _ h fun s h=>zDb l h hK
   ·exact zHZ h fun s h=>zUb h fun s h=>zDb l h hK
def zEH {x:Operand}(h:zLV x K s=some r)(hK:∀ s,K s=some r→gK K' (eS s)):gK K' (eS s):=by
 unfold zLV at h;split at h
 ·split at h
  ·rename_i hv;exact zGL hv h hK
  ·exact zDH _ _ h hK
  ·exact hK _ h
 ·exact hK _ h
def zFE:∀(l:List Operand) {s:TS},zOP l K s=some r→(∀s,K s=some r→gK K' (eS s))→gK K' (eS s)
 |[],s,h,hK=>hK _ h
 |x::l,s,h,hK=>zEH h fun s h=>zFE l h hK
def zEe {x:Operand}(h:frzX x K s=some r)(hK:∀ s,K s=some r→gK K' (eS s)):gK K' (eS s):=by
 unfold frzX at h;split at h
 ·split at h
  ·exact zEF h hK
  ·exact zHQ (hK _ h)
 ·exact hK _ h
def zFA {t:Nat}:∀(n j:Nat) {s:TS},zKL t n j K s=some r→(∀s,K s=some r→gK K' (eS s))→gK K' (eS s)
 |0,j,s,h,hK=>hK _ h
 | n+1,j,s,h,hK=>by
   unfold zKL at h;split at h
   ·split at h
    ·exact zEF h fun s h=>zFA n (j+1) h hK
    ·exact zFA n (j+1) h hK
   ·exact hK _ h
def zQU {x:Operand}(h:zXV x K s=some r)(hK:∀ s,K s=some r→gK K' (eS s)):gK K' (eS s):=by
 unfold zXV at h;split at h
 ·split at h
  ·exact zFA _ _ h hK
  ·exact hK _ h
 ·exact hK _ h
def zHT:∀(l:List Operand) {s:TS},zRs l K s=some r→(∀s,K s=some r→gK K' (eS s))→gK K' (eS s)
 |[],s,h,hK=>hK _ h
 |x::l,s,h,hK=>zQU h fun s h=>zHT l h hK
def zHb {o:Nat}:∀(n j:Nat) {s:TS},zSC o n j K s=some r→(∀s,K s=some r→gK K' (eS s))→gK K' (eS s)
 |0,j,s,h,hK=>hK _ h
 |n+1,j,s,h,hK=>zEO h fun s h=>zHb n (j+1) h hK
def zCf:∀(l:List TO) {s:TS},zGg l K s=some r→(∀s,K s=some r→gK K' (eS s))→gK K' (eS s)
 |[],s,h,hK=>hK _ h
 | x::l,s,h,hK=>by
   unfold zGg at h;split at h
   ·exact zHb _ _ h fun s h=>zCf l h hK
   ·exact zCf l h hK
   ·exact zFF h fun s h=>zCf l h hK
   ·exact zCf l h hK
def zKI:∀(l:List Operand) {s:TS},frzXL l K s=some r→(∀s,K s=some r→gK K' (eS s))→gK K' (eS s)
 |[],_,h,hK=>hK _ h
 |_::l,_,h,hK=>zEe h fun _ h=>zKI l h hK
def zLF {v:V}(h:opnV v K s=some r)(hK:∀ s,K s=some r→gK K' (eS s)):gK K' (eS s):=by
 unfold opnV at h;split at h
 ·exact zUh h hK
 ·exact hK _ h
def zRY {T:Nat→TI}{gz:List Nat}{o:Oper}(h:zWb T gz o K s=some r)(hK:∀ s,K s=some r→gK K' (eS s)):gK K' (eS s):=by
 unfold zWb at h;split at h
 ·split at h
  ·exact zFE _ h fun s h=>zKI _ h hK
  ·exact zFE _ h hK
 ·split at h
  ·exact zLF h hK
  ·exact hK _ h
 ·split at h
  ·exact zEH h fun s h=>zEe h hK
  split at h
  ·exact zLF h hK
  ·split at h
   ·exact zEH h fun s h=>zEe h hK
   ·split at h
    ·exact zEH h hK
    ·exact hK _ h
 ·split at h
  ·exact zEe h hK
  ·exact hK _ h
 ·split at h
  ·exact zEe h hK
  ·exact hK _ h
 ·split at h
  ·split at h
   ·split at h
    ·split at h
     ·exact zEF h hK
     ·exact hK _ h
    ·exact hK _ h
   ·exact hK _ h
  ·have hf:∀{s},zWb.frzC gz o (by assumption) K s=some r→gK K' (eS s):=by
    intro s h;unfold zWb.frzC at h;split at h
    ·exact zHT _ h hK
    ·exact hK _ h
   split at h
   ·exact zCf _ h fun s h=>hf h
   ·exact hf h
  ·split at h
   ·split at h
    ·split at h
     ·exact zQP h hK fun l _ _ _ _ hg=>zKz l hg (by simp only[eO,zBp])
     ·exact hK _ h
    ·exact hK _ h
   ·exact hK _ h
  ·exact hK _ h
 ·exact hK _ h
def zDY {N:Nat}{p:SPat}{K:p.Den→Option R}(h:zId N p K s=some r)(hK:∀ x,K x=some r→K' (eS (encS N p x))):gK K' (eS s):=by
 obtain⟨h0,h1⟩:=zAF h;refine zDb _ h1 fun s1 h2=>zJp _ h2 fun s2 h3=>?_
 obtain⟨hn,h3⟩:=zAF h3;obtain⟨x,h4,h5⟩:=zUu h0 h3;have hn:=eq_of_beq hn;rw[hn]at h5;exact h5 _ (hK x h4)
end
end Go.TM
end
