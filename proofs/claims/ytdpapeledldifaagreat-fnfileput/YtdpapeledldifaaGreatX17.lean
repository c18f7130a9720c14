/- Part 18 of the proof that the law FnFilePut holds of every input; no condition. -/
import Derived.Test.YtdpapeledldifaaGreatX16
set_option autoImplicit true
set_option relaxedAutoImplicit true
set_option linter.all false
section
namespace Go.TM
open Go.AM
section
variable {R:Type}
def subV (o:Nat) (y:V):V→V
 | .ar n=>bif n == o then y else .ar n
 | x=>zMh o x
def subA (o:Nat) (y:V):List (Nat×V)→List (Nat×V)
 | []=>[]
 | p :: l=>(p.1,subV o y p.2) :: subA o y l
def zGj (s:TS) (o:Nat) (K:TS→Option R):Option R:=match getT s.ob o with
 | some (.arr _ g _ l)=>K ⟨s.n,subA o (.sl g l) s.al,zIE o s.ob⟩
 | _=>none
def zGz (s:TS) (t o:Nat) (K:TS→Option R):Option R:=match getT s.ob o with
 | some (.arr _ g d l)=>K (setT (zGs o s) t (.own g d l))
 | _=>none
def zIV (t j:Nat) (K:TS→Option R) (s:TS):Option R:=match zBX s t with
 | .agg cs=>match lkV cs j with
   | .ar o=>match getT (zAo s (.tmp t)).ob o with
     | some (.arr _ g d l)=>K (setT (zGs o (zAo s (.tmp t))) t (.agg (updV (zDK o cs) j (.own g d l))))
     | _=>none
   | _=>K s
 | _=>K s
def zEm (t:Nat):Nat→Nat→(TS→Option R)→TS→Option R
 | 0,_,K,s=>K s
 | n+1,j,K,s=>zIV t j (zEm t n (j+1) K) s
def zRA (ob off:Nat) (K:TS→Option R) (s:TS):Option R:=match getT s.ob ob with
 | some (.box _ cs)=>match lkV cs off with
   | .ar o=>match getT s.ob o with
     | some (.arr _ g d l)=>chkO (ble (off+1) cs.length) (match getT (zGs o s).ob ob with
       | some (.box _ cs1)=>chkO (ble (off+1) cs1.length) (K ⟨s.n,(zGs o s).al,zAd (zGs o s).ob ob (wrV cs1 off [.own g d l])⟩)
       | _=>none)
     | _=>none
   | _=>K s
 | _=>K s
def zTY:List TO→Nat→TO→List TO
 | [],_,_=>[]
 | x :: l,o,y=>bif x.name == o then y :: l else x :: zTY l o y
def opnR (o i:Nat) (K:TS→Option R) (s:TS):Option R:=match getT s.ob o with
 | some (.arr n g d l)=>atO l i fun x=>K ⟨s.n,s.al,zTY s.ob o (.opn n g d l i (cells d g x))⟩
 | _=>K s
def zIT (o off:Nat) (K:TS→Option R) (s:TS):Option R:=match getT s.ob o with
 | some (.opn _ _ _ l j cs)=>(match lkV cs off with
   | .ar a=>(match getT s.ob a with
     | some (.arr _ g d r)=>chkO (ble (off+1) cs.length) (grdO (decide (j<l.length)) (match getT (zGs a s).ob o with
       | some (.opn _ _ _ l1 j1 cs1)=>chkO (ble (off+1) cs1.length) (grdO (decide (j=j1) && decide (j1<l1.length)) (K ⟨s.n,(zGs a s).al,zAf (zGs a s).ob o (wrV cs1 off [.own g d r])⟩))
       | _=>none))
     | _=>none)
   | _=>K s)
 | _=>K s
def frzIT (o off:Nat) (K:TS→Option R) (s:TS):Option R:=match getT s.ob o with
 | some (.opn _ _ _ l j cs)=>(match lkV cs off with
   | .own g _ r=>chkO (ble (off+1) cs.length) (grdO (decide (j<l.length)) (match getT (zAf s.ob o (wrV cs off [.u])) o with
     | some (.opn _ _ _ l1 j1 cs1)=>chkO (ble (off+1) cs1.length) (grdO (decide (j=j1) && decide (j1<l1.length)) (K ⟨s.n,s.al,zAf (zAf s.ob o (wrV cs off [.u])) o (wrV cs1 off [.sl g r])⟩))
     | _=>none))
   | .emp g=>chkO (ble (off+1) cs.length) (grdO (decide (j<l.length)) (match getT (zAf s.ob o (wrV cs off [.u])) o with
     | some (.opn _ _ _ l1 j1 cs1)=>chkO (ble (off+1) cs1.length) (grdO (decide (j=j1) && decide (j1<l1.length)) (K ⟨s.n,s.al,zAf (zAf s.ob o (wrV cs off [.u])) o (wrV cs1 off [.sl g []])⟩))
     | _=>none))
   | _=>K s)
 | _=>K s
def zMt (o:Nat):Nat→Nat→(TS→Option R)→TS→Option R
 | 0,_,K,s=>K s
 | n+1,j,K,s=>zIT o j (zMt o n (j+1) K) s
def zUU (o:Nat):Nat→Nat→(TS→Option R)→TS→Option R
 | 0,_,K,s=>K s
 | n+1,j,K,s=>frzIT o j (zUU o n (j+1) K) s
def finNT (o:Nat) (K:TS→Option R) (s:TS):Option R:=match getT s.ob o with
 | some (.opn n g d l j cs)=>grdO (decide (j<l.length)) (rdC false d g cs fun z rest=>(match rest with
   | []=>K ⟨s.n,s.al,zTY s.ob o (.arr n g d (l.set j z))⟩
   | _ :: _=>none))
 | _=>K s
def zIS (o:Nat) (K:TS→Option R) (s:TS):Option R:=match getT s.ob o with
 | some (.opn _ _ d _ _ cs)=>zMt o cs.length 0 (match d with
   | true=>finNT o K
   | false=>zUU o cs.length 0 (finNT o K)) s
 | _=>K s
def zFr (ob off:Nat) (K:TS→Option R) (s:TS):Option R:=match getT s.ob ob with
 | some (.box _ cs)=>(match lkV cs off with
   | .ar a=>zIS a (zRA ob off K) s
   | _=>K s)
 | _=>K s
def frzBT (o off:Nat) (K:TS→Option R) (s:TS):Option R:=match getT s.ob o with
 | some (.box _ cs)=>(match lkV cs off with
   | .own g _ r=>chkO (ble (off+1) cs.length) (match getT (zAd s.ob o (wrV cs off [.u])) o with
     | some (.box _ cs1)=>chkO (ble (off+1) cs1.length) (K ⟨s.n,s.al,zAd (zAd s.ob o (wrV cs off [.u])) o (wrV cs1 off [.sl g r])⟩)
     | _=>none)
   | .emp g=>chkO (ble (off+1) cs.length) (match getT (zAd s.ob o (wrV cs off [.u])) o with
     | some (.box _ cs1)=>chkO (ble (off+1) cs1.length) (K ⟨s.n,s.al,zAd (zAd s.ob o (wrV cs off [.u])) o (wrV cs1 off [.sl g []])⟩)
     | _=>none)
   | _=>K s)
 | _=>K s
def ownP:Pat→Bool
 | .own _ _=>true
 | .agg p=>ownP p
 | .cons p q=>ownP p || ownP q
 | _=>false
def prepV (t:Nat) (p:Pat) (K:TS→Option R) (s:TS):Option R:=match p with
 | .own _ _=>(match zBX s t with
   | .ar o=>zGz s t o K
   | _=>K s)
 | .sl _=>(match zBX s t with
   | .own _ _ _=>K (zMj s (.tmp t))
   | .emp _=>K (zMj s (.tmp t))
   | .ar o=>zGj s o K
   | _=>K s)
 | .agg q=>(match zBX s t with
   | .agg cs=>zEm t cs.length 0 (fun s=>match ownP q with
     | true=>K s
     | false=>K (zMj s (.tmp t))) s
   | _=>K s)
 | _=>K s
def zOw:List (Nat×Pat)→(TS→Option R)→TS→Option R
 | [],K,s=>K s
 | p :: l,K,s=>prepV p.1 p.2 (zOw l K) s
def zSh (o:Nat):Pat→Nat→(TS→Option R)→TS→Option R
 | .cons p q,j,K,s=>(match p with
   | .own _ _=>zFr o j (zSh o q (j+1) K) s
   | .sl _=>zFr o j (frzBT o j (zSh o q (j+1) K)) s
   | _=>zSh o q (j+1) K s)
 | _,_,K,s=>K s
def zSg (o:Nat):Pat→Nat→(TS→Option R)→TS→Option R
 | .cons p q,j,K,s=>(match p with
   | .own _ _=>zIT o j (zSg o q (j+1) K) s
   | .sl _=>zIT o j (frzIT o j (zSg o q (j+1) K)) s
   | _=>zSg o q (j+1) K s)
 | _,_,K,s=>K s
def zHv:List OPat→(TS→Option R)→TS→Option R
 | [],K,s=>K s
 | o :: l,K,s=>(match o with
   | .box n p=>zSh n p 0 (zHv l K) s
   | .arr n _ _=>zIS n (zHv l K) s
   | .opn n _ _ p=>zSg n p 0 (zHv l K) s)
def zGn (N:Nat) (p:SPat) (K:p.Den→Option R) (s:TS):Option R:=chkO (okA p.al) (zHv p.ob (zOw p.al fun s=>chkO (s.n == N) (decS p s K)) s)
def zPm (x:Operand) (K:TS→Option R) (s:TS):Option R:=match x with
 | .tmp t=>(match zBX s t with
   | .ar o=>zGz s t o K
   | .agg cs=>zEm t cs.length 0 K s
   | _=>K s)
 | _=>K s
def zQz:List Operand→(TS→Option R)→TS→Option R
 | [],K,s=>K s
 | x :: l,K,s=>zPm x (zQz l K) s
def frzX (x:Operand) (K:TS→Option R) (s:TS):Option R:=match x with
 | .tmp t=>(match zBX s t with
   | .ar o=>zGj s o K
   | _=>K (zMj s x))
 | _=>K s
def isArr (d:Bool) (s:TS) (a:V):Bool:=match a with
 | .p o _ _=>(match getT s.ob o with
   | some (.arr _ _ d' _)=>d == d'
   | _=>false)
 | _=>false
def zIJ (t:Nat):Nat→Nat→(TS→Option R)→TS→Option R
 | 0,_,K,s=>K s
 | n+1,j,K,s=>(match zBX s t with
   | .agg cs=>(match lkV cs j with
     | .ar o=>zGj s o (zIJ t n (j+1) K)
     | _=>zIJ t n (j+1) K s)
   | _=>K s)
def zUW (x:Operand) (K:TS→Option R) (s:TS):Option R:=match x with
 | .tmp t=>(match zBX s t with
   | .agg cs=>zIJ t cs.length 0 K s
   | _=>K s)
 | _=>K s
def zQt:List Operand→(TS→Option R)→TS→Option R
 | [],K,s=>K s
 | x :: l,K,s=>zUW x (zQt l K) s
def zRB (o:Nat):Nat→Nat→(TS→Option R)→TS→Option R
 | 0,_,K,s=>K s
 | n+1,j,K,s=>zFr o j (zRB o n (j+1) K) s
def zGM:List TO→(TS→Option R)→TS→Option R
 | [],K,s=>K s
 | x :: l,K,s=>(match x with
   | .box n cs=>zRB n cs.length 0 (zGM l K) s
   | .arr _ _ _ _=>zGM l K s
   | .opn n _ _ _ _ _=>zIS n (zGM l K) s)
def opnV (v:V) (K:TS→Option R) (s:TS):Option R:=match v with
 | .p o i _=>opnR o i K s
 | _=>K s
def zTi (T:Nat→TI) (gz:List Nat) (o:Oper) (K:TS→Option R) (s:TS):Option R:=match o.op with
 | .buildSlice _ _ ps=>zQz (opnds ps) K s
 | .load t a=>(match zQm (T t).kind with
   | true=>opnV (evT s a) K s
   | false=>K s)
 | .store _ a x=>(match gz.contains 5000000 with
   | true=>opnV (evT s a) K s
   | false=>(match isArr false s (evT s a) with
     | true=>zPm x (frzX x K) s
     | false=>(match isArr true s (evT s a) with
       | true=>zPm x K s
       | false=>K s)))
 | .convert _ d x=>(match (T d).kind with
   | .str=>frzX x K s
   | _=>K s)
 | .slice _ x _ _ _=>(match gz.contains (zCs o.dst) with
   | true=>frzX x K s
   | false=>K s)
 | .call c=>(match c.callee with
   | .builtin .append=>(match c.args.toList with
     | [_,y]=>(match y with
       | .tmp t=>(match zBX s t with
         | .ar o=>zGj s o K
         | _=>K s)
       | _=>K s)
     | _=>K s)
   | .value _=>(match gz.contains (1000000+zCs o.dst) with
     | true=>zGM s.ob (frzC gz o c K) s
     | false=>frzC gz o c K s)
   | _=>K s)
 | _=>K s
where frzC (gz:List Nat) (o:Oper) (c:Call) (K:TS→Option R) (s:TS):Option R:=match gz.contains (zCs o.dst) with
 | true=>zQt c.args.toList K s
 | false=>K s
variable {r:R} {s:TS} {K:TS→Option R} {K':St→Prop}
theorem subV_e (o:Nat) (y v:V):AM.subV o (e y) (e v)=e (subV o y v):=by
 cases v with
 | ar n =>
   simp only [e,AM.subV,subV]
   by_cases h:n=o
   ·simp [h]
   ·have:(n == o)=false:=by simpa using h
    simp [h,this,e]
 | _=>first | rfl | (simp only [subV,← zUF];rfl)
theorem zTR (o:Nat) (y:V):∀ al:List (Nat×V),zIo o (e y) (eA al)=eA (subA o y al)
 | []=>rfl
 | p :: l=>by simp only [eA,zIo,subA,subV_e,zTR o y l]
theorem zDM {o:Nat} (h:zGj s o K=some r) (hK:∀ s,K s=some r→gK K' (eS s)):gK K' (eS s):=by
 unfold zGj at h
 split at h
 ·rename_i n g d l hg
  refine zBY (zRt o ?_)
  unfold zUV
  rw [zBG hg]
  refine ⟨rfl,?_⟩
  simp only [zCU]
  have:=hK _ h
  simp only [eS] at this ⊢
  rw [zOd,show SV.sl g.sz (l.map (encC false g))=e (.sl g l) from rfl,zTR,zEk]
  exact this
 ·cases h
theorem zEt {t o:Nat} (hv:zBX s t = .ar o) (h:zGz s t o K=some r) (hK:∀ s,K s=some r→gK K' (eS s)):gK K' (eS s):=by
 unfold zGz at h
 split at h
 ·rename_i n g d l hg
  refine zBY (zSq t ?_)
  unfold zMv
  rw [zCL,hv]
  simp only [e]
  rw [zBG hg]
  refine ⟨rfl,?_⟩
  rw [zEj,show SV.own g.sz (l.map (encC d g))=e (.own g d l) from rfl,zCP]
  exact hK _ h
 ·cases h
theorem zFk {t:Nat} (h:gK K' (eS (zMj s (.tmp t)))):gK K' (eS s):=by
 refine zBY (gK_frz t ?_)
 rw [zUT]
 exact h
theorem zIU {t j:Nat} (h:zIV t j K s=some r) (hK:∀ s,K s=some r→gK K' (eS s)):gK K' (eS s):=by
 unfold zIV at h
 split at h
 ·rename_i cs hv
  split at h
  ·rename_i o ho
   split at h
   ·rename_i n g d l hg
    refine zBY (zQq (t:=t) (j:=j) ?_)
    unfold zMw
    rw [zCL,hv]
    simp only [e]
    rw [← zFn,ho]
    simp only [e]
    rw [zCG,zBG hg]
    simp only
    rw [zDp,zEj,show SV.own g.sz (l.map (encC d g))=e (.own g d l) from rfl,← zQy,show SV.agg (eL (updV (zDK o cs) j (.own g d l)))=e (.agg (updV (zDK o cs) j (.own g d l))) from rfl,zCP]
    exact hK _ h
   ·cases h
  ·exact hK _ h
 ·exact hK _ h
theorem zCZ {t:Nat}:∀ (n j:Nat) {s:TS},zEm t n j K s=some r→(∀ s,K s=some r→gK K' (eS s))→gK K' (eS s)
 | 0,j,s,h,hK=>hK _ h
 | n+1,j,s,h,hK=>zIU h fun s h=>zCZ n (j+1) h hK
theorem zMu {ob off:Nat} (h:zRA ob off K s=some r) (hK:∀ s,K s=some r→gK K' (eS s)):gK K' (eS s):=by
 unfold zRA at h
 split at h
 ·rename_i n cs hg
  split at h
  ·rename_i o ho
   split at h
   ·rename_i m g d l hg2
    obtain ⟨h1,h2⟩:=zAC h
    split at h2
    ·rename_i n1 cs1 hg3
     obtain ⟨h3,h4⟩:=zAC h2
     refine zBY (zUN (ob:=ob) (off:=off) ?_)
     unfold zSF
     rw [zBF hg]
     simp only [List.getElem?_cons_zero]
     rw [← zFn,ho]
     simp only [e]
     rw [zBG hg2]
     refine zAQ (by simp only [zAN,h1];rfl) ?_
     rw [zEj,zBF hg3]
     simp only [List.getElem?_cons_zero]
     refine zAQ (by simp only [zAN,h3];rfl) ?_
     have hw:wr (eL cs1) off [SV.own g.sz (l.map (encC d g))]=eL (wrV cs1 off [.own g d l]):=by rw [zCV];rfl
     rw [hw,zBT hg3 (zCE _ _ _ (by simpa using zBN h3))]
     exact hK _ h4
    ·cases h2
   ·cases h
  ·exact hK _ h
 ·exact hK _ h
theorem zDm (g:GT) (d:Bool):∀ l:List g.Den,zBd (l.map (encC d g))=true
 | []=>rfl
 | x :: l=>by simp only [List.map_cons,zBd,zCu g d x,zDm g d l,Bool.and_self]
theorem zML {o:Nat} {y:TO} {b:Bool}:∀ (l:List TO) {x:TO},getT l o=some x→eO y={ eO x with nm:=b }→eOs (zTY l o y)=zOp (eOs l) o b
 | [],_,h,_=>by cases h
 | z :: l,x,h,he=>by
   simp only [getT] at h
   simp only [zTY,eOs,zOp,zDx]
   by_cases hx:z.name=o
   ·have h':(z.name == o)=true:=by simpa using hx
    rw [h',cond_true] at h
    simp only [Option.some.injEq] at h
    subst h
    rw [h',cond_true,if_pos hx]
    show eO y :: eOs l=_
    rw [he]
    simp only [zDx]
   ·have h':(z.name == o)=false:=by simpa using hx
    rw [h',cond_false] at h
    simp only [h',cond_false,hx,if_false,eOs,zML l h he]
theorem set_same {α:Type} {l:List α} {i:Nat} {x:α} (h:l[i]? = some x):l.set i x=l:=by
 apply List.ext_getElem?
 intro j
 by_cases hj:i=j
 ·subst hj
  have hlt:=zCI h
  rw [List.getElem?_set_self hlt,h]
 ·rw [List.getElem?_set_ne hj]
theorem zSi {o i:Nat} (h:opnR o i K s=some r) (hK:∀ s,K s=some r→gK K' (eS s)):gK K' (eS s):=by
 unfold opnR at h
 split at h
 ·rename_i n g d l hg
  obtain ⟨x,hx,h1⟩:=zFv h
  refine zBY (gK_nm o true ?_ ?_)
  ·intro y hy
   rw [zBG hg] at hy
   simp only [Option.some.injEq] at hy
   rw [← hy]
   exact zDm g d l
  ·have:=hK _ h1
   simp only [eS] at this ⊢
   rw [zML (b:=true) s.ob hg] at this
   ·exact this
   ·simp only [eO,zEl]
    rw [set_same]
    rw [List.getElem?_map,hx];rfl
 ·exact hK _ h
theorem zEA {o off:Nat} (h:zIT o off K s=some r) (hK:∀ s,K s=some r→gK K' (eS s)):gK K' (eS s):=by
 unfold zIT at h
 split at h
 ·rename_i n g0 d0 l j cs hg
  split at h
  ·rename_i a ha
   split at h
   ·rename_i m g d rr hg2
    obtain ⟨h1,h2⟩:=zAC h
    obtain ⟨hlt,h2⟩:=zAP h2
    simp only [decide_eq_true_eq] at hlt
    split at h2
    ·rename_i n1 g1 d1 l1 j1 cs1 hg3
     obtain ⟨h3,h4⟩:=zAC h2
     obtain ⟨h5,h4'⟩:=zAP h4
     simp only [Bool.and_eq_true,decide_eq_true_eq] at h5
     obtain ⟨h5,h6⟩:=h5
     subst h5
     refine zBY (zUM (ob:=o) (i:=j) (off:=off) ?_)
     unfold zUd
     rw [zBA hg]
     simp only [zDP hlt]
     rw [← zFn,ha]
     simp only [e]
     rw [zBG hg2]
     refine zAQ (by simp only [zAN,h1];rfl) ?_
     rw [zEj,zBA hg3]
     simp only [zDP h6]
     refine zAQ (by simp only [zAN,h3];rfl) ?_
     have hw:wr (eL cs1) off [SV.own g.sz (rr.map (encC d g))]=eL (wrV cs1 off [.own g d rr]):=by rw [zCV];rfl
     rw [hw,zBo hg3]
     exact hK _ h4'
    ·cases h2
   ·cases h
  ·exact hK _ h
 ·exact hK _ h
theorem zPV {o off n:Nat} {g0:GT} {d0:Bool} {l:List g0.Den} {j:Nat} {cs:List V} {g:GT} {d:Bool} {rr:List g.Den} {v:V} (hg:getT s.ob o=some (.opn n g0 d0 l j cs)) (ha:lkV cs off=v) (hev:e v = .own g.sz (rr.map (encC d g)))
  (h:chkO (ble (off+1) cs.length) (grdO (decide (j<l.length)) (match getT (zAf s.ob o (wrV cs off [.u])) o with
   | some (.opn _ _ _ l1 j1 cs1)=>chkO (ble (off+1) cs1.length) (grdO (decide (j=j1) && decide (j1<l1.length)) (K ⟨s.n,s.al,zAf (zAf s.ob o (wrV cs off [.u])) o (wrV cs1 off [.sl g rr])⟩))
   | _=>none))=some r) (hK:∀ s,K s=some r→gK K' (eS s)):gK K' (eS s):=by
 obtain ⟨h1,h2⟩:=zAC h
 obtain ⟨hlt,h2⟩:=zAP h2
 simp only [decide_eq_true_eq] at hlt
 split at h2
 ·rename_i n1 g1 d1 l1 j1 cs1 hg3
  obtain ⟨h3,h4⟩:=zAC h2
  obtain ⟨h5,h4'⟩:=zAP h4
  simp only [Bool.and_eq_true,decide_eq_true_eq] at h5
  obtain ⟨h5,h6⟩:=h5
  subst h5
  refine zBY (zUL (ob:=o) (i:=j) (off:=off) ?_)
  unfold frzI
  rw [zBA hg]
  simp only [zDP hlt]
  rw [← zFn,ha,hev]
  simp only
  refine zAQ (by simp only [zAN,h1];rfl) ?_
  have hw:wr (eL cs) off [SV.u]=eL (wrV cs off [.u]):=by rw [zCV];rfl
  rw [hw,zBo hg]
  have hg3':getT (⟨s.n,s.al,zAf s.ob o (wrV cs off [.u])⟩:TS).ob o=some (.opn n1 g1 d1 l1 j cs1):=hg3
  rw [zBA hg3']
  simp only [zDP h6]
  refine zAQ (by simp only [zAN,h3];rfl) ?_
  have hw1:wr (eL cs1) off [SV.sl g.sz (zBl (rr.map (encC d g)))]=eL (wrV cs1 off [.sl g rr]):=by rw [zCV,zCU];rfl
  rw [hw1,zBo hg3']
  exact hK _ h4'
 ·cases h2
theorem zII {o off:Nat} (h:frzIT o off K s=some r) (hK:∀ s,K s=some r→gK K' (eS s)):gK K' (eS s):=by
 unfold frzIT at h
 split at h
 ·rename_i n g0 d0 l j cs hg
  split at h
  ·rename_i g d rr ha
   exact zPV hg ha rfl h hK
  ·rename_i g ha
   exact zPV (rr:=[]) (d:=true) hg ha rfl h hK
  ·exact hK _ h
 ·exact hK _ h
theorem zEs {o:Nat}:∀ (n j:Nat) {s:TS} {K:TS→Option R},zMt o n j K s=some r→(∀ s,K s=some r→gK K' (eS s))→gK K' (eS s)
 | 0,j,s,K,h,hK=>hK _ h
 | n+1,j,s,K,h,hK=>zEA h fun s h=>zEs n (j+1) h hK
theorem zGi {o:Nat}:∀ (n j:Nat) {s:TS} {K:TS→Option R},zUU o n j K s=some r→(∀ s,K s=some r→gK K' (eS s))→gK K' (eS s)
 | 0,j,s,K,h,hK=>hK _ h
 | n+1,j,s,K,h,hK=>zII h fun s h=>zGi n (j+1) h hK
theorem zIO {o:Nat} (h:finNT o K s=some r) (hK:∀ s,K s=some r→gK K' (eS s)):gK K' (eS s):=by
 unfold finNT at h
 split at h
 ·rename_i n g d l j cs hg
  obtain ⟨hlt,h2⟩:=zAP h
  simp only [decide_eq_true_eq] at hlt
  obtain ⟨z,rest,h4,h5⟩:=zMQ g _ _ h2
  cases rest with
  | cons a b=>cases h4
  | nil =>
    simp only [eL,List.append_nil] at h5
    have hrows:(l.map (encC d g)).set j (eL cs)=(l.set j z).map (encC d g):=by rw [h5,List.map_set]
    refine zBY (gK_nm o false ?_ ?_)
    ·intro y hy
     rw [zBA hg] at hy
     simp only [Option.some.injEq] at hy
     rw [← hy]
     simp only [hrows]
     exact zDm g d _
    ·have:=hK _ h4
     simp only [eS] at this ⊢
     rw [zML (b:=false) s.ob hg] at this
     ·exact this
     ·simp only [eO,hrows]
 ·exact hK _ h
theorem zDz {o:Nat} (h:zIS o K s=some r) (hK:∀ s,K s=some r→gK K' (eS s)):gK K' (eS s):=by
 unfold zIS at h
 split at h
 ·rename_i n g d l j cs hg
  refine zEs _ _ h fun s h=>?_
  split at h
  ·exact zIO h hK
  ·exact zGi _ _ h fun s h=>zIO h hK
 ·exact hK _ h
theorem zDQ {ob off:Nat} (h:zFr ob off K s=some r) (hK:∀ s,K s=some r→gK K' (eS s)):gK K' (eS s):=by
 unfold zFr at h
 split at h
 ·split at h
  ·exact zDz h fun s h=>zMu h hK
  ·exact hK _ h
 ·exact hK _ h
theorem zPW {o off n:Nat} {cs:List V} {g:GT} {d:Bool} {rr:List g.Den} {v:V} (hg:getT s.ob o=some (.box n cs)) (ha:lkV cs off=v) (hev:e v = .own g.sz (rr.map (encC d g)))
  (h:chkO (ble (off+1) cs.length) (match getT (zAd s.ob o (wrV cs off [.u])) o with
   | some (.box _ cs1)=>chkO (ble (off+1) cs1.length) (K ⟨s.n,s.al,zAd (zAd s.ob o (wrV cs off [.u])) o (wrV cs1 off [.sl g rr])⟩)
   | _=>none)=some r) (hK:∀ s,K s=some r→gK K' (eS s)):gK K' (eS s):=by
 obtain ⟨h1,h2⟩:=zAC h
 split at h2
 ·rename_i n1 cs1 hg3
  obtain ⟨h3,h4⟩:=zAC h2
  refine zBY (zUL (ob:=o) (i:=0) (off:=off) ?_)
  unfold frzI
  rw [zBF hg]
  simp only [List.getElem?_cons_zero]
  rw [← zFn,ha,hev]
  simp only
  refine zAQ (by simp only [zAN,h1];rfl) ?_
  have hw:wr (eL cs) off [SV.u]=eL (wrV cs off [.u]):=by rw [zCV];rfl
  rw [hw,zBT hg (zCE _ _ _ (by simpa using zBN h1))]
  have hg3':getT (⟨s.n,s.al,zAd s.ob o (wrV cs off [.u])⟩:TS).ob o=some (.box n1 cs1):=hg3
  rw [zBF hg3']
  simp only [List.getElem?_cons_zero]
  refine zAQ (by simp only [zAN,h3];rfl) ?_
  have hw1:wr (eL cs1) off [SV.sl g.sz (zBl (rr.map (encC d g)))]=eL (wrV cs1 off [.sl g rr]):=by rw [zCV,zCU];rfl
  rw [hw1,zBT hg3' (zCE _ _ _ (by simpa using zBN h3))]
  exact hK _ h4
 ·cases h2
theorem zQs {o off:Nat} (h:frzBT o off K s=some r) (hK:∀ s,K s=some r→gK K' (eS s)):gK K' (eS s):=by
 unfold frzBT at h
 split at h
 ·rename_i n cs hg
  split at h
  ·rename_i g d rr ha
   exact zPW hg ha rfl h hK
  ·rename_i g ha
   exact zPW (rr:=[]) (d:=true) hg ha rfl h hK
  ·exact hK _ h
 ·exact hK _ h
theorem zQY {t:Nat} {p:Pat} (h:prepV t p K s=some r) (hK:∀ s,K s=some r→gK K' (eS s)):gK K' (eS s):=by
 unfold prepV at h
 split at h
 ·split at h
  ·rename_i hv;exact zEt hv h hK
  ·exact hK _ h
 ·split at h
  ·exact zFk (hK _ h)
  ·exact zFk (hK _ h)
  ·exact zDM h hK
  ·exact hK _ h
 ·split at h
  ·refine zCZ _ _ h fun s h=>?_
   split at h
   ·exact hK _ h
   ·exact zFk (hK _ h)
  ·exact hK _ h
 ·exact hK _ h
theorem zHx:∀ (l:List (Nat×Pat)) {s:TS},zOw l K s=some r→(∀ s,K s=some r→gK K' (eS s))→gK K' (eS s)
 | [],s,h,hK=>hK _ h
 | p :: l,s,h,hK=>zQY h fun s h=>zHx l h hK
theorem zDl {o:Nat}:∀ (p:Pat) (j:Nat) {s:TS} {K:TS→Option R},zSh o p j K s=some r→(∀ s,K s=some r→gK K' (eS s))→gK K' (eS s)
 | .cons p q,j,s,K,h,hK=>by
   unfold zSh at h
   split at h
   ·exact zDQ h fun s h=>zDl q (j+1) h hK
   ·exact zDQ h fun s h=>zQs h fun s h=>zDl q (j+1) h hK
   ·exact zDl q (j+1) h hK
 | .i _,_,_,_,h,hK | .b,_,_,_,h,hK | .s,_,_,_,h,hK | .sl _,_,_,_,h,hK | .own _ _,_,_,_,h,hK | .ptr _ _,_,_,_,h,hK | .ptrI _ _,_,_,_,h,hK
 | .ar _,_,_,_,h,hK | .nilp,_,_,_,h,hK | .u,_,_,_,h,hK | .nil,_,_,_,h,hK | .sc _,_,_,_,h,hK | .agg _,_,_,_,h,hK | .tup _,_,_,_,h,hK | .fn _ _,_,_,_,h,hK | .ro _,_,_,_,h,hK | .nop,_,_,_,h,hK=>hK _ h
theorem zDk {o:Nat}:∀ (p:Pat) (j:Nat) {s:TS} {K:TS→Option R},zSg o p j K s=some r→(∀ s,K s=some r→gK K' (eS s))→gK K' (eS s)
 | .cons p q,j,s,K,h,hK=>by
   unfold zSg at h
   split at h
   ·exact zEA h fun s h=>zDk q (j+1) h hK
   ·exact zEA h fun s h=>zII h fun s h=>zDk q (j+1) h hK
   ·exact zDk q (j+1) h hK
 | .i _,_,_,_,h,hK | .b,_,_,_,h,hK | .s,_,_,_,h,hK | .sl _,_,_,_,h,hK | .own _ _,_,_,_,h,hK | .ptr _ _,_,_,_,h,hK | .ptrI _ _,_,_,_,h,hK
 | .ar _,_,_,_,h,hK | .nilp,_,_,_,h,hK | .u,_,_,_,h,hK | .nil,_,_,_,h,hK | .sc _,_,_,_,h,hK | .agg _,_,_,_,h,hK | .tup _,_,_,_,h,hK | .fn _ _,_,_,_,h,hK | .ro _,_,_,_,h,hK | .nop,_,_,_,h,hK=>hK _ h
theorem zDj:∀ (l:List OPat) {s:TS},zHv l K s=some r→(∀ s,K s=some r→gK K' (eS s))→gK K' (eS s)
 | [],s,h,hK=>hK _ h
 | o :: l,s,h,hK=>by
   unfold zHv at h
   split at h
   ·exact zDl _ _ h fun s h=>zDj l h hK
   ·exact zDz h fun s h=>zDj l h hK
   ·exact zDk _ _ h fun s h=>zDj l h hK
theorem zEY {x:Operand} (h:zPm x K s=some r) (hK:∀ s,K s=some r→gK K' (eS s)):gK K' (eS s):=by
 unfold zPm at h
 split at h
 ·split at h
  ·rename_i hv;exact zEt hv h hK
  ·exact zCZ _ _ h hK
  ·exact hK _ h
 ·exact hK _ h
theorem zFq:∀ (l:List Operand) {s:TS},zQz l K s=some r→(∀ s,K s=some r→gK K' (eS s))→gK K' (eS s)
 | [],s,h,hK=>hK _ h
 | x :: l,s,h,hK=>zEY h fun s h=>zFq l h hK
theorem zGI {x:Operand} (h:frzX x K s=some r) (hK:∀ s,K s=some r→gK K' (eS s)):gK K' (eS s):=by
 unfold frzX at h
 split at h
 ·split at h
  ·exact zDM h hK
  ·exact zFk (hK _ h)
 ·exact hK _ h
theorem zDt {t:Nat}:∀ (n j:Nat) {s:TS},zIJ t n j K s=some r→(∀ s,K s=some r→gK K' (eS s))→gK K' (eS s)
 | 0,j,s,h,hK=>hK _ h
 | n+1,j,s,h,hK=>by
   unfold zIJ at h
   split at h
   ·split at h
    ·exact zDM h fun s h=>zDt n (j+1) h hK
    ·exact zDt n (j+1) h hK
   ·exact hK _ h
theorem zPZ {x:Operand} (h:zUW x K s=some r) (hK:∀ s,K s=some r→gK K' (eS s)):gK K' (eS s):=by
 unfold zUW at h
 split at h
 ·split at h
  ·exact zDt _ _ h hK
  ·exact hK _ h
 ·exact hK _ h
theorem zFm:∀ (l:List Operand) {s:TS},zQt l K s=some r→(∀ s,K s=some r→gK K' (eS s))→gK K' (eS s)
 | [],s,h,hK=>hK _ h
 | x :: l,s,h,hK=>zPZ h fun s h=>zFm l h hK
theorem zFs {o:Nat}:∀ (n j:Nat) {s:TS},zRB o n j K s=some r→(∀ s,K s=some r→gK K' (eS s))→gK K' (eS s)
 | 0,j,s,h,hK=>hK _ h
 | n+1,j,s,h,hK=>zDQ h fun s h=>zFs n (j+1) h hK
theorem zCi:∀ (l:List TO) {s:TS},zGM l K s=some r→(∀ s,K s=some r→gK K' (eS s))→gK K' (eS s)
 | [],s,h,hK=>hK _ h
 | x :: l,s,h,hK=>by
   unfold zGM at h
   split at h
   ·exact zFs _ _ h fun s h=>zCi l h hK
   ·exact zCi l h hK
   ·exact zDz h fun s h=>zCi l h hK
theorem zIv {v:V} (h:opnV v K s=some r) (hK:∀ s,K s=some r→gK K' (eS s)):gK K' (eS s):=by
 unfold opnV at h
 split at h
 ·exact zSi h hK
 ·exact hK _ h
theorem zQX {T:Nat→TI} {gz:List Nat} {o:Oper} (h:zTi T gz o K s=some r) (hK:∀ s,K s=some r→gK K' (eS s)):gK K' (eS s):=by
 unfold zTi at h
 split at h
 ·exact zFq _ h hK
 ·split at h
  ·exact zIv h hK
  ·exact hK _ h
 ·split at h
  ·exact zIv h hK
  ·split at h
   ·exact zEY h fun s h=>zGI h hK
   ·split at h
    ·exact zEY h hK
    ·exact hK _ h
 ·split at h
  ·exact zGI h hK
  ·exact hK _ h
 ·split at h
  ·exact zGI h hK
  ·exact hK _ h
 ·split at h
  ·split at h
   ·split at h
    ·split at h
     ·exact zDM h hK
     ·exact hK _ h
    ·exact hK _ h
   ·exact hK _ h
  ·have hf:∀ {s},zTi.frzC gz o (by assumption) K s=some r→gK K' (eS s):=by
    intro s h
    unfold zTi.frzC at h
    split at h
    ·exact zFm _ h hK
    ·exact hK _ h
   split at h
   ·exact zCi _ h fun s h=>hf h
   ·exact hf h
  ·exact hK _ h
 ·exact hK _ h
theorem zCr {N:Nat} {p:SPat} {K:p.Den→Option R} (h:zGn N p K s=some r) (hK:∀ x,K x=some r→K' (eS (encS N p x))):gK K' (eS s):=by
 obtain ⟨h0,h1⟩:=zAC h
 refine zDj _ h1 fun s1 h2=>zHx _ h2 fun s2 h3=>?_
 obtain ⟨hn,h3⟩:=zAC h3
 obtain ⟨x,h4,h5⟩:=zSt h0 h3
 have hn:=eq_of_beq hn
 rw [hn] at h5
 exact h5 _ (hK x h4)
end
end Go.TM
end
