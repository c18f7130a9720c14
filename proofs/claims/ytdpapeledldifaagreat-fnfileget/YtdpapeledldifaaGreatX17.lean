/- Part 18 of the proof that the law FnFileGet holds of every input; no condition. -/
import Derived.Test.YtdpapeledldifaaGreatX16
set_option autoImplicit true
set_option relaxedAutoImplicit true
set_option linter.all false
section
namespace Go.TM
open Go.AM
section
variable {R:Type}
def subV (o:Nat) (y:V):V→V
 | .ar n=>bif n == o then y else .ar n
 | x=>zMN o x
def subA (o:Nat) (y:V):List (Nat×V)→List (Nat×V)
 | []=>[]
 | p :: l=>(p.1,subV o y p.2) :: subA o y l
def zGh (s:TS) (o:Nat) (K:TS→Option R):Option R:=match getT s.ob o with
 | some (.arr _ g _ l)=>K ⟨s.n,subA o (.sl g l) s.al,zHl o s.ob⟩
 | _=>none
def zGw (s:TS) (t o:Nat) (K:TS→Option R):Option R:=match getT s.ob o with
 | some (.arr _ g d l)=>K (setT (zGq o s) t (.own g d l))
 | _=>none
def zID (t j:Nat) (K:TS→Option R) (s:TS):Option R:=match zBW s t with
 | .agg cs=>match lkV cs j with
   | .ar o=>match getT (zAo s (.tmp t)).ob o with
     | some (.arr _ g d l)=>K (setT (zGq o (zAo s (.tmp t))) t (.agg (updV (zDI o cs) j (.own g d l))))
     | _=>none
   | _=>K s
 | _=>K s
def zEp (t:Nat):Nat→Nat→(TS→Option R)→TS→Option R
 | 0,_,K,s=>K s
 | n+1,j,K,s=>zID t j (zEp t n (j+1) K) s
def zQc (ob off:Nat) (K:TS→Option R) (s:TS):Option R:=match getT s.ob ob with
 | some (.box _ cs)=>match lkV cs off with
   | .ar o=>match getT s.ob o with
     | some (.arr _ g d l)=>chkO (ble (off+1) cs.length) (match getT (zGq o s).ob ob with
       | some (.box _ cs1)=>chkO (ble (off+1) cs1.length) (K ⟨s.n,(zGq o s).al,zAd (zGq o s).ob ob (wrV cs1 off [.own g d l])⟩)
       | _=>none)
     | _=>none
   | _=>K s
 | _=>K s
def zTF:List TO→Nat→TO→List TO
 | [],_,_=>[]
 | x :: l,o,y=>bif x.name == o then y :: l else x :: zTF l o y
def opnR (o i:Nat) (K:TS→Option R) (s:TS):Option R:=match getT s.ob o with
 | some (.arr n g d l)=>atO l i fun x=>K ⟨s.n,s.al,zTF s.ob o (.opn n g d l i (cells d g x))⟩
 | _=>K s
def zIB (o off:Nat) (K:TS→Option R) (s:TS):Option R:=match getT s.ob o with
 | some (.opn _ _ _ l j cs)=>(match lkV cs off with
   | .ar a=>(match getT s.ob a with
     | some (.arr _ g d r)=>chkO (ble (off+1) cs.length) (grdO (decide (j<l.length)) (match getT (zGq a s).ob o with
       | some (.opn _ _ _ l1 j1 cs1)=>chkO (ble (off+1) cs1.length) (grdO (decide (j=j1) && decide (j1<l1.length)) (K ⟨s.n,(zGq a s).al,zAf (zGq a s).ob o (wrV cs1 off [.own g d r])⟩))
       | _=>none))
     | _=>none)
   | _=>K s)
 | _=>K s
def frzIT (o off:Nat) (K:TS→Option R) (s:TS):Option R:=match getT s.ob o with
 | some (.opn _ _ _ l j cs)=>(match lkV cs off with
   | .own g _ r=>chkO (ble (off+1) cs.length) (grdO (decide (j<l.length)) (match getT (zAf s.ob o (wrV cs off [.u])) o with
     | some (.opn _ _ _ l1 j1 cs1)=>chkO (ble (off+1) cs1.length) (grdO (decide (j=j1) && decide (j1<l1.length)) (K ⟨s.n,s.al,zAf (zAf s.ob o (wrV cs off [.u])) o (wrV cs1 off [.sl g r])⟩))
     | _=>none))
   | .emp g=>chkO (ble (off+1) cs.length) (grdO (decide (j<l.length)) (match getT (zAf s.ob o (wrV cs off [.u])) o with
     | some (.opn _ _ _ l1 j1 cs1)=>chkO (ble (off+1) cs1.length) (grdO (decide (j=j1) && decide (j1<l1.length)) (K ⟨s.n,s.al,zAf (zAf s.ob o (wrV cs off [.u])) o (wrV cs1 off [.sl g []])⟩))
     | _=>none))
   | _=>K s)
 | _=>K s
def zMZ (o:Nat):Nat→Nat→(TS→Option R)→TS→Option R
 | 0,_,K,s=>K s
 | n+1,j,K,s=>zIB o j (zMZ o n (j+1) K) s
def zUA (o:Nat):Nat→Nat→(TS→Option R)→TS→Option R
 | 0,_,K,s=>K s
 | n+1,j,K,s=>frzIT o j (zUA o n (j+1) K) s
def finNT (o:Nat) (K:TS→Option R) (s:TS):Option R:=match getT s.ob o with
 | some (.opn n g d l j cs)=>grdO (decide (j<l.length)) (rdC false d g cs fun z rest=>(match rest with
   | []=>K ⟨s.n,s.al,zTF s.ob o (.arr n g d (l.set j z))⟩
   | _ :: _=>none))
 | _=>K s
def zIA (o:Nat) (K:TS→Option R) (s:TS):Option R:=match getT s.ob o with
 | some (.opn _ _ d _ _ cs)=>zMZ o cs.length 0 (match d with
   | true=>finNT o K
   | false=>zUA o cs.length 0 (finNT o K)) s
 | _=>K s
def zFq (ob off:Nat) (K:TS→Option R) (s:TS):Option R:=match getT s.ob ob with
 | some (.box _ cs)=>(match lkV cs off with
   | .ar a=>zIA a (zQc ob off K) s
   | _=>K s)
 | _=>K s
def frzBT (o off:Nat) (K:TS→Option R) (s:TS):Option R:=match getT s.ob o with
 | some (.box _ cs)=>(match lkV cs off with
   | .own g _ r=>chkO (ble (off+1) cs.length) (match getT (zAd s.ob o (wrV cs off [.u])) o with
     | some (.box _ cs1)=>chkO (ble (off+1) cs1.length) (K ⟨s.n,s.al,zAd (zAd s.ob o (wrV cs off [.u])) o (wrV cs1 off [.sl g r])⟩)
     | _=>none)
   | .emp g=>chkO (ble (off+1) cs.length) (match getT (zAd s.ob o (wrV cs off [.u])) o with
     | some (.box _ cs1)=>chkO (ble (off+1) cs1.length) (K ⟨s.n,s.al,zAd (zAd s.ob o (wrV cs off [.u])) o (wrV cs1 off [.sl g []])⟩)
     | _=>none)
   | _=>K s)
 | _=>K s
def ownP:Pat→Bool
 | .own _ _=>true
 | .agg p=>ownP p
 | .cons p q=>ownP p || ownP q
 | _=>false
def prepV (t:Nat) (p:Pat) (K:TS→Option R) (s:TS):Option R:=match p with
 | .own _ _=>(match zBW s t with
   | .ar o=>zGw s t o K
   | _=>K s)
 | .sl _=>(match zBW s t with
   | .own _ _ _=>K (zMQ s (.tmp t))
   | .emp _=>K (zMQ s (.tmp t))
   | .ar o=>zGh s o K
   | _=>K s)
 | .agg q=>(match zBW s t with
   | .agg cs=>zEp t cs.length 0 (fun s=>match ownP q with
     | true=>K s
     | false=>K (zMQ s (.tmp t))) s
   | _=>K s)
 | _=>K s
def zOO:List (Nat×Pat)→(TS→Option R)→TS→Option R
 | [],K,s=>K s
 | p :: l,K,s=>prepV p.1 p.2 (zOO l K) s
def zSB (o:Nat):Pat→Nat→(TS→Option R)→TS→Option R
 | .cons p q,j,K,s=>(match p with
   | .own _ _=>zFq o j (zSB o q (j+1) K) s
   | .sl _=>zFq o j (frzBT o j (zSB o q (j+1) K)) s
   | _=>zSB o q (j+1) K s)
 | _,_,K,s=>K s
def zSA (o:Nat):Pat→Nat→(TS→Option R)→TS→Option R
 | .cons p q,j,K,s=>(match p with
   | .own _ _=>zIB o j (zSA o q (j+1) K) s
   | .sl _=>zIB o j (frzIT o j (zSA o q (j+1) K)) s
   | _=>zSA o q (j+1) K s)
 | _,_,K,s=>K s
def zHc:List OPat→(TS→Option R)→TS→Option R
 | [],K,s=>K s
 | o :: l,K,s=>(match o with
   | .box n p=>zSB n p 0 (zHc l K) s
   | .arr n _ _=>zIA n (zHc l K) s
   | .opn n _ _ p=>zSA n p 0 (zHc l K) s)
def zGl (N:Nat) (p:SPat) (K:p.Den→Option R) (s:TS):Option R:=chkO (okA p.al) (zHc p.ob (zOO p.al fun s=>chkO (s.n == N) (decS p s K)) s)
def zPE (x:Operand) (K:TS→Option R) (s:TS):Option R:=match x with
 | .tmp t=>(match zBW s t with
   | .ar o=>zGw s t o K
   | .agg cs=>zEp t cs.length 0 K s
   | _=>K s)
 | _=>K s
def zQb:List Operand→(TS→Option R)→TS→Option R
 | [],K,s=>K s
 | x :: l,K,s=>zPE x (zQb l K) s
def frzX (x:Operand) (K:TS→Option R) (s:TS):Option R:=match x with
 | .tmp t=>(match zBW s t with
   | .ar o=>zGh s o K
   | _=>K (zMQ s x))
 | _=>K s
def isArr (d:Bool) (s:TS) (a:V):Bool:=match a with
 | .p o _ _=>(match getT s.ob o with
   | some (.arr _ _ d' _)=>d == d'
   | _=>false)
 | _=>false
def zHq (t:Nat):Nat→Nat→(TS→Option R)→TS→Option R
 | 0,_,K,s=>K s
 | n+1,j,K,s=>(match zBW s t with
   | .agg cs=>(match lkV cs j with
     | .ar o=>zGh s o (zHq t n (j+1) K)
     | _=>zHq t n (j+1) K s)
   | _=>K s)
def zUC (x:Operand) (K:TS→Option R) (s:TS):Option R:=match x with
 | .tmp t=>(match zBW s t with
   | .agg cs=>zHq t cs.length 0 K s
   | _=>K s)
 | _=>K s
def zQU:List Operand→(TS→Option R)→TS→Option R
 | [],K,s=>K s
 | x :: l,K,s=>zUC x (zQU l K) s
def zQd (o:Nat):Nat→Nat→(TS→Option R)→TS→Option R
 | 0,_,K,s=>K s
 | n+1,j,K,s=>zFq o j (zQd o n (j+1) K) s
def zGL:List TO→(TS→Option R)→TS→Option R
 | [],K,s=>K s
 | x :: l,K,s=>(match x with
   | .box n cs=>zQd n cs.length 0 (zGL l K) s
   | .arr _ _ _ _=>zGL l K s
   | .opn n _ _ _ _ _=>zIA n (zGL l K) s)
def opnV (v:V) (K:TS→Option R) (s:TS):Option R:=match v with
 | .p o i _=>opnR o i K s
 | _=>K s
def zTP (T:Nat→TI) (gz:List Nat) (o:Oper) (K:TS→Option R) (s:TS):Option R:=match o.op with
 | .buildSlice _ _ ps=>zQb (opnds ps) K s
 | .load t a=>(match zQO (T t).kind with
   | true=>opnV (evT s a) K s
   | false=>K s)
 | .store _ a x=>(match gz.contains 5000000 with
   | true=>opnV (evT s a) K s
   | false=>(match isArr false s (evT s a) with
     | true=>zPE x (frzX x K) s
     | false=>(match isArr true s (evT s a) with
       | true=>zPE x K s
       | false=>K s)))
 | .convert _ d x=>(match (T d).kind with
   | .str=>frzX x K s
   | _=>K s)
 | .slice _ x _ _ _=>(match gz.contains (zCr o.dst) with
   | true=>frzX x K s
   | false=>K s)
 | .call c=>(match c.callee with
   | .builtin .append=>(match c.args.toList with
     | [_,y]=>(match y with
       | .tmp t=>(match zBW s t with
         | .ar o=>zGh s o K
         | _=>K s)
       | _=>K s)
     | _=>K s)
   | .value _=>(match gz.contains (1000000+zCr o.dst) with
     | true=>zGL s.ob (frzC gz o c K) s
     | false=>frzC gz o c K s)
   | _=>K s)
 | _=>K s
where frzC (gz:List Nat) (o:Oper) (c:Call) (K:TS→Option R) (s:TS):Option R:=match gz.contains (zCr o.dst) with
 | true=>zQU c.args.toList K s
 | false=>K s
variable {r:R} {s:TS} {K:TS→Option R} {K':St→Prop}
theorem subV_e (o:Nat) (y v:V):AM.subV o (e y) (e v)=e (subV o y v):=by
 cases v with
 | ar n =>
   simp only [e,AM.subV,subV]
   by_cases h:n=o
   ·simp [h]
   ·have:(n == o)=false:=by simpa using h
    simp [h,this,e]
 | _=>first | rfl | (simp only [subV,← zTn];rfl)
theorem zSy (o:Nat) (y:V):∀ al:List (Nat×V),zIZ o (e y) (eA al)=eA (subA o y al)
 | []=>rfl
 | p :: l=>by simp only [eA,zIZ,subA,subV_e,zSy o y l]
theorem zDK {o:Nat} (h:zGh s o K=some r) (hK:∀ s,K s=some r→gK K' (eS s)):gK K' (eS s):=by
 unfold zGh at h
 split at h
 ·rename_i n g d l hg
  refine zBX (zRR o ?_)
  unfold zUB
  rw [zBG hg]
  refine ⟨rfl,?_⟩
  simp only [zCT]
  have:=hK _ h
  simp only [eS] at this ⊢
  rw [zNw,show SV.sl g.sz (l.map (encC false g))=e (.sl g l) from rfl,zSy,zEn]
  exact this
 ·cases h
theorem zEw {t o:Nat} (hv:zBW s t = .ar o) (h:zGw s t o K=some r) (hK:∀ s,K s=some r→gK K' (eS s)):gK K' (eS s):=by
 unfold zGw at h
 split at h
 ·rename_i n g d l hg
  refine zBX (zSK t ?_)
  unfold zMb
  rw [zCK,hv]
  simp only [e]
  rw [zBG hg]
  refine ⟨rfl,?_⟩
  rw [zEm,show SV.own g.sz (l.map (encC d g))=e (.own g d l) from rfl,zCO]
  exact hK _ h
 ·cases h
theorem zFj {t:Nat} (h:gK K' (eS (zMQ s (.tmp t)))):gK K' (eS s):=by
 refine zBX (gK_frz t ?_)
 rw [zTz]
 exact h
theorem zIC {t j:Nat} (h:zID t j K s=some r) (hK:∀ s,K s=some r→gK K' (eS s)):gK K' (eS s):=by
 unfold zID at h
 split at h
 ·rename_i cs hv
  split at h
  ·rename_i o ho
   split at h
   ·rename_i n g d l hg
    refine zBX (zQR (t:=t) (j:=j) ?_)
    unfold zMc
    rw [zCK,hv]
    simp only [e]
    rw [← zFm,ho]
    simp only [e]
    rw [zCF,zBG hg]
    simp only
    rw [zDp,zEm,show SV.own g.sz (l.map (encC d g))=e (.own g d l) from rfl,← zQa,show SV.agg (eL (updV (zDI o cs) j (.own g d l)))=e (.agg (updV (zDI o cs) j (.own g d l))) from rfl,zCO]
    exact hK _ h
   ·cases h
  ·exact hK _ h
 ·exact hK _ h
theorem zCa {t:Nat}:∀ (n j:Nat) {s:TS},zEp t n j K s=some r→(∀ s,K s=some r→gK K' (eS s))→gK K' (eS s)
 | 0,j,s,h,hK=>hK _ h
 | n+1,j,s,h,hK=>zIC h fun s h=>zCa n (j+1) h hK
theorem zMa {ob off:Nat} (h:zQc ob off K s=some r) (hK:∀ s,K s=some r→gK K' (eS s)):gK K' (eS s):=by
 unfold zQc at h
 split at h
 ·rename_i n cs hg
  split at h
  ·rename_i o ho
   split at h
   ·rename_i m g d l hg2
    obtain ⟨h1,h2⟩:=zAC h
    split at h2
    ·rename_i n1 cs1 hg3
     obtain ⟨h3,h4⟩:=zAC h2
     refine zBX (zTv (ob:=ob) (off:=off) ?_)
     unfold zRe
     rw [zBF hg]
     simp only [List.getElem?_cons_zero]
     rw [← zFm,ho]
     simp only [e]
     rw [zBG hg2]
     refine zAP (by simp only [zAM,h1];rfl) ?_
     rw [zEm,zBF hg3]
     simp only [List.getElem?_cons_zero]
     refine zAP (by simp only [zAM,h3];rfl) ?_
     have hw:wr (eL cs1) off [SV.own g.sz (l.map (encC d g))]=eL (wrV cs1 off [.own g d l]):=by rw [zCV];rfl
     rw [hw,zBS hg3 (zCD _ _ _ (by simpa using zBO h3))]
     exact hK _ h4
    ·cases h2
   ·cases h
  ·exact hK _ h
 ·exact hK _ h
theorem zDm (g:GT) (d:Bool):∀ l:List g.Den,zBb (l.map (encC d g))=true
 | []=>rfl
 | x :: l=>by simp only [List.map_cons,zBb,zCt g d x,zDm g d l,Bool.and_self]
theorem zLs {o:Nat} {y:TO} {b:Bool}:∀ (l:List TO) {x:TO},getT l o=some x→eO y={ eO x with nm:=b }→eOs (zTF l o y)=zOH (eOs l) o b
 | [],_,h,_=>by cases h
 | z :: l,x,h,he=>by
   simp only [getT] at h
   simp only [zTF,eOs,zOH,zDx]
   by_cases hx:z.name=o
   ·have h':(z.name == o)=true:=by simpa using hx
    rw [h',cond_true] at h
    simp only [Option.some.injEq] at h
    subst h
    rw [h',cond_true,if_pos hx]
    show eO y :: eOs l=_
    rw [he]
    simp only [zDx]
   ·have h':(z.name == o)=false:=by simpa using hx
    rw [h',cond_false] at h
    simp only [h',cond_false,hx,if_false,eOs,zLs l h he]
theorem set_same {α:Type} {l:List α} {i:Nat} {x:α} (h:l[i]? = some x):l.set i x=l:=by
 apply List.ext_getElem?
 intro j
 by_cases hj:i=j
 ·subst hj
  have hlt:=zCH h
  rw [List.getElem?_set_self hlt,h]
 ·rw [List.getElem?_set_ne hj]
theorem zSC {o i:Nat} (h:opnR o i K s=some r) (hK:∀ s,K s=some r→gK K' (eS s)):gK K' (eS s):=by
 unfold opnR at h
 split at h
 ·rename_i n g d l hg
  obtain ⟨x,hx,h1⟩:=zFu h
  refine zBX (gK_nm o true ?_ ?_)
  ·intro y hy
   rw [zBG hg] at hy
   simp only [Option.some.injEq] at hy
   rw [← hy]
   exact zDm g d l
  ·have:=hK _ h1
   simp only [eS] at this ⊢
   rw [zLs (b:=true) s.ob hg] at this
   ·exact this
   ·simp only [eO,zEo]
    rw [set_same]
    rw [List.getElem?_map,hx];rfl
 ·exact hK _ h
theorem zEA {o off:Nat} (h:zIB o off K s=some r) (hK:∀ s,K s=some r→gK K' (eS s)):gK K' (eS s):=by
 unfold zIB at h
 split at h
 ·rename_i n g0 d0 l j cs hg
  split at h
  ·rename_i a ha
   split at h
   ·rename_i m g d rr hg2
    obtain ⟨h1,h2⟩:=zAC h
    obtain ⟨hlt,h2⟩:=zAO h2
    simp only [decide_eq_true_eq] at hlt
    split at h2
    ·rename_i n1 g1 d1 l1 j1 cs1 hg3
     obtain ⟨h3,h4⟩:=zAC h2
     obtain ⟨h5,h4'⟩:=zAO h4
     simp only [Bool.and_eq_true,decide_eq_true_eq] at h5
     obtain ⟨h5,h6⟩:=h5
     subst h5
     refine zBX (zTu (ob:=o) (i:=j) (off:=off) ?_)
     unfold zUN
     rw [zBA hg]
     simp only [zDO hlt]
     rw [← zFm,ha]
     simp only [e]
     rw [zBG hg2]
     refine zAP (by simp only [zAM,h1];rfl) ?_
     rw [zEm,zBA hg3]
     simp only [zDO h6]
     refine zAP (by simp only [zAM,h3];rfl) ?_
     have hw:wr (eL cs1) off [SV.own g.sz (rr.map (encC d g))]=eL (wrV cs1 off [.own g d rr]):=by rw [zCV];rfl
     rw [hw,zBm hg3]
     exact hK _ h4'
    ·cases h2
   ·cases h
  ·exact hK _ h
 ·exact hK _ h
theorem zOo {o off n:Nat} {g0:GT} {d0:Bool} {l:List g0.Den} {j:Nat} {cs:List V} {g:GT} {d:Bool} {rr:List g.Den} {v:V} (hg:getT s.ob o=some (.opn n g0 d0 l j cs)) (ha:lkV cs off=v) (hev:e v = .own g.sz (rr.map (encC d g)))
  (h:chkO (ble (off+1) cs.length) (grdO (decide (j<l.length)) (match getT (zAf s.ob o (wrV cs off [.u])) o with
   | some (.opn _ _ _ l1 j1 cs1)=>chkO (ble (off+1) cs1.length) (grdO (decide (j=j1) && decide (j1<l1.length)) (K ⟨s.n,s.al,zAf (zAf s.ob o (wrV cs off [.u])) o (wrV cs1 off [.sl g rr])⟩))
   | _=>none))=some r) (hK:∀ s,K s=some r→gK K' (eS s)):gK K' (eS s):=by
 obtain ⟨h1,h2⟩:=zAC h
 obtain ⟨hlt,h2⟩:=zAO h2
 simp only [decide_eq_true_eq] at hlt
 split at h2
 ·rename_i n1 g1 d1 l1 j1 cs1 hg3
  obtain ⟨h3,h4⟩:=zAC h2
  obtain ⟨h5,h4'⟩:=zAO h4
  simp only [Bool.and_eq_true,decide_eq_true_eq] at h5
  obtain ⟨h5,h6⟩:=h5
  subst h5
  refine zBX (zTt (ob:=o) (i:=j) (off:=off) ?_)
  unfold frzI
  rw [zBA hg]
  simp only [zDO hlt]
  rw [← zFm,ha,hev]
  simp only
  refine zAP (by simp only [zAM,h1];rfl) ?_
  have hw:wr (eL cs) off [SV.u]=eL (wrV cs off [.u]):=by rw [zCV];rfl
  rw [hw,zBm hg]
  have hg3':getT (⟨s.n,s.al,zAf s.ob o (wrV cs off [.u])⟩:TS).ob o=some (.opn n1 g1 d1 l1 j cs1):=hg3
  rw [zBA hg3']
  simp only [zDO h6]
  refine zAP (by simp only [zAM,h3];rfl) ?_
  have hw1:wr (eL cs1) off [SV.sl g.sz (zBj (rr.map (encC d g)))]=eL (wrV cs1 off [.sl g rr]):=by rw [zCV,zCT];rfl
  rw [hw1,zBm hg3']
  exact hK _ h4'
 ·cases h2
theorem zHp {o off:Nat} (h:frzIT o off K s=some r) (hK:∀ s,K s=some r→gK K' (eS s)):gK K' (eS s):=by
 unfold frzIT at h
 split at h
 ·rename_i n g0 d0 l j cs hg
  split at h
  ·rename_i g d rr ha
   exact zOo hg ha rfl h hK
  ·rename_i g ha
   exact zOo (rr:=[]) (d:=true) hg ha rfl h hK
  ·exact hK _ h
 ·exact hK _ h
theorem zEv {o:Nat}:∀ (n j:Nat) {s:TS} {K:TS→Option R},zMZ o n j K s=some r→(∀ s,K s=some r→gK K' (eS s))→gK K' (eS s)
 | 0,j,s,K,h,hK=>hK _ h
 | n+1,j,s,K,h,hK=>zEA h fun s h=>zEv n (j+1) h hK
theorem zGg {o:Nat}:∀ (n j:Nat) {s:TS} {K:TS→Option R},zUA o n j K s=some r→(∀ s,K s=some r→gK K' (eS s))→gK K' (eS s)
 | 0,j,s,K,h,hK=>hK _ h
 | n+1,j,s,K,h,hK=>zHp h fun s h=>zGg n (j+1) h hK
theorem zHw {o:Nat} (h:finNT o K s=some r) (hK:∀ s,K s=some r→gK K' (eS s)):gK K' (eS s):=by
 unfold finNT at h
 split at h
 ·rename_i n g d l j cs hg
  obtain ⟨hlt,h2⟩:=zAO h
  simp only [decide_eq_true_eq] at hlt
  obtain ⟨z,rest,h4,h5⟩:=zLx g _ _ h2
  cases rest with
  | cons a b=>cases h4
  | nil =>
    simp only [eL,List.append_nil] at h5
    have hrows:(l.map (encC d g)).set j (eL cs)=(l.set j z).map (encC d g):=by rw [h5,List.map_set]
    refine zBX (gK_nm o false ?_ ?_)
    ·intro y hy
     rw [zBA hg] at hy
     simp only [Option.some.injEq] at hy
     rw [← hy]
     simp only [hrows]
     exact zDm g d _
    ·have:=hK _ h4
     simp only [eS] at this ⊢
     rw [zLs (b:=false) s.ob hg] at this
     ·exact this
     ·simp only [eO,hrows]
 ·exact hK _ h
theorem zDz {o:Nat} (h:zIA o K s=some r) (hK:∀ s,K s=some r→gK K' (eS s)):gK K' (eS s):=by
 unfold zIA at h
 split at h
 ·rename_i n g d l j cs hg
  refine zEv _ _ h fun s h=>?_
  split at h
  ·exact zHw h hK
  ·exact zGg _ _ h fun s h=>zHw h hK
 ·exact hK _ h
theorem zDQ {ob off:Nat} (h:zFq ob off K s=some r) (hK:∀ s,K s=some r→gK K' (eS s)):gK K' (eS s):=by
 unfold zFq at h
 split at h
 ·split at h
  ·exact zDz h fun s h=>zMa h hK
  ·exact hK _ h
 ·exact hK _ h
theorem zOp {o off n:Nat} {cs:List V} {g:GT} {d:Bool} {rr:List g.Den} {v:V} (hg:getT s.ob o=some (.box n cs)) (ha:lkV cs off=v) (hev:e v = .own g.sz (rr.map (encC d g)))
  (h:chkO (ble (off+1) cs.length) (match getT (zAd s.ob o (wrV cs off [.u])) o with
   | some (.box _ cs1)=>chkO (ble (off+1) cs1.length) (K ⟨s.n,s.al,zAd (zAd s.ob o (wrV cs off [.u])) o (wrV cs1 off [.sl g rr])⟩)
   | _=>none)=some r) (hK:∀ s,K s=some r→gK K' (eS s)):gK K' (eS s):=by
 obtain ⟨h1,h2⟩:=zAC h
 split at h2
 ·rename_i n1 cs1 hg3
  obtain ⟨h3,h4⟩:=zAC h2
  refine zBX (zTt (ob:=o) (i:=0) (off:=off) ?_)
  unfold frzI
  rw [zBF hg]
  simp only [List.getElem?_cons_zero]
  rw [← zFm,ha,hev]
  simp only
  refine zAP (by simp only [zAM,h1];rfl) ?_
  have hw:wr (eL cs) off [SV.u]=eL (wrV cs off [.u]):=by rw [zCV];rfl
  rw [hw,zBS hg (zCD _ _ _ (by simpa using zBO h1))]
  have hg3':getT (⟨s.n,s.al,zAd s.ob o (wrV cs off [.u])⟩:TS).ob o=some (.box n1 cs1):=hg3
  rw [zBF hg3']
  simp only [List.getElem?_cons_zero]
  refine zAP (by simp only [zAM,h3];rfl) ?_
  have hw1:wr (eL cs1) off [SV.sl g.sz (zBj (rr.map (encC d g)))]=eL (wrV cs1 off [.sl g rr]):=by rw [zCV,zCT];rfl
  rw [hw1,zBS hg3' (zCD _ _ _ (by simpa using zBO h3))]
  exact hK _ h4
 ·cases h2
theorem zQT {o off:Nat} (h:frzBT o off K s=some r) (hK:∀ s,K s=some r→gK K' (eS s)):gK K' (eS s):=by
 unfold frzBT at h
 split at h
 ·rename_i n cs hg
  split at h
  ·rename_i g d rr ha
   exact zOp hg ha rfl h hK
  ·rename_i g ha
   exact zOp (rr:=[]) (d:=true) hg ha rfl h hK
  ·exact hK _ h
 ·exact hK _ h
theorem zQA {t:Nat} {p:Pat} (h:prepV t p K s=some r) (hK:∀ s,K s=some r→gK K' (eS s)):gK K' (eS s):=by
 unfold prepV at h
 split at h
 ·split at h
  ·rename_i hv;exact zEw hv h hK
  ·exact hK _ h
 ·split at h
  ·exact zFj (hK _ h)
  ·exact zFj (hK _ h)
  ·exact zDK h hK
  ·exact hK _ h
 ·split at h
  ·refine zCa _ _ h fun s h=>?_
   split at h
   ·exact hK _ h
   ·exact zFj (hK _ h)
  ·exact hK _ h
 ·exact hK _ h
theorem zHe:∀ (l:List (Nat×Pat)) {s:TS},zOO l K s=some r→(∀ s,K s=some r→gK K' (eS s))→gK K' (eS s)
 | [],s,h,hK=>hK _ h
 | p :: l,s,h,hK=>zQA h fun s h=>zHe l h hK
theorem zDl {o:Nat}:∀ (p:Pat) (j:Nat) {s:TS} {K:TS→Option R},zSB o p j K s=some r→(∀ s,K s=some r→gK K' (eS s))→gK K' (eS s)
 | .cons p q,j,s,K,h,hK=>by
   unfold zSB at h
   split at h
   ·exact zDQ h fun s h=>zDl q (j+1) h hK
   ·exact zDQ h fun s h=>zQT h fun s h=>zDl q (j+1) h hK
   ·exact zDl q (j+1) h hK
 | .i _,_,_,_,h,hK | .b,_,_,_,h,hK | .s,_,_,_,h,hK | .sl _,_,_,_,h,hK | .own _ _,_,_,_,h,hK | .ptr _ _,_,_,_,h,hK | .ptrI _ _,_,_,_,h,hK
 | .ar _,_,_,_,h,hK | .nilp,_,_,_,h,hK | .u,_,_,_,h,hK | .nil,_,_,_,h,hK | .sc _,_,_,_,h,hK | .agg _,_,_,_,h,hK | .tup _,_,_,_,h,hK | .fn _ _,_,_,_,h,hK | .ro _,_,_,_,h,hK | .nop,_,_,_,h,hK=>hK _ h
theorem zDk {o:Nat}:∀ (p:Pat) (j:Nat) {s:TS} {K:TS→Option R},zSA o p j K s=some r→(∀ s,K s=some r→gK K' (eS s))→gK K' (eS s)
 | .cons p q,j,s,K,h,hK=>by
   unfold zSA at h
   split at h
   ·exact zEA h fun s h=>zDk q (j+1) h hK
   ·exact zEA h fun s h=>zHp h fun s h=>zDk q (j+1) h hK
   ·exact zDk q (j+1) h hK
 | .i _,_,_,_,h,hK | .b,_,_,_,h,hK | .s,_,_,_,h,hK | .sl _,_,_,_,h,hK | .own _ _,_,_,_,h,hK | .ptr _ _,_,_,_,h,hK | .ptrI _ _,_,_,_,h,hK
 | .ar _,_,_,_,h,hK | .nilp,_,_,_,h,hK | .u,_,_,_,h,hK | .nil,_,_,_,h,hK | .sc _,_,_,_,h,hK | .agg _,_,_,_,h,hK | .tup _,_,_,_,h,hK | .fn _ _,_,_,_,h,hK | .ro _,_,_,_,h,hK | .nop,_,_,_,h,hK=>hK _ h
theorem zDj:∀ (l:List OPat) {s:TS},zHc l K s=some r→(∀ s,K s=some r→gK K' (eS s))→gK K' (eS s)
 | [],s,h,hK=>hK _ h
 | o :: l,s,h,hK=>by
   unfold zHc at h
   split at h
   ·exact zDl _ _ h fun s h=>zDj l h hK
   ·exact zDz h fun s h=>zDj l h hK
   ·exact zDk _ _ h fun s h=>zDj l h hK
theorem zEb {x:Operand} (h:zPE x K s=some r) (hK:∀ s,K s=some r→gK K' (eS s)):gK K' (eS s):=by
 unfold zPE at h
 split at h
 ·split at h
  ·rename_i hv;exact zEw hv h hK
  ·exact zCa _ _ h hK
  ·exact hK _ h
 ·exact hK _ h
theorem zFp:∀ (l:List Operand) {s:TS},zQb l K s=some r→(∀ s,K s=some r→gK K' (eS s))→gK K' (eS s)
 | [],s,h,hK=>hK _ h
 | x :: l,s,h,hK=>zEb h fun s h=>zFp l h hK
theorem zGH {x:Operand} (h:frzX x K s=some r) (hK:∀ s,K s=some r→gK K' (eS s)):gK K' (eS s):=by
 unfold frzX at h
 split at h
 ·split at h
  ·exact zDK h hK
  ·exact zFj (hK _ h)
 ·exact hK _ h
theorem zDt {t:Nat}:∀ (n j:Nat) {s:TS},zHq t n j K s=some r→(∀ s,K s=some r→gK K' (eS s))→gK K' (eS s)
 | 0,j,s,h,hK=>hK _ h
 | n+1,j,s,h,hK=>by
   unfold zHq at h
   split at h
   ·split at h
    ·exact zDK h fun s h=>zDt n (j+1) h hK
    ·exact zDt n (j+1) h hK
   ·exact hK _ h
theorem zOs {x:Operand} (h:zUC x K s=some r) (hK:∀ s,K s=some r→gK K' (eS s)):gK K' (eS s):=by
 unfold zUC at h
 split at h
 ·split at h
  ·exact zDt _ _ h hK
  ·exact hK _ h
 ·exact hK _ h
theorem zFl:∀ (l:List Operand) {s:TS},zQU l K s=some r→(∀ s,K s=some r→gK K' (eS s))→gK K' (eS s)
 | [],s,h,hK=>hK _ h
 | x :: l,s,h,hK=>zOs h fun s h=>zFl l h hK
theorem zFr {o:Nat}:∀ (n j:Nat) {s:TS},zQd o n j K s=some r→(∀ s,K s=some r→gK K' (eS s))→gK K' (eS s)
 | 0,j,s,h,hK=>hK _ h
 | n+1,j,s,h,hK=>zDQ h fun s h=>zFr n (j+1) h hK
theorem zCh:∀ (l:List TO) {s:TS},zGL l K s=some r→(∀ s,K s=some r→gK K' (eS s))→gK K' (eS s)
 | [],s,h,hK=>hK _ h
 | x :: l,s,h,hK=>by
   unfold zGL at h
   split at h
   ·exact zFr _ _ h fun s h=>zCh l h hK
   ·exact zCh l h hK
   ·exact zDz h fun s h=>zCh l h hK
theorem zIg {v:V} (h:opnV v K s=some r) (hK:∀ s,K s=some r→gK K' (eS s)):gK K' (eS s):=by
 unfold opnV at h
 split at h
 ·exact zSC h hK
 ·exact hK _ h
theorem zPz {T:Nat→TI} {gz:List Nat} {o:Oper} (h:zTP T gz o K s=some r) (hK:∀ s,K s=some r→gK K' (eS s)):gK K' (eS s):=by
 unfold zTP at h
 split at h
 ·exact zFp _ h hK
 ·split at h
  ·exact zIg h hK
  ·exact hK _ h
 ·split at h
  ·exact zIg h hK
  ·split at h
   ·exact zEb h fun s h=>zGH h hK
   ·split at h
    ·exact zEb h hK
    ·exact hK _ h
 ·split at h
  ·exact zGH h hK
  ·exact hK _ h
 ·split at h
  ·exact zGH h hK
  ·exact hK _ h
 ·split at h
  ·split at h
   ·split at h
    ·split at h
     ·exact zDK h hK
     ·exact hK _ h
    ·exact hK _ h
   ·exact hK _ h
  ·have hf:∀ {s},zTP.frzC gz o (by assumption) K s=some r→gK K' (eS s):=by
    intro s h
    unfold zTP.frzC at h
    split at h
    ·exact zFl _ h hK
    ·exact hK _ h
   split at h
   ·exact zCh _ h fun s h=>hf h
   ·exact hf h
  ·exact hK _ h
 ·exact hK _ h
theorem zCq {N:Nat} {p:SPat} {K:p.Den→Option R} (h:zGl N p K s=some r) (hK:∀ x,K x=some r→K' (eS (encS N p x))):gK K' (eS s):=by
 obtain ⟨h0,h1⟩:=zAC h
 refine zDj _ h1 fun s1 h2=>zHe _ h2 fun s2 h3=>?_
 obtain ⟨hn,h3⟩:=zAC h3
 obtain ⟨x,h4,h5⟩:=zSP h0 h3
 have hn:=eq_of_beq hn
 rw [hn] at h5
 exact h5 _ (hK x h4)
end
end Go.TM
end
