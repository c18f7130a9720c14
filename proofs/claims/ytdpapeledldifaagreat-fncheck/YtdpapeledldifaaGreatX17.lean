/- Part 18 of the proof that the law FnCheck holds of every input; no condition. -/
import Derived.Test.YtdpapeledldifaaGreatX16
set_option autoImplicit true
set_option relaxedAutoImplicit true
set_option linter.all false
section
namespace Go.TM
open Go.AM
section
variable {R:Type}
def subV (o:Nat) (y:V):V→V
 | .ar n=>bif n == o then y else .ar n
 | x=>zMp o x
def subA (o:Nat) (y:V):List (Nat×V)→List (Nat×V)
 | []=>[]
 | p :: l=>(p.1,subV o y p.2) :: subA o y l
def zGr (s:TS) (o:Nat) (K:TS→Option R):Option R:=match getT s.ob o with
 | some (.arr _ g _ l)=>K ⟨s.n,subA o (.sl g l) s.al,zIF o s.ob⟩
 | _=>none
def zHP (s:TS) (t o:Nat) (K:TS→Option R):Option R:=match getT s.ob o with
 | some (.arr _ g d l)=>K (setT (zHF o s) t (.own g d l))
 | _=>none
def zIX (t j:Nat) (K:TS→Option R) (s:TS):Option R:=match zBf s t with
 | .agg cs=>match lkV cs j with
   | .ar o=>match getT (zAv s (.tmp t)).ob o with
     | some (.arr _ g d l)=>K (setT (zHF o (zAv s (.tmp t))) t (.agg (updV (zDV o cs) j (.own g d l))))
     | _=>none
   | _=>K s
 | _=>K s
def zEv (t:Nat):Nat→Nat→(TS→Option R)→TS→Option R
 | 0,_,K,s=>K s
 | n+1,j,K,s=>zIX t j (zEv t n (j+1) K) s
def zRh (ob off:Nat) (K:TS→Option R) (s:TS):Option R:=match getT s.ob ob with
 | some (.box _ cs)=>match lkV cs off with
   | .ar o=>match getT s.ob o with
     | some (.arr _ g d l)=>chkO (ble (off+1) cs.length) (match getT (zHF o s).ob ob with
       | some (.box _ cs1)=>chkO (ble (off+1) cs1.length) (K ⟨s.n,(zHF o s).al,zAe (zHF o s).ob ob (wrV cs1 off [.own g d l])⟩)
       | _=>none)
     | _=>none
   | _=>K s
 | _=>K s
def zUh:List TO→Nat→TO→List TO
 | [],_,_=>[]
 | x :: l,o,y=>bif x.name == o then y :: l else x :: zUh l o y
def opnR (o i:Nat) (K:TS→Option R) (s:TS):Option R:=match getT s.ob o with
 | some (.arr n g d l)=>atO l i fun x=>K ⟨s.n,s.al,zUh s.ob o (.opn n g d l i (cells d g x))⟩
 | _=>K s
def zIV (o off:Nat) (K:TS→Option R) (s:TS):Option R:=match getT s.ob o with
 | some (.opn _ _ _ l j cs)=>(match lkV cs off with
   | .ar a=>(match getT s.ob a with
     | some (.arr _ g d r)=>chkO (ble (off+1) cs.length) (grdO (decide (j<l.length)) (match getT (zHF a s).ob o with
       | some (.opn _ _ _ l1 j1 cs1)=>chkO (ble (off+1) cs1.length) (grdO (decide (j=j1) && decide (j1<l1.length)) (K ⟨s.n,(zHF a s).al,zAh (zHF a s).ob o (wrV cs1 off [.own g d r])⟩))
       | _=>none))
     | _=>none)
   | _=>K s)
 | _=>K s
def frzIT (o off:Nat) (K:TS→Option R) (s:TS):Option R:=match getT s.ob o with
 | some (.opn _ _ _ l j cs)=>(match lkV cs off with
   | .own g _ r=>chkO (ble (off+1) cs.length) (grdO (decide (j<l.length)) (match getT (zAh s.ob o (wrV cs off [.u])) o with
     | some (.opn _ _ _ l1 j1 cs1)=>chkO (ble (off+1) cs1.length) (grdO (decide (j=j1) && decide (j1<l1.length)) (K ⟨s.n,s.al,zAh (zAh s.ob o (wrV cs off [.u])) o (wrV cs1 off [.sl g r])⟩))
     | _=>none))
   | .emp g=>chkO (ble (off+1) cs.length) (grdO (decide (j<l.length)) (match getT (zAh s.ob o (wrV cs off [.u])) o with
     | some (.opn _ _ _ l1 j1 cs1)=>chkO (ble (off+1) cs1.length) (grdO (decide (j=j1) && decide (j1<l1.length)) (K ⟨s.n,s.al,zAh (zAh s.ob o (wrV cs off [.u])) o (wrV cs1 off [.sl g []])⟩))
     | _=>none))
   | _=>K s)
 | _=>K s
def zNC (o:Nat):Nat→Nat→(TS→Option R)→TS→Option R
 | 0,_,K,s=>K s
 | n+1,j,K,s=>zIV o j (zNC o n (j+1) K) s
def zVh (o:Nat):Nat→Nat→(TS→Option R)→TS→Option R
 | 0,_,K,s=>K s
 | n+1,j,K,s=>frzIT o j (zVh o n (j+1) K) s
def finNT (o:Nat) (K:TS→Option R) (s:TS):Option R:=match getT s.ob o with
 | some (.opn n g d l j cs)=>grdO (decide (j<l.length)) (rdC false d g cs fun z rest=>(match rest with
   | []=>K ⟨s.n,s.al,zUh s.ob o (.arr n g d (l.set j z))⟩
   | _ :: _=>none))
 | _=>K s
def zIU (o:Nat) (K:TS→Option R) (s:TS):Option R:=match getT s.ob o with
 | some (.opn _ _ d _ _ cs)=>zNC o cs.length 0 (match d with
   | true=>finNT o K
   | false=>zVh o cs.length 0 (finNT o K)) s
 | _=>K s
def zFy (ob off:Nat) (K:TS→Option R) (s:TS):Option R:=match getT s.ob ob with
 | some (.box _ cs)=>(match lkV cs off with
   | .ar a=>zIU a (zRh ob off K) s
   | _=>K s)
 | _=>K s
def frzBT (o off:Nat) (K:TS→Option R) (s:TS):Option R:=match getT s.ob o with
 | some (.box _ cs)=>(match lkV cs off with
   | .own g _ r=>chkO (ble (off+1) cs.length) (match getT (zAe s.ob o (wrV cs off [.u])) o with
     | some (.box _ cs1)=>chkO (ble (off+1) cs1.length) (K ⟨s.n,s.al,zAe (zAe s.ob o (wrV cs off [.u])) o (wrV cs1 off [.sl g r])⟩)
     | _=>none)
   | .emp g=>chkO (ble (off+1) cs.length) (match getT (zAe s.ob o (wrV cs off [.u])) o with
     | some (.box _ cs1)=>chkO (ble (off+1) cs1.length) (K ⟨s.n,s.al,zAe (zAe s.ob o (wrV cs off [.u])) o (wrV cs1 off [.sl g []])⟩)
     | _=>none)
   | _=>K s)
 | _=>K s
def ownP:Pat→Bool
 | .own _ _=>true
 | .agg p=>ownP p
 | .cons p q=>ownP p || ownP q
 | _=>false
def prepV (t:Nat) (p:Pat) (K:TS→Option R) (s:TS):Option R:=match p with
 | .own _ _=>(match zBf s t with
   | .ar o=>zHP s t o K
   | _=>K s)
 | .sl _=>(match zBf s t with
   | .own _ _ _=>K (zMs s (.tmp t))
   | .emp _=>K (zMs s (.tmp t))
   | .ar o=>zGr s o K
   | _=>K s)
 | .agg q=>(match zBf s t with
   | .agg cs=>zEv t cs.length 0 (fun s=>match ownP q with
     | true=>K s
     | false=>K (zMs s (.tmp t))) s
   | _=>K s)
 | _=>K s
def zPR:List (Nat×Pat)→(TS→Option R)→TS→Option R
 | [],K,s=>K s
 | p :: l,K,s=>prepV p.1 p.2 (zPR l K) s
def zTc (o:Nat):Pat→Nat→(TS→Option R)→TS→Option R
 | .cons p q,j,K,s=>(match p with
   | .own _ _=>zFy o j (zTc o q (j+1) K) s
   | .sl _=>zFy o j (frzBT o j (zTc o q (j+1) K)) s
   | _=>zTc o q (j+1) K s)
 | _,_,K,s=>K s
def zTb (o:Nat):Pat→Nat→(TS→Option R)→TS→Option R
 | .cons p q,j,K,s=>(match p with
   | .own _ _=>zIV o j (zTb o q (j+1) K) s
   | .sl _=>zIV o j (frzIT o j (zTb o q (j+1) K)) s
   | _=>zTb o q (j+1) K s)
 | _,_,K,s=>K s
def zHw:List OPat→(TS→Option R)→TS→Option R
 | [],K,s=>K s
 | o :: l,K,s=>(match o with
   | .box n p=>zTc n p 0 (zHw l K) s
   | .arr n _ _=>zIU n (zHw l K) s
   | .opn n _ _ p=>zTb n p 0 (zHw l K) s)
def zHA (N:Nat) (p:SPat) (K:p.Den→Option R) (s:TS):Option R:=chkO (okA p.al) (zHw p.ob (zPR p.al fun s=>chkO (s.n == N) (decS p s K)) s)
def zQG (x:Operand) (K:TS→Option R) (s:TS):Option R:=match x with
 | .tmp t=>(match zBf s t with
   | .ar o=>zHP s t o K
   | .agg cs=>zEv t cs.length 0 K s
   | _=>K s)
 | _=>K s
def zRg:List Operand→(TS→Option R)→TS→Option R
 | [],K,s=>K s
 | x :: l,K,s=>zQG x (zRg l K) s
def frzX (x:Operand) (K:TS→Option R) (s:TS):Option R:=match x with
 | .tmp t=>(match zBf s t with
   | .ar o=>zGr s o K
   | _=>K (zMs s x))
 | _=>K s
def isArr (d:Bool) (s:TS) (a:V):Bool:=match a with
 | .p o _ _=>(match getT s.ob o with
   | some (.arr _ _ d' _)=>d == d'
   | _=>false)
 | _=>false
def zIK (t:Nat):Nat→Nat→(TS→Option R)→TS→Option R
 | 0,_,K,s=>K s
 | n+1,j,K,s=>(match zBf s t with
   | .agg cs=>(match lkV cs j with
     | .ar o=>zGr s o (zIK t n (j+1) K)
     | _=>zIK t n (j+1) K s)
   | _=>K s)
def zVj (x:Operand) (K:TS→Option R) (s:TS):Option R:=match x with
 | .tmp t=>(match zBf s t with
   | .agg cs=>zIK t cs.length 0 K s
   | _=>K s)
 | _=>K s
def zRZ:List Operand→(TS→Option R)→TS→Option R
 | [],K,s=>K s
 | x :: l,K,s=>zVj x (zRZ l K) s
def zRi (o:Nat):Nat→Nat→(TS→Option R)→TS→Option R
 | 0,_,K,s=>K s
 | n+1,j,K,s=>zFy o j (zRi o n (j+1) K) s
def zGW:List TO→(TS→Option R)→TS→Option R
 | [],K,s=>K s
 | x :: l,K,s=>(match x with
   | .box n cs=>zRi n cs.length 0 (zGW l K) s
   | .arr _ _ _ _=>zGW l K s
   | .opn n _ _ _ _ _=>zIU n (zGW l K) s)
def opnV (v:V) (K:TS→Option R) (s:TS):Option R:=match v with
 | .p o i _=>opnR o i K s
 | _=>K s
def zUt (T:Nat→TI) (gz:List Nat) (o:Oper) (K:TS→Option R) (s:TS):Option R:=match o.op with
 | .buildSlice _ _ ps=>zRg (opnds ps) K s
 | .load t a=>(match zRT (T t).kind with
   | true=>opnV (evT s a) K s
   | false=>K s)
 | .store _ a x=>(match gz.contains 5000000 with
   | true=>opnV (evT s a) K s
   | false=>(match isArr false s (evT s a) with
     | true=>zQG x (frzX x K) s
     | false=>(match isArr true s (evT s a) with
       | true=>zQG x K s
       | false=>K s)))
 | .convert _ d x=>(match (T d).kind with
   | .str=>frzX x K s
   | _=>K s)
 | .slice _ x _ _ _=>(match gz.contains (zDD o.dst) with
   | true=>frzX x K s
   | false=>K s)
 | .call c=>(match c.callee with
   | .builtin .append=>(match c.args.toList with
     | [_,y]=>(match y with
       | .tmp t=>(match zBf s t with
         | .ar o=>zGr s o K
         | _=>K s)
       | _=>K s)
     | _=>K s)
   | .value _=>(match gz.contains (1000000+zDD o.dst) with
     | true=>zGW s.ob (frzC gz o c K) s
     | false=>frzC gz o c K s)
   | _=>K s)
 | _=>K s
where frzC (gz:List Nat) (o:Oper) (c:Call) (K:TS→Option R) (s:TS):Option R:=match gz.contains (zDD o.dst) with
 | true=>zRZ c.args.toList K s
 | false=>K s
variable {r:R} {s:TS} {K:TS→Option R} {K':St→Prop}
theorem subV_e (o:Nat) (y v:V):AM.subV o (e y) (e v)=e (subV o y v):=by
 cases v with
 | ar n =>
   simp only [e,AM.subV,subV]
   by_cases h:n=o
   ·simp [h]
   ·have:(n == o)=false:=by simpa using h
    simp [h,this,e]
 | _=>first | rfl | (simp only [subV,← zVS];rfl)
theorem zUZ (o:Nat) (y:V):∀ al:List (Nat×V),zIq o (e y) (eA al)=eA (subA o y al)
 | []=>rfl
 | p :: l=>by simp only [eA,zIq,subA,subV_e,zUZ o y l]
theorem zDX {o:Nat} (h:zGr s o K=some r) (hK:∀ s,K s=some r→gK K' (eS s)):gK K' (eS s):=by
 unfold zGr at h
 split at h
 ·rename_i n g d l hg
  refine zBg (zSq o ?_)
  unfold zVi
  rw [zBM hg]
  refine ⟨rfl,?_⟩
  simp only [zCd]
  have:=hK _ h
  simp only [eS] at this ⊢
  rw [zOz,show SV.sl g.sz (l.map (encC false g))=e (.sl g l) from rfl,zUZ,zEt]
  exact this
 ·cases h
theorem zFC {t o:Nat} (hv:zBf s t = .ar o) (h:zHP s t o K=some r) (hK:∀ s,K s=some r→gK K' (eS s)):gK K' (eS s):=by
 unfold zHP at h
 split at h
 ·rename_i n g d l hg
  refine zBg (zTk t ?_)
  unfold zNE
  rw [zCV,hv]
  simp only [e]
  rw [zBM hg]
  refine ⟨rfl,?_⟩
  rw [zEs,show SV.own g.sz (l.map (encC d g))=e (.own g d l) from rfl,zCZ]
  exact hK _ h
 ·cases h
theorem zFp {t:Nat} (h:gK K' (eS (zMs s (.tmp t)))):gK K' (eS s):=by
 refine zBg (gK_frz t ?_)
 rw [zVg]
 exact h
theorem zIW {t j:Nat} (h:zIX t j K s=some r) (hK:∀ s,K s=some r→gK K' (eS s)):gK K' (eS s):=by
 unfold zIX at h
 split at h
 ·rename_i cs hv
  split at h
  ·rename_i o ho
   split at h
   ·rename_i n g d l hg
    refine zBg (zRW (t:=t) (j:=j) ?_)
    unfold zNF
    rw [zCV,hv]
    simp only [e]
    rw [← zFt,ho]
    simp only [e]
    rw [zCQ,zBM hg]
    simp only
    rw [zEA,zEs,show SV.own g.sz (l.map (encC d g))=e (.own g d l) from rfl,← zRf,show SV.agg (eL (updV (zDV o cs) j (.own g d l)))=e (.agg (updV (zDV o cs) j (.own g d l))) from rfl,zCZ]
    exact hK _ h
   ·cases h
  ·exact hK _ h
 ·exact hK _ h
theorem zCj {t:Nat}:∀ (n j:Nat) {s:TS},zEv t n j K s=some r→(∀ s,K s=some r→gK K' (eS s))→gK K' (eS s)
 | 0,j,s,h,hK=>hK _ h
 | n+1,j,s,h,hK=>zIW h fun s h=>zCj n (j+1) h hK
theorem zND {ob off:Nat} (h:zRh ob off K s=some r) (hK:∀ s,K s=some r→gK K' (eS s)):gK K' (eS s):=by
 unfold zRh at h
 split at h
 ·rename_i n cs hg
  split at h
  ·rename_i o ho
   split at h
   ·rename_i m g d l hg2
    obtain ⟨h1,h2⟩:=zAD h
    split at h2
    ·rename_i n1 cs1 hg3
     obtain ⟨h3,h4⟩:=zAD h2
     refine zBg (zVa (ob:=ob) (off:=off) ?_)
     unfold zTB
     rw [zBL hg]
     simp only [List.getElem?_cons_zero]
     rw [← zFt,ho]
     simp only [e]
     rw [zBM hg2]
     refine zAQ (by simp only [zAN,h1];rfl) ?_
     rw [zEs,zBL hg3]
     simp only [List.getElem?_cons_zero]
     refine zAQ (by simp only [zAN,h3];rfl) ?_
     have hw:wr (eL cs1) off [SV.own g.sz (l.map (encC d g))]=eL (wrV cs1 off [.own g d l]):=by rw [zCe];rfl
     rw [hw,zBa hg3 (zCO _ _ _ (by simpa using zBV h3))]
     exact hK _ h4
    ·cases h2
   ·cases h
  ·exact hK _ h
 ·exact hK _ h
theorem zDy (g:GT) (d:Bool):∀ l:List g.Den,zBm (l.map (encC d g))=true
 | []=>rfl
 | x :: l=>by simp only [List.map_cons,zBm,zDF g d x,zDy g d l,Bool.and_self]
theorem zMR {o:Nat} {y:TO} {b:Bool}:∀ (l:List TO) {x:TO},getT l o=some x→eO y={ eO x with nm:=b }→eOs (zUh l o y)=zPK (eOs l) o b
 | [],_,h,_=>by cases h
 | z :: l,x,h,he=>by
   simp only [getT] at h
   simp only [zUh,eOs,zPK,zEJ]
   by_cases hx:z.name=o
   ·have h':(z.name == o)=true:=by simpa using hx
    rw [h',cond_true] at h
    simp only [Option.some.injEq] at h
    subst h
    rw [h',cond_true,if_pos hx]
    show eO y :: eOs l=_
    rw [he]
    simp only [zEJ]
   ·have h':(z.name == o)=false:=by simpa using hx
    rw [h',cond_false] at h
    simp only [h',cond_false,hx,if_false,eOs,zMR l h he]
theorem set_same {α:Type} {l:List α} {i:Nat} {x:α} (h:l[i]? = some x):l.set i x=l:=by
 apply List.ext_getElem?
 intro j
 by_cases hj:i=j
 ·subst hj
  have hlt:=zCS h
  rw [List.getElem?_set_self hlt,h]
 ·rw [List.getElem?_set_ne hj]
theorem zTd {o i:Nat} (h:opnR o i K s=some r) (hK:∀ s,K s=some r→gK K' (eS s)):gK K' (eS s):=by
 unfold opnR at h
 split at h
 ·rename_i n g d l hg
  obtain ⟨x,hx,h1⟩:=zGC h
  refine zBg (gK_nm o true ?_ ?_)
  ·intro y hy
   rw [zBM hg] at hy
   simp only [Option.some.injEq] at hy
   rw [← hy]
   exact zDy g d l
  ·have:=hK _ h1
   simp only [eS] at this ⊢
   rw [zMR (b:=true) s.ob hg] at this
   ·exact this
   ·simp only [eO,zEu]
    rw [set_same]
    rw [List.getElem?_map,hx];rfl
 ·exact hK _ h
theorem zEM {o off:Nat} (h:zIV o off K s=some r) (hK:∀ s,K s=some r→gK K' (eS s)):gK K' (eS s):=by
 unfold zIV at h
 split at h
 ·rename_i n g0 d0 l j cs hg
  split at h
  ·rename_i a ha
   split at h
   ·rename_i m g d rr hg2
    obtain ⟨h1,h2⟩:=zAD h
    obtain ⟨hlt,h2⟩:=zAP h2
    simp only [decide_eq_true_eq] at hlt
    split at h2
    ·rename_i n1 g1 d1 l1 j1 cs1 hg3
     obtain ⟨h3,h4⟩:=zAD h2
     obtain ⟨h5,h4'⟩:=zAP h4
     simp only [Bool.and_eq_true,decide_eq_true_eq] at h5
     obtain ⟨h5,h6⟩:=h5
     subst h5
     refine zBg (zVZ (ob:=o) (i:=j) (off:=off) ?_)
     unfold zVs
     rw [zBG hg]
     simp only [zDa hlt]
     rw [← zFt,ha]
     simp only [e]
     rw [zBM hg2]
     refine zAQ (by simp only [zAN,h1];rfl) ?_
     rw [zEs,zBG hg3]
     simp only [zDa h6]
     refine zAQ (by simp only [zAN,h3];rfl) ?_
     have hw:wr (eL cs1) off [SV.own g.sz (rr.map (encC d g))]=eL (wrV cs1 off [.own g d rr]):=by rw [zCe];rfl
     rw [hw,zBw hg3]
     exact hK _ h4'
    ·cases h2
   ·cases h
  ·exact hK _ h
 ·exact hK _ h
theorem zPq {o off n:Nat} {g0:GT} {d0:Bool} {l:List g0.Den} {j:Nat} {cs:List V} {g:GT} {d:Bool} {rr:List g.Den} {v:V} (hg:getT s.ob o=some (.opn n g0 d0 l j cs)) (ha:lkV cs off=v) (hev:e v = .own g.sz (rr.map (encC d g)))
  (h:chkO (ble (off+1) cs.length) (grdO (decide (j<l.length)) (match getT (zAh s.ob o (wrV cs off [.u])) o with
   | some (.opn _ _ _ l1 j1 cs1)=>chkO (ble (off+1) cs1.length) (grdO (decide (j=j1) && decide (j1<l1.length)) (K ⟨s.n,s.al,zAh (zAh s.ob o (wrV cs off [.u])) o (wrV cs1 off [.sl g rr])⟩))
   | _=>none))=some r) (hK:∀ s,K s=some r→gK K' (eS s)):gK K' (eS s):=by
 obtain ⟨h1,h2⟩:=zAD h
 obtain ⟨hlt,h2⟩:=zAP h2
 simp only [decide_eq_true_eq] at hlt
 split at h2
 ·rename_i n1 g1 d1 l1 j1 cs1 hg3
  obtain ⟨h3,h4⟩:=zAD h2
  obtain ⟨h5,h4'⟩:=zAP h4
  simp only [Bool.and_eq_true,decide_eq_true_eq] at h5
  obtain ⟨h5,h6⟩:=h5
  subst h5
  refine zBg (zVY (ob:=o) (i:=j) (off:=off) ?_)
  unfold frzI
  rw [zBG hg]
  simp only [zDa hlt]
  rw [← zFt,ha,hev]
  simp only
  refine zAQ (by simp only [zAN,h1];rfl) ?_
  have hw:wr (eL cs) off [SV.u]=eL (wrV cs off [.u]):=by rw [zCe];rfl
  rw [hw,zBw hg]
  have hg3':getT (⟨s.n,s.al,zAh s.ob o (wrV cs off [.u])⟩:TS).ob o=some (.opn n1 g1 d1 l1 j cs1):=hg3
  rw [zBG hg3']
  simp only [zDa h6]
  refine zAQ (by simp only [zAN,h3];rfl) ?_
  have hw1:wr (eL cs1) off [SV.sl g.sz (zBu (rr.map (encC d g)))]=eL (wrV cs1 off [.sl g rr]):=by rw [zCe,zCd];rfl
  rw [hw1,zBw hg3']
  exact hK _ h4'
 ·cases h2
theorem zIJ {o off:Nat} (h:frzIT o off K s=some r) (hK:∀ s,K s=some r→gK K' (eS s)):gK K' (eS s):=by
 unfold frzIT at h
 split at h
 ·rename_i n g0 d0 l j cs hg
  split at h
  ·rename_i g d rr ha
   exact zPq hg ha rfl h hK
  ·rename_i g ha
   exact zPq (rr:=[]) (d:=true) hg ha rfl h hK
  ·exact hK _ h
 ·exact hK _ h
theorem zFB {o:Nat}:∀ (n j:Nat) {s:TS} {K:TS→Option R},zNC o n j K s=some r→(∀ s,K s=some r→gK K' (eS s))→gK K' (eS s)
 | 0,j,s,K,h,hK=>hK _ h
 | n+1,j,s,K,h,hK=>zEM h fun s h=>zFB n (j+1) h hK
theorem zGq {o:Nat}:∀ (n j:Nat) {s:TS} {K:TS→Option R},zVh o n j K s=some r→(∀ s,K s=some r→gK K' (eS s))→gK K' (eS s)
 | 0,j,s,K,h,hK=>hK _ h
 | n+1,j,s,K,h,hK=>zIJ h fun s h=>zGq n (j+1) h hK
theorem zIQ {o:Nat} (h:finNT o K s=some r) (hK:∀ s,K s=some r→gK K' (eS s)):gK K' (eS s):=by
 unfold finNT at h
 split at h
 ·rename_i n g d l j cs hg
  obtain ⟨hlt,h2⟩:=zAP h
  simp only [decide_eq_true_eq] at hlt
  obtain ⟨z,rest,h4,h5⟩:=zMW g _ _ h2
  cases rest with
  | cons a b=>cases h4
  | nil =>
    simp only [eL,List.append_nil] at h5
    have hrows:(l.map (encC d g)).set j (eL cs)=(l.set j z).map (encC d g):=by rw [h5,List.map_set]
    refine zBg (gK_nm o false ?_ ?_)
    ·intro y hy
     rw [zBG hg] at hy
     simp only [Option.some.injEq] at hy
     rw [← hy]
     simp only [hrows]
     exact zDy g d _
    ·have:=hK _ h4
     simp only [eS] at this ⊢
     rw [zMR (b:=false) s.ob hg] at this
     ·exact this
     ·simp only [eO,hrows]
 ·exact hK _ h
theorem zEL {o:Nat} (h:zIU o K s=some r) (hK:∀ s,K s=some r→gK K' (eS s)):gK K' (eS s):=by
 unfold zIU at h
 split at h
 ·rename_i n g d l j cs hg
  refine zFB _ _ h fun s h=>?_
  split at h
  ·exact zIQ h hK
  ·exact zGq _ _ h fun s h=>zIQ h hK
 ·exact hK _ h
theorem zDb {ob off:Nat} (h:zFy ob off K s=some r) (hK:∀ s,K s=some r→gK K' (eS s)):gK K' (eS s):=by
 unfold zFy at h
 split at h
 ·split at h
  ·exact zEL h fun s h=>zND h hK
  ·exact hK _ h
 ·exact hK _ h
theorem zPr {o off n:Nat} {cs:List V} {g:GT} {d:Bool} {rr:List g.Den} {v:V} (hg:getT s.ob o=some (.box n cs)) (ha:lkV cs off=v) (hev:e v = .own g.sz (rr.map (encC d g)))
  (h:chkO (ble (off+1) cs.length) (match getT (zAe s.ob o (wrV cs off [.u])) o with
   | some (.box _ cs1)=>chkO (ble (off+1) cs1.length) (K ⟨s.n,s.al,zAe (zAe s.ob o (wrV cs off [.u])) o (wrV cs1 off [.sl g rr])⟩)
   | _=>none)=some r) (hK:∀ s,K s=some r→gK K' (eS s)):gK K' (eS s):=by
 obtain ⟨h1,h2⟩:=zAD h
 split at h2
 ·rename_i n1 cs1 hg3
  obtain ⟨h3,h4⟩:=zAD h2
  refine zBg (zVY (ob:=o) (i:=0) (off:=off) ?_)
  unfold frzI
  rw [zBL hg]
  simp only [List.getElem?_cons_zero]
  rw [← zFt,ha,hev]
  simp only
  refine zAQ (by simp only [zAN,h1];rfl) ?_
  have hw:wr (eL cs) off [SV.u]=eL (wrV cs off [.u]):=by rw [zCe];rfl
  rw [hw,zBa hg (zCO _ _ _ (by simpa using zBV h1))]
  have hg3':getT (⟨s.n,s.al,zAe s.ob o (wrV cs off [.u])⟩:TS).ob o=some (.box n1 cs1):=hg3
  rw [zBL hg3']
  simp only [List.getElem?_cons_zero]
  refine zAQ (by simp only [zAN,h3];rfl) ?_
  have hw1:wr (eL cs1) off [SV.sl g.sz (zBu (rr.map (encC d g)))]=eL (wrV cs1 off [.sl g rr]):=by rw [zCe,zCd];rfl
  rw [hw1,zBa hg3' (zCO _ _ _ (by simpa using zBV h3))]
  exact hK _ h4
 ·cases h2
theorem zRY {o off:Nat} (h:frzBT o off K s=some r) (hK:∀ s,K s=some r→gK K' (eS s)):gK K' (eS s):=by
 unfold frzBT at h
 split at h
 ·rename_i n cs hg
  split at h
  ·rename_i g d rr ha
   exact zPr hg ha rfl h hK
  ·rename_i g ha
   exact zPr (rr:=[]) (d:=true) hg ha rfl h hK
  ·exact hK _ h
 ·exact hK _ h
theorem zRE {t:Nat} {p:Pat} (h:prepV t p K s=some r) (hK:∀ s,K s=some r→gK K' (eS s)):gK K' (eS s):=by
 unfold prepV at h
 split at h
 ·split at h
  ·rename_i hv;exact zFC hv h hK
  ·exact hK _ h
 ·split at h
  ·exact zFp (hK _ h)
  ·exact zFp (hK _ h)
  ·exact zDX h hK
  ·exact hK _ h
 ·split at h
  ·refine zCj _ _ h fun s h=>?_
   split at h
   ·exact hK _ h
   ·exact zFp (hK _ h)
  ·exact hK _ h
 ·exact hK _ h
theorem zHy:∀ (l:List (Nat×Pat)) {s:TS},zPR l K s=some r→(∀ s,K s=some r→gK K' (eS s))→gK K' (eS s)
 | [],s,h,hK=>hK _ h
 | p :: l,s,h,hK=>zRE h fun s h=>zHy l h hK
theorem zDx {o:Nat}:∀ (p:Pat) (j:Nat) {s:TS} {K:TS→Option R},zTc o p j K s=some r→(∀ s,K s=some r→gK K' (eS s))→gK K' (eS s)
 | .cons p q,j,s,K,h,hK=>by
   unfold zTc at h
   split at h
   ·exact zDb h fun s h=>zDx q (j+1) h hK
   ·exact zDb h fun s h=>zRY h fun s h=>zDx q (j+1) h hK
   ·exact zDx q (j+1) h hK
 | .i _,_,_,_,h,hK | .b,_,_,_,h,hK | .s,_,_,_,h,hK | .sl _,_,_,_,h,hK | .own _ _,_,_,_,h,hK | .ptr _ _,_,_,_,h,hK | .ptrI _ _,_,_,_,h,hK
 | .ar _,_,_,_,h,hK | .nilp,_,_,_,h,hK | .u,_,_,_,h,hK | .nil,_,_,_,h,hK | .sc _,_,_,_,h,hK | .agg _,_,_,_,h,hK | .tup _,_,_,_,h,hK | .fn _ _,_,_,_,h,hK | .ro _,_,_,_,h,hK | .nop,_,_,_,h,hK=>hK _ h
theorem zDw {o:Nat}:∀ (p:Pat) (j:Nat) {s:TS} {K:TS→Option R},zTb o p j K s=some r→(∀ s,K s=some r→gK K' (eS s))→gK K' (eS s)
 | .cons p q,j,s,K,h,hK=>by
   unfold zTb at h
   split at h
   ·exact zEM h fun s h=>zDw q (j+1) h hK
   ·exact zEM h fun s h=>zIJ h fun s h=>zDw q (j+1) h hK
   ·exact zDw q (j+1) h hK
 | .i _,_,_,_,h,hK | .b,_,_,_,h,hK | .s,_,_,_,h,hK | .sl _,_,_,_,h,hK | .own _ _,_,_,_,h,hK | .ptr _ _,_,_,_,h,hK | .ptrI _ _,_,_,_,h,hK
 | .ar _,_,_,_,h,hK | .nilp,_,_,_,h,hK | .u,_,_,_,h,hK | .nil,_,_,_,h,hK | .sc _,_,_,_,h,hK | .agg _,_,_,_,h,hK | .tup _,_,_,_,h,hK | .fn _ _,_,_,_,h,hK | .ro _,_,_,_,h,hK | .nop,_,_,_,h,hK=>hK _ h
theorem zDv:∀ (l:List OPat) {s:TS},zHw l K s=some r→(∀ s,K s=some r→gK K' (eS s))→gK K' (eS s)
 | [],s,h,hK=>hK _ h
 | o :: l,s,h,hK=>by
   unfold zHw at h
   split at h
   ·exact zDx _ _ h fun s h=>zDv l h hK
   ·exact zEL h fun s h=>zDv l h hK
   ·exact zDw _ _ h fun s h=>zDv l h hK
theorem zEk {x:Operand} (h:zQG x K s=some r) (hK:∀ s,K s=some r→gK K' (eS s)):gK K' (eS s):=by
 unfold zQG at h
 split at h
 ·split at h
  ·rename_i hv;exact zFC hv h hK
  ·exact zCj _ _ h hK
  ·exact hK _ h
 ·exact hK _ h
theorem zFx:∀ (l:List Operand) {s:TS},zRg l K s=some r→(∀ s,K s=some r→gK K' (eS s))→gK K' (eS s)
 | [],s,h,hK=>hK _ h
 | x :: l,s,h,hK=>zEk h fun s h=>zFx l h hK
theorem zGS {x:Operand} (h:frzX x K s=some r) (hK:∀ s,K s=some r→gK K' (eS s)):gK K' (eS s):=by
 unfold frzX at h
 split at h
 ·split at h
  ·exact zDX h hK
  ·exact zFp (hK _ h)
 ·exact hK _ h
theorem zEF {t:Nat}:∀ (n j:Nat) {s:TS},zIK t n j K s=some r→(∀ s,K s=some r→gK K' (eS s))→gK K' (eS s)
 | 0,j,s,h,hK=>hK _ h
 | n+1,j,s,h,hK=>by
   unfold zIK at h
   split at h
   ·split at h
    ·exact zDX h fun s h=>zEF n (j+1) h hK
    ·exact zEF n (j+1) h hK
   ·exact hK _ h
theorem zPu {x:Operand} (h:zVj x K s=some r) (hK:∀ s,K s=some r→gK K' (eS s)):gK K' (eS s):=by
 unfold zVj at h
 split at h
 ·split at h
  ·exact zEF _ _ h hK
  ·exact hK _ h
 ·exact hK _ h
theorem zFr:∀ (l:List Operand) {s:TS},zRZ l K s=some r→(∀ s,K s=some r→gK K' (eS s))→gK K' (eS s)
 | [],s,h,hK=>hK _ h
 | x :: l,s,h,hK=>zPu h fun s h=>zFr l h hK
theorem zFz {o:Nat}:∀ (n j:Nat) {s:TS},zRi o n j K s=some r→(∀ s,K s=some r→gK K' (eS s))→gK K' (eS s)
 | 0,j,s,h,hK=>hK _ h
 | n+1,j,s,h,hK=>zDb h fun s h=>zFz n (j+1) h hK
theorem zCu:∀ (l:List TO) {s:TS},zGW l K s=some r→(∀ s,K s=some r→gK K' (eS s))→gK K' (eS s)
 | [],s,h,hK=>hK _ h
 | x :: l,s,h,hK=>by
   unfold zGW at h
   split at h
   ·exact zFz _ _ h fun s h=>zCu l h hK
   ·exact zCu l h hK
   ·exact zEL h fun s h=>zCu l h hK
theorem zIx {v:V} (h:opnV v K s=some r) (hK:∀ s,K s=some r→gK K' (eS s)):gK K' (eS s):=by
 unfold opnV at h
 split at h
 ·exact zTd h hK
 ·exact hK _ h
theorem zRD {T:Nat→TI} {gz:List Nat} {o:Oper} (h:zUt T gz o K s=some r) (hK:∀ s,K s=some r→gK K' (eS s)):gK K' (eS s):=by
 unfold zUt at h
 split at h
 ·exact zFx _ h hK
 ·split at h
  ·exact zIx h hK
  ·exact hK _ h
 ·split at h
  ·exact zIx h hK
  ·split at h
   ·exact zEk h fun s h=>zGS h hK
   ·split at h
    ·exact zEk h hK
    ·exact hK _ h
 ·split at h
  ·exact zGS h hK
  ·exact hK _ h
 ·split at h
  ·exact zGS h hK
  ·exact hK _ h
 ·split at h
  ·split at h
   ·split at h
    ·split at h
     ·exact zDX h hK
     ·exact hK _ h
    ·exact hK _ h
   ·exact hK _ h
  ·have hf:∀ {s},zUt.frzC gz o (by assumption) K s=some r→gK K' (eS s):=by
    intro s h
    unfold zUt.frzC at h
    split at h
    ·exact zFr _ h hK
    ·exact hK _ h
   split at h
   ·exact zCu _ h fun s h=>hf h
   ·exact hf h
  ·exact hK _ h
 ·exact hK _ h
theorem zDC {N:Nat} {p:SPat} {K:p.Den→Option R} (h:zHA N p K s=some r) (hK:∀ x,K x=some r→K' (eS (encS N p x))):gK K' (eS s):=by
 obtain ⟨h0,h1⟩:=zAD h
 refine zDv _ h1 fun s1 h2=>zHy _ h2 fun s2 h3=>?_
 obtain ⟨hn,h3⟩:=zAD h3
 obtain ⟨x,h4,h5⟩:=zTn h0 h3
 have hn:=eq_of_beq hn
 rw [hn] at h5
 exact h5 _ (hK x h4)
end
end Go.TM
end
