/- Part 18 of the proof that the law FnPool holds of every input; no condition. -/
import Derived.Test.YtdpapeledldifaaGreatX16
set_option autoImplicit true
set_option relaxedAutoImplicit true
set_option linter.all false
section
namespace Go.TM
open Go.AM
section
variable {R:Type}
def subV (o:Nat) (y:V):V→V
 | .ar n=>bif n == o then y else .ar n
 | x=>killV o x
def subA (o:Nat) (y:V):List (Nat×V)→List (Nat×V)
 | []=>[]
 | p :: l=>(p.1,subV o y p.2) :: subA o y l
def frzArT (s:TS) (o:Nat) (K:TS→Option R):Option R:=match getT s.ob o with
 | some (.arr _ g _ l)=>K ⟨s.n,subA o (.sl g l) s.al,killOV o s.ob⟩
 | _=>none
def closeArT (s:TS) (t o:Nat) (K:TS→Option R):Option R:=match getT s.ob o with
 | some (.arr _ g d l)=>K (setT (killT o s) t (.own g d l))
 | _=>none
def closeAggT (t j : Nat) (K : TS → Option R) (s : TS) : Option R := match lookT s t with
 | .agg cs => match lkV cs j with
  | .ar o => match getT (stripT s (.tmp t)).ob o with
   | some (.arr _ g d l) => K (setT (killT o (stripT s (.tmp t))) t (.agg (updV (killVL o cs) j (.own g d l))))
   | _ => none
  | _ => K s
 | _ => K s
def closeAggsT (t:Nat):Nat→Nat→(TS→Option R)→TS→Option R
 | 0,_,K,s=>K s
 | n+1,j,K,s=>closeAggT t j (closeAggsT t n (j+1) K) s
def closeCT (ob off : Nat) (K : TS → Option R) (s : TS) : Option R := match getT s.ob ob with
 | some (.box _ cs) => match lkV cs off with
  | .ar o => match getT s.ob o with
   | some (.arr _ g d l) => chkO (ble (off + 1) cs.length) (match getT (killT o s).ob ob with
    | some (.box _ cs1) => chkO (ble (off + 1) cs1.length) (K ⟨s.n, (killT o s).al, setBoxT (killT o s).ob ob (wrV cs1 off [.own g d l])⟩)
    | _ => none)
   | _ => none
  | _ => K s
 | _ => K s
def setAT:List TO→Nat→TO→List TO
 | [],_,_=>[]
 | x :: l,o,y=>bif x.name == o then y :: l else x :: setAT l o y
def opnR (o i:Nat) (K:TS→Option R) (s:TS):Option R:=match getT s.ob o with
 | some (.arr n g d l)=>atO l i fun x=>K ⟨s.n,s.al,setAT s.ob o (.opn n g d l i (cells d g x))⟩
 | _=>K s
def closeIT (o off : Nat) (K : TS → Option R) (s : TS) : Option R := match getT s.ob o with
 | some (.opn _ _ _ l j cs) => (match lkV cs off with
  | .ar a => (match getT s.ob a with
   | some (.arr _ g d r) => chkO (ble (off + 1) cs.length) (grdO (decide (j < l.length)) (match getT (killT a s).ob o with
    | some (.opn _ _ _ l1 j1 cs1) => chkO (ble (off + 1) cs1.length) (grdO (decide (j = j1) && decide (j1 < l1.length)) (K ⟨s.n, (killT a s).al, setOpnT (killT a s).ob o (wrV cs1 off [.own g d r])⟩))
    | _ => none))
   | _ => none)
  | _ => K s)
 | _ => K s
def frzIT (o off : Nat) (K : TS → Option R) (s : TS) : Option R := match getT s.ob o with
 | some (.opn _ _ _ l j cs) => (match lkV cs off with
  | .own g _ r => chkO (ble (off + 1) cs.length) (grdO (decide (j < l.length)) (match getT (setOpnT s.ob o (wrV cs off [.u])) o with
   | some (.opn _ _ _ l1 j1 cs1) => chkO (ble (off + 1) cs1.length) (grdO (decide (j = j1) && decide (j1 < l1.length)) (K ⟨s.n, s.al, setOpnT (setOpnT s.ob o (wrV cs off [.u])) o (wrV cs1 off [.sl g r])⟩))
   | _ => none))
  | .emp g => chkO (ble (off + 1) cs.length) (grdO (decide (j < l.length)) (match getT (setOpnT s.ob o (wrV cs off [.u])) o with
   | some (.opn _ _ _ l1 j1 cs1) => chkO (ble (off + 1) cs1.length) (grdO (decide (j = j1) && decide (j1 < l1.length)) (K ⟨s.n, s.al, setOpnT (setOpnT s.ob o (wrV cs off [.u])) o (wrV cs1 off [.sl g []])⟩))
   | _ => none))
  | _ => K s)
 | _ => K s
def closeINs (o:Nat):Nat→Nat→(TS→Option R)→TS→Option R
 | 0,_,K,s=>K s
 | n+1,j,K,s=>closeIT o j (closeINs o n (j+1) K) s
def frzINs (o:Nat):Nat→Nat→(TS→Option R)→TS→Option R
 | 0,_,K,s=>K s
 | n+1,j,K,s=>frzIT o j (frzINs o n (j+1) K) s
def finNT (o : Nat) (K : TS → Option R) (s : TS) : Option R := match getT s.ob o with
 | some (.opn n g d l j cs) => grdO (decide (j < l.length)) (rdC false d g cs fun z rest => (match rest with
  | [] => K ⟨s.n, s.al, setAT s.ob o (.arr n g d (l.set j z))⟩
  | _ :: _ => none))
 | _ => K s
def closeNT (o : Nat) (K : TS → Option R) (s : TS) : Option R := match getT s.ob o with
 | some (.opn _ _ d _ _ cs) => closeINs o cs.length 0 (match d with
  | true => finNT o K
  | false => frzINs o cs.length 0 (finNT o K)) s
 | _ => K s
def closeCT' (ob off : Nat) (K : TS → Option R) (s : TS) : Option R := match getT s.ob ob with
 | some (.box _ cs) => (match lkV cs off with
  | .ar a => closeNT a (closeCT ob off K) s
  | _ => K s)
 | _ => K s
def frzBT (o off : Nat) (K : TS → Option R) (s : TS) : Option R := match getT s.ob o with
 | some (.box _ cs) => (match lkV cs off with
  | .own g _ r => chkO (ble (off + 1) cs.length) (match getT (setBoxT s.ob o (wrV cs off [.u])) o with
   | some (.box _ cs1) => chkO (ble (off + 1) cs1.length) (K ⟨s.n, s.al, setBoxT (setBoxT s.ob o (wrV cs off [.u])) o (wrV cs1 off [.sl g r])⟩)
   | _ => none)
  | .emp g => chkO (ble (off + 1) cs.length) (match getT (setBoxT s.ob o (wrV cs off [.u])) o with
   | some (.box _ cs1) => chkO (ble (off + 1) cs1.length) (K ⟨s.n, s.al, setBoxT (setBoxT s.ob o (wrV cs off [.u])) o (wrV cs1 off [.sl g []])⟩)
   | _ => none)
  | _ => K s)
 | _ => K s
def ownP:Pat→Bool
 | .own _ _=>true
 | .agg p=>ownP p
 | .cons p q=>ownP p || ownP q
 | _=>false
def prepV (t : Nat) (p : Pat) (K : TS → Option R) (s : TS) : Option R := match p with
 | .own _ _ => (match lookT s t with
  | .ar o => closeArT s t o K
  | _ => K s)
 | .sl _ => (match lookT s t with
  | .own _ _ _ => K (frzTT s (.tmp t))
  | .emp _ => K (frzTT s (.tmp t))
  | .ar o => frzArT s o K
  | _ => K s)
 | .agg q => (match lookT s t with
  | .agg cs => closeAggsT t cs.length 0 (fun s => match ownP q with
   | true => K s
   | false => K (frzTT s (.tmp t))) s
  | _ => K s)
 | _ => K s
def prepA:List (Nat×Pat)→(TS→Option R)→TS→Option R
 | [],K,s=>K s
 | p :: l,K,s=>prepV p.1 p.2 (prepA l K) s
def prepC (o : Nat) : Pat → Nat → (TS → Option R) → TS → Option R
 | .cons p q, j, K, s => (match p with
  | .own _ _ => closeCT' o j (prepC o q (j + 1) K) s
  | .sl _ => closeCT' o j (frzBT o j (prepC o q (j + 1) K)) s
  | _ => prepC o q (j + 1) K s)
 | _, _, K, s => K s
def prepI (o : Nat) : Pat → Nat → (TS → Option R) → TS → Option R
 | .cons p q, j, K, s => (match p with
  | .own _ _ => closeIT o j (prepI o q (j + 1) K) s
  | .sl _ => closeIT o j (frzIT o j (prepI o q (j + 1) K)) s
  | _ => prepI o q (j + 1) K s)
 | _, _, K, s => K s
def prepO : List OPat → (TS → Option R) → TS → Option R
 | [], K, s => K s
 | o :: l, K, s => (match o with
  | .box n p => prepC n p 0 (prepO l K) s
  | .arr n _ _ => closeNT n (prepO l K) s
  | .opn n _ _ p => prepI n p 0 (prepO l K) s)
def takeS (N:Nat) (p:SPat) (K:p.Den→Option R) (s:TS):Option R:=chkO (okA p.al) (prepO p.ob (prepA p.al fun s=>chkO (s.n == N) (decS p s K)) s)
def closeX (x : Operand) (K : TS → Option R) (s : TS) : Option R := match x with
 | .tmp t => (match lookT s t with
  | .ar o => closeArT s t o K
  | .agg cs => closeAggsT t cs.length 0 K s
  | _ => K s)
 | _ => K s
def closeXL:List Operand→(TS→Option R)→TS→Option R
 | [],K,s=>K s
 | x :: l,K,s=>closeX x (closeXL l K) s
def frzX (x : Operand) (K : TS → Option R) (s : TS) : Option R := match x with
 | .tmp t => (match lookT s t with
  | .ar o => frzArT s o K
  | _ => K (frzTT s x))
 | _ => K s
def isArr (d : Bool) (s : TS) (a : V) : Bool := match a with
 | .p o _ _ => (match getT s.ob o with
  | some (.arr _ _ d' _) => d == d'
  | _ => false)
 | _ => false
def frzAggN (t : Nat) : Nat → Nat → (TS → Option R) → TS → Option R
 | 0, _, K, s => K s
 | n + 1, j, K, s => (match lookT s t with
  | .agg cs => (match lkV cs j with
   | .ar o => frzArT s o (frzAggN t n (j + 1) K)
   | _ => frzAggN t n (j + 1) K s)
  | _ => K s)
def frzAgg (x : Operand) (K : TS → Option R) (s : TS) : Option R := match x with
 | .tmp t => (match lookT s t with
  | .agg cs => frzAggN t cs.length 0 K s
  | _ => K s)
 | _ => K s
def frzAggL:List Operand→(TS→Option R)→TS→Option R
 | [],K,s=>K s
 | x :: l,K,s=>frzAgg x (frzAggL l K) s
def closeCN (o:Nat):Nat→Nat→(TS→Option R)→TS→Option R
 | 0,_,K,s=>K s
 | n+1,j,K,s=>closeCT' o j (closeCN o n (j+1) K) s
def closeBs : List TO → (TS → Option R) → TS → Option R
 | [], K, s => K s
 | x :: l, K, s => (match x with
  | .box n cs => closeCN n cs.length 0 (closeBs l K) s
  | .arr _ _ _ _ => closeBs l K s
  | .opn n _ _ _ _ _ => closeNT n (closeBs l K) s)
def opnV (v:V) (K:TS→Option R) (s:TS):Option R:=match v with
 | .p o i _=>opnR o i K s
 | _=>K s
def prepX (T : Nat → TI) (gz : List Nat) (o : Oper) (K : TS → Option R) (s : TS) : Option R := match o.op with
 | .buildSlice _ _ ps => closeXL (opnds ps) K s
 | .load t a => (match isSlice (T t).kind with
  | true => opnV (evT s a) K s
  | false => K s)
 | .store _ a x => (match gz.contains 5000000 with
  | true => opnV (evT s a) K s
  | false => (match isArr false s (evT s a) with
   | true => closeX x (frzX x K) s
   | false => (match isArr true s (evT s a) with
    | true => closeX x K s
    | false => K s)))
 | .convert _ d x => (match (T d).kind with
  | .str => frzX x K s
  | _ => K s)
 | .slice _ x _ _ _ => (match gz.contains (slotOf o.dst) with
  | true => frzX x K s
  | false => K s)
 | .call c => (match c.callee with
  | .builtin .append => (match c.args.toList with
   | [_, y] => (match y with
    | .tmp t => (match lookT s t with
     | .ar o => frzArT s o K
     | _ => K s)
    | _ => K s)
   | _ => K s)
  | .value _ => (match gz.contains (1000000 + slotOf o.dst) with
   | true => closeBs s.ob (frzC gz o c K) s
   | false => frzC gz o c K s)
  | _ => K s)
 | _ => K s
where frzC (gz : List Nat) (o : Oper) (c : Call) (K : TS → Option R) (s : TS) : Option R := match gz.contains (slotOf o.dst) with
 | true => frzAggL c.args.toList K s
 | false => K s
variable {r:R} {s:TS} {K:TS→Option R} {K':St→Prop}
theorem subV_e (o : Nat) (y v : V) : AM.subV o (e y) (e v) = e (subV o y v) := by
 cases v with
 | ar n =>
  simp only [e, AM.subV, subV]
  by_cases h : n = o
  ·simp [h]
  ·have : (n == o) = false := by simpa using h
   simp [h, this, e]
 | _ => first | rfl | (simp only [subV, ← kill_e]; rfl)
theorem subA_e (o:Nat) (y:V):∀ al:List (Nat×V),subArA o (e y) (eA al)=eA (subA o y al)
 | []=>rfl
 | p :: l=>by simp only [eA,subArA,subA,subV_e,subA_e o y l]
theorem frzArT_sound {o:Nat} (h:frzArT s o K=some r) (hK:∀ s,K s=some r→gK K' (eS s)):gK K' (eS s):=by
 unfold frzArT at h
 split at h
 ·rename_i n g d l hg
  refine gK_trans (gK_frzAr o ?_)
  unfold frzAr
  rw [getOb_arr hg]
  refine ⟨rfl,?_⟩
  simp only [frzRR_enc]
  have:=hK _ h
  simp only [eS] at this ⊢
  rw [subAr_den,show SV.sl g.sz (l.map (encC false g))=e (.sl g l) from rfl,subA_e,killOb_e]
  exact this
 ·cases h
theorem closeArT_sound {t o:Nat} (hv:lookT s t = .ar o) (h:closeArT s t o K=some r) (hK:∀ s,K s=some r→gK K' (eS s)):gK K' (eS s):=by
 unfold closeArT at h
 split at h
 ·rename_i n g d l hg
  refine gK_trans (gK_closeAr t ?_)
  unfold closeAr
  rw [e_lookT,hv]
  simp only [e]
  rw [getOb_arr hg]
  refine ⟨rfl,?_⟩
  rw [killSt_e,show SV.own g.sz (l.map (encC d g))=e (.own g d l) from rfl,setE_e]
  exact hK _ h
 ·cases h
theorem frz_sound {t:Nat} (h:gK K' (eS (frzTT s (.tmp t)))):gK K' (eS s):=by
 refine gK_trans (gK_frz t ?_)
 rw [frzT_e]
 exact h
theorem closeAggT_sound {t j:Nat} (h:closeAggT t j K s=some r) (hK:∀ s,K s=some r→gK K' (eS s)):gK K' (eS s):=by
 unfold closeAggT at h
 split at h
 ·rename_i cs hv
  split at h
  ·rename_i o ho
   split at h
   ·rename_i n g d l hg
    refine gK_trans (gK_closeAgg (t:=t) (j:=j) ?_)
    unfold closeAgg
    rw [e_lookT,hv]
    simp only [e]
    rw [← e_lkV,ho]
    simp only [e]
    rw [strip_e,getOb_arr hg]
    simp only
    rw [killL_e,killSt_e,show SV.own g.sz (l.map (encC d g))=e (.own g d l) from rfl,← eL_updV,show SV.agg (eL (updV (killVL o cs) j (.own g d l)))=e (.agg (updV (killVL o cs) j (.own g d l))) from rfl,setE_e]
    exact hK _ h
   ·cases h
  ·exact hK _ h
 ·exact hK _ h
theorem closeAggsT_sound {t:Nat}:∀ (n j:Nat) {s:TS},closeAggsT t n j K s=some r→(∀ s,K s=some r→gK K' (eS s))→gK K' (eS s)
 | 0,j,s,h,hK=>hK _ h
 | n+1,j,s,h,hK=>closeAggT_sound h fun s h=>closeAggsT_sound n (j+1) h hK
theorem closeCT_sound {ob off:Nat} (h:closeCT ob off K s=some r) (hK:∀ s,K s=some r→gK K' (eS s)):gK K' (eS s):=by
 unfold closeCT at h
 split at h
 ·rename_i n cs hg
  split at h
  ·rename_i o ho
   split at h
   ·rename_i m g d l hg2
    obtain ⟨h1,h2⟩:=chkO_some h
    split at h2
    ·rename_i n1 cs1 hg3
     obtain ⟨h3,h4⟩:=chkO_some h2
     refine gK_trans (gK_closeC (ob:=ob) (off:=off) ?_)
     unfold closeC
     rw [getOb_box hg]
     simp only [List.getElem?_cons_zero]
     rw [← e_lkV,ho]
     simp only [e]
     rw [getOb_arr hg2]
     refine chk_mk (by simp only [eL_length,h1];rfl) ?_
     rw [killSt_e,getOb_box hg3]
     simp only [List.getElem?_cons_zero]
     refine chk_mk (by simp only [eL_length,h3];rfl) ?_
     have hw:wr (eL cs1) off [SV.own g.sz (l.map (encC d g))]=eL (wrV cs1 off [.own g d l]):=by rw [eL_wrV];rfl
     rw [hw,setCells_box hg3 (wrV_length _ _ _ (by simpa using ble_le h3))]
     exact hK _ h4
    ·cases h2
   ·cases h
  ·exact hK _ h
 ·exact hK _ h
theorem plainRows_enc (g:GT) (d:Bool):∀ l:List g.Den,plainRows (l.map (encC d g))=true
 | []=>rfl
 | x :: l=>by simp only [List.map_cons,plainRows,plain_enc g d x,plainRows_enc g d l,Bool.and_self]
theorem setAT_nm {o : Nat} {y : TO} {b : Bool} : ∀ (l : List TO) {x : TO}, getT l o = some x → eO y = { eO x with nm := b } → eOs (setAT l o y) = setNm (eOs l) o b
 | [], _, h, _ => by cases h
 | z :: l, x, h, he => by
  simp only [getT] at h
  simp only [setAT, eOs, setNm, eO_name]
  by_cases hx : z.name = o
  ·have h' : (z.name == o) = true := by simpa using hx
   rw [h', cond_true] at h
   simp only [Option.some.injEq] at h
   subst h
   rw [h', cond_true, if_pos hx]
   show eO y :: eOs l = _
   rw [he]
   simp only [eO_name]
  ·have h' : (z.name == o) = false := by simpa using hx
   rw [h', cond_false] at h
   simp only [h', cond_false, hx, if_false, eOs, setAT_nm l h he]
theorem set_same {α:Type} {l:List α} {i:Nat} {x:α} (h:l[i]? = some x):l.set i x=l:=by
 apply List.ext_getElem?
 intro j
 by_cases hj:i=j
 ·subst hj
  have hlt:=lt_of_some h
  rw [List.getElem?_set_self hlt,h]
 ·rw [List.getElem?_set_ne hj]
theorem opnR_sound {o i:Nat} (h:opnR o i K s=some r) (hK:∀ s,K s=some r→gK K' (eS s)):gK K' (eS s):=by
 unfold opnR at h
 split at h
 ·rename_i n g d l hg
  obtain ⟨x,hx,h1⟩:=atO_some h
  refine gK_trans (gK_nm o true ?_ ?_)
  ·intro y hy
   rw [getOb_arr hg] at hy
   simp only [Option.some.injEq] at hy
   rw [← hy]
   exact plainRows_enc g d l
  ·have:=hK _ h1
   simp only [eS] at this ⊢
   rw [setAT_nm (b:=true) s.ob hg] at this
   ·exact this
   ·simp only [eO,eL_cells]
    rw [set_same]
    rw [List.getElem?_map,hx];rfl
 ·exact hK _ h
theorem closeIT_sound {o off:Nat} (h:closeIT o off K s=some r) (hK:∀ s,K s=some r→gK K' (eS s)):gK K' (eS s):=by
 unfold closeIT at h
 split at h
 ·rename_i n g0 d0 l j cs hg
  split at h
  ·rename_i a ha
   split at h
   ·rename_i m g d rr hg2
    obtain ⟨h1,h2⟩:=chkO_some h
    obtain ⟨hlt,h2⟩:=grdO_some h2
    simp only [decide_eq_true_eq] at hlt
    split at h2
    ·rename_i n1 g1 d1 l1 j1 cs1 hg3
     obtain ⟨h3,h4⟩:=chkO_some h2
     obtain ⟨h5,h4'⟩:=grdO_some h4
     simp only [Bool.and_eq_true,decide_eq_true_eq] at h5
     obtain ⟨h5,h6⟩:=h5
     subst h5
     refine gK_trans (gK_closeI (ob:=o) (i:=j) (off:=off) ?_)
     unfold closeI
     rw [getOb_opn hg]
     simp only [row_opn hlt]
     rw [← e_lkV,ha]
     simp only [e]
     rw [getOb_arr hg2]
     refine chk_mk (by simp only [eL_length,h1];rfl) ?_
     rw [killSt_e,getOb_opn hg3]
     simp only [row_opn h6]
     refine chk_mk (by simp only [eL_length,h3];rfl) ?_
     have hw:wr (eL cs1) off [SV.own g.sz (rr.map (encC d g))]=eL (wrV cs1 off [.own g d rr]):=by rw [eL_wrV];rfl
     rw [hw,setCells_opn hg3]
     exact hK _ h4'
    ·cases h2
   ·cases h
  ·exact hK _ h
 ·exact hK _ h
theorem frzIT_own {o off n:Nat} {g0:GT} {d0:Bool} {l:List g0.Den} {j:Nat} {cs:List V} {g:GT} {d:Bool} {rr:List g.Den} {v:V} (hg:getT s.ob o=some (.opn n g0 d0 l j cs)) (ha:lkV cs off=v) (hev:e v = .own g.sz (rr.map (encC d g)))
  (h:chkO (ble (off+1) cs.length) (grdO (decide (j<l.length)) (match getT (setOpnT s.ob o (wrV cs off [.u])) o with
   | some (.opn _ _ _ l1 j1 cs1)=>chkO (ble (off+1) cs1.length) (grdO (decide (j=j1) && decide (j1<l1.length)) (K ⟨s.n,s.al,setOpnT (setOpnT s.ob o (wrV cs off [.u])) o (wrV cs1 off [.sl g rr])⟩))
   | _=>none))=some r) (hK:∀ s,K s=some r→gK K' (eS s)):gK K' (eS s):=by
 obtain ⟨h1,h2⟩:=chkO_some h
 obtain ⟨hlt,h2⟩:=grdO_some h2
 simp only [decide_eq_true_eq] at hlt
 split at h2
 ·rename_i n1 g1 d1 l1 j1 cs1 hg3
  obtain ⟨h3,h4⟩:=chkO_some h2
  obtain ⟨h5,h4'⟩:=grdO_some h4
  simp only [Bool.and_eq_true,decide_eq_true_eq] at h5
  obtain ⟨h5,h6⟩:=h5
  subst h5
  refine gK_trans (gK_frzI (ob:=o) (i:=j) (off:=off) ?_)
  unfold frzI
  rw [getOb_opn hg]
  simp only [row_opn hlt]
  rw [← e_lkV,ha,hev]
  simp only
  refine chk_mk (by simp only [eL_length,h1];rfl) ?_
  have hw:wr (eL cs) off [SV.u]=eL (wrV cs off [.u]):=by rw [eL_wrV];rfl
  rw [hw,setCells_opn hg]
  have hg3':getT (⟨s.n,s.al,setOpnT s.ob o (wrV cs off [.u])⟩:TS).ob o=some (.opn n1 g1 d1 l1 j cs1):=hg3
  rw [getOb_opn hg3']
  simp only [row_opn h6]
  refine chk_mk (by simp only [eL_length,h3];rfl) ?_
  have hw1:wr (eL cs1) off [SV.sl g.sz (frzRR (rr.map (encC d g)))]=eL (wrV cs1 off [.sl g rr]):=by rw [eL_wrV,frzRR_enc];rfl
  rw [hw1,setCells_opn hg3']
  exact hK _ h4'
 ·cases h2
theorem frzIT_sound {o off:Nat} (h:frzIT o off K s=some r) (hK:∀ s,K s=some r→gK K' (eS s)):gK K' (eS s):=by
 unfold frzIT at h
 split at h
 ·rename_i n g0 d0 l j cs hg
  split at h
  ·rename_i g d rr ha
   exact frzIT_own hg ha rfl h hK
  ·rename_i g ha
   exact frzIT_own (rr:=[]) (d:=true) hg ha rfl h hK
  ·exact hK _ h
 ·exact hK _ h
theorem closeINs_sound {o:Nat}:∀ (n j:Nat) {s:TS} {K:TS→Option R},closeINs o n j K s=some r→(∀ s,K s=some r→gK K' (eS s))→gK K' (eS s)
 | 0,j,s,K,h,hK=>hK _ h
 | n+1,j,s,K,h,hK=>closeIT_sound h fun s h=>closeINs_sound n (j+1) h hK
theorem frzINs_sound {o:Nat}:∀ (n j:Nat) {s:TS} {K:TS→Option R},frzINs o n j K s=some r→(∀ s,K s=some r→gK K' (eS s))→gK K' (eS s)
 | 0,j,s,K,h,hK=>hK _ h
 | n+1,j,s,K,h,hK=>frzIT_sound h fun s h=>frzINs_sound n (j+1) h hK
theorem finNT_sound {o : Nat} (h : finNT o K s = some r) (hK : ∀ s, K s = some r → gK K' (eS s)) : gK K' (eS s) := by
 unfold finNT at h
 split at h
 ·rename_i n g d l j cs hg
  obtain ⟨hlt, h2⟩ := grdO_some h
  simp only [decide_eq_true_eq] at hlt
  obtain ⟨z, rest, h4, h5⟩ := rdC_enc g _ _ h2
  cases rest with
  | cons a b => cases h4
  | nil =>
   simp only [eL, List.append_nil] at h5
   have hrows : (l.map (encC d g)).set j (eL cs) = (l.set j z).map (encC d g) := by rw [h5, List.map_set]
   refine gK_trans (gK_nm o false ?_ ?_)
   ·intro y hy
    rw [getOb_opn hg] at hy
    simp only [Option.some.injEq] at hy
    rw [← hy]
    simp only [hrows]
    exact plainRows_enc g d _
   ·have := hK _ h4
    simp only [eS] at this ⊢
    rw [setAT_nm (b := false) s.ob hg] at this
    ·exact this
    ·simp only [eO, hrows]
 ·exact hK _ h
theorem closeNT_sound {o:Nat} (h:closeNT o K s=some r) (hK:∀ s,K s=some r→gK K' (eS s)):gK K' (eS s):=by
 unfold closeNT at h
 split at h
 ·rename_i n g d l j cs hg
  refine closeINs_sound _ _ h fun s h=>?_
  split at h
  ·exact finNT_sound h hK
  ·exact frzINs_sound _ _ h fun s h=>finNT_sound h hK
 ·exact hK _ h
theorem closeCT'_sound {ob off:Nat} (h:closeCT' ob off K s=some r) (hK:∀ s,K s=some r→gK K' (eS s)):gK K' (eS s):=by
 unfold closeCT' at h
 split at h
 ·split at h
  ·exact closeNT_sound h fun s h=>closeCT_sound h hK
  ·exact hK _ h
 ·exact hK _ h
theorem frzBT_own {o off n:Nat} {cs:List V} {g:GT} {d:Bool} {rr:List g.Den} {v:V} (hg:getT s.ob o=some (.box n cs)) (ha:lkV cs off=v) (hev:e v = .own g.sz (rr.map (encC d g)))
  (h:chkO (ble (off+1) cs.length) (match getT (setBoxT s.ob o (wrV cs off [.u])) o with
   | some (.box _ cs1)=>chkO (ble (off+1) cs1.length) (K ⟨s.n,s.al,setBoxT (setBoxT s.ob o (wrV cs off [.u])) o (wrV cs1 off [.sl g rr])⟩)
   | _=>none)=some r) (hK:∀ s,K s=some r→gK K' (eS s)):gK K' (eS s):=by
 obtain ⟨h1,h2⟩:=chkO_some h
 split at h2
 ·rename_i n1 cs1 hg3
  obtain ⟨h3,h4⟩:=chkO_some h2
  refine gK_trans (gK_frzI (ob:=o) (i:=0) (off:=off) ?_)
  unfold frzI
  rw [getOb_box hg]
  simp only [List.getElem?_cons_zero]
  rw [← e_lkV,ha,hev]
  simp only
  refine chk_mk (by simp only [eL_length,h1];rfl) ?_
  have hw:wr (eL cs) off [SV.u]=eL (wrV cs off [.u]):=by rw [eL_wrV];rfl
  rw [hw,setCells_box hg (wrV_length _ _ _ (by simpa using ble_le h1))]
  have hg3':getT (⟨s.n,s.al,setBoxT s.ob o (wrV cs off [.u])⟩:TS).ob o=some (.box n1 cs1):=hg3
  rw [getOb_box hg3']
  simp only [List.getElem?_cons_zero]
  refine chk_mk (by simp only [eL_length,h3];rfl) ?_
  have hw1:wr (eL cs1) off [SV.sl g.sz (frzRR (rr.map (encC d g)))]=eL (wrV cs1 off [.sl g rr]):=by rw [eL_wrV,frzRR_enc];rfl
  rw [hw1,setCells_box hg3' (wrV_length _ _ _ (by simpa using ble_le h3))]
  exact hK _ h4
 ·cases h2
theorem frzBT_sound {o off:Nat} (h:frzBT o off K s=some r) (hK:∀ s,K s=some r→gK K' (eS s)):gK K' (eS s):=by
 unfold frzBT at h
 split at h
 ·rename_i n cs hg
  split at h
  ·rename_i g d rr ha
   exact frzBT_own hg ha rfl h hK
  ·rename_i g ha
   exact frzBT_own (rr:=[]) (d:=true) hg ha rfl h hK
  ·exact hK _ h
 ·exact hK _ h
theorem prepV_sound {t:Nat} {p:Pat} (h:prepV t p K s=some r) (hK:∀ s,K s=some r→gK K' (eS s)):gK K' (eS s):=by
 unfold prepV at h
 split at h
 ·split at h
  ·rename_i hv;exact closeArT_sound hv h hK
  ·exact hK _ h
 ·split at h
  ·exact frz_sound (hK _ h)
  ·exact frz_sound (hK _ h)
  ·exact frzArT_sound h hK
  ·exact hK _ h
 ·split at h
  ·refine closeAggsT_sound _ _ h fun s h=>?_
   split at h
   ·exact hK _ h
   ·exact frz_sound (hK _ h)
  ·exact hK _ h
 ·exact hK _ h
theorem prepA_sound:∀ (l:List (Nat×Pat)) {s:TS},prepA l K s=some r→(∀ s,K s=some r→gK K' (eS s))→gK K' (eS s)
 | [],s,h,hK=>hK _ h
 | p :: l,s,h,hK=>prepV_sound h fun s h=>prepA_sound l h hK
theorem prepC_sound {o : Nat} : ∀ (p : Pat) (j : Nat) {s : TS} {K : TS → Option R}, prepC o p j K s = some r → (∀ s, K s = some r → gK K' (eS s)) → gK K' (eS s)
 | .cons p q, j, s, K, h, hK => by
  unfold prepC at h
  split at h
  ·exact closeCT'_sound h fun s h => prepC_sound q (j + 1) h hK
  ·exact closeCT'_sound h fun s h => frzBT_sound h fun s h => prepC_sound q (j + 1) h hK
  ·exact prepC_sound q (j + 1) h hK
 | .i _, _, _, _, h, hK | .b, _, _, _, h, hK | .s, _, _, _, h, hK | .sl _, _, _, _, h, hK | .own _ _, _, _, _, h, hK | .ptr _ _, _, _, _, h, hK | .ptrI _ _, _, _, _, h, hK
 | .ar _, _, _, _, h, hK | .nilp, _, _, _, h, hK | .u, _, _, _, h, hK | .nil, _, _, _, h, hK | .sc _, _, _, _, h, hK | .agg _, _, _, _, h, hK | .tup _, _, _, _, h, hK | .fn _ _, _, _, _, h, hK | .ro _, _, _, _, h, hK | .nop, _, _, _, h, hK => hK _ h
theorem prepI_sound {o : Nat} : ∀ (p : Pat) (j : Nat) {s : TS} {K : TS → Option R}, prepI o p j K s = some r → (∀ s, K s = some r → gK K' (eS s)) → gK K' (eS s)
 | .cons p q, j, s, K, h, hK => by
  unfold prepI at h
  split at h
  ·exact closeIT_sound h fun s h => prepI_sound q (j + 1) h hK
  ·exact closeIT_sound h fun s h => frzIT_sound h fun s h => prepI_sound q (j + 1) h hK
  ·exact prepI_sound q (j + 1) h hK
 | .i _, _, _, _, h, hK | .b, _, _, _, h, hK | .s, _, _, _, h, hK | .sl _, _, _, _, h, hK | .own _ _, _, _, _, h, hK | .ptr _ _, _, _, _, h, hK | .ptrI _ _, _, _, _, h, hK
 | .ar _, _, _, _, h, hK | .nilp, _, _, _, h, hK | .u, _, _, _, h, hK | .nil, _, _, _, h, hK | .sc _, _, _, _, h, hK | .agg _, _, _, _, h, hK | .tup _, _, _, _, h, hK | .fn _ _, _, _, _, h, hK | .ro _, _, _, _, h, hK | .nop, _, _, _, h, hK => hK _ h
theorem prepO_sound : ∀ (l : List OPat) {s : TS}, prepO l K s = some r → (∀ s, K s = some r → gK K' (eS s)) → gK K' (eS s)
 | [], s, h, hK => hK _ h
 | o :: l, s, h, hK => by
  unfold prepO at h
  split at h
  ·exact prepC_sound _ _ h fun s h => prepO_sound l h hK
  ·exact closeNT_sound h fun s h => prepO_sound l h hK
  ·exact prepI_sound _ _ h fun s h => prepO_sound l h hK
theorem closeX_sound {x:Operand} (h:closeX x K s=some r) (hK:∀ s,K s=some r→gK K' (eS s)):gK K' (eS s):=by
 unfold closeX at h
 split at h
 ·split at h
  ·rename_i hv;exact closeArT_sound hv h hK
  ·exact closeAggsT_sound _ _ h hK
  ·exact hK _ h
 ·exact hK _ h
theorem closeXL_sound:∀ (l:List Operand) {s:TS},closeXL l K s=some r→(∀ s,K s=some r→gK K' (eS s))→gK K' (eS s)
 | [],s,h,hK=>hK _ h
 | x :: l,s,h,hK=>closeX_sound h fun s h=>closeXL_sound l h hK
theorem frzX_sound {x:Operand} (h:frzX x K s=some r) (hK:∀ s,K s=some r→gK K' (eS s)):gK K' (eS s):=by
 unfold frzX at h
 split at h
 ·split at h
  ·exact frzArT_sound h hK
  ·exact frz_sound (hK _ h)
 ·exact hK _ h
theorem frzAggN_sound {t : Nat} : ∀ (n j : Nat) {s : TS}, frzAggN t n j K s = some r → (∀ s, K s = some r → gK K' (eS s)) → gK K' (eS s)
 | 0, j, s, h, hK => hK _ h
 | n + 1, j, s, h, hK => by
  unfold frzAggN at h
  split at h
  ·split at h
   ·exact frzArT_sound h fun s h => frzAggN_sound n (j + 1) h hK
   ·exact frzAggN_sound n (j + 1) h hK
  ·exact hK _ h
theorem frzAgg_sound {x:Operand} (h:frzAgg x K s=some r) (hK:∀ s,K s=some r→gK K' (eS s)):gK K' (eS s):=by
 unfold frzAgg at h
 split at h
 ·split at h
  ·exact frzAggN_sound _ _ h hK
  ·exact hK _ h
 ·exact hK _ h
theorem frzAggL_sound:∀ (l:List Operand) {s:TS},frzAggL l K s=some r→(∀ s,K s=some r→gK K' (eS s))→gK K' (eS s)
 | [],s,h,hK=>hK _ h
 | x :: l,s,h,hK=>frzAgg_sound h fun s h=>frzAggL_sound l h hK
theorem closeCN_sound {o:Nat}:∀ (n j:Nat) {s:TS},closeCN o n j K s=some r→(∀ s,K s=some r→gK K' (eS s))→gK K' (eS s)
 | 0,j,s,h,hK=>hK _ h
 | n+1,j,s,h,hK=>closeCT'_sound h fun s h=>closeCN_sound n (j+1) h hK
theorem closeBs_sound : ∀ (l : List TO) {s : TS}, closeBs l K s = some r → (∀ s, K s = some r → gK K' (eS s)) → gK K' (eS s)
 | [], s, h, hK => hK _ h
 | x :: l, s, h, hK => by
  unfold closeBs at h
  split at h
  ·exact closeCN_sound _ _ h fun s h => closeBs_sound l h hK
  ·exact closeBs_sound l h hK
  ·exact closeNT_sound h fun s h => closeBs_sound l h hK
theorem opnV_sound {v:V} (h:opnV v K s=some r) (hK:∀ s,K s=some r→gK K' (eS s)):gK K' (eS s):=by
 unfold opnV at h
 split at h
 ·exact opnR_sound h hK
 ·exact hK _ h
theorem prepX_sound {T:Nat→TI} {gz:List Nat} {o:Oper} (h:prepX T gz o K s=some r) (hK:∀ s,K s=some r→gK K' (eS s)):gK K' (eS s):=by
 unfold prepX at h
 split at h
 ·exact closeXL_sound _ h hK
 ·split at h
  ·exact opnV_sound h hK
  ·exact hK _ h
 ·split at h
  ·exact opnV_sound h hK
  ·split at h
   ·exact closeX_sound h fun s h=>frzX_sound h hK
   ·split at h
    ·exact closeX_sound h hK
    ·exact hK _ h
 ·split at h
  ·exact frzX_sound h hK
  ·exact hK _ h
 ·split at h
  ·exact frzX_sound h hK
  ·exact hK _ h
 ·split at h
  ·split at h
   ·split at h
    ·split at h
     ·exact frzArT_sound h hK
     ·exact hK _ h
    ·exact hK _ h
   ·exact hK _ h
  ·have hf:∀ {s},prepX.frzC gz o (by assumption) K s=some r→gK K' (eS s):=by
    intro s h
    unfold prepX.frzC at h
    split at h
    ·exact frzAggL_sound _ h hK
    ·exact hK _ h
   split at h
   ·exact closeBs_sound _ h fun s h=>hf h
   ·exact hf h
  ·exact hK _ h
 ·exact hK _ h
theorem takeS_sound {N:Nat} {p:SPat} {K:p.Den→Option R} (h:takeS N p K s=some r) (hK:∀ x,K x=some r→K' (eS (encS N p x))):gK K' (eS s):=by
 obtain ⟨h0,h1⟩:=chkO_some h
 refine prepO_sound _ h1 fun s1 h2=>prepA_sound _ h2 fun s2 h3=>?_
 obtain ⟨hn,h3⟩:=chkO_some h3
 obtain ⟨x,h4,h5⟩:=decS_sound h0 h3
 have hn:=eq_of_beq hn
 rw [hn] at h5
 exact h5 _ (hK x h4)
end
end Go.TM
end
