/- Part 20 of the proof that the law FnRefs holds of every input; no condition. -/
import Derived.Test.YtdpapeledldifaaGreatX18
set_option autoImplicit true
set_option relaxedAutoImplicit true
set_option linter.all false
section
namespace Go.TM
open Go.AM
section
variable {R:Type}
abbrev zFm:=(R:Type)→zPT R
def zOu (ops:Array Oper)(o:Oper)(s:TS)(yes no:TS→Option R):Option R:=match o.guard with
 |none=>yes s
 | some (j,w)=>match(ops[j]?).bind (·.dst)with
   | some d=>match zBn s d with
     |.sk=>no s
     | .b x=>(match w with
       |true=>cndO x (yes (setT s d (.b true))) (no (setT s d (.b false)))
       |false=>cndO x (no (setT s d (.b true))) (yes (setT s d (.b false))))
     |_=>none
   |none=>none
noncomputable def tmake (T:Nat→TI)(C:zPT R)(o:Oper)(K:TS→Option R)(s:TS):Option R:=match o.op with
 | .makeSlice t l c=>(match(T t).kind with
   | .slice e=>(match gt T 8 e with
     | some g=>(match g.flat with
       |true=>tstep T C o s K
       | false=>(match evT s l,evT s c with
         |.i .i64 n,.i .i64 m=>chkO ((T e).known&&tstep.eqSVs (zCM T (flat T 4 e) (T e).zero) (encC true g g.dflt)&&g.sz==(T e).size) (grdO (decide (n=m)&&decide (0≤n)&&decide (n≤9223372036854775807)&&decide (n*(T e).bytes≤140737488355328)) (K (zAc s o.dst (.own g true (List.replicate n.toNat g.dflt)))))
         |_,_=>none))
     |none=>none)
   |_=>none)
 |_=>tstep T C o s K
noncomputable def zTg (T:Nat→TI)(C:zPT R)(gz:List Nat)(o:Oper)(K:TS→Option R)(s:TS):Option R:=zUn T gz o (tmake T C o K) s
noncomputable def zSt (T:Nat→TI)(C:zFm)(gz:List Nat)(ops:Array Oper):List Oper→(TS→Option R)→TS→Option R
 |[],K,s=>K s
 |o::rest,K,s=>zOu ops o s (zTg T (C R) gz o (zSt T C gz ops rest K)) (kSkT o.dst (zSt T C gz ops rest K))
noncomputable def zKa (T:Nat→TI)(C:zFm)(gz:List Nat)(ops:Array Oper)(o:Oper)(K:TS→Option R)(s:TS):Option R:=zOu ops o s (zTg T (C R) gz o K) (kSkT o.dst K)
noncomputable def flT (T:Nat→TI)(C:zFm)(gz:List Nat)(ops:Array Oper):List Nat→(TS→Option R)→TS→Option R
 |[],K,s=>K s
 | i::l,K,s=>match ops[i]? with
   |some o=>zKa T C gz ops o (flT T C gz ops l K) s
   |none=>none
def zOc (row:List V):Nat→Nat→Bool
 |0,_=>true
 |n+1,j=>!zAz (lkV row j)&&zOc row n (j+1)
def zQB (T:Nat→TI)(o:Oper)(s:TS):Bool:=match o.op with
 |.move x=>!zAz (evT s x)
 |.pick _ a b=>!zAz (evT s a)&&!zAz (evT s b)
 |.nilCheck _|.unOp .. | .binOp .. | .fieldAddr .. | .field .. | .index .. | .makeFunc .. | .convert .. => true
 |.build _ ps=>!zDE (evTL s (opnds ps))
 | .load t a=>match evT s a with
   |.ro _=>true
   | .p o i off=>match getT s.ob o with
     | some (.box _ cs)=>(match i with
       |0=>zOc cs (T t).size off
       |_+1=>false)
     |some (.arr _ _ _ _)=>!zMn (T t).kind
     |some (.opn _ _ _ _ _ cs)=>zOc cs (T t).size off
     |_=>false
   |_=>false
 | .slice _ x _ _ _=>match evT s x with
   |.s _|.sl _ _|.nil=>true
   |_=>false
 | .indexAddr _ x _=>match evT s x with
   |.sl _ _|.ar _=>true
   |_=>false
 | .extract x j=>match x with
   | .tmp t=>match zBn s t with
     |.tup vs=>!zAz (lkV vs j)
     |_=>false
   |_=>false
 | .call c=>match c.callee with
   |.builtin .len=>true
   |_=>false
 |_=>false
def eqSlotT (d:Option Tmp)(s s':TS):Bool:=match d with
 |some t=>eqVb (zBn s' t) (zBn s t)
 |none=>true
def zUe (o:Oper)(s:TS)(K:Option Unit):Option Unit:=match o.op with
 | .load _ a=>match evT s a with
   | .p ob i _=>match getT s.ob ob with
     |some (.opn _ _ _ l j _)=>grdO (decide (i=j)&&decide (j<l.length)) K
     |_=>K
   |_=>K
 |_=>K
def zUd (o:Oper)(s:TS):Prop:=∀t a ob i off n g d l j cs,o.op = .load t a→evT s a = .p ob i off→getT s.ob ob=some (.opn n g d l j cs)→i=j∧j<l.length
theorem zQG {o:Oper}{s:TS}{K:Option Unit}(h:zUe o s K=some ()):K=some ()∧zUd o s:=by
 unfold zUe at h
 split at h
 ·rename_i t a ho
  split at h
  ·rename_i ob i off hv
   split at h
   ·rename_i n g d l j cs hg
    obtain⟨h1,h2⟩:=zAM h
    simp only[zBa,zDe]at h1
    refine⟨h2,fun t' a' ob' i' off' n' g' d' l' j' cs' ho' hv' hg'=>?_⟩
    rw[ho]at ho'
    cases ho'
    rw[hv]at hv'
    cases hv'
    rw[hg]at hg'
    cases hg'
    exact h1
   ·rename_i hne
    refine⟨h,fun t' a' ob' i' off' n' g' d' l' j' cs' ho' hv' hg'=>?_⟩
    rw[ho]at ho'
    cases ho'
    rw[hv]at hv'
    cases hv'
    exact absurd hg' (hne _ _ _ _ _ _)
  ·rename_i hne
   refine⟨h,fun t' a' ob' i' off' n' g' d' l' j' cs' ho' hv' hg'=>?_⟩
   rw[ho]at ho'
   cases ho'
   exact absurd hv' (hne _ _ _)
 ·rename_i hne
  exact⟨h,fun t' a' ob' i' off' n' g' d' l' j' cs' ho' hv' hg'=>absurd ho' (hne _ _)⟩
noncomputable def reT (T:Nat→TI)(C:zFm)(o:Oper)(s:TS):Option Unit:=chkO (zQB T o s) (zUe o s (tstep T (C Unit) o s fun s'=>grdO (eqSlotT o.dst s s') (some ())))
def skT (d:Option Tmp)(s:TS):Option Unit:=match d with
 |some t=>(match zBn s t with|.sk=>some ()|_=>none)
 |none=>some ()
noncomputable def rcT (T:Nat→TI)(C:zFm)(ops:Array Oper):List Nat→TS→Option Unit
 |[],_=>some ()
 | i::l,s=>match ops[i]? with
   |some o=>seqU (zOu ops o s (reT T C o) (skT o.dst)) (rcT T C ops l s)
   |none=>none
noncomputable def zQL (T:Nat→TI)(C:zFm)(gz:List Nat)(ops:Array Oper)(K:TS→Option R):Plan→TS→Option R
 |.fin,s=>K s
 | .br e _ rc fs sub alt,s=>match alt with
   | .fin=>(match ops[e]? with
     |some o=>zKa T C gz ops o (fun s1=>seqU (rcT T C ops rc s1) (flT T C gz ops fs (zQL T C gz ops K sub) s1)) s
     |none=>none)
   | alt=>zBV (match ops[e]? with
     |some o=>zKa T C gz ops o (fun s1=>seqU (rcT T C ops rc s1) (flT T C gz ops fs (zQL T C gz ops K sub) s1)) s
     |none=>none) (zQL T C gz ops K alt s)
def setBT (s:TS)(c:Operand)(b:Bool):TS:=match c with
 |.tmp t=>setT s t (.b b)
 |_=>s
end
def thenT {R:Type}(next:TS→Option R)(Q:AX→TS→Option R):AX→TS→Option R
 |.normal,s=>next s
 |.exit id,s=>Q (.exit id) s
 |.ret,s=>Q .ret s
def blockT {R:Type}(id:Nat)(Q:AX→TS→Option R):AX→TS→Option R
 |.normal,s=>Q .normal s
 |.exit id',s=>bif id'==id then Q .normal s else Q (.exit id') s
 |.ret,s=>Q .ret s
def thenJ {Y R:Type}(next:TS→Option (Y⊕R))(Q:AX→TS→Option R):AX→TS→Option (Y⊕R)
 |.normal,s=>next s
 |.exit id,s=>mapR (Q (.exit id) s)
 |.ret,s=>mapR (Q .ret s)
def zWB {Y R:Type}(id:Nat)(next:TS→Option (Y⊕R))(Q:AX→TS→Option R):AX→TS→Option (Y⊕R)
 |.normal,s=>next s
 |.exit id',s=>bif id'==id then next s else mapR (Q (.exit id') s)
 |.ret,s=>mapR (Q .ret s)
noncomputable def tev (T:Nat→TI)(C:zFm)(pl:Nat→List Nat×Plan)(N:Nat)(iv:Nat→Option SPat):Code→(R:Type)→(AX→TS→Option R)→TS→Option R
 |.skip,_,Q,s=>Q .normal s
 | .region id ops draw,_,Q,s=>match draw with
   |false=>zSt T C (pl (3000000+id)).1 ops ops.toList (Q .normal) s
   |true=>flT T C (pl (3000000+id)).1 ops (pl id).1 (zQL T C (pl (3000000+id)).1 ops (Q .normal) (pl id).2) s
 | .seq x y,R,Q,s=>match iv (1000000+cid y)with
   |some p=>bindE (tev T C pl N iv x (p.Den⊕R) (thenJ (zID N p fun z=>some (.inl z)) Q) s) fun z=>tev T C pl N iv y R Q (encS N p z)
   |none=>tev T C pl N iv x R (thenT (tev T C pl N iv y R Q) Q) s
 | .cond c x y,R,Q,s=>match evT s c with
   |.b t=>cndO t (tev T C pl N iv x R Q (setBT s c true)) (tev T C pl N iv y R Q (setBT s c false))
   |_=>none
 | .block id c,R,Q,s=>match iv (2000000+id)with
   |some p=>bindE (tev T C pl N iv c (p.Den⊕R) (zWB id (zID N p fun z=>some (.inl z)) Q) s) fun z=>Q .normal (encS N p z)
   |none=>tev T C pl N iv c R (blockT id Q) s
 | .loop c,R,Q,s=>match iv (cid c)with
   |some p=>zID N p (fun x0=>zAG (fun x=>tev T C pl N iv c (p.Den⊕R) (thenJ (zID N p fun z=>some (.inl z)) Q) (encS N p x)) x0) s
   |none=>none
 |.exit id,_,Q,s=>Q (.exit id) s
 |.ret,_,Q,s=>Q .ret s
 |_,_,_,_=>none
def zEB (C:zFm)(C':zAt):Prop:=∀(R:Type) f xs d s (K:TS→Option R) (K':St→Prop) (r:R),(∀s,K s=some r→K' (eS s))→C R f xs d s K=some r→C' f xs d (eS s) K'
section
variable {P:Program}{R:Type}{T:Nat→TI}{C:zFm}{gz:List Nat}{C':zAt}{o:Oper}{ops:Array Oper}{s:TS}{K:TS→Option R}{K':St→Prop}{r:R}
theorem zFL {yes no:TS→Option R}{yes' no':St→Prop}(hy:∀ s,yes s=some r→yes' (eS s))(hn:∀ s,no s=some r→no' (eS s))(h:zOu ops o s yes no=some r):zEG ops o (eS s) yes' no':=by
 unfold zOu at h
 unfold zEG
 split at h
 ·rename_i hg;rw[hg];exact hy _ h
 ·rename_i j w hg
  rw[hg]
  simp only
  split at h
  ·rename_i d hd
   rw[hd]
   simp only
   rw[zCe]
   split at h
   ·rename_i hv;rw[hv];exact hn _ h
   ·rename_i x hv
    rw[hv]
    simp only[e]
    have hs:∀b:Bool,setE (eS s) d (SV.b b)=eS (setT s d (.b b)):=fun b=>zCk d (.b b)
    split at h
    ·rcases zJj h with⟨hx,h⟩|⟨hx,h⟩
     ·subst hx;rw[hs];exact hy _ h
     ·subst hx;rw[hs,hs];exact hn _ h
    ·rcases zJj h with⟨hx,h⟩|⟨hx,h⟩
     ·subst hx;rw[hs,hs];exact hn _ h
     ·subst hx;rw[hs];exact hy _ h
   ·cases h
  ·cases h
theorem zDi (ks:List TK)(row:List SV):∀n:Nat,zDj T ks (List.replicate n row)=List.replicate n (zCM T ks row)
 |0=>rfl
 |n+1=>by simp only[List.replicate_succ,zDj,zDi ks row n]
theorem zPr (hC:zEB C C')(hK:∀ s,K s=some r→K' (eS s))(h:tmake T (C R) o K s=some r):zAh T C' o (eS s) (gK K'):=by
 have plain:tstep T (C R) o s K=some r→zAh T C' o (eS s) (gK K'):=fun h=>zId (hC R) (fun _ h=>zCq (hK _ h)) h
 unfold tmake at h
 split at h
 ·rename_i t x y ho
  split at h
  ·rename_i t' hk
   split at h
   ·rename_i g hg
    split at h
    ·exact plain h
    ·split at h
     ·rename_i n m hx hy
      obtain⟨h1,h2⟩:=zAD h
      obtain⟨h3,h4⟩:=zAM h2
      simp only[zBa,zDe]at h1 h3
      simp only[zAh,zAK,ho]
      rw[zAp,zAp,hk,hx,hy]
      simp only[e]
      refine⟨h1.1.1,h3.1.1.1,h3.1.1.2,h3.1.2,h3.2,?_⟩
      refine zUZ (y:=.own (T t').size (zDj T (AM.flat T 4 t') (List.replicate n.toNat (T t').zero))) (fun w G v f hr=>AM.R.own_wk (zGA _ _) hr) ?_
      have:=zAR (s:=s) o.dst (.own g true (List.replicate n.toNat g.dflt))
      simp only[e,List.map_replicate]at this
      rw[zDi,zMx _ _ h1.1.2,←eq_of_beq h1.2]
      rw[this]
      exact hK _ h4
     ·cases h
   ·cases h
  ·cases h
 ·exact plain h
theorem zHd (hC:zEB C C')(hK:∀ s,K s=some r→K' (eS s))(h:zTg T (C R) gz o K s=some r):AX.stepX T C' o K' (eS s) :=
 zQI h fun _ h=>zCq (zPr hC hK h)
theorem zFu (hC:zEB C C'):∀(l:List Oper) {s:TS},(∀s,K s=some r→K' (eS s))→zSt T C gz ops l K s=some r→AX.opsX T C' ops l K' (eS s)
 |[],s,hK,h=>hK _ h
 | o::l,s,hK,h=>by
   unfold zSt at h
   unfold AX.opsX
   refine zFL (fun s h=>?_) (fun s h=>?_) h
   ·exact zHd hC (fun s h=>zFu hC l hK h) h
   ·exact zVV (K:=zSt T C gz ops l K) (fun s h=>zFu hC l hK h) s h
theorem zHr (hC:zEB C C')(hK:∀ s,K s=some r→K' (eS s))(h:zKa T C gz ops o K s=some r):AX.gstep T C' ops o K' (eS s):=by
 unfold zKa at h
 unfold AX.gstep
 refine zFL (fun s h=>?_) (fun s h=>?_) h
 ·exact zHd hC hK h
 ·exact zVV hK s h
theorem zJb (hC:zEB C C'):∀(l:List Nat) {s:TS},(∀s,K s=some r→K' (eS s))→flT T C gz ops l K s=some r→AX.flK T C' ops l K' (eS s)
 |[],s,hK,h=>hK _ h
 | i::l,s,hK,h=>by
   unfold flT at h
   unfold AX.flK
   split at h
   ·rename_i o ho
    rw[ho]
    exact zHr hC (fun s h=>zJb hC l hK h) h
   ·cases h
mutual
theorem zSX:∀x:SV,eqV x x
 |.i k n=>zAQ (decide_eq_true rfl) rfl
 |.b _=>rfl
 |.s _=>rfl
 |.sl k _=>zAQ (beq_self_eq_true k) rfl
 |.ar a=>zAQ (beq_self_eq_true a) trivial
 |.p a b c=>zAQ (by simp) trivial
 |.ro c=>zJe c
 |.agg c=>zJe c
 |.u|.sk|.own _ _|.nilp|.nil|.fn _ _|.tup _=>rfl
theorem zJe:∀x:List SV,eqVL x x
 |[]=>trivial
 |x::l=>⟨zSX x,zJe l⟩
end
theorem zMf:∀(row:List V) (n j:Nat),zFH (eL row) n j=zOc row n j
 |row,0,j=>rfl
 |row,n+1,j=>by simp only[zFH,zOc,←zGs,zBK,zMf row n (j+1)]
theorem zOL (h:zQB T o s=true)(hr:zUd o s):zGX T o (eS s)=true:=by
 unfold zQB at h
 unfold zGX
 cases ho:o.op<;>rw[ho]at h<;>simp only at h ⊢<;>try (cases h;done)
 case move x=>rw[zAp,zBK];exact h
 case pick c x y=>rw[zAp,zAp,zBK,zBK];exact h
 case build t ps=>rw[zVu,zDT];exact h
 case load t a =>
  rw[zAp]
  split at h
  ·rename_i hv;rw[hv];rfl
  ·rename_i ob i off hv
   rw[hv]
   simp only[e]
   split at h
   ·rename_i n cs hg
    rw[zBN hg]
    simp only
    cases i with
    |zero=>simp only[List.getElem?_cons_zero];rw[zMf];exact h
    |succ i=>cases h
   ·rename_i n g d l hg
    rw[zBO hg]
    simp only
    cases hk:(T t).kind<;>first|rfl|(rw[hk]at h;cases h)
   ·rename_i n g d l j cs hg
    obtain⟨h1,h2⟩:=hr _ _ _ _ _ _ _ _ _ _ _ ho hv hg
    subst h1
    rw[zBF hg]
    simp only[zDv h2,zMf]
    exact h
   ·cases h
  ·cases h
 case slice t x lo hi mx =>
  rw[zAp]
  split at h
  ·rename_i hv;rw[hv];rfl
  ·rename_i hv;rw[hv];rfl
  ·rename_i hv;rw[hv];rfl
  ·cases h
 case indexAddr t x i =>
  rw[zAp]
  split at h
  ·rename_i hv;rw[hv];rfl
  ·rename_i hv;rw[hv];rfl
  ·cases h
 case extract x j =>
  split at h
  ·simp only
   rw[zCe]
   split at h
   ·rename_i hv;rw[hv];simp only[e];rw[←zGs,zBK];exact h
   ·cases h
  ·cases h
 case call c =>
  split at h
  ·rename_i hc;rw[hc]
  ·cases h
theorem zUj (hC:zEB C C')(h:reT T C o s=some ()):reKF T C' o (eS s):=by
 obtain⟨h1,h2⟩:=zAD h
 obtain⟨h2,hr⟩:=zQG h2
 unfold reKF reK
 refine zAQ (zOL h1 hr) (zId (hC Unit) (fun s' h3=>?_) h2)
 obtain⟨h4,_⟩:=zAM h3
 cases hd:o.dst with
 | some t =>
   rw[hd]at h4
   show eqV (lkp (eS s').env t) (lkp (eS s).env t)
   rw[zCe,zCe,eqVb_e _ _ h4]
   exact zSX _
 |none=>trivial
theorem zUY {d:Option Tmp}(h:skT d s=some ()):skOk d (eS s):=by
 unfold skT at h
 unfold skOk
 split at h
 ·simp only
  rw[zCe]
  split at h
  ·rename_i hv;rw[hv];trivial
  ·cases h
 ·trivial
theorem zOU (hC:zEB C C'):∀(l:List Nat) {s:TS},rcT T C ops l s=some ()→AX.rcK T C' ops l (eS s)
 |[],s,h=>trivial
 | i::l,s,h=>by
   unfold rcT at h
   unfold AX.rcK
   split at h
   ·rename_i o ho
    rw[ho]
    obtain⟨h1,h2⟩:=zOO h
    exact⟨zFL (fun s h=>zUj hC h) (fun s h=>zUY h) h1,zOU hC l h2⟩
   ·cases h
theorem zFz (hC:zEB C C')(hK:∀ s,K s=some r→K' (eS s)):∀(p:Plan) {s:TS},zQL T C gz ops K p s=some r→AX.planK T C' ops K' p (eS s)
 |.fin,s,h=>hK _ h
 | .br e pr rc fs sub alt,s,h=>by
   have step:∀{s:TS},(match ops[e]? with
     |some o=>zKa T C gz ops o (fun s1=>seqU (rcT T C ops rc s1) (flT T C gz ops fs (zQL T C gz ops K sub) s1)) s
     |none=>none)=some r→(match ops[e]? with
     |some o=>AX.gstep T C' ops o (AX.rfK T C' ops rc fs (AX.planK T C' ops K' sub)) (eS s)
     |none=>False):=by
    intro s h
    split at h
    ·rename_i o ho
     refine zHr hC (fun s h=>?_) h
     obtain⟨h1,h2⟩:=zOO h
     exact⟨zOU hC rc h1,zJb hC fs (fun s h=>zFz hC hK sub h) h2⟩
    ·cases h
   unfold zQL at h
   unfold AX.planK
   split at h
   ·exact⟨step h,trivial⟩
   ·rename_i hn
    obtain⟨h1,h2⟩:=zKg h
    refine⟨step h1,?_⟩
    split
    ·trivial
    ·exact zFz hC hK alt h2
theorem zUa (s:TS)(c:Operand)(b:Bool):setB (eS s) c b=eS (setBT s c b):=by
 cases c with
 |tmp t=>exact zCk t (.b b)
 |_=>rfl
def midQ (id:Nat)(G:St→Prop)(Q':AQ):AQ
 |.normal,st=>G st
 |.exit id',st=>if id'=id then G st else Q' (.exit id') st
 |.ret,st=>Q' .ret st
theorem zBr {pl:Nat→List Nat×Plan}{N:Nat}{iv:Nat→Option SPat}(hT:LayOk P T)(hC':zFp P C')(hm:P.follows .mixedOrders=true)(hC:zEB C C') :
  ∀(c:Code) (R:Type) (Q:AX→TS→Option R) (Q':AQ) (s:TS) (r:R),zBm T pl c=true→(∀x s,Q x s=some r→Q' x (eS s))→tev T C pl N iv c R Q s=some r→sp P c Q' (eS s)
 |.skip,R,Q,Q',s,r,_,hQ,h=>sp_skip (hQ _ _ h)
 |.region id ops false,R,Q,Q',s,r,_,hQ,h=>AX.sp_regionX hT hC' (zFu hC _ (hQ .normal) h)
 |.region id ops true,R,Q,Q',s,r,hp,hQ,h=>AX.sp_draw hT hC' hm hp (zJb hC _ (fun s h=>zFz hC (hQ .normal) _ h) h)
 | .seq x y,R,Q,Q',s,r,hp,hQ,h=>by
   simp only[zBm,zBa]at hp
   unfold tev at h
   split at h
   ·rename_i p hi
    have hx:∀z,tev T C pl N iv x (p.Den⊕R) (thenJ (zID N p fun z=>some (.inl z)) Q) s=some z→(∀z',z = .inl z'→tev T C pl N iv y R Q (encS N p z')=some r)→(∀r',z = .inr r'→r'=r) →
      sp P x (zMI (fun st=>gK (fun st=>∃z',st=eS (encS N p z')∧tev T C pl N iv y R Q (encS N p z')=some r) st) Q') (eS s):=by
     intro z hz h1 h2
     refine zBr hT hC' hm hC x _ _ _ s z hp.1 (fun e s' hq=>?_) hz
     cases e with
     | normal =>
       refine zDO hq fun z' hz'=>?_
       simp only[zSe]at hz'
       exact⟨z',rfl,h1 z' hz'.symm⟩
     | exit id =>
       obtain⟨r',hr,hq'⟩:=zEF hq
       rw[h2 r' hr]at hq'
       exact hQ _ _ hq'
     | ret =>
       obtain⟨r',hr,hq'⟩:=zEF hq
       rw[h2 r' hr]at hq'
       exact hQ _ _ hq'
    have hx':sp P x (zMI (fun st=>gK (fun st=>∃z',st=eS (encS N p z')∧tev T C pl N iv y R Q (encS N p z')=some r) st) Q') (eS s):=by
     rcases zKi h with⟨z,h1,h2⟩|h1
     ·exact hx _ h1 (fun z' hz=>by cases hz;exact h2) (fun r' hr=>by cases hr)
     ·exact hx _ h1 (fun z' hz=>by cases hz) (fun r' hr=>by cases hr;rfl)
    refine sp_seq (zPy hx' fun e st hq=>?_)
    cases e with
    | normal =>
      refine sp_ghost (zFN hq ?_)
      rintro st ⟨z',rfl,h3⟩
      exact zBr hT hC' hm hC y _ _ _ _ _ hp.2 hQ h3
    |_=>exact hq
   ·refine sp_seq (zBr hT hC' hm hC x _ _ _ _ _ hp.1 (fun e s' hq=>?_) h)
    cases e with
    |normal=>exact zBr hT hC' hm hC y _ _ _ _ _ hp.2 hQ hq
    |exit id=>exact hQ _ _ hq
    |ret=>exact hQ _ _ hq
 | .cond c x y,R,Q,Q',s,r,hp,hQ,h=>by
   simp only[zBm,zBa]at hp
   unfold tev at h
   split at h
   ·rename_i t hv
    have hc:AM.ev (eS s).env c = .b t:=by rw[zAp,hv];rfl
    refine sp_cond hc (fun ht=>?_) (fun ht=>?_)
    ·subst ht
     have:=zBr hT hC' hm hC x _ _ _ _ _ hp.1 hQ h
     rw[←zUa,zON hc]at this
     exact this
    ·subst ht
     have:=zBr hT hC' hm hC y _ _ _ _ _ hp.2 hQ h
     rw[←zUa,zON hc]at this
     exact this
   ·cases h
 | .block id c,R,Q,Q',s,r,hp,hQ,h=>by
   have hp:zBm T pl c=true:=hp
   unfold tev at h
   split at h
   ·rename_i p hi
    have hx:∀z,tev T C pl N iv c (p.Den⊕R) (zWB id (zID N p fun z=>some (.inl z)) Q) s=some z→(∀z',z = .inl z'→Q .normal (encS N p z')=some r)→(∀r',z = .inr r'→r'=r) →
      sp P c (midQ id (gK fun st=>∃z',st=eS (encS N p z')∧Q .normal (encS N p z')=some r) Q') (eS s):=by
     intro z hz h1 h2
     refine zBr hT hC' hm hC c _ _ _ s z hp (fun e s' hq=>?_) hz
     have hn:∀{s'},zID N p (fun z=>some (Sum.inl z)) s'=some z→gK (fun st=>∃z',st=eS (encS N p z')∧Q .normal (encS N p z')=some r) (eS s'):=by
      intro s' hq
      refine zDO hq fun z' hz'=>?_
      simp only[zSe]at hz'
      exact⟨z',rfl,h1 z' hz'.symm⟩
     cases e with
     |normal=>exact hn hq
     | exit id' =>
       simp only[zWB]at hq
       cases hid:id'==id with
       | true =>
         rw[hid,cond_true]at hq
         simp only[midQ,eq_of_beq hid,if_true]
         exact hn hq
       | false =>
         rw[hid,cond_false]at hq
         obtain⟨r',hr,hq'⟩:=zEF hq
         rw[h2 r' hr]at hq'
         have:¬id'=id:=by simpa using hid
         simp only[midQ,this,if_false]
         exact hQ _ _ hq'
     | ret =>
       obtain⟨r',hr,hq'⟩:=zEF hq
       rw[h2 r' hr]at hq'
       exact hQ _ _ hq'
    have hx':sp P c (midQ id (gK fun st=>∃z',st=eS (encS N p z')∧Q .normal (encS N p z')=some r) Q') (eS s):=by
     rcases zKi h with⟨z,h1,h2⟩|h1
     ·exact hx _ h1 (fun z' hz=>by cases hz;exact h2) (fun r' hr=>by cases hr)
     ·exact hx _ h1 (fun z' hz=>by cases hz) (fun r' hr=>by cases hr;rfl)
    have hg:∀{st},gK (fun st=>∃z',st=eS (encS N p z')∧Q .normal (encS N p z')=some r) st→gK (Q' .normal) st:=fun hq=>zFN hq fun st ⟨z',h1,h2⟩=>by rw[h1];exact hQ _ _ h2
    have hx2:sp P c (zJo id fun e st=>match e with|.normal=>gK (Q' .normal) st|e=>Q' e st) (eS s):=by
     refine zPy hx' fun e st hq=>?_
     cases e with
     |normal=>exact hg hq
     | exit id' =>
       simp only[midQ,zJo]at hq ⊢
       by_cases hid:id'=id
       ·rw[if_pos hid]at hq ⊢;exact hg hq
       ·rw[if_neg hid]at hq ⊢;exact hq
     |ret=>exact hq
    intro w0 w L a G hs
    refine wp_mono (zRm hx2 w0 w L a G hs) fun e a' w' hq=>?_
    cases e with
    |normal=>exact Nx.gK hq
    |_=>exact hq
   ·refine zRm (zBr hT hC' hm hC c _ _ _ _ _ hp (fun e s' hq=>?_) h)
    cases e with
    |normal=>exact hQ _ _ hq
    | exit id' =>
      simp only[blockT]at hq
      simp only[zJo]
      cases hid:id'==id with
      |true=>rw[hid,cond_true]at hq;rw[if_pos (eq_of_beq hid)];exact hQ _ _ hq
      |false=>rw[hid,cond_false]at hq;rw[if_neg (by simpa using hid)];exact hQ _ _ hq
    |ret=>exact hQ _ _ hq
 | .loop c,R,Q,Q',s,r,hp,hQ,h=>by
   have hp:zBm T pl c=true:=hp
   unfold tev at h
   split at h
   ·rename_i p hi
    let f:p.Den→Option (p.Den⊕R):=fun x=>tev T C pl N iv c (p.Den⊕R) (thenJ (zID N p fun z=>some (.inl z)) Q) (encS N p x)
    let J:Nat→St→Prop:=fun n st=>∃x,st=eS (encS N p x)∧zCi f n x=some r
    refine sp_loopN J (zDO h fun x hx=>?_) ?_
    ·obtain⟨n,hn⟩:=zEP hx
     exact⟨n,x,rfl,hn⟩
    ·rintro n st ⟨x,rfl,hn⟩
     cases n with
     |zero=>cases hn
     | succ n =>
       simp only[zCi]at hn
       have hb:∀z,f x=some z→(∀z',z = .inl z'→zCi f n z'=some r)→(∀r',z = .inr r'→r'=r) →
         sp P c (zMI (gK fun s'=>∃n',n'<n+1∧J n' s') Q') (eS (encS N p x)):=by
        intro z hz h1 h2
        refine zBr hT hC' hm hC c _ _ _ _ z hp (fun e s' hq=>?_) hz
        cases e with
        | normal =>
          refine zDO hq fun z' hz'=>?_
          simp only[zSe]at hz'
          exact⟨n,Nat.lt_succ_self n,z',rfl,h1 z' hz'.symm⟩
        | exit id =>
          obtain⟨r',hr,hq'⟩:=zEF hq
          rw[h2 r' hr]at hq'
          exact hQ _ _ hq'
        | ret =>
          obtain⟨r',hr,hq'⟩:=zEF hq
          rw[h2 r' hr]at hq'
          exact hQ _ _ hq'
       split at hn
       ·rename_i x' hx'
        exact hb _ hx' (fun z' hz=>by cases hz;exact hn) (fun r' hr=>by cases hr)
       ·rename_i y hy
        simp only[zSe]at hn
        exact hb _ hy (fun z' hz=>by cases hz) (fun r' hr=>by cases hr;exact hn)
       ·cases hn
   ·cases h
 |.exit id,R,Q,Q',s,r,_,hQ,h=>sp_exit (hQ _ _ h)
 |.ret,R,Q,Q',s,r,_,hQ,h=>sp_ret (hQ _ _ h)
 |.rangeFunc ..,_,_,_,_,_,_,_,h=>by simp only[tev]at h;cases h
 |.scope _,_,_,_,_,_,_,_,h=>by simp only[tev]at h;cases h
 |.label _,_,_,_,_,_,_,_,h=>by simp only[tev]at h;cases h
 |.goto _,_,_,_,_,_,_,_,h=>by simp only[tev]at h;cases h
 |.refuse _,_,_,_,_,_,_,_,h=>by simp only[tev]at h;cases h
end
end Go.TM
end
