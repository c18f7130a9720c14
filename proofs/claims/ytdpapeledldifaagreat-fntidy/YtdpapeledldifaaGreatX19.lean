/- Part 20 of the proof of FnTidy; no condition. -/
import Derived.Test.YtdpapeledldifaaGreatX18
set_option autoImplicit true
set_option relaxedAutoImplicit true
set_option linter.all false
section
namespace Go.TM
open Go.AM
section
variable {R:Type}
abbrev zGM:=(R:Type)→zQl R
def zQL (ops:Array Oper)(o:Oper)(s:TS)(yes no:TS→Option R):Option R:=match o.guard with
 |none=>yes s
 | some (j,w)=>match(ops[j]?).bind (·.dst)with
   | some d=>match zBx s d with
     |.sk=>no s
     | .b x=>(match w with
       |true=>cndO x (yes (setT s d (.b true))) (no (setT s d (.b false)))
       |false=>cndO x (no (setT s d (.b true))) (yes (setT s d (.b false))))
     |_=>none
   |none=>none
noncomputable def tmake (T:Nat→TI)(C:zQl R)(o:Oper)(K:TS→Option R)(s:TS):Option R:=match o.op with
 | .makeSlice t l c=>(match(T t).kind with
   | .slice e=>(match gt T 8 e with
     | some g=>(match g.flat with
       |true=>tstep T C o s K
       | false=>(match evT s l,evT s c with
         |.i .i64 n,.i .i64 m=>chkO ((T e).known&&tstep.eqSVs (zCX T (flat T 4 e) (T e).zero) (encC true g g.dflt)&&g.sz==(T e).size) (grdO (decide (n=m)&&decide (0≤n)&&decide (n≤9223372036854775807)&&decide (n*(T e).bytes≤140737488355328)) (K (zAe s o.dst (.own g true (List.replicate n.toNat g.dflt)))))
         |_,_=>none))
     |none=>none)
   |_=>none)
 |_=>tstep T C o s K
noncomputable def zVH (T:Nat→TI)(C:zQl R)(gz:List Nat)(o:Oper)(K:TS→Option R)(s:TS):Option R:=zWb T gz o (tmake T C o K) s
noncomputable def zUS (T:Nat→TI)(C:zGM)(gz:List Nat)(ops:Array Oper):List Oper→(TS→Option R)→TS→Option R
 |[],K,s=>K s
 |o::rest,K,s=>zQL ops o s (zVH T (C R) gz o (zUS T C gz ops rest K)) (kSkT o.dst (zUS T C gz ops rest K))
noncomputable def zLQ (T:Nat→TI)(C:zGM)(gz:List Nat)(ops:Array Oper)(o:Oper)(K:TS→Option R)(s:TS):Option R:=zQL ops o s (zVH T (C R) gz o K) (kSkT o.dst K)
noncomputable def flT (T:Nat→TI)(C:zGM)(gz:List Nat)(ops:Array Oper):List Nat→(TS→Option R)→TS→Option R
 |[],K,s=>K s
 | i::l,K,s=>match ops[i]? with
   |some o=>zLQ T C gz ops o (flT T C gz ops l K) s
   |none=>none
def zPv (row:List V):Nat→Nat→Bool
 |0,_=>true
 |n+1,j=>!zBG (lkV row j)&&zPv row n (j+1)
def zRP (T:Nat→TI)(o:Oper)(s:TS):Bool:=match o.op with
 |.move x=>!zBG (evT s x)
 |.pick _ a b=>!zBG (evT s a)&&!zBG (evT s b)
 |.nilCheck _|.unOp .. | .binOp .. | .fieldAddr .. | .field .. | .index .. | .makeFunc .. | .convert .. => true
 |.build _ ps=>!zDO (evTL s (opnds ps))
 | .load t a=>match evT s a with
   |.ro _=>true
   | .p o i off=>match getT s.ob o with
     | some (.box _ cs)=>(match i with
       |0=>zPv cs (T t).size off
       |_+1=>false)
     |some (.arr _ _ _ _)=>!zOD (T t).kind
     |some (.opn _ _ _ _ _ cs)=>zPv cs (T t).size off
     |_=>false
   |_=>false
 | .slice _ x _ _ _=>match evT s x with
   |.s _|.sl _ _|.nil=>true
   |_=>false
 | .indexAddr _ x _=>match evT s x with
   |.sl _ _|.ar _=>true
   |_=>false
 | .extract x j=>match x with
   | .tmp t=>match zBx s t with
     |.tup vs=>!zBG (lkV vs j)
     |_=>false
   |_=>false
 | .call c=>match c.callee with
   |.builtin .len=>true
   |_=>false
 |_=>false
def eqSlotT (d:Option Tmp)(s s':TS):Bool:=match d with
 |some t=>eqVb (zBx s' t) (zBx s t)
 |none=>true
def zWS (o:Oper)(s:TS)(K:Option Unit):Option Unit:=match o.op with
 | .load _ a=>match evT s a with
   | .p ob i _=>match getT s.ob ob with
     |some (.opn _ _ _ l j _)=>grdO (decide (i=j)&&decide (j<l.length)) K
     |_=>K
   |_=>K
 |_=>K
def zWR (o:Oper)(s:TS):Prop:=∀t a ob i off n g d l j cs,o.op = .load t a→evT s a = .p ob i off→getT s.ob ob=some (.opn n g d l j cs)→i=j∧j<l.length
def zRV {o:Oper}{s:TS}{K:Option Unit}(h:zWS o s K=some ()):K=some ()∧zWR o s:=by
 unfold zWS at h;split at h
 ·rename_i t a ho;split at h
  ·rename_i ob i off hv;split at h
   ·rename_i n g d l j cs hg;obtain⟨h1,h2⟩:=zAP h;simp only[zBa,zDe]at h1;refine⟨h2,fun t' a' ob' i' off' n' g' d' l' j' cs' ho' hv' hg'=>?_⟩;rw[ho]at ho';cases ho';rw[hv]at hv';cases hv';rw[hg]at hg';cases hg';exact h1
   ·rename_i hne;refine⟨h,fun t' a' ob' i' off' n' g' d' l' j' cs' ho' hv' hg'=>?_⟩;rw[ho]at ho';cases ho';rw[hv]at hv';cases hv';exact absurd hg' (hne _ _ _ _ _ _)
  ·rename_i hne;refine⟨h,fun t' a' ob' i' off' n' g' d' l' j' cs' ho' hv' hg'=>?_⟩;rw[ho]at ho';cases ho';exact absurd hv' (hne _ _ _)
 ·rename_i hne;exact⟨h,fun t' a' ob' i' off' n' g' d' l' j' cs' ho' hv' hg'=>absurd ho' (hne _ _)⟩
noncomputable def reT (T:Nat→TI)(C:zGM)(o:Oper)(s:TS):Option Unit:=chkO (zRP T o s) (zWS o s (tstep T (C Unit) o s fun s'=>grdO (eqSlotT o.dst s s') (some ())))
def skT (d:Option Tmp)(s:TS):Option Unit:=match d with
 |some t=>(match zBx s t with|.sk=>some ()|_=>none)
 |none=>some ()
noncomputable def rcT (T:Nat→TI)(C:zGM)(ops:Array Oper):List Nat→TS→Option Unit
 |[],_=>some ()
 | i::l,s=>match ops[i]? with
   |some o=>seqU (zQL ops o s (reT T C o) (skT o.dst)) (rcT T C ops l s)
   |none=>none
noncomputable def zRb (T:Nat→TI)(C:zGM)(gz:List Nat)(ops:Array Oper)(K:TS→Option R):Plan→TS→Option R
 |.fin,s=>K s
 | .br e _ rc fs sub alt,s=>match alt with
   | .fin=>(match ops[e]? with
     |some o=>zLQ T C gz ops o (fun s1=>seqU (rcT T C ops rc s1) (flT T C gz ops fs (zRb T C gz ops K sub) s1)) s
     |none=>none)
   | alt=>zBK (match ops[e]? with
     |some o=>zLQ T C gz ops o (fun s1=>seqU (rcT T C ops rc s1) (flT T C gz ops fs (zRb T C gz ops K sub) s1)) s
     |none=>none) (zRb T C gz ops K alt s)
def setBT (s:TS)(c:Operand)(b:Bool):TS:=match c with
 |.tmp t=>setT s t (.b b)
 |_=>s
end
def thenT {R:Type}(next:TS→Option R)(Q:AX→TS→Option R):AX→TS→Option R
 |.normal,s=>next s
 |.exit id,s=>Q (.exit id) s
 |.ret,s=>Q .ret s
def blockT {R:Type}(id:Nat)(Q:AX→TS→Option R):AX→TS→Option R
 |.normal,s=>Q .normal s
 |.exit id',s=>bif id'==id then Q .normal s else Q (.exit id') s
 |.ret,s=>Q .ret s
def thenJ {Y R:Type}(next:TS→Option (Y⊕R))(Q:AX→TS→Option R):AX→TS→Option (Y⊕R)
 |.normal,s=>next s
 |.exit id,s=>mapR (Q (.exit id) s)
 |.ret,s=>mapR (Q .ret s)
def zXn {Y R:Type}(id:Nat)(next:TS→Option (Y⊕R))(Q:AX→TS→Option R):AX→TS→Option (Y⊕R)
 |.normal,s=>next s
 |.exit id',s=>bif id'==id then next s else mapR (Q (.exit id') s)
 |.ret,s=>mapR (Q .ret s)
noncomputable def tev (T:Nat→TI)(C:zGM)(pl:Nat→List Nat×Plan)(N:Nat)(iv:Nat→Option SPat):Code→(R:Type)→(AX→TS→Option R)→TS→Option R
 |.skip,_,Q,s=>Q .normal s
 | .region id ops draw,_,Q,s=>match draw with
   |false=>zUS T C (pl (3000000+id)).1 ops ops.toList (Q .normal) s
   |true=>flT T C (pl (3000000+id)).1 ops (pl id).1 (zRb T C (pl (3000000+id)).1 ops (Q .normal) (pl id).2) s
 | .seq x y,R,Q,s=>match iv (1000000+cid y)with
   |some p=>bindE (tev T C pl N iv x (p.Den⊕R) (thenJ (zId N p fun z=>some (.inl z)) Q) s) fun z=>tev T C pl N iv y R Q (encS N p z)
   |none=>tev T C pl N iv x R (thenT (tev T C pl N iv y R Q) Q) s
 | .cond c x y,R,Q,s=>match evT s c with
   |.b t=>cndO t (tev T C pl N iv x R Q (setBT s c true)) (tev T C pl N iv y R Q (setBT s c false))
   |_=>none
 | .block id c,R,Q,s=>match iv (2000000+id)with
   |some p=>bindE (tev T C pl N iv c (p.Den⊕R) (zXn id (zId N p fun z=>some (.inl z)) Q) s) fun z=>Q .normal (encS N p z)
   |none=>tev T C pl N iv c R (blockT id Q) s
 | .loop c,R,Q,s=>match iv (cid c)with
   |some p=>zId N p (fun x0=>zAE (fun x=>tev T C pl N iv c (p.Den⊕R) (thenJ (zId N p fun z=>some (.inl z)) Q) (encS N p x)) x0) s
   |none=>none
 |.exit id,_,Q,s=>Q (.exit id) s
 |.ret,_,Q,s=>Q .ret s
 |_,_,_,_=>none
def zES (C:zGM)(C':zAx):Prop:=∀(R:Type) f xs d s (K:TS→Option R) (K':St→Prop) (r:R),(∀s,K s=some r→K' (eS s))→C R f xs d s K=some r→C' f xs d (eS s) K'
section
variable {P:Program}{R:Type}{T:Nat→TI}{C:zGM}{gz:List Nat}{C':zAx}{o:Oper}{ops:Array Oper}{s:TS}{K:TS→Option R}{K':St→Prop}{r:R}
def zFh {yes no:TS→Option R}{yes' no':St→Prop}(hy:∀ s,yes s=some r→yes' (eS s))(hn:∀ s,no s=some r→no' (eS s))(h:zQL ops o s yes no=some r):zEa ops o (eS s) yes' no':=by
 unfold zQL at h;unfold zEa;split at h
 ·rename_i hg;rw[hg];exact hy _ h
 ·rename_i j w hg;rw[hg];simp only
  split at h
  ·rename_i d hd;rw[hd];simp only
   rw[zCp];split at h
   ·rename_i hv;rw[hv];exact hn _ h
   ·rename_i x hv;rw[hv];simp only[e]
    have hs:∀b:Bool,setE (eS s) d (SV.b b)=eS (setT s d (.b b)):=fun b=>zCv d (.b b)
    split at h
    ·rcases zKU h with⟨hx,h⟩|⟨hx,h⟩
     ·subst hx;rw[hs];exact hy _ h
     ·subst hx;rw[hs,hs];exact hn _ h
    ·rcases zKU h with⟨hx,h⟩|⟨hx,h⟩
     ·subst hx;rw[hs,hs];exact hn _ h
     ·subst hx;rw[hs];exact hy _ h
   ·cases h
  ·cases h
def zDy (ks:List TK)(row:List SV):∀n:Nat,zDz T ks (List.replicate n row)=List.replicate n (zCX T ks row)
 |0=>rfl
 |n+1=>by simp only[List.replicate_succ,zDz,zDy ks row n]
def zRE (hC:zES C C')(hK:∀ s,K s=some r→K' (eS s))(h:tmake T (C R) o K s=some r):zAi T C' o (eS s) (gK K'):=by
 have plain:tstep T (C R) o s K=some r→zAi T C' o (eS s) (gK K'):=fun h=>zJD (hC R) (fun _ h=>zDB (hK _ h)) h
 unfold tmake at h;split at h
 ·rename_i t x y ho;split at h
  ·rename_i t' hk;split at h
   ·rename_i g hg;split at h
    ·exact plain h
    ·split at h
     ·rename_i n m hx hy;obtain⟨h1,h2⟩:=zAF h;obtain⟨h3,h4⟩:=zAP h2;simp only[zBa,zDe]at h1 h3;simp only[zAi,zAL,ho]
      rw[zAr,zAr,hk,hx,hy];simp only[e]
      refine⟨h1.1.1,h3.1.1.1,h3.1.1.2,h3.1.2,h3.2,?_⟩;refine zWN (y:=.own (T t').size (zDz T (AM.flat T 4 t') (List.replicate n.toNat (T t').zero))) (fun w G v f hr=>AM.R.own_wk (zGZ _ _) hr) ?_;have:=zAR (s:=s) o.dst (.own g true (List.replicate n.toNat g.dflt));simp only[e,List.map_replicate]at this;rw[zDy,zON _ _ h1.1.2,←eq_of_beq h1.2];rw[this];exact hK _ h4
     ·cases h
   ·cases h
  ·cases h
 ·exact plain h
def zID (hC:zES C C')(hK:∀ s,K s=some r→K' (eS s))(h:zVH T (C R) gz o K s=some r):AX.stepX T C' o K' (eS s) :=
 zRY h fun _ h=>zDB (zRE hC hK h)
def zGS (hC:zES C C'):∀(l:List Oper) {s:TS},(∀s,K s=some r→K' (eS s))→zUS T C gz ops l K s=some r→AX.opsX T C' ops l K' (eS s)
 |[],s,hK,h=>hK _ h
 | o::l,s,hK,h=>by
   unfold zUS at h;unfold AX.opsX;refine zFh (fun s h=>?_) (fun s h=>?_) h
   ·exact zID hC (fun s h=>zGS hC l hK h) h
   ·exact zXE (K:=zUS T C gz ops l K) (fun s h=>zGS hC l hK h) s h
def zIS (hC:zES C C')(hK:∀ s,K s=some r→K' (eS s))(h:zLQ T C gz ops o K s=some r):AX.gstep T C' ops o K' (eS s):=by
 unfold zLQ at h;unfold AX.gstep;refine zFh (fun s h=>?_) (fun s h=>?_) h
 ·exact zID hC hK h
 ·exact zXE hK s h
def zKN (hC:zES C C'):∀(l:List Nat) {s:TS},(∀s,K s=some r→K' (eS s))→flT T C gz ops l K s=some r→AX.flK T C' ops l K' (eS s)
 |[],s,hK,h=>hK _ h
 | i::l,s,hK,h=>by
   unfold flT at h;unfold AX.flK;split at h
   ·rename_i o ho;rw[ho];exact zIS hC (fun s h=>zKN hC l hK h) h
   ·cases h
mutual
def zTt:∀x:SV,eqV x x
 |.i k n=>zAQ (decide_eq_true rfl) rfl
 |.b _=>rfl
 |.s _=>rfl
 |.sl k _=>zAQ (beq_self_eq_true k) rfl
 |.ar a=>zAQ (beq_self_eq_true a) trivial
 |.p a b c=>zAQ (by simp) trivial
 |.ro c=>zKQ c
 |.agg c=>zKQ c
 |.u|.sk|.own _ _|.nilp|.nil|.fn _ _|.tup _=>rfl
def zKQ:∀x:List SV,eqVL x x
 |[]=>trivial
 |x::l=>⟨zTt x,zKQ l⟩
end
def zNt:∀(row:List V) (n j:Nat),zFc (eL row) n j=zPv row n j
 |row,0,j=>rfl
 |row,n+1,j=>by simp only[zFc,zPv,←zHU,zBR,zNt row n (j+1)]
def zPd (h:zRP T o s=true)(hr:zWR o s):zGz T o (eS s)=true:=by
 unfold zRP at h;unfold zGz;cases ho:o.op<;>rw[ho]at h<;>simp only at h ⊢<;>try (cases h;done)
 case move x=>rw[zAr,zBR];exact h
 case pick c x y=>rw[zAr,zAr,zBR,zBR];exact h
 case build t ps=>rw[zXc,zDh];exact h
 case load t a=>
  rw[zAr];split at h
  ·rename_i hv;rw[hv];rfl
  ·rename_i ob i off hv;rw[hv];simp only[e]
   split at h
   ·rename_i n cs hg;rw[zBT hg];simp only
    cases i with
    |zero=>simp only[List.getElem?_cons_zero];rw[zNt];exact h
    |succ i=>cases h
   ·rename_i n g d l hg;rw[zBP hg];simp only
    cases hk:(T t).kind<;>first|rfl|(rw[hk]at h;cases h)
   ·rename_i n g d l j cs hg;obtain⟨h1,h2⟩:=hr _ _ _ _ _ _ _ _ _ _ _ ho hv hg;subst h1;rw[zBM hg];simp only[zEM h2,zNt]
    exact h
   ·cases h
  ·cases h
 case slice t x lo hi mx=>
  rw[zAr];split at h
  ·rename_i hv;rw[hv];rfl
  ·rename_i hv;rw[hv];rfl
  ·rename_i hv;rw[hv];rfl
  ·cases h
 case indexAddr t x i=>
  rw[zAr];split at h
  ·rename_i hv;rw[hv];rfl
  ·rename_i hv;rw[hv];rfl
  ·cases h
 case extract x j=>
  split at h
  ·simp only
   rw[zCp];split at h
   ·rename_i hv;rw[hv];simp only[e];rw[←zHU,zBR];exact h
   ·cases h
  ·cases h
 case call c=>
  split at h
  ·rename_i hc;rw[hc]
  ·cases h
def zWY (hC:zES C C')(h:reT T C o s=some ()):reKF T C' o (eS s):=by
 obtain⟨h1,h2⟩:=zAF h;obtain⟨h2,hr⟩:=zRV h2;unfold reKF reK;refine zAQ (zPd h1 hr) (zJD (hC Unit) (fun s' h3=>?_) h2);obtain⟨h4,_⟩:=zAP h3;cases hd:o.dst with
 | some t=>
   rw[hd]at h4;show eqV (lkp (eS s').env t) (lkp (eS s).env t);rw[zCp,zCp,eqVb_e _ _ h4];exact zTt _
 |none=>trivial
def zWM {d:Option Tmp}(h:skT d s=some ()):skOk d (eS s):=by
 unfold skT at h;unfold skOk;split at h
 ·simp only
  rw[zCp];split at h
  ·rename_i hv;rw[hv];trivial
  ·cases h
 ·trivial
def zPm (hC:zES C C'):∀(l:List Nat) {s:TS},rcT T C ops l s=some ()→AX.rcK T C' ops l (eS s)
 |[],s,h=>trivial
 | i::l,s,h=>by
   unfold rcT at h;unfold AX.rcK;split at h
   ·rename_i o ho;rw[ho];obtain⟨h1,h2⟩:=zPg h;exact⟨zFh (fun s h=>zWY hC h) (fun s h=>zWM h) h1,zPm hC l h2⟩
   ·cases h
def zGX (hC:zES C C')(hK:∀ s,K s=some r→K' (eS s)):∀(p:Plan) {s:TS},zRb T C gz ops K p s=some r→AX.planK T C' ops K' p (eS s)
 |.fin,s,h=>hK _ h
 | .br e pr rc fs sub alt,s,h=>by
   have step:∀{s:TS},(match ops[e]? with
     |some o=>zLQ T C gz ops o (fun s1=>seqU (rcT T C ops rc s1) (flT T C gz ops fs (zRb T C gz ops K sub) s1)) s
     |none=>none)=some r→(match ops[e]? with
     |some o=>AX.gstep T C' ops o (AX.rfK T C' ops rc fs (AX.planK T C' ops K' sub)) (eS s)
     |none=>False):=by
    intro s h;split at h
    ·rename_i o ho;refine zIS hC (fun s h=>?_) h;obtain⟨h1,h2⟩:=zPg h;exact⟨zPm hC rc h1,zKN hC fs (fun s h=>zGX hC hK sub h) h2⟩
    ·cases h
   unfold zRb at h;unfold AX.planK;split at h
   ·exact⟨step h,trivial⟩
   ·rename_i hn;obtain⟨h1,h2⟩:=zLW h;refine⟨step h1,?_⟩;split
    ·trivial
    ·exact zGX hC hK alt h2
def zWO (s:TS)(c:Operand)(b:Bool):setB (eS s) c b=eS (setBT s c b):=by
 cases c with
 |tmp t=>exact zCv t (.b b)
 |_=>rfl
def midQ (id:Nat)(G:St→Prop)(Q':AQ):AQ
 |.normal,st=>G st
 |.exit id',st=>if id'=id then G st else Q' (.exit id') st
 |.ret,st=>Q' .ret st
def zCC {pl:Nat→List Nat×Plan}{N:Nat}{iv:Nat→Option SPat}(hT:LayOk P T)(hC':zGN P C')(hm:P.follows .mixedOrders=true)(hC:zES C C') :
  ∀(c:Code) (R:Type) (Q:AX→TS→Option R) (Q':AQ) (s:TS) (r:R),zBw T pl c=true→(∀x s,Q x s=some r→Q' x (eS s))→tev T C pl N iv c R Q s=some r→sp P c Q' (eS s)
 |.skip,R,Q,Q',s,r,_,hQ,h=>sp_skip (hQ _ _ h)
 |.region id ops false,R,Q,Q',s,r,_,hQ,h=>AX.sp_regionX hT hC' (zGS hC _ (hQ .normal) h)
 |.region id ops true,R,Q,Q',s,r,hp,hQ,h=>AX.sp_draw hT hC' hm hp (zKN hC _ (fun s h=>zGX hC (hQ .normal) _ h) h)
 | .seq x y,R,Q,Q',s,r,hp,hQ,h=>by
   simp only[zBw,zBa]at hp;unfold tev at h;split at h
   ·rename_i p hi
    have hx:∀z,tev T C pl N iv x (p.Den⊕R) (thenJ (zId N p fun z=>some (.inl z)) Q) s=some z→(∀z',z = .inl z'→tev T C pl N iv y R Q (encS N p z')=some r)→(∀r',z = .inr r'→r'=r) →
      sp P x (zNU (fun st=>gK (fun st=>∃z',st=eS (encS N p z')∧tev T C pl N iv y R Q (encS N p z')=some r) st) Q') (eS s):=by
     intro z hz h1 h2;refine zCC hT hC' hm hC x _ _ _ s z hp.1 (fun e s' hq=>?_) hz;cases e with
     | normal=>
       refine zDY hq fun z' hz'=>?_
       simp only[zSe]at hz';exact⟨z',rfl,h1 z' hz'.symm⟩
     | exit id=>
       obtain⟨r',hr,hq'⟩:=zEZ hq;rw[h2 r' hr]at hq';exact hQ _ _ hq'
     | ret=>
       obtain⟨r',hr,hq'⟩:=zEZ hq;rw[h2 r' hr]at hq';exact hQ _ _ hq'
    have hx':sp P x (zNU (fun st=>gK (fun st=>∃z',st=eS (encS N p z')∧tev T C pl N iv y R Q (encS N p z')=some r) st) Q') (eS s):=by
     rcases zLY h with⟨z,h1,h2⟩|h1
     ·exact hx _ h1 (fun z' hz=>by cases hz;exact h2) (fun r' hr=>by cases hr)
     ·exact hx _ h1 (fun z' hz=>by cases hz) (fun r' hr=>by cases hr;rfl)
    refine sp_seq (zRM hx' fun e st hq=>?_);cases e with
    | normal=>
      refine sp_ghost (zFj hq ?_);rintro st ⟨z',rfl,h3⟩;exact zCC hT hC' hm hC y _ _ _ _ _ hp.2 hQ h3
    |_=>exact hq
   ·refine sp_seq (zCC hT hC' hm hC x _ _ _ _ _ hp.1 (fun e s' hq=>?_) h);cases e with
    |normal=>exact zCC hT hC' hm hC y _ _ _ _ _ hp.2 hQ hq
    |exit id=>exact hQ _ _ hq
    |ret=>exact hQ _ _ hq
 | .cond c x y,R,Q,Q',s,r,hp,hQ,h=>by
   simp only[zBw,zBa]at hp;unfold tev at h;split at h
   ·rename_i t hv;have hc:AM.ev (eS s).env c = .b t:=by rw[zAr,hv];rfl
    refine sp_cond hc (fun ht=>?_) (fun ht=>?_)
    ·subst ht;have:=zCC hT hC' hm hC x _ _ _ _ _ hp.1 hQ h;rw[←zWO,zPf hc]at this;exact this
    ·subst ht;have:=zCC hT hC' hm hC y _ _ _ _ _ hp.2 hQ h;rw[←zWO,zPf hc]at this;exact this
   ·cases h
 | .block id c,R,Q,Q',s,r,hp,hQ,h=>by
   have hp:zBw T pl c=true:=hp;unfold tev at h;split at h
   ·rename_i p hi
    have hx:∀z,tev T C pl N iv c (p.Den⊕R) (zXn id (zId N p fun z=>some (.inl z)) Q) s=some z→(∀z',z = .inl z'→Q .normal (encS N p z')=some r)→(∀r',z = .inr r'→r'=r) →
      sp P c (midQ id (gK fun st=>∃z',st=eS (encS N p z')∧Q .normal (encS N p z')=some r) Q') (eS s):=by
     intro z hz h1 h2;refine zCC hT hC' hm hC c _ _ _ s z hp (fun e s' hq=>?_) hz
     have hn:∀{s'},zId N p (fun z=>some (Sum.inl z)) s'=some z→gK (fun st=>∃z',st=eS (encS N p z')∧Q .normal (encS N p z')=some r) (eS s'):=by
      intro s' hq;refine zDY hq fun z' hz'=>?_
      simp only[zSe]at hz';exact⟨z',rfl,h1 z' hz'.symm⟩
     cases e with
     |normal=>exact hn hq
     | exit id' =>
       simp only[zXn]at hq;cases hid:id'==id with
       | true=>
         rw[hid,cond_true]at hq;simp only[midQ,eq_of_beq hid,if_true]
         exact hn hq
       | false=>
         rw[hid,cond_false]at hq;obtain⟨r',hr,hq'⟩:=zEZ hq;rw[h2 r' hr]at hq';have:¬id'=id:=by simpa using hid
         simp only[midQ,this,if_false]
         exact hQ _ _ hq'
     | ret=>
       obtain⟨r',hr,hq'⟩:=zEZ hq;rw[h2 r' hr]at hq';exact hQ _ _ hq'
    have hx':sp P c (midQ id (gK fun st=>∃z',st=eS (encS N p z')∧Q .normal (encS N p z')=some r) Q') (eS s):=by
     rcases zLY h with⟨z,h1,h2⟩|h1
     ·exact hx _ h1 (fun z' hz=>by cases hz;exact h2) (fun r' hr=>by cases hr)
     ·exact hx _ h1 (fun z' hz=>by cases hz) (fun r' hr=>by cases hr;rfl)
    have hg:∀{st},gK (fun st=>∃z',st=eS (encS N p z')∧Q .normal (encS N p z')=some r) st→gK (Q' .normal) st:=fun hq=>zFj hq fun st ⟨z',h1,h2⟩=>by rw[h1];exact hQ _ _ h2
    have hx2:sp P c (zKa id fun e st=>match e with|.normal=>gK (Q' .normal) st|e=>Q' e st) (eS s):=by
     refine zRM hx' fun e st hq=>?_
     cases e with
     |normal=>exact hg hq
     | exit id' =>
       simp only[midQ,zKa]at hq ⊢;by_cases hid:id'=id
       ·rw[if_pos hid]at hq ⊢;exact hg hq
       ·rw[if_neg hid]at hq ⊢;exact hq
     |ret=>exact hq
    intro w0 w L a G hs;refine wp_mono (zTF hx2 w0 w L a G hs) fun e a' w' hq=>?_
    cases e with
    |normal=>exact Nx.gK hq
    |_=>exact hq
   ·refine zTF (zCC hT hC' hm hC c _ _ _ _ _ hp (fun e s' hq=>?_) h);cases e with
    |normal=>exact hQ _ _ hq
    | exit id' =>
      simp only[blockT]at hq;simp only[zKa]
      cases hid:id'==id with
      |true=>rw[hid,cond_true]at hq;rw[if_pos (eq_of_beq hid)];exact hQ _ _ hq
      |false=>rw[hid,cond_false]at hq;rw[if_neg (by simpa using hid)];exact hQ _ _ hq
    |ret=>exact hQ _ _ hq
 | .loop c,R,Q,Q',s,r,hp,hQ,h=>by
   have hp:zBw T pl c=true:=hp;unfold tev at h;split at h
   ·rename_i p hi
    let f:p.Den→Option (p.Den⊕R):=fun x=>tev T C pl N iv c (p.Den⊕R) (thenJ (zId N p fun z=>some (.inl z)) Q) (encS N p x)
    let J:Nat→St→Prop:=fun n st=>∃x,st=eS (encS N p x)∧zCt f n x=some r
    refine sp_loopN J (zDY h fun x hx=>?_) ?_
    ·obtain⟨n,hn⟩:=zEk hx;exact⟨n,x,rfl,hn⟩
    ·rintro n st ⟨x,rfl,hn⟩;cases n with
     |zero=>cases hn
     | succ n=>
       simp only[zCt]at hn
       have hb:∀z,f x=some z→(∀z',z = .inl z'→zCt f n z'=some r)→(∀r',z = .inr r'→r'=r) →
         sp P c (zNU (gK fun s'=>∃n',n'<n+1∧J n' s') Q') (eS (encS N p x)):=by
        intro z hz h1 h2;refine zCC hT hC' hm hC c _ _ _ _ z hp (fun e s' hq=>?_) hz;cases e with
        | normal=>
          refine zDY hq fun z' hz'=>?_
          simp only[zSe]at hz';exact⟨n,Nat.lt_succ_self n,z',rfl,h1 z' hz'.symm⟩
        | exit id=>
          obtain⟨r',hr,hq'⟩:=zEZ hq;rw[h2 r' hr]at hq';exact hQ _ _ hq'
        | ret=>
          obtain⟨r',hr,hq'⟩:=zEZ hq;rw[h2 r' hr]at hq';exact hQ _ _ hq'
       split at hn
       ·rename_i x' hx';exact hb _ hx' (fun z' hz=>by cases hz;exact hn) (fun r' hr=>by cases hr)
       ·rename_i y hy;simp only[zSe]at hn;exact hb _ hy (fun z' hz=>by cases hz) (fun r' hr=>by cases hr;exact hn)
       ·cases hn
   ·cases h
 |.exit id,R,Q,Q',s,r,_,hQ,h=>sp_exit (hQ _ _ h)
 |.ret,R,Q,Q',s,r,_,hQ,h=>sp_ret (hQ _ _ h)
 |.rangeFunc ..,_,_,_,_,_,_,_,h=>by simp only[tev]at h;cases h
 |.scope _,_,_,_,_,_,_,_,h=>by simp only[tev]at h;cases h
 |.label _,_,_,_,_,_,_,_,h=>by simp only[tev]at h;cases h
 |.goto _,_,_,_,_,_,_,_,h=>by simp only[tev]at h;cases h
 |.refuse _,_,_,_,_,_,_,_,h=>by simp only[tev]at h;cases h
end
end Go.TM
end
