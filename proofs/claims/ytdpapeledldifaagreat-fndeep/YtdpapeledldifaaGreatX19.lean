/- Part 20 of the proof of FnDeep; no condition. -/
import Derived.Test.YtdpapeledldifaaGreatX18
open Option renaming some -> U
open Decidable renaming decide -> aa
open Bool renaming true -> ad
open Bool renaming false -> ag
open Option renaming none -> aj
open Sum renaming inl -> an
open Sum renaming inr -> ao
open List renaming length -> au
open Int renaming toNat -> aH
open List renaming drop -> kZ
open List renaming take -> nY
set_option autoImplicit true
set_option relaxedAutoImplicit true
set_option linter.all false
section
namespace Go.TM
open Go.AM
section
variable {R:Type}
abbrev zGK:=(R:Type)->ni R
def sy (ops:Array Oper)(o:Oper)(s:TS)(yes no:TS->Option R):Option R:=match o.guard with
 |none=>yes s
 | some (j,w)=>match(ops[j]?).bind (·.dst)with
   | some d=>match cT s d with
     |.sk=>no s
     | .b x=>(match w with
       |true=>ah x (yes (dT s d (.b ad))) (no (dT s d (.b ag)))
       |false=>ah x (no (dT s d (.b ad))) (yes (dT s d (.b ag))))
     |_=>aj
   |none=>aj
noncomputable def Be (T:Nat->TI)(C:ni R)(o:Oper)(K:TS->Option R)(s:TS):Option R:=match o.op with
 | .makeSlice t l c=>(match(T t).kind with
   | .slice e=>(match gt T 8 e with
     | some g=>(match g.flat with
       |true=>b9 T C o s K
       | false=>(match bw s l,bw s c with
         |.i .i64 n,.i .i64 m=>aX ((T e).known&&b9.eqSVs (i9 T (flat T 4 e) (T e).zero) (aM ad g g.dflt)&&g.sz==(T e).size) (af (aa (n=m)&&aa (0<=n)&&aa (n<=9223372036854775807)&&aa (n*(T e).bytes<=140737488355328)) (K (bC s o.dst (.own g ad (List.replicate n.toNat g.dflt)))))
         |_,_=>aj))
     |none=>aj)
   |_=>aj)
 |_=>b9 T C o s K
noncomputable def Bf (T:Nat->TI)(C:ni R)(gz:List Nat)(o:Oper)(K:TS->Option R)(s:TS):Option R:=si T gz o (Be T C o K) s
noncomputable def qc (T:Nat->TI)(C:zGK)(gz:List Nat)(ops:Array Oper):List Oper->(TS->Option R)->TS->Option R
 |[],K,s=>K s
 |o::rest,K,s=>sy ops o s (Bf T (C R) gz o (qc T C gz ops rest K)) (vw o.dst (qc T C gz ops rest K))
noncomputable def qd (T:Nat->TI)(C:zGK)(gz:List Nat)(ops:Array Oper)(o:Oper)(K:TS->Option R)(s:TS):Option R:=sy ops o s (Bf T (C R) gz o K) (vw o.dst K)
noncomputable def oK (T:Nat->TI)(C:zGK)(gz:List Nat)(ops:Array Oper):List Nat->(TS->Option R)->TS->Option R
 |[],K,s=>K s
 | i::l,K,s=>match ops[i]? with
   |some o=>qd T C gz ops o (oK T C gz ops l K) s
   |none=>aj
def sA (row:List V):Nat->Nat->Bool
 |0,_=>ad
 |n+1,j=>!eu (du row j)&&sA row n (j+1)
def Bg (T:Nat->TI)(o:Oper)(s:TS):Bool:=match o.op with
 |.move x=>!eu (bw s x)
 |.pick _ a b=>!eu (bw s a)&&!eu (bw s b)
 |.nilCheck _|.unOp .. | .binOp .. | .fieldAddr .. | .field .. | .index .. | .makeFunc .. | .convert .. => ad
 |.build _ ps=>!lX (gL s (cy ps))
 | .load t a=>match bw s a with
   |.ro _=>ad
   | .p o i off=>match ba s.ob o with
     | some (.box _ cs)=>(match i with
       |0=>sA cs (T t).size off
       |_+1=>ag)
     |some (.arr _ _ _ _)=>!vg (T t).kind
     |some (.opn _ _ _ _ _ cs)=>sA cs (T t).size off
     |_=>ag
   |_=>ag
 | .slice _ x _ _ _=>match bw s x with
   |.s _|.sl _ _|.nil=>ad
   |_=>ag
 | .indexAddr _ x _=>match bw s x with
   |.sl _ _|.ar _=>ad
   |_=>ag
 | .extract x j=>match x with
   | .tmp t=>match cT s t with
     |.tup vs=>!eu (du vs j)
     |_=>ag
   |_=>ag
 | .call c=>match c.callee with
   |.builtin .len=>ad
   |_=>ag
 |_=>ag
def NY (d:Option Tmp)(s s':TS):Bool:=match d with
 |some t=>vV (cT s' t) (cT s t)
 |none=>ad
def Bh (o:Oper)(s:TS)(K:Option Unit):Option Unit:=match o.op with
 | .load _ a=>match bw s a with
   | .p ob i _=>match ba s.ob ob with
     |some (.opn _ _ _ l j _)=>af (aa (i=j)&&aa (j<l.length)) K
     |_=>K
   |_=>K
 |_=>K
def G9 (o:Oper)(s:TS):Prop:=∀t a ob i off n g d l j cs,o.op = .load t a->bw s a = .p ob i off->ba s.ob ob=U (.opn n g d l j cs)->i=j/\j<l.length
def NZ {o:Oper}{s:TS}{K:Option Unit}(h:Bh o s K=U ()):K=U ()/\G9 o s:=by
 unfold Bh at h;split at h
 ·rename_i t a ho;split at h
  ·rename_i ob i off hv;split at h
   ·rename_i n g d l j cs hg;obtain⟨h1,h2⟩:=cL h;simp only[aG,aI]at h1;refine⟨h2,fun t' a' ob' i' off' n' g' d' l' j' cs' ho' hv' hg'=>?_⟩;rw[ho]at ho';cases ho';rw[hv]at hv';cases hv';rw[hg]at hg';cases hg';exact h1
   ·rename_i hne;refine⟨h,fun t' a' ob' i' off' n' g' d' l' j' cs' ho' hv' hg'=>?_⟩;rw[ho]at ho';cases ho';rw[hv]at hv';cases hv';exact absurd hg' (hne _ _ _ _ _ _)
  ·rename_i hne;refine⟨h,fun t' a' ob' i' off' n' g' d' l' j' cs' ho' hv' hg'=>?_⟩;rw[ho]at ho';cases ho';exact absurd hv' (hne _ _ _)
 ·rename_i hne;exact⟨h,fun t' a' ob' i' off' n' g' d' l' j' cs' ho' hv' hg'=>absurd ho' (hne _ _)⟩
noncomputable def G_ (T:Nat->TI)(C:zGK)(o:Oper)(s:TS):Option Unit:=aX (Bg T o s) (Bh o s (b9 T (C Unit) o s fun s'=>af (NY o.dst s s') (U ())))
def Bi (d:Option Tmp)(s:TS):Option Unit:=match d with
 |some t=>(match cT s t with|.sk=>U ()|_=>aj)
 |none=>U ()
noncomputable def qe (T:Nat->TI)(C:zGK)(ops:Array Oper):List Nat->TS->Option Unit
 |[],_=>U ()
 | i::l,s=>match ops[i]? with
   |some o=>ak (sy ops o s (G_ T C o) (Bi o.dst)) (qe T C ops l s)
   |none=>aj
noncomputable def oL (T:Nat->TI)(C:zGK)(gz:List Nat)(ops:Array Oper)(K:TS->Option R):bc->TS->Option R
 |.fin,s=>K s
 | .br e _ rc fs sub alt,s=>match alt with
   | .fin=>(match ops[e]? with
     |some o=>qd T C gz ops o (fun s1=>ak (qe T C ops rc s1) (oK T C gz ops fs (oL T C gz ops K sub) s1)) s
     |none=>aj)
   | alt=>cm (match ops[e]? with
     |some o=>qd T C gz ops o (fun s1=>ak (qe T C ops rc s1) (oK T C gz ops fs (oL T C gz ops K sub) s1)) s
     |none=>aj) (oL T C gz ops K alt s)
def Bj (s:TS)(c:Operand)(b:Bool):TS:=match c with
 |.tmp t=>dT s t (.b b)
 |_=>s
end
def N0 {R:Type}(next:TS->Option R)(Q:AX->TS->Option R):AX->TS->Option R
 |.normal,s=>next s
 |.exit id,s=>Q (.exit id) s
 |.ret,s=>Q .ret s
def Ha {R:Type}(id:Nat)(Q:AX->TS->Option R):AX->TS->Option R
 |.normal,s=>Q .normal s
 |.exit id',s=>bif id'==id then Q .normal s else Q (.exit id') s
 |.ret,s=>Q .ret s
def vX {Y R:Type}(next:TS->Option (Y⊕R))(Q:AX->TS->Option R):AX->TS->Option (Y⊕R)
 |.normal,s=>next s
 |.exit id,s=>jH (Q (.exit id) s)
 |.ret,s=>jH (Q .ret s)
def Bk {Y R:Type}(id:Nat)(next:TS->Option (Y⊕R))(Q:AX->TS->Option R):AX->TS->Option (Y⊕R)
 |.normal,s=>next s
 |.exit id',s=>bif id'==id then next s else jH (Q (.exit id') s)
 |.ret,s=>jH (Q .ret s)
noncomputable def dY (T:Nat->TI)(C:zGK)(pl:Nat->List Nat×bc)(N:Nat)(iv:Nat->Option SPat):Code->(R:Type)->(AX->TS->Option R)->TS->Option R
 |.skip,_,Q,s=>Q .normal s
 | .region id ops draw,_,Q,s=>match draw with
   |false=>qc T C (pl (3000000+id)).1 ops ops.toList (Q .normal) s
   |true=>oK T C (pl (3000000+id)).1 ops (pl id).1 (oL T C (pl (3000000+id)).1 ops (Q .normal) (pl id).2) s
 | .seq x y,R,Q,s=>match iv (1000000+lj y)with
   |some p=>bindE (dY T C pl N iv x (p.Den⊕R) (vX (j9 N p fun z=>U (.inl z)) Q) s) fun z=>dY T C pl N iv y R Q (dW N p z)
   |none=>dY T C pl N iv x R (N0 (dY T C pl N iv y R Q) Q) s
 | .cond c x y,R,Q,s=>match bw s c with
   |.b t=>ah t (dY T C pl N iv x R Q (Bj s c ad)) (dY T C pl N iv y R Q (Bj s c ag))
   |_=>aj
 | .block id c,R,Q,s=>match iv (2000000+id)with
   |some p=>bindE (dY T C pl N iv c (p.Den⊕R) (Bk id (j9 N p fun z=>U (.inl z)) Q) s) fun z=>Q .normal (dW N p z)
   |none=>dY T C pl N iv c R (Ha id Q) s
 | .loop c,R,Q,s=>match iv (lj c)with
   |some p=>j9 N p (fun x0=>aD (fun x=>dY T C pl N iv c (p.Den⊕R) (vX (j9 N p fun z=>U (.inl z)) Q) (dW N p x)) x0) s
   |none=>aj
 |.exit id,_,Q,s=>Q (.exit id) s
 |.ret,_,Q,s=>Q .ret s
 |_,_,_,_=>aj
def lr (C:zGK)(C':zAy):Prop:=∀(R:Type) f xs d s (K:TS->Option R) (K':St->Prop) (r:R),(∀s,K s=U r->K' (eS s))->C R f xs d s K=U r->C' f xs d (eS s) K'
section
variable {P:Program}{R:Type}{T:Nat->TI}{C:zGK}{gz:List Nat}{C':zAy}{o:Oper}{ops:Array Oper}{s:TS}{K:TS->Option R}{K':St->Prop}{r:R}
def Bl {yes no:TS->Option R}{yes' no':St->Prop}(hy:∀ s,yes s=U r->yes' (eS s))(hn:∀ s,no s=U r->no' (eS s))(h:sy ops o s yes no=U r):jx ops o (eS s) yes' no':=by
 unfold sy at h;unfold jx;split at h
 ·rename_i hg;rw[hg];exact hy _ h
 ·rename_i j w hg;rw[hg];simp only
  split at h
  ·rename_i d hd;rw[hd];simp only
   rw[jD];split at h
   ·rename_i hv;rw[hv];exact hn _ h
   ·rename_i x hv;rw[hv];simp only[e]
    have hs:∀b:Bool,cb (eS s) d (SV.b b)=eS (dT s d (.b b)):=fun b=>gI d (.b b)
    split at h
    ·rcases Ae h with⟨hx,h⟩|⟨hx,h⟩
     ·subst hx;rw[hs];exact hy _ h
     ·subst hx;rw[hs,hs];exact hn _ h
    ·rcases Ae h with⟨hx,h⟩|⟨hx,h⟩
     ·subst hx;rw[hs,hs];exact hn _ h
     ·subst hx;rw[hs];exact hy _ h
   ·cases h
  ·cases h
def Hb (ks:List TK)(row:List SV):∀n:Nat,mR T ks (List.replicate n row)=List.replicate n (i9 T ks row)
 |0=>rfl
 |n+1=>by simp only[List.replicate_succ,mR,Hb ks row n]
def N1 (hC:lr C C')(hK:∀ s,K s=U r->K' (eS s))(h:Be T (C R) o K s=U r):bO T C' o (eS s) (gK K'):=by
 have plain:b9 T (C R) o s K=U r->bO T C' o (eS s) (gK K'):=fun h=>Gs (hC R) (fun _ h=>dR (hK _ h)) h
 unfold Be at h;split at h
 ·rename_i t x y ho;split at h
  ·rename_i t' hk;split at h
   ·rename_i g hg;split at h
    ·exact plain h
    ·split at h
     ·rename_i n m hx hy;obtain⟨h1,h2⟩:=bl h;obtain⟨h3,h4⟩:=cL h2;simp only[aG,aI]at h1 h3;simp only[bO,a9,ho]
      rw[bW,bW,hk,hx,hy];simp only[e]
      refine⟨h1.1.1,h3.1.1.1,h3.1.1.2,h3.1.2,h3.2,?_⟩;refine EM (y:=.own (T t').size (mR T (AM.flat T 4 t') (List.replicate n.toNat (T t').zero))) (fun w G v f hr=>AM.R.own_wk (zH _ _) hr) ?_;have:=bP (s:=s) o.dst (.own g ad (List.replicate n.toNat g.dflt));simp only[e,List.map_replicate]at this;rw[Hb,Ay _ _ h1.1.2,<-eq_of_beq h1.2];rw[this];exact hK _ h4
     ·cases h
   ·cases h
  ·cases h
 ·exact plain h
def Hc (hC:lr C C')(hK:∀ s,K s=U r->K' (eS s))(h:Bf T (C R) gz o K s=U r):AX.stepX T C' o K' (eS s) :=
 NW h fun _ h=>dR (N1 hC hK h)
def Bm (hC:lr C C'):∀(l:List Oper) {s:TS},(∀s,K s=U r->K' (eS s))->qc T C gz ops l K s=U r->AX.opsX T C' ops l K' (eS s)
 |[],s,hK,h=>hK _ h
 | o::l,s,hK,h=>by
   unfold qc at h;unfold AX.opsX;refine Bl (fun s h=>?_) (fun s h=>?_) h
   ·exact Hc hC (fun s h=>Bm hC l hK h) h
   ·exact rZ (K:=qc T C gz ops l K) (fun s h=>Bm hC l hK h) s h
def Hd (hC:lr C C')(hK:∀ s,K s=U r->K' (eS s))(h:qd T C gz ops o K s=U r):AX.gstep T C' ops o K' (eS s):=by
 unfold qd at h;unfold AX.gstep;refine Bl (fun s h=>?_) (fun s h=>?_) h
 ·exact Hc hC hK h
 ·exact rZ hK s h
def Bn (hC:lr C C'):∀(l:List Nat) {s:TS},(∀s,K s=U r->K' (eS s))->oK T C gz ops l K s=U r->AX.flK T C' ops l K' (eS s)
 |[],s,hK,h=>hK _ h
 | i::l,s,hK,h=>by
   unfold oK at h;unfold AX.flK;split at h
   ·rename_i o ho;rw[ho];exact Hd hC (fun s h=>Bn hC l hK h) h
   ·cases h
mutual
def He:∀x:SV,rG x x
 |.i k n=>bF (decide_eq_true rfl) rfl
 |.b _=>rfl
 |.s _=>rfl
 |.sl k _=>bF (beq_self_eq_true k) rfl
 |.ar a=>bF (beq_self_eq_true a) trivial
 |.p a b c=>bF (by simp) trivial
 |.ro c=>Bo c
 |.agg c=>Bo c
 |.u|.sk|.own _ _|.nilp|.nil|.fn _ _|.tup _=>rfl
def Bo:∀x:List SV,rH x x
 |[]=>trivial
 |x::l=>⟨He x,Bo l⟩
end
def Bp:∀(row:List V) (n j:Nat),mY (eL row) n j=sA row n j
 |row,0,j=>rfl
 |row,n+1,j=>by simp only[mY,sA,<-je,im,Bp row n (j+1)]
def N2 (h:Bg T o s=ad)(hr:G9 o s):rF T o (eS s)=ad:=by
 unfold Bg at h;unfold rF;cases ho:o.op<;>rw[ho]at h<;>simp only at h ⊢<;>try (cases h;done)
 case move x=>rw[bW,im];exact h
 case pick c x y=>rw[bW,bW,im,im];exact h
 case build t ps=>rw[Ax,ow];exact h
 case load t a=>
  rw[bW];split at h
  ·rename_i hv;rw[hv];rfl
  ·rename_i ob i off hv;rw[hv];simp only[e]
   split at h
   ·rename_i n cs hg;rw[jG hg];simp only
    cases i with
    |zero=>simp only[List.getElem?_cons_zero];rw[Bp];exact h
    |succ i=>cases h
   ·rename_i n g d l hg;rw[jf hg];simp only
    cases hk:(T t).kind<;>first|rfl|(rw[hk]at h;cases h)
   ·rename_i n g d l j cs hg;obtain⟨h1,h2⟩:=hr _ _ _ _ _ _ _ _ _ _ _ ho hv hg;subst h1;rw[iN hg];simp only[ln h2,Bp]
    exact h
   ·cases h
  ·cases h
 case slice t x lo hi mx=>
  rw[bW];split at h
  ·rename_i hv;rw[hv];rfl
  ·rename_i hv;rw[hv];rfl
  ·rename_i hv;rw[hv];rfl
  ·cases h
 case indexAddr t x i=>
  rw[bW];split at h
  ·rename_i hv;rw[hv];rfl
  ·rename_i hv;rw[hv];rfl
  ·cases h
 case extract x j=>
  split at h
  ·simp only
   rw[jD];split at h
   ·rename_i hv;rw[hv];simp only[e];rw[<-je,im];exact h
   ·cases h
  ·cases h
 case call c=>
  split at h
  ·rename_i hc;rw[hc]
  ·cases h
def N3 (hC:lr C C')(h:G_ T C o s=U ()):pS T C' o (eS s):=by
 obtain⟨h1,h2⟩:=bl h;obtain⟨h2,hr⟩:=NZ h2;unfold pS uJ;refine bF (N2 h1 hr) (Gs (hC Unit) (fun s' h3=>?_) h2);obtain⟨h4,_⟩:=cL h3;cases hd:o.dst with
 | some t=>
   rw[hd]at h4;show rG (bB (eS s').env t) (bB (eS s).env t);rw[jD,jD,G8 _ _ h4];exact He _
 |none=>trivial
def N4 {d:Option Tmp}(h:Bi d s=U ()):og d (eS s):=by
 unfold Bi at h;unfold og;split at h
 ·simp only
  rw[jD];split at h
  ·rename_i hv;rw[hv];trivial
  ·cases h
 ·trivial
def Hf (hC:lr C C'):∀(l:List Nat) {s:TS},qe T C ops l s=U ()->AX.rcK T C' ops l (eS s)
 |[],s,h=>trivial
 | i::l,s,h=>by
   unfold qe at h;unfold AX.rcK;split at h
   ·rename_i o ho;rw[ho];obtain⟨h1,h2⟩:=G7 h;exact⟨Bl (fun s h=>N3 hC h) (fun s h=>N4 h) h1,Hf hC l h2⟩
   ·cases h
def Bq (hC:lr C C')(hK:∀ s,K s=U r->K' (eS s)):∀(p:bc) {s:TS},oL T C gz ops K p s=U r->AX.planK T C' ops K' p (eS s)
 |.fin,s,h=>hK _ h
 | .br e pr rc fs sub alt,s,h=>by
   have step:∀{s:TS},(match ops[e]? with
     |some o=>qd T C gz ops o (fun s1=>ak (qe T C ops rc s1) (oK T C gz ops fs (oL T C gz ops K sub) s1)) s
     |none=>aj)=U r->(match ops[e]? with
     |some o=>AX.gstep T C' ops o (AX.rfK T C' ops rc fs (AX.planK T C' ops K' sub)) (eS s)
     |none=>False):=by
    intro s h;split at h
    ·rename_i o ho;refine Hd hC (fun s h=>?_) h;obtain⟨h1,h2⟩:=G7 h;exact⟨Hf hC rc h1,Bn hC fs (fun s h=>Bq hC hK sub h) h2⟩
    ·cases h
   unfold oL at h;unfold AX.planK;split at h
   ·exact⟨step h,trivial⟩
   ·rename_i hn;obtain⟨h1,h2⟩:=F0 h;refine⟨step h1,?_⟩;split
    ·trivial
    ·exact Bq hC hK alt h2
def Hg (s:TS)(c:Operand)(b:Bool):rO (eS s) c b=eS (Bj s c b):=by
 cases c with
 |tmp t=>exact gI t (.b b)
 |_=>rfl
def sB (id:Nat)(G:St->Prop)(Q':AQ):AQ
 |.normal,st=>G st
 |.exit id',st=>if id'=id then G st else Q' (.exit id') st
 |.ret,st=>Q' .ret st
def lu {pl:Nat->List Nat×bc}{N:Nat}{iv:Nat->Option SPat}(hT:bV P T)(hC':lg P C')(hm:P.follows .mixedOrders=ad)(hC:lr C C') :
  ∀(c:Code) (R:Type) (Q:AX->TS->Option R) (Q':AQ) (s:TS) (r:R),jB T pl c=ad->(∀x s,Q x s=U r->Q' x (eS s))->dY T C pl N iv c R Q s=U r->sp P c Q' (eS s)
 |.skip,R,Q,Q',s,r,_,hQ,h=>Mh (hQ _ _ h)
 |.region id ops ag,R,Q,Q',s,r,_,hQ,h=>AX.sp_regionX hT hC' (Bm hC _ (hQ .normal) h)
 |.region id ops ad,R,Q,Q',s,r,hp,hQ,h=>AX.sp_draw hT hC' hm hp (Bn hC _ (fun s h=>Bq hC (hQ .normal) _ h) h)
 | .seq x y,R,Q,Q',s,r,hp,hQ,h=>by
   simp only[jB,aG]at hp;unfold dY at h;split at h
   ·rename_i p hi
    have hx:∀z,dY T C pl N iv x (p.Den⊕R) (vX (j9 N p fun z=>U (.inl z)) Q) s=U z->(∀z',z = .inl z'->dY T C pl N iv y R Q (dW N p z')=U r)->(∀r',z = .inr r'->r'=r) ->
      sp P x (lR (fun st=>gK (fun st=>∃z',st=eS (dW N p z')/\dY T C pl N iv y R Q (dW N p z')=U r) st) Q') (eS s):=by
     intro z hz h1 h2;refine lu hT hC' hm hC x _ _ _ s z hp.1 (fun e s' hq=>?_) hz;cases e with
     | normal=>
       refine sw hq fun z' hz'=>?_
       simp only[aK]at hz';exact⟨z',rfl,h1 z' hz'.symm⟩
     | exit id=>
       obtain⟨r',hr,hq'⟩:=qb hq;rw[h2 r' hr]at hq';exact hQ _ _ hq'
     | ret=>
       obtain⟨r',hr,hq'⟩:=qb hq;rw[h2 r' hr]at hq';exact hQ _ _ hq'
    have hx':sp P x (lR (fun st=>gK (fun st=>∃z',st=eS (dW N p z')/\dY T C pl N iv y R Q (dW N p z')=U r) st) Q') (eS s):=by
     rcases G6 h with⟨z,h1,h2⟩|h1
     ·exact hx _ h1 (fun z' hz=>by cases hz;exact h2) (fun r' hr=>by cases hr)
     ·exact hx _ h1 (fun z' hz=>by cases hz) (fun r' hr=>by cases hr;rfl)
    refine E0 (zK hx' fun e st hq=>?_);cases e with
    | normal=>
      refine Ml (mW hq ?_);rintro st ⟨z',rfl,h3⟩;exact lu hT hC' hm hC y _ _ _ _ _ hp.2 hQ h3
    |_=>exact hq
   ·refine E0 (lu hT hC' hm hC x _ _ _ _ _ hp.1 (fun e s' hq=>?_) h);cases e with
    |normal=>exact lu hT hC' hm hC y _ _ _ _ _ hp.2 hQ hq
    |exit id=>exact hQ _ _ hq
    |ret=>exact hQ _ _ hq
 | .cond c x y,R,Q,Q',s,r,hp,hQ,h=>by
   simp only[jB,aG]at hp;unfold dY at h;split at h
   ·rename_i t hv;have hc:AM.ev (eS s).env c = .b t:=by rw[bW,hv];rfl
    refine Mk hc (fun ht=>?_) (fun ht=>?_)
    ·subst ht;have:=lu hT hC' hm hC x _ _ _ _ _ hp.1 hQ h;rw[<-Hg,FC hc]at this;exact this
    ·subst ht;have:=lu hT hC' hm hC y _ _ _ _ _ hp.2 hQ h;rw[<-Hg,FC hc]at this;exact this
   ·cases h
 | .block id c,R,Q,Q',s,r,hp,hQ,h=>by
   have hp:jB T pl c=ad:=hp;unfold dY at h;split at h
   ·rename_i p hi
    have hx:∀z,dY T C pl N iv c (p.Den⊕R) (Bk id (j9 N p fun z=>U (.inl z)) Q) s=U z->(∀z',z = .inl z'->Q .normal (dW N p z')=U r)->(∀r',z = .inr r'->r'=r) ->
      sp P c (sB id (gK fun st=>∃z',st=eS (dW N p z')/\Q .normal (dW N p z')=U r) Q') (eS s):=by
     intro z hz h1 h2;refine lu hT hC' hm hC c _ _ _ s z hp (fun e s' hq=>?_) hz
     have hn:∀{s'},j9 N p (fun z=>U (Sum.inl z)) s'=U z->gK (fun st=>∃z',st=eS (dW N p z')/\Q .normal (dW N p z')=U r) (eS s'):=by
      intro s' hq;refine sw hq fun z' hz'=>?_
      simp only[aK]at hz';exact⟨z',rfl,h1 z' hz'.symm⟩
     cases e with
     |normal=>exact hn hq
     | exit id' =>
       simp only[Bk]at hq;cases hid:id'==id with
       | true=>
         rw[hid,cond_true]at hq;simp only[sB,eq_of_beq hid,if_true]
         exact hn hq
       | false=>
         rw[hid,cond_false]at hq;obtain⟨r',hr,hq'⟩:=qb hq;rw[h2 r' hr]at hq';have:¬id'=id:=by simpa using hid
         simp only[sB,this,if_false]
         exact hQ _ _ hq'
     | ret=>
       obtain⟨r',hr,hq'⟩:=qb hq;rw[h2 r' hr]at hq';exact hQ _ _ hq'
    have hx':sp P c (sB id (gK fun st=>∃z',st=eS (dW N p z')/\Q .normal (dW N p z')=U r) Q') (eS s):=by
     rcases G6 h with⟨z,h1,h2⟩|h1
     ·exact hx _ h1 (fun z' hz=>by cases hz;exact h2) (fun r' hr=>by cases hr)
     ·exact hx _ h1 (fun z' hz=>by cases hz) (fun r' hr=>by cases hr;rfl)
    have hg:∀{st},gK (fun st=>∃z',st=eS (dW N p z')/\Q .normal (dW N p z')=U r) st->gK (Q' .normal) st:=fun hq=>mW hq fun st ⟨z',h1,h2⟩=>by rw[h1];exact hQ _ _ h2
    have hx2:sp P c (n9 id fun e st=>match e with|.normal=>gK (Q' .normal) st|e=>Q' e st) (eS s):=by
     refine zK hx' fun e st hq=>?_
     cases e with
     |normal=>exact hg hq
     | exit id' =>
       simp only[sB,n9]at hq ⊢;by_cases hid:id'=id
       ·rw[if_pos hid]at hq ⊢;exact hg hq
       ·rw[if_neg hid]at hq ⊢;exact hq
     |ret=>exact hq
    intro w0 w L a G hs;refine wp_mono (E1 hx2 w0 w L a G hs) fun e a' w' hq=>?_
    cases e with
    |normal=>exact Nx.gK hq
    |_=>exact hq
   ·refine E1 (lu hT hC' hm hC c _ _ _ _ _ hp (fun e s' hq=>?_) h);cases e with
    |normal=>exact hQ _ _ hq
    | exit id' =>
      simp only[Ha]at hq;simp only[n9]
      cases hid:id'==id with
      |true=>rw[hid,cond_true]at hq;rw[if_pos (eq_of_beq hid)];exact hQ _ _ hq
      |false=>rw[hid,cond_false]at hq;rw[if_neg (by simpa using hid)];exact hQ _ _ hq
    |ret=>exact hQ _ _ hq
 | .loop c,R,Q,Q',s,r,hp,hQ,h=>by
   have hp:jB T pl c=ad:=hp;unfold dY at h;split at h
   ·rename_i p hi
    let f:p.Den->Option (p.Den⊕R):=fun x=>dY T C pl N iv c (p.Den⊕R) (vX (j9 N p fun z=>U (.inl z)) Q) (dW N p x)
    let J:Nat->St->Prop:=fun n st=>∃x,st=eS (dW N p x)/\gM f n x=U r
    refine MG J (sw h fun x hx=>?_) ?_
    ·obtain⟨n,hn⟩:=vU hx;exact⟨n,x,rfl,hn⟩
    ·rintro n st ⟨x,rfl,hn⟩;cases n with
     |zero=>cases hn
     | succ n=>
       simp only[gM]at hn
       have hb:∀z,f x=U z->(∀z',z = .inl z'->gM f n z'=U r)->(∀r',z = .inr r'->r'=r) ->
         sp P c (lR (gK fun s'=>∃n',n'<n+1/\J n' s') Q') (eS (dW N p x)):=by
        intro z hz h1 h2;refine lu hT hC' hm hC c _ _ _ _ z hp (fun e s' hq=>?_) hz;cases e with
        | normal=>
          refine sw hq fun z' hz'=>?_
          simp only[aK]at hz';exact⟨n,Nat.lt_succ_self n,z',rfl,h1 z' hz'.symm⟩
        | exit id=>
          obtain⟨r',hr,hq'⟩:=qb hq;rw[h2 r' hr]at hq';exact hQ _ _ hq'
        | ret=>
          obtain⟨r',hr,hq'⟩:=qb hq;rw[h2 r' hr]at hq';exact hQ _ _ hq'
       split at hn
       ·rename_i x' hx';exact hb _ hx' (fun z' hz=>by cases hz;exact hn) (fun r' hr=>by cases hr)
       ·rename_i y hy;simp only[aK]at hn;exact hb _ hy (fun z' hz=>by cases hz) (fun r' hr=>by cases hr;exact hn)
       ·cases hn
   ·cases h
 |.exit id,R,Q,Q',s,r,_,hQ,h=>Mi (hQ _ _ h)
 |.ret,R,Q,Q',s,r,_,hQ,h=>Mj (hQ _ _ h)
 |.rangeFunc ..,_,_,_,_,_,_,_,h=>by simp only[dY]at h;cases h
 |.scope _,_,_,_,_,_,_,_,h=>by simp only[dY]at h;cases h
 |.label _,_,_,_,_,_,_,_,h=>by simp only[dY]at h;cases h
 |.goto _,_,_,_,_,_,_,_,h=>by simp only[dY]at h;cases h
 |.refuse _,_,_,_,_,_,_,_,h=>by simp only[dY]at h;cases h
end
end Go.TM
end
