/- Part 20 of the proof of FnTidyAll; no condition. -/
import Derived.Test.YtmjlecabpbiigaaGreatX18
open Option renaming some -> U
open Decidable renaming decide -> aa
open Bool renaming true -> ae
open Bool renaming false -> ag
open Option renaming none -> aj
open Sum renaming inr -> an
open Sum renaming inl -> ao
open List renaming length -> au
open Int renaming toNat -> aw
open List renaming drop -> cU
open List renaming take -> de
set_option autoImplicit true
set_option relaxedAutoImplicit true
set_option linter.all false
section
namespace Go.TM
open Go.AM
section
variable {R:Type}
abbrev zGQ:=(R:Type)->nw R
def sQ (ops:Array Oper)(o:Oper)(s:TS)(yes no:TS->Option R):Option R:=match o.guard with
 |none=>yes s
 | some (j,w)=>match(ops[j]?).bind (·.dst)with
   | some d=>match cQ s d with
     |.sk=>no s
     | .b x=>(match w with
       |true=>ai x (yes (dk s d (.b ae))) (no (dk s d (.b ag)))
       |false=>ai x (no (dk s d (.b ae))) (yes (dk s d (.b ag))))
     |_=>aj
   |none=>aj
noncomputable def BN (T:Nat->TI)(C:nw R)(o:Oper)(K:TS->Option R)(s:TS):Option R:=match o.op with
 | .makeSlice t l c=>(match(T t).kind with
   | .slice e=>(match gt T 8 e with
     | some g=>(match g.flat with
       |true=>bZ T C o s K
       | false=>(match bp s l,bp s c with
         |.i .i64 n,.i .i64 m=>aX ((T e).known&&bZ.eqSVs (jo T (flat T 4 e) (T e).zero) (aO ae g g.dflt)&&g.sz==(T e).size) (af (aa (n=m)&&aa (0<=n)&&aa (n<=9223372036854775807)&&aa (n*(T e).bytes<=140737488355328)) (K (bB s o.dst (.own g ae (List.replicate n.toNat g.dflt)))))
         |_,_=>aj))
     |none=>aj)
   |_=>aj)
 |_=>bZ T C o s K
noncomputable def BO (T:Nat->TI)(C:nw R)(gz:List Nat)(o:Oper)(K:TS->Option R)(s:TS):Option R:=sJ T gz o (BN T C o K) s
noncomputable def qp (T:Nat->TI)(C:zGQ)(gz:List Nat)(ops:Array Oper):List Oper->(TS->Option R)->TS->Option R
 |[],K,s=>K s
 |o::rest,K,s=>sQ ops o s (BO T (C R) gz o (qp T C gz ops rest K)) (vN o.dst (qp T C gz ops rest K))
noncomputable def qq (T:Nat->TI)(C:zGQ)(gz:List Nat)(ops:Array Oper)(o:Oper)(K:TS->Option R)(s:TS):Option R:=sQ ops o s (BO T (C R) gz o K) (vN o.dst K)
noncomputable def oZ (T:Nat->TI)(C:zGQ)(gz:List Nat)(ops:Array Oper):List Nat->(TS->Option R)->TS->Option R
 |[],K,s=>K s
 | i::l,K,s=>match ops[i]? with
   |some o=>qq T C gz ops o (oZ T C gz ops l K) s
   |none=>aj
def sS (row:List V):Nat->Nat->Bool
 |0,_=>ae
 |n+1,j=>!eJ (dE row j)&&sS row n (j+1)
def BP (T:Nat->TI)(o:Oper)(s:TS):Bool:=match o.op with
 |.move x=>!eJ (bp s x)
 |.pick _ a b=>!eJ (bp s a)&&!eJ (bp s b)
 |.nilCheck _|.unOp .. | .binOp .. | .fieldAddr .. | .field .. | .index .. | .makeFunc .. | .convert .. => ae
 |.build _ ps=>!ml (hJ s (cx ps))
 | .load t a=>match bp s a with
   |.ro _=>ae
   | .p o i off=>match bb s.ob o with
     | some (.box _ cs)=>(match i with
       |0=>sS cs (T t).size off
       |_+1=>ag)
     |some (.arr _ _ _ _)=>!vD (T t).kind
     |some (.opn _ _ _ _ _ cs)=>sS cs (T t).size off
     |_=>ag
   |_=>ag
 | .slice _ x _ _ _=>match bp s x with
   |.s _|.sl _ _|.nil=>ae
   |_=>ag
 | .indexAddr _ x _=>match bp s x with
   |.sl _ _|.ar _=>ae
   |_=>ag
 | .extract x j=>match x with
   | .tmp t=>match cQ s t with
     |.tup vs=>!eJ (dE vs j)
     |_=>ag
   |_=>ag
 | .call c=>match c.callee with
   |.builtin .len=>ae
   |_=>ag
 |_=>ag
def OT (d:Option Tmp)(s s':TS):Bool:=match d with
 |some t=>wo (cQ s' t) (cQ s t)
 |none=>ae
def BQ (o:Oper)(s:TS)(K:Option Unit):Option Unit:=match o.op with
 | .load _ a=>match bp s a with
   | .p ob i _=>match bb s.ob ob with
     |some (.opn _ _ _ l j _)=>af (aa (i=j)&&aa (j<l.length)) K
     |_=>K
   |_=>K
 |_=>K
def HM (o:Oper)(s:TS):Prop:=∀t a ob i off n g d l j cs,o.op = .load t a->bp s a = .p ob i off->bb s.ob ob=U (.opn n g d l j cs)->i=j/\j<l.length
def OU {o:Oper}{s:TS}{K:Option Unit}(h:BQ o s K=U ()):K=U ()/\HM o s:=by
 unfold BQ at h;split at h
 ·rename_i t a ho;split at h
  ·rename_i ob i off hv;split at h
   ·rename_i n g d l j cs hg;obtain⟨h1,h2⟩:=cR h;simp only[aK,aL]at h1;refine⟨h2,fun t' a' ob' i' off' n' g' d' l' j' cs' ho' hv' hg'=>?_⟩;rw[ho]at ho';cases ho';rw[hv]at hv';cases hv';rw[hg]at hg';cases hg';exact h1
   ·rename_i hne;refine⟨h,fun t' a' ob' i' off' n' g' d' l' j' cs' ho' hv' hg'=>?_⟩;rw[ho]at ho';cases ho';rw[hv]at hv';cases hv';exact absurd hg' (hne _ _ _ _ _ _)
  ·rename_i hne;refine⟨h,fun t' a' ob' i' off' n' g' d' l' j' cs' ho' hv' hg'=>?_⟩;rw[ho]at ho';cases ho';exact absurd hv' (hne _ _ _)
 ·rename_i hne;exact⟨h,fun t' a' ob' i' off' n' g' d' l' j' cs' ho' hv' hg'=>absurd ho' (hne _ _)⟩
noncomputable def HN (T:Nat->TI)(C:zGQ)(o:Oper)(s:TS):Option Unit:=aX (BP T o s) (BQ o s (bZ T (C Unit) o s fun s'=>af (OT o.dst s s') (U ())))
def BR (d:Option Tmp)(s:TS):Option Unit:=match d with
 |some t=>(match cQ s t with|.sk=>U ()|_=>aj)
 |none=>U ()
noncomputable def qs (T:Nat->TI)(C:zGQ)(ops:Array Oper):List Nat->TS->Option Unit
 |[],_=>U ()
 | i::l,s=>match ops[i]? with
   |some o=>ak (sQ ops o s (HN T C o) (BR o.dst)) (qs T C ops l s)
   |none=>aj
noncomputable def o6 (T:Nat->TI)(C:zGQ)(gz:List Nat)(ops:Array Oper)(K:TS->Option R):a_->TS->Option R
 |.fin,s=>K s
 | .br e _ rc fs sub alt,s=>match alt with
   | .fin=>(match ops[e]? with
     |some o=>qq T C gz ops o (fun s1=>ak (qs T C ops rc s1) (oZ T C gz ops fs (o6 T C gz ops K sub) s1)) s
     |none=>aj)
   | alt=>ca (match ops[e]? with
     |some o=>qq T C gz ops o (fun s1=>ak (qs T C ops rc s1) (oZ T C gz ops fs (o6 T C gz ops K sub) s1)) s
     |none=>aj) (o6 T C gz ops K alt s)
def BS (s:TS)(c:Operand)(b:Bool):TS:=match c with
 |.tmp t=>dk s t (.b b)
 |_=>s
end
def OV {R:Type}(next:TS->Option R)(Q:AX->TS->Option R):AX->TS->Option R
 |.normal,s=>next s
 |.exit id,s=>Q (.exit id) s
 |.ret,s=>Q .ret s
def HO {R:Type}(id:Nat)(Q:AX->TS->Option R):AX->TS->Option R
 |.normal,s=>Q .normal s
 |.exit id',s=>bif id'==id then Q .normal s else Q (.exit id') s
 |.ret,s=>Q .ret s
def wt {Y R:Type}(next:TS->Option (Y⊕R))(Q:AX->TS->Option R):AX->TS->Option (Y⊕R)
 |.normal,s=>next s
 |.exit id,s=>iD (Q (.exit id) s)
 |.ret,s=>iD (Q .ret s)
def BT {Y R:Type}(id:Nat)(next:TS->Option (Y⊕R))(Q:AX->TS->Option R):AX->TS->Option (Y⊕R)
 |.normal,s=>next s
 |.exit id',s=>bif id'==id then next s else iD (Q (.exit id') s)
 |.ret,s=>iD (Q .ret s)
noncomputable def ed (T:Nat->TI)(C:zGQ)(pl:Nat->List Nat×a_)(N:Nat)(iv:Nat->Option SPat):Code->(R:Type)->(AX->TS->Option R)->TS->Option R
 |.skip,_,Q,s=>Q .normal s
 | .region id ops draw,_,Q,s=>match draw with
   |false=>qp T C (pl (3000000+id)).1 ops ops.toList (Q .normal) s
   |true=>oZ T C (pl (3000000+id)).1 ops (pl id).1 (o6 T C (pl (3000000+id)).1 ops (Q .normal) (pl id).2) s
 | .seq x y,R,Q,s=>match iv (1000000+lC y)with
   |some p=>bindE (ed T C pl N iv x (p.Den⊕R) (wt (km N p fun z=>U (.inl z)) Q) s) fun z=>ed T C pl N iv y R Q (eb N p z)
   |none=>ed T C pl N iv x R (OV (ed T C pl N iv y R Q) Q) s
 | .cond c x y,R,Q,s=>match bp s c with
   |.b t=>ai t (ed T C pl N iv x R Q (BS s c ae)) (ed T C pl N iv y R Q (BS s c ag))
   |_=>aj
 | .block id c,R,Q,s=>match iv (2000000+id)with
   |some p=>bindE (ed T C pl N iv c (p.Den⊕R) (BT id (km N p fun z=>U (.inl z)) Q) s) fun z=>Q .normal (eb N p z)
   |none=>ed T C pl N iv c R (HO id Q) s
 | .loop c,R,Q,s=>match iv (lC c)with
   |some p=>km N p (fun x0=>aE (fun x=>ed T C pl N iv c (p.Den⊕R) (wt (km N p fun z=>U (.inl z)) Q) (eb N p x)) x0) s
   |none=>aj
 |.exit id,_,Q,s=>Q (.exit id) s
 |.ret,_,Q,s=>Q .ret s
 |_,_,_,_=>aj
def lI (C:zGQ)(C':zAz):Prop:=∀(R:Type) f xs d s (K:TS->Option R) (K':St->Prop) (r:R),(∀s,K s=U r->K' (eS s))->C R f xs d s K=U r->C' f xs d (eS s) K'
section
variable {P:Program}{R:Type}{T:Nat->TI}{C:zGQ}{gz:List Nat}{C':zAz}{o:Oper}{ops:Array Oper}{s:TS}{K:TS->Option R}{K':St->Prop}{r:R}
def BU {yes no:TS->Option R}{yes' no':St->Prop}(hy:∀ s,yes s=U r->yes' (eS s))(hn:∀ s,no s=U r->no' (eS s))(h:sQ ops o s yes no=U r):jO ops o (eS s) yes' no':=by
 unfold sQ at h;unfold jO;split at h
 ·rename_i hg;rw[hg];exact hy _ h
 ·rename_i j w hg;rw[hg];simp only
  split at h
  ·rename_i d hd;rw[hd];simp only
   rw[i6];split at h
   ·rename_i hv;rw[hv];exact hn _ h
   ·rename_i x hv;rw[hv];simp only[e]
    have hs:∀b:Bool,b_ (eS s) d (SV.b b)=eS (dk s d (.b b)):=fun b=>fJ d (.b b)
    split at h
    ·rcases AO h with⟨hx,h⟩|⟨hx,h⟩
     ·subst hx;rw[hs];exact hy _ h
     ·subst hx;rw[hs,hs];exact hn _ h
    ·rcases AO h with⟨hx,h⟩|⟨hx,h⟩
     ·subst hx;rw[hs,hs];exact hn _ h
     ·subst hx;rw[hs];exact hy _ h
   ·cases h
  ·cases h
def HP (ks:List TK)(row:List SV):∀n:Nat,mZ T ks (List.replicate n row)=List.replicate n (jo T ks row)
 |0=>rfl
 |n+1=>by simp only[List.replicate_succ,mZ,HP ks row n]
def OW (hC:lI C C')(hK:∀ s,K s=U r->K' (eS s))(h:BN T (C R) o K s=U r):bO T C' o (eS s) (gK K'):=by
 have plain:bZ T (C R) o s K=U r->bO T C' o (eS s) (gK K'):=fun h=>Hb (hC R) (fun _ h=>d_ (hK _ h)) h
 unfold BN at h;split at h
 ·rename_i t x y ho;split at h
  ·rename_i t' hk;split at h
   ·rename_i g hg;split at h
    ·exact plain h
    ·split at h
     ·rename_i n m hx hy;obtain⟨h1,h2⟩:=bj h;obtain⟨h3,h4⟩:=cR h2;simp only[aK,aL]at h1 h3;simp only[bO,a9,ho]
      rw[bV,bV,hk,hx,hy];simp only[e]
      refine⟨h1.1.1,h3.1.1.1,h3.1.1.2,h3.1.2,h3.2,?_⟩;refine Fk (y:=.own (T t').size (mZ T (AM.flat T 4 t') (List.replicate n.toNat (T t').zero))) (fun w G v f hr=>AM.R.own_wk (Am _ _) hr) ?_;have:=bP (s:=s) o.dst (.own g ae (List.replicate n.toNat g.dflt));simp only[e,List.map_replicate]at this;rw[HP,Ba _ _ h1.1.2,<-eq_of_beq h1.2];rw[this];exact hK _ h4
     ·cases h
   ·cases h
  ·cases h
 ·exact plain h
def HQ (hC:lI C C')(hK:∀ s,K s=U r->K' (eS s))(h:BO T (C R) gz o K s=U r):AX.stepX T C' o K' (eS s) :=
 OR h fun _ h=>d_ (OW hC hK h)
def BV (hC:lI C C'):∀(l:List Oper) {s:TS},(∀s,K s=U r->K' (eS s))->qp T C gz ops l K s=U r->AX.opsX T C' ops l K' (eS s)
 |[],s,hK,h=>hK _ h
 | o::l,s,hK,h=>by
   unfold qp at h;unfold AX.opsX;refine BU (fun s h=>?_) (fun s h=>?_) h
   ·exact HQ hC (fun s h=>BV hC l hK h) h
   ·exact su (K:=qp T C gz ops l K) (fun s h=>BV hC l hK h) s h
def HR (hC:lI C C')(hK:∀ s,K s=U r->K' (eS s))(h:qq T C gz ops o K s=U r):AX.gstep T C' ops o K' (eS s):=by
 unfold qq at h;unfold AX.gstep;refine BU (fun s h=>?_) (fun s h=>?_) h
 ·exact HQ hC hK h
 ·exact su hK s h
def BW (hC:lI C C'):∀(l:List Nat) {s:TS},(∀s,K s=U r->K' (eS s))->oZ T C gz ops l K s=U r->AX.flK T C' ops l K' (eS s)
 |[],s,hK,h=>hK _ h
 | i::l,s,hK,h=>by
   unfold oZ at h;unfold AX.flK;split at h
   ·rename_i o ho;rw[ho];exact HR hC (fun s h=>BW hC l hK h) h
   ·cases h
mutual
def HS:∀x:SV,rV x x
 |.i k n=>bG (decide_eq_true rfl) rfl
 |.b _=>rfl
 |.s _=>rfl
 |.sl k _=>bG (beq_self_eq_true k) rfl
 |.ar a=>bG (beq_self_eq_true a) trivial
 |.p a b c=>bG (by simp) trivial
 |.ro c=>BX c
 |.agg c=>BX c
 |.u|.sk|.own _ _|.nilp|.nil|.fn _ _|.tup _=>rfl
def BX:∀x:List SV,rW x x
 |[]=>trivial
 |x::l=>⟨HS x,BX l⟩
end
def BY:∀(row:List V) (n j:Nat),nd (eL row) n j=sS row n j
 |row,0,j=>rfl
 |row,n+1,j=>by simp only[nd,sS,<-jv,iB,BY row n (j+1)]
def OX (h:BP T o s=ae)(hr:HM o s):rU T o (eS s)=ae:=by
 unfold BP at h;unfold rU;cases ho:o.op<;>rw[ho]at h<;>simp only at h ⊢<;>try (cases h;done)
 case move x=>rw[bV,iB];exact h
 case pick c x y=>rw[bV,bV,iB,iB];exact h
 case build t ps=>rw[A_,oM];exact h
 case load t a=>
  rw[bV];split at h
  ·rename_i hv;rw[hv];rfl
  ·rename_i ob i off hv;rw[hv];simp only[e]
   split at h
   ·rename_i n cs hg;rw[jV hg];simp only
    cases i with
    |zero=>simp only[List.getElem?_cons_zero];rw[BY];exact h
    |succ i=>cases h
   ·rename_i n g d l hg;rw[jw hg];simp only
    cases hk:(T t).kind<;>first|rfl|(rw[hk]at h;cases h)
   ·rename_i n g d l j cs hg;obtain⟨h1,h2⟩:=hr _ _ _ _ _ _ _ _ _ _ _ ho hv hg;subst h1;rw[i7 hg];simp only[lF h2,BY]
    exact h
   ·cases h
  ·cases h
 case slice t x lo hi mx=>
  rw[bV];split at h
  ·rename_i hv;rw[hv];rfl
  ·rename_i hv;rw[hv];rfl
  ·rename_i hv;rw[hv];rfl
  ·cases h
 case indexAddr t x i=>
  rw[bV];split at h
  ·rename_i hv;rw[hv];rfl
  ·rename_i hv;rw[hv];rfl
  ·cases h
 case extract x j=>
  split at h
  ·simp only
   rw[i6];split at h
   ·rename_i hv;rw[hv];simp only[e];rw[<-jv,iB];exact h
   ·cases h
  ·cases h
 case call c=>
  split at h
  ·rename_i hc;rw[hc]
  ·cases h
def OY (hC:lI C C')(h:HN T C o s=U ()):p9 T C' o (eS s):=by
 obtain⟨h1,h2⟩:=bj h;obtain⟨h2,hr⟩:=OU h2;unfold p9 uY;refine bG (OX h1 hr) (Hb (hC Unit) (fun s' h3=>?_) h2);obtain⟨h4,_⟩:=cR h3;cases hd:o.dst with
 | some t=>
   rw[hd]at h4;show rV (bx (eS s').env t) (bx (eS s).env t);rw[i6,i6,HL _ _ h4];exact HS _
 |none=>trivial
def OZ {d:Option Tmp}(h:BR d s=U ()):oE d (eS s):=by
 unfold BR at h;unfold oE;split at h
 ·simp only
  rw[i6];split at h
  ·rename_i hv;rw[hv];trivial
  ·cases h
 ·trivial
def HT (hC:lI C C'):∀(l:List Nat) {s:TS},qs T C ops l s=U ()->AX.rcK T C' ops l (eS s)
 |[],s,h=>trivial
 | i::l,s,h=>by
   unfold qs at h;unfold AX.rcK;split at h
   ·rename_i o ho;rw[ho];obtain⟨h1,h2⟩:=HK h;exact⟨BU (fun s h=>OY hC h) (fun s h=>OZ h) h1,HT hC l h2⟩
   ·cases h
def BZ (hC:lI C C')(hK:∀ s,K s=U r->K' (eS s)):∀(p:a_) {s:TS},o6 T C gz ops K p s=U r->AX.planK T C' ops K' p (eS s)
 |.fin,s,h=>hK _ h
 | .br e pr rc fs sub alt,s,h=>by
   have step:∀{s:TS},(match ops[e]? with
     |some o=>qq T C gz ops o (fun s1=>ak (qs T C ops rc s1) (oZ T C gz ops fs (o6 T C gz ops K sub) s1)) s
     |none=>aj)=U r->(match ops[e]? with
     |some o=>AX.gstep T C' ops o (AX.rfK T C' ops rc fs (AX.planK T C' ops K' sub)) (eS s)
     |none=>False):=by
    intro s h;split at h
    ·rename_i o ho;refine HR hC (fun s h=>?_) h;obtain⟨h1,h2⟩:=HK h;exact⟨HT hC rc h1,BW hC fs (fun s h=>BZ hC hK sub h) h2⟩
    ·cases h
   unfold o6 at h;unfold AX.planK;split at h
   ·exact⟨step h,trivial⟩
   ·rename_i hn;obtain⟨h1,h2⟩:=GJ h;refine⟨step h1,?_⟩;split
    ·trivial
    ·exact BZ hC hK alt h2
def HU (s:TS)(c:Operand)(b:Bool):r_ (eS s) c b=eS (BS s c b):=by
 cases c with
 |tmp t=>exact fJ t (.b b)
 |_=>rfl
def sT (id:Nat)(G:St->Prop)(Q':AQ):AQ
 |.normal,st=>G st
 |.exit id',st=>if id'=id then G st else Q' (.exit id') st
 |.ret,st=>Q' .ret st
def lJ {pl:Nat->List Nat×a_}{N:Nat}{iv:Nat->Option SPat}(hT:bU P T)(hC':lA P C')(hm:P.follows .mixedOrders=ae)(hC:lI C C') :
  ∀(c:Code) (R:Type) (Q:AX->TS->Option R) (Q':AQ) (s:TS) (r:R),jS T pl c=ae->(∀x s,Q x s=U r->Q' x (eS s))->ed T C pl N iv c R Q s=U r->sp P c Q' (eS s)
 |.skip,R,Q,Q',s,r,_,hQ,h=>M9 (hQ _ _ h)
 |.region id ops ag,R,Q,Q',s,r,_,hQ,h=>AX.sp_regionX hT hC' (BV hC _ (hQ .normal) h)
 |.region id ops ae,R,Q,Q',s,r,hp,hQ,h=>AX.sp_draw hT hC' hm hp (BW hC _ (fun s h=>BZ hC (hQ .normal) _ h) h)
 | .seq x y,R,Q,Q',s,r,hp,hQ,h=>by
   simp only[jS,aK]at hp;unfold ed at h;split at h
   ·rename_i p hi
    have hx:∀z,ed T C pl N iv x (p.Den⊕R) (wt (km N p fun z=>U (.inl z)) Q) s=U z->(∀z',z = .inl z'->ed T C pl N iv y R Q (eb N p z')=U r)->(∀r',z = .inr r'->r'=r) ->
      sp P x (mc (fun st=>gK (fun st=>∃z',st=eS (eb N p z')/\ed T C pl N iv y R Q (eb N p z')=U r) st) Q') (eS s):=by
     intro z hz h1 h2;refine lJ hT hC' hm hC x _ _ _ s z hp.1 (fun e s' hq=>?_) hz;cases e with
     | normal=>
       refine sP hq fun z' hz'=>?_
       simp only[aF]at hz';exact⟨z',rfl,h1 z' hz'.symm⟩
     | exit id=>
       obtain⟨r',hr,hq'⟩:=qo hq;rw[h2 r' hr]at hq';exact hQ _ _ hq'
     | ret=>
       obtain⟨r',hr,hq'⟩:=qo hq;rw[h2 r' hr]at hq';exact hQ _ _ hq'
    have hx':sp P x (mc (fun st=>gK (fun st=>∃z',st=eS (eb N p z')/\ed T C pl N iv y R Q (eb N p z')=U r) st) Q') (eS s):=by
     rcases HJ h with⟨z,h1,h2⟩|h1
     ·exact hx _ h1 (fun z' hz=>by cases hz;exact h2) (fun r' hr=>by cases hr)
     ·exact hx _ h1 (fun z' hz=>by cases hz) (fun r' hr=>by cases hr;rfl)
    refine Fz (Ap hx' fun e st hq=>?_);cases e with
    | normal=>
      refine Nc (nb hq ?_);rintro st ⟨z',rfl,h3⟩;exact lJ hT hC' hm hC y _ _ _ _ _ hp.2 hQ h3
    |_=>exact hq
   ·refine Fz (lJ hT hC' hm hC x _ _ _ _ _ hp.1 (fun e s' hq=>?_) h);cases e with
    |normal=>exact lJ hT hC' hm hC y _ _ _ _ _ hp.2 hQ hq
    |exit id=>exact hQ _ _ hq
    |ret=>exact hQ _ _ hq
 | .cond c x y,R,Q,Q',s,r,hp,hQ,h=>by
   simp only[jS,aK]at hp;unfold ed at h;split at h
   ·rename_i t hv;have hc:AM.ev (eS s).env c = .b t:=by rw[bV,hv];rfl
    refine Nb hc (fun ht=>?_) (fun ht=>?_)
    ·subst ht;have:=lJ hT hC' hm hC x _ _ _ _ _ hp.1 hQ h;rw[<-HU,Gj hc]at this;exact this
    ·subst ht;have:=lJ hT hC' hm hC y _ _ _ _ _ hp.2 hQ h;rw[<-HU,Gj hc]at this;exact this
   ·cases h
 | .block id c,R,Q,Q',s,r,hp,hQ,h=>by
   have hp:jS T pl c=ae:=hp;unfold ed at h;split at h
   ·rename_i p hi
    have hx:∀z,ed T C pl N iv c (p.Den⊕R) (BT id (km N p fun z=>U (.inl z)) Q) s=U z->(∀z',z = .inl z'->Q .normal (eb N p z')=U r)->(∀r',z = .inr r'->r'=r) ->
      sp P c (sT id (gK fun st=>∃z',st=eS (eb N p z')/\Q .normal (eb N p z')=U r) Q') (eS s):=by
     intro z hz h1 h2;refine lJ hT hC' hm hC c _ _ _ s z hp (fun e s' hq=>?_) hz
     have hn:∀{s'},km N p (fun z=>U (Sum.inl z)) s'=U z->gK (fun st=>∃z',st=eS (eb N p z')/\Q .normal (eb N p z')=U r) (eS s'):=by
      intro s' hq;refine sP hq fun z' hz'=>?_
      simp only[aF]at hz';exact⟨z',rfl,h1 z' hz'.symm⟩
     cases e with
     |normal=>exact hn hq
     | exit id' =>
       simp only[BT]at hq;cases hid:id'==id with
       | true=>
         rw[hid,cond_true]at hq;simp only[sT,eq_of_beq hid,if_true]
         exact hn hq
       | false=>
         rw[hid,cond_false]at hq;obtain⟨r',hr,hq'⟩:=qo hq;rw[h2 r' hr]at hq';have:¬id'=id:=by simpa using hid
         simp only[sT,this,if_false]
         exact hQ _ _ hq'
     | ret=>
       obtain⟨r',hr,hq'⟩:=qo hq;rw[h2 r' hr]at hq';exact hQ _ _ hq'
    have hx':sp P c (sT id (gK fun st=>∃z',st=eS (eb N p z')/\Q .normal (eb N p z')=U r) Q') (eS s):=by
     rcases HJ h with⟨z,h1,h2⟩|h1
     ·exact hx _ h1 (fun z' hz=>by cases hz;exact h2) (fun r' hr=>by cases hr)
     ·exact hx _ h1 (fun z' hz=>by cases hz) (fun r' hr=>by cases hr;rfl)
    have hg:∀{st},gK (fun st=>∃z',st=eS (eb N p z')/\Q .normal (eb N p z')=U r) st->gK (Q' .normal) st:=fun hq=>nb hq fun st ⟨z',h1,h2⟩=>by rw[h1];exact hQ _ _ h2
    have hx2:sp P c (oz id fun e st=>match e with|.normal=>gK (Q' .normal) st|e=>Q' e st) (eS s):=by
     refine Ap hx' fun e st hq=>?_
     cases e with
     |normal=>exact hg hq
     | exit id' =>
       simp only[sT,oz]at hq ⊢;by_cases hid:id'=id
       ·rw[if_pos hid]at hq ⊢;exact hg hq
       ·rw[if_neg hid]at hq ⊢;exact hq
     |ret=>exact hq
    intro w0 w L a G hs;refine wp_mono (FA hx2 w0 w L a G hs) fun e a' w' hq=>?_
    cases e with
    |normal=>exact Nx.gK hq
    |_=>exact hq
   ·refine FA (lJ hT hC' hm hC c _ _ _ _ _ hp (fun e s' hq=>?_) h);cases e with
    |normal=>exact hQ _ _ hq
    | exit id' =>
      simp only[HO]at hq;simp only[oz]
      cases hid:id'==id with
      |true=>rw[hid,cond_true]at hq;rw[if_pos (eq_of_beq hid)];exact hQ _ _ hq
      |false=>rw[hid,cond_false]at hq;rw[if_neg (by simpa using hid)];exact hQ _ _ hq
    |ret=>exact hQ _ _ hq
 | .loop c,R,Q,Q',s,r,hp,hQ,h=>by
   have hp:jS T pl c=ae:=hp;unfold ed at h;split at h
   ·rename_i p hi
    let f:p.Den->Option (p.Den⊕R):=fun x=>ed T C pl N iv c (p.Den⊕R) (wt (km N p fun z=>U (.inl z)) Q) (eb N p x)
    let J:Nat->St->Prop:=fun n st=>∃x,st=eS (eb N p x)/\hM f n x=U r
    refine Nz J (sP h fun x hx=>?_) ?_
    ·obtain⟨n,hn⟩:=wm hx;exact⟨n,x,rfl,hn⟩
    ·rintro n st ⟨x,rfl,hn⟩;cases n with
     |zero=>cases hn
     | succ n=>
       simp only[hM]at hn
       have hb:∀z,f x=U z->(∀z',z = .inl z'->hM f n z'=U r)->(∀r',z = .inr r'->r'=r) ->
         sp P c (mc (gK fun s'=>∃n',n'<n+1/\J n' s') Q') (eS (eb N p x)):=by
        intro z hz h1 h2;refine lJ hT hC' hm hC c _ _ _ _ z hp (fun e s' hq=>?_) hz;cases e with
        | normal=>
          refine sP hq fun z' hz'=>?_
          simp only[aF]at hz';exact⟨n,Nat.lt_succ_self n,z',rfl,h1 z' hz'.symm⟩
        | exit id=>
          obtain⟨r',hr,hq'⟩:=qo hq;rw[h2 r' hr]at hq';exact hQ _ _ hq'
        | ret=>
          obtain⟨r',hr,hq'⟩:=qo hq;rw[h2 r' hr]at hq';exact hQ _ _ hq'
       split at hn
       ·rename_i x' hx';exact hb _ hx' (fun z' hz=>by cases hz;exact hn) (fun r' hr=>by cases hr)
       ·rename_i y hy;simp only[aF]at hn;exact hb _ hy (fun z' hz=>by cases hz) (fun r' hr=>by cases hr;exact hn)
       ·cases hn
   ·cases h
 |.exit id,R,Q,Q',s,r,_,hQ,h=>M_ (hQ _ _ h)
 |.ret,R,Q,Q',s,r,_,hQ,h=>Na (hQ _ _ h)
 |.rangeFunc ..,_,_,_,_,_,_,_,h=>by simp only[ed]at h;cases h
 |.scope _,_,_,_,_,_,_,_,h=>by simp only[ed]at h;cases h
 |.label _,_,_,_,_,_,_,_,h=>by simp only[ed]at h;cases h
 |.goto _,_,_,_,_,_,_,_,h=>by simp only[ed]at h;cases h
 |.refuse _,_,_,_,_,_,_,_,h=>by simp only[ed]at h;cases h
end
end Go.TM
end
