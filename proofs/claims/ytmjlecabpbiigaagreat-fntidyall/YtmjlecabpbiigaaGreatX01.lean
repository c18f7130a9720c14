/- Part 2 of the proof of FnTidyAll; no condition. -/
import Derived.Test.YtmjlecabpbiigaaGreatX00
import Derived.Lib.ConvBytes
open Option renaming some -> U
open Decidable renaming decide -> aa
open Bool renaming true -> ae
open Bool renaming false -> ag
open Option renaming none -> aj
open Sum renaming inr -> an
open Sum renaming inl -> ao
open List renaming length -> au
open Int renaming toNat -> aw
open List renaming drop -> cU
open List renaming take -> de
set_option autoImplicit true
set_option relaxedAutoImplicit true
set_option linter.all false
section
namespace Go.AM
section
variable {P:Program}{T:Nat->TI}{C:zAz}{w0 w w':World}{L:Lv}{st st1:St}{a:Act}{G G':Gh}{fE fO fX fV:FP}{o:Oper}{K:St->Prop}{Q:Exit->Act->World->Prop}{v:Value}{sv:SV}
def bU.und (hT:bU P T){t:Nat}(hk:(T t).kind ≠ .other):∃d,P.underlying t=U d/\lz d (T t).kind:=by
 obtain⟨i,z,d,_,_,_,_,_,_,_,_,_,hd,hk,_⟩:=hT.ok t (hT.kk t hk);exact⟨d,hd,hk⟩
def bU.slice (hT:bU P T){t e:Nat}(hk:(T t).kind = .slice e):P.underlying t=U (.slice e):=by
 obtain⟨d,hd,hkd⟩:=hT.und (t:=t) (by rw[hk];simp);rw[hk]at hkd;simp only[lz]at hkd;rw[hd,hkd]
def bU.str (hT:bU P T){t:Nat}(hk:(T t).kind = .str):P.underlying t=U .string:=by
 obtain⟨d,hd,hkd⟩:=hT.und (t:=t) (by rw[hk];simp);rw[hk]at hkd;simp only[lz]at hkd;rw[hd,hkd]
def bU.bool (hT:bU P T){t:Nat}(hk:(T t).kind = .bool):P.underlying t=U .bool:=by
 obtain⟨d,hd,hkd⟩:=hT.und (t:=t) (by rw[hk];simp);rw[hk]at hkd;simp only[lz]at hkd;rw[hd,hkd]
def bU.int (hT:bU P T){t:Nat}{k:IntKind}(hk:(T t).kind = .int k):P.underlying t=U (.int k):=by
 obtain⟨d,hd,hkd⟩:=hT.und (t:=t) (by rw[hk];simp);rw[hk]at hkd;simp only[lz]at hkd;rw[hd,hkd]
def bU.sizeOf (hT:bU P T){t:Nat}(hk:(T t).known=ae):∀w:World,(sizeOf t).run P w = .ok (T t).size w:=by
 obtain⟨i,z,d,hi,hs,_⟩:=hT.ok t hk;intro w;simp[Go.sizeOf,typeInfo,hi,hs]
def EJ {t:Nat}{D:TypeDesc}(hD:P.underlying t=U D)(w':World):(isAgg t).run P w' = .ok (rQ D) w':=by
 cases D<;>simp[isAgg,run_underlying hD,rQ]
def Aa {f g:FP}(h:zf=fun x=>f x+g x):f=zf/\g=zf :=
 ⟨by funext j;have:=bK h j;simp only[zf]at *;omega,by funext j;have:=bK h j;simp only[zf]at *;omega⟩
def ML (hT:bU P T){t:Nat}{x y:SV}{p:Bool}(h:lZ (T t).kind x y=U p){u v:Value}(hx:R w G x u zf)(hy:R w G y v zf)(d:Nat)(w':World) :
  (Op.equalIn (d+1) t u v).run P w' = .ok p w'/\∃D,P.underlying t=U D/\rQ D=ag/\(∀d,P.eqGuardType (d+1) t=ag):=by
 unfold lZ at h;split at h
 ·rename_i k0 k n1 k' n2 hk;have hu:=hT.int hk;split at h
  ·rename_i ek;subst ek;simp only[aF]at h;simp only[R]at hx hy;refine⟨?_,_,hu,rfl,fun d=>by simp[Go.Program.eqGuardType,hu]⟩;rw[hx.2,hy.2,run_equalIn_int w' d t k k0 n1 n2 hu,<-h];by_cases e:n1=n2<;>simp[e]
  ·simp at h
 ·rename_i n1 n2 hk;have hu:=hT.bool hk;simp only[aF]at h;simp only[R]at hx hy;refine⟨?_,_,hu,rfl,fun d=>by simp[Go.Program.eqGuardType,hu]⟩;rw[hx.2,hy.2,run_equalIn_bool' w' d t n1 n2 hu,<-h];cases n1<;>cases n2<;>rfl
 ·rename_i n1 n2 hk;have hu:=hT.str hk;simp only[aF]at h;simp only[R]at hx hy;refine⟨?_,_,hu,rfl,fun d=>by simp[Go.Program.eqGuardType,hu]⟩;rw[hx.2,hy.2,run_equalIn_string w' d t _ _ hu,<-h];simp only[ByteArray.toList_mk]
  by_cases e:n1=n2<;>simp[e]
 ·simp at h
def Ab (hT:bU P T)(d:Nat)(xs ys:Array Value):∀(fs:List Field) (n:Nat) (l m:List SV) (r:Bool) (w':World),
  gX T n (fs.map fun f=>(f.type,f.offset)) l m=U r->(∀f∈fs,f.name ≠ "_")->RL w G l (xs.toList.drop n) zf->RL w G m (ys.toList.drop n) zf ->
  (Op.eqFields (d+1) xs ys fs).run P w' = .ok r w'/\∀D,fs.any (fun f=>f.name != "_" && P.eqGuardType (D+1) f.type)=ag
 | [],n,l,m,r,w',hc,_,hl,hm=>by
   cases l<;>cases m<;>simp[gX]at hc;subst hc;simp[Op.eqFields]
 | f::fs,n,l,m,r,w',hc,hn,hl,hm=>by
   cases l with
   |nil=>simp[gX]at hc
   | cons x l=>
     cases m with
     |nil=>simp[gX]at hc
     | cons y m=>
       simp only[bF,gX]at hc;split at hc
       ·rename_i hoff;simp only[RL]at hl hm;obtain⟨u,us,f1,f2,hu,hxu,hl,hz1⟩:=hl;obtain⟨v,vs,g1,g2,hv,hyv,hm,hz2⟩:=hm;obtain⟨e1,e2⟩:=Aa hz1;obtain⟨e3,e4⟩:=Aa hz2;subst e1 e2 e3 e4
        have hxs:xs[n]? = U u:=by
         have:(xs.toList.drop n)[0]? = U u:=by rw[hu];rfl
         simpa using this
        have hys:ys[n]? = U v:=by
         have:(ys.toList.drop n)[0]? = U v:=by rw[hv];rfl
         simpa using this
        have hdx:xs.toList.drop (n+1)=us:=by rw[<-List.drop_drop,hu];rfl
        have hdy:ys.toList.drop (n+1)=vs:=by rw[<-List.drop_drop,hv];rfl
        cases hcb:lZ (T f.type).kind x y with
        |none=>rw[hcb]at hc;simp at hc
        | some p=>
          cases hcl:gX T (n+1) (fs.map fun f=>(f.type,f.offset)) l m with
          |none=>rw[hcb,hcl]at hc;simp at hc
          | some q=>
            rw[hcb,hcl]at hc;simp only[aF]at hc;obtain⟨ih,ihg⟩:=Ab hT d xs ys fs (n+1) l m q w' hcl (fun g hg=>hn g (by simp[hg])) (by rw[hdx];exact hl) (by rw[hdy];exact hm);have hname:f.name ≠ "_" := hn f (by simp);obtain⟨heq,D,hD,hagg,hgd⟩:=ML hT hcb hxu hyv d w';have hnot:(isAgg f.type).run P w' = .ok ag w':=by rw[EJ hD,hagg]
            have p1:(part f.type xs f.offset).run P w' = .ok u w':=by simp[part,hnot,hoff,hxs]
            have p2:(part f.type ys f.offset).run P w' = .ok v w':=by simp[part,hnot,hoff,hys]
            refine⟨?_,fun D=>by simp[List.any_cons,hgd D,ihg D]⟩;simp only[Op.eqFields,hname,ne_eq,not_false_eq_true,if_true,Sem.run_bind,p1,p2,heq,Result.andThen_ok,Sem.run_ite]
            subst hc;cases p<;>simp[ih]
       ·simp at hc
def uR {op:BinOp}{t ty e:TypeId}{x y:Operand}(ho:o.op = .binOp op t x y ty){p:Option Addr}{n m:Nat}(hx:a.eval x = .slice p n m)(ht:P.underlying t=U (.slice e))(hy:mY y=ae) :
  (op = .eql->(execOp a.eval o).run P w = .ok (.value (.bool p.isNone)) w)/\(op = .neq->(execOp a.eval o).run P w = .ok (.value (.bool !p.isNone)) w):=by
 have hy':a.eval y = .slice aj 0 0:=by
  unfold mY at hy;split at hy
  ·rfl
  ·simp at hy
 have hrun:=MJ (P:=P) (w:=w) ho hx;rw[hy']at hrun
 have heq0:∀d,(Op.equalIn (d+1) t (.slice p n m) (.slice aj 0 0)).run P w = .ok p.isNone w:=by
  intro d;cases p<;>simp[Op.equalIn,run_underlying ht]
 have heq:(Op.equalIn 10000 t (.slice p n m) (.slice aj 0 0)).run P w = .ok p.isNone w:=heq0 9999;refine⟨fun e=>?_,fun e=>?_⟩<;>subst e<;>rw[hrun]<;>simp only[binOp,Op.equal,Op.maxDepth,Sem.run_bind,heq,Result.andThen_ok,Sem.run_pure]
def EK (hT:bU P T){op:BinOp}{t ty:TypeId}{x y:Operand}(ho:o.op = .binOp op t x y ty)(h:SR w0 L st a.tmps w G)(hk:a9 T C o st K):Ow P T o a w (Nx w0 L a.defers K) Q:=by
 obtain⟨fE,fO,h⟩:=h;obtain⟨f1,h1,_⟩:=h.ev a rfl x;obtain⟨f2,h2,_⟩:=h.ev a rfl y;simp only[a9,ho]at hk;split at hk
 ·rename_i l m e1 e2;rw[e1]at h1;rw[e2]at h2;simp only[R]at h1 h2;obtain⟨xs,hx,hxs,hxr⟩:=h1;obtain⟨ys,hy,hys,hyr⟩:=h2;split at hk
  ·rename_i fs hkind
   have key:∀r,gX T 0 fs l m=U r->(∀w':World,(Op.equalIn 10000 t (.agg xs) (.agg ys)).run P w' = .ok r w')/\P.eqGuardType P.depth t=ag:=by
    intro r hr;obtain⟨i,z,d,_,_,_,_,_,_,_,_,_,hd,hkd,hagg,_,hst⟩:=hT.ok t (hT.kk t (by rw[hkind];simp));rw[hkind]at hkd;simp only[lz]at hkd;obtain⟨fields,rfl,hfs,hnm⟩:=hkd;have hfl:P.fieldsOf t=fields:=by simp[Program.fieldsOf,hd]
    have hz:∀(l m:List SV) (fs:List (Nat×Nat)) (n:Nat) (r:Bool),gX T n fs l m=U r->eF l=ag/\eF m=ag:=by
     intro l
     induction l with
     |nil=>intro m fs n r hr;cases fs<;>cases m<;>simp[gX,eF]at hr ⊢
     | cons x l ih=>
       intro m fs n r hr;cases fs with
       |nil=>simp[gX]at hr
       | cons q fs=>
         cases m with
         |nil=>simp[gX]at hr
         | cons y m=>
           simp only[gX]at hr;split at hr
           ·split at hr
            ·rename_i p q' hp hq;have:=ih m fs (n+1) _ hq;refine⟨?_,?_⟩<;>simp only[eF,Bool.or_eq_false_iff]
             ·refine⟨?_,this.1⟩;unfold lZ at hp;split at hp<;>simp_all [cu]
             ·refine⟨?_,this.2⟩;unfold lZ at hp;split at hp<;>simp_all [cu]
            ·simp at hr
           ·simp at hr
    have hz':=hz l m fs 0 r hr;have e1:=uI _ _ _ hz'.1 hxr;have e2:=uI _ _ _ hz'.2 hyr;subst e1 e2;rw[<-hfs]at hr;have hfl':fields.toList=(P.fieldsOf t).toList:=by rw[hfl]
    refine⟨fun w'=>?_,?_⟩
    ·rw[run_equalIn_struct w' 9999 t xs ys (by rw[hfl];exact hd) (hst (by simp[dT,hkind])).1,<-hfl'];exact(Ab hT 9998 xs ys fields.toList 0 l m r w' hr hnm (by simpa using hxr) (by simpa using hyr)).1
    ·have hgg:=(Ab hT 9998 xs ys fields.toList 0 l m r w hr hnm (by simpa using hxr) (by simpa using hyr)).2;have hdep:∃D,P.depth=D+1+1:=⟨2*(P.types.size+Made.depth),rfl⟩
     obtain⟨D,hD⟩:=hdep;rw[hD];have:=hgg D;simp only[Go.Program.eqGuardType,hd]
     rw[<-Array.any_toList];exact this
   have hrun:∀r,gX T 0 fs l m=U r->(op = .eql->(execOp a.eval o).run P w = .ok (.value (.bool r)) w)/\(op = .neq->(execOp a.eval o).run P w = .ok (.value (.bool !r)) w):=by
    intro r hr;obtain⟨k1,k2⟩:=key r hr;have g0:=fun op=>run_eqGuard_agg (P:=P) w op t x y xs ys k2
    refine⟨fun e=>?_,fun e=>?_⟩
    ·subst e;simp[execOp,ho,hx,hy,g0,run_eql_struct,k1]
    ·subst e;simp[execOp,ho,hx,hy,g0,run_neq_struct,k1]
   split at hk
   ·rename_i r hr;exact cm h ((hrun r hr).1 rfl) (by simp[R]) hk
   ·rename_i r hr;exact cm h ((hrun r hr).2 rfl) (by simp[R]) hk
   ·exact hk.elim
  ·exact hk.elim
 ·rename_i k rows e1 e2;rw[e1]at h1;simp only[R]at h1;obtain⟨_,p,cap,hx,hcap,hrows⟩:=h1;split at hk
  ·rename_i e hkind;obtain⟨hy,hk⟩:=hk;have hrun:=(uR (P:=P) (w:=w) (op:=.eql) ho hx (hT.slice hkind) hy).1 rfl;refine cm h hrun (sv:=.b _) (by simp only[R];exact⟨trivial,rfl⟩) (hk _ fun hne=>?_);rcases hrows with h0|⟨g,base,c,e,fr,hp,_⟩
   ·exact absurd h0 hne
   ·simp[hp]
  ·rename_i e hkind;obtain⟨hy,hk⟩:=hk;have hrun:=(uR (P:=P) (w:=w) (op:=.neq) ho hx (hT.slice hkind) hy).2 rfl;refine cm h hrun (sv:=.b _) (by simp only[R];exact⟨trivial,rfl⟩) (hk _ fun hne=>?_);rcases hrows with h0|⟨g,base,c,e,fr,hp,_⟩
   ·exact absurd h0 hne
   ·simp[hp]
  ·exact hk.elim
 ·rename_i p q e1 e2;rw[e1]at h1;rw[e2]at h2;simp only[R]at h1 h2;have hrun:=MH (P:=P) (w:=w) ho h1.2;rw[h2.2]at hrun;split at hk
  ·rename_i hkind;refine cm h (v:=.bool (aa (p=q))) ?_ (by simp[R]) hk;rw[hrun];simp only[binOp,Op.equal,Op.maxDepth,Sem.run_bind,run_equalIn_bool' w 9999 t p q (hT.bool hkind),Result.andThen_ok,Sem.run_pure]
   cases p<;>cases q<;>rfl
  ·rename_i hkind;refine cm h (v:=.bool (!aa (p=q))) ?_ (by simp[R]) hk;rw[hrun];simp only[binOp,Op.equal,Op.maxDepth,Sem.run_bind,run_equalIn_bool' w 9999 t p q (hT.bool hkind),Result.andThen_ok,Sem.run_pure]
   cases p<;>cases q<;>rfl
  ·exact hk.elim
 ·rename_i e1 e2;rw[e1]at h1;simp only[R]at h1;obtain⟨_,p,hx⟩:=h1;split at hk
  ·rename_i e hkind;obtain⟨hy,hk⟩:=hk;exact cm h ((uR (P:=P) (w:=w) (op:=.eql) ho hx (hT.slice hkind) hy).1 rfl) (sv:=.b _) (by simp only[R];exact⟨trivial,rfl⟩) (hk _)
  ·rename_i e hkind;obtain⟨hy,hk⟩:=hk;exact cm h ((uR (P:=P) (w:=w) (op:=.neq) ho hx (hT.slice hkind) hy).2 rfl) (sv:=.b _) (by simp only[R];exact⟨trivial,rfl⟩) (hk _)
  ·exact hk.elim
 ·exact MK ho h hk
end
end Go.AM
end
section
namespace Go.AM
section
variable {P:Program}{T:Nat->TI}{C:zAz}{w0 w w':World}{L:Lv}{st st1:St}{a:Act}{G G':Gh}{fE fO fX fV:FP}{o:Oper}{K:St->Prop}{Q:Exit->Act->World->Prop}{v:Value}{sv:SV}
def EL {op:UnOp}{t:TypeId}{x:Operand}(ho:o.op = .unOp op t x)(h:SR w0 L st a.tmps w G)(hk:a9 T C o st K):Ow P T o a w (Nx w0 L a.defers K) Q:=by
 obtain⟨fE,fO,h⟩:=h;obtain⟨f1,h1,_⟩:=h.ev a rfl x;simp only[a9,ho]at hk;split at hk
 ·rename_i q e1;rw[e1]at h1;simp only[R]at h1;exact cm h (v:=.bool (!q)) (by simp[execOp,ho,h1.2,Op.unary]) (by simp[R]) hk
 ·rename_i k n e1;rw[e1]at h1;simp only[R]at h1;exact cm h (v:=.int k (k.wrap (0-n))) (by simp[execOp,ho,h1.2,Op.unary,Op.intArith]) (by simp[R]) hk
 ·exact hk.elim
def EM {x:Operand}(ho:o.op = .nilCheck x)(h:SR w0 L st a.tmps w G)(hk:a9 T C o st K):Ow P T o a w (Nx w0 L a.defers K) Q:=by
 obtain⟨fE,fO,h⟩:=h;simp only[a9,ho]at hk;split at hk
 ·rename_i n i off e1;have h1:=h.ev0 a rfl x (by rw[e1];rfl);rw[e1]at h1;have h1':=h1;simp only[R]at h1;obtain⟨_,g,base,csz,k,m,_,hv⟩:=h1;exact cm h (v:=a.eval x) (by simp[execOp,ho,hv]) h1' hk
 ·rename_i c e1;have h1:=h.ev0 a rfl x (by rw[e1];rfl);rw[e1]at h1;have h1':=h1;simp only[R]at h1;obtain⟨_,g,b,c,e,fr,hv,_⟩:=h1;exact cm h (v:=a.eval x) (by simp[execOp,ho,hv]) h1' hk
 ·exact hk.elim
def Ac:∀(l:List SV) (t:Nat) (x y:SV),cI (cI l t x) t y=cI l t y
 |[],_,_,_=>rfl
 |_::_,0,_,_=>rfl
 |z::l,t+1,x,y=>by simp[cI,Ac l t x y]
def rR (a:Act)(t:Nat):a.tmps.setIfInBounds t (a.tmps.getD t undef)=a.tmps:=by
 apply Array.ext';rw[Array.toList_setIfInBounds];apply List.ext_getElem?;intro i;by_cases hi:t=i
 ·subst hi;rw[List.getElem?_set_self'];cases hq:a.tmps[t]? with
  |none=>simp[hq]
  |some u=>simp[hq,Array.getD_eq_getD_getElem?]
 ·rw[List.getElem?_set_ne hi]
def EN {x:Operand}{j:Nat}(ho:o.op = .extract x j)(h:SR w0 L st a.tmps w G)(hk:a9 T C o st K):Ow P T o a w (Nx w0 L a.defers K) Q:=by
 obtain⟨fE,fO,h⟩:=h;simp only[a9,ho]at hk;split at hk
 ·rename_i t;split at hk
  ·rename_i vs e1;obtain⟨hj,hk⟩:=hk;obtain⟨fE1,f1,hr,h1⟩:=h.takeT t;have hev:a.eval (.tmp t)=a.tmps.getD t undef:=rfl;rw[<-hev,e1]at hr;have hr0:=hr;simp only[R]at hr;obtain⟨us,hv,hs,hrl⟩:=hr;obtain⟨u,g1,g2,hu,hru,hgg,hput⟩:=mU vs us.toList f1 j hj hrl
   have hrun:(execOp a.eval o).run P w = .ok (.value u) w:=by
    have:us[j]? = U u:=by simpa using hu
    simp[execOp,ho,hv,Instr.extract,this]
   by_cases hown:cu (bx vs j)=ae
   ·rw[if_pos hown]at hk
    have hset:us.toList.set j u=us.toList:=by
     apply List.ext_getElem?;intro i;by_cases hi:j=i
     ·subst hi;rw[List.getElem?_set_self'];simp[hu]
     ·rw[List.getElem?_set_ne hi]
    have htup:R w G (.tup (cI vs j .u)) (a.eval (.tmp t)) g2:=by
     simp only[R]
     refine⟨us,hv,by simpa using hs,?_⟩;have:=hput .u u zf (gJ _ _ _);rw[hset]at this;simpa[zf]using this
    obtain⟨fE2,h2⟩:=h1.put (fX':=g1) htup (fun g=>by have:=bK hgg g;simp only[zf];omega) t;have e3:a.tmps.setIfInBounds t (a.eval (.tmp t))=a.tmps:=rR a t;rw[e3]at h2
    have e4:b_ (b_ st t .u) t (.tup (cI vs j .u))=b_ st t (.tup (cI vs j .u)):=by
     simp only[b_,Ac]
    rw[e4]at h2;exact gM hrun h2 hru (fun g=>bJ _) hk
   ·rw[if_neg hown]at hk;have hz:=jm _ _ _ (by simpa using hown) hru;rw[hz]at hru;exact cm h hrun hru hk
  ·exact hk.elim
 ·exact hk.elim
def EO {t:TypeId}{x ix:Operand}(hT:bU P T)(ho:o.op = .index t x ix)(h:SR w0 L st a.tmps w G)(hk:a9 T C o st K):Ow P T o a w (Nx w0 L a.defers K) Q:=by
 obtain⟨fE,fO,h⟩:=h;obtain⟨f1,h1,_⟩:=h.ev a rfl x;obtain⟨f2,h2,_⟩:=h.ev a rfl ix;simp only[a9,ho]at hk;split at hk
 ·rename_i l k n hkind e1 e2;rw[e1]at h1;rw[e2]at h2;simp only[R]at h1 h2;obtain⟨⟨hn0,hnl⟩,hk⟩:=hk;have hlt:n.toNat<l.length:=by omega
  have hrun:(execOp a.eval o).run P w = .ok (.value (.int .u8 (l[n.toNat].toNat:Int))) w:=by
   have hb:(ByteArray.mk l.toArray)[n.toNat]? = U l[n.toNat]:=by
    rw[ByteArray.getElem?_lt' _ _ (by simpa[ByteArray.size]using hlt)];rfl
   simp[execOp,ho,h1.2,h2.2,Instr.index,run_underlying (hT.str hkind),asIntOf,hn0,hb]
  exact cm h hrun (sv:=.i .u8 (l[n.toNat].toNat:Int)) (by simp[R]) (hk _ (bI hlt))
 ·exact hk.elim
def EP {c:Call}(hT:bU P T)(ho:o.op = .call c)(hc:c.callee = .builtin .len)(h:SR w0 L st a.tmps w G)(hk:a9 T C o st K):Ow P T o a w (Nx w0 L a.defers K) Q:=by
 obtain⟨fE,fO,h⟩:=h;simp only[a9,ho,hc]at hk;split at hk
 ·rename_i x t hx ht;have hargs:c.args = #[x]:=by rw[<-Array.toArray_toList (xs:=c.args),hx]
  have htys:c.argTypes = #[t]:=by rw[<-Array.toArray_toList (xs:=c.argTypes),ht]
  obtain⟨f1,h1,_⟩:=h.ev a rfl x;split at hk
  ·rename_i l hkind e;rw[e]at h1;simp only[R]at h1;refine cm h (v:=.int .i64 l.length) ?_ (by simp[R]) hk;have e2:(ByteArray.mk l.toArray).size=l.length:=by simp[ByteArray.size]
   have e3:=run_len_string (P:=P) w t o.type ⟨l.toArray⟩ (hT.str hkind);rw[e2]at e3;simp[execOp,ho,resolve,hc,hargs,htys,invoke,builtin,h1.2,e3,goInt]
  ·rename_i e hkind
   have hlen:∀n,ov st (ev st.env x)=U n->∃p cap,a.eval x = .slice p n cap:=by
    intro n hn;unfold ov at hn;split at hn
    ·rename_i e;rw[e]at h1;simp only[R]at h1;simp at hn;subst hn;obtain⟨_,p,hv⟩:=h1;exact⟨p,0,hv⟩
    ·rename_i k rows e;rw[e]at h1;simp only[R]at h1;simp at hn;subst hn;obtain⟨_,p,cap,hv,_⟩:=h1;exact⟨p,cap,hv⟩
    ·rename_i k rows e;rw[e]at h1;simp only[R]at h1;simp at hn;subst hn;rcases h1 with⟨rfl,_,p,hv⟩|⟨g,base,cap,_,_,_,hv,_⟩
     ·exact⟨p,0,hv⟩
     ·exact⟨_,cap,hv⟩
    ·rename_i ob e;split at hn
     ·rename_i y hy;simp at hn;subst hn;obtain⟨r,f,hr,hro,_⟩:=h.obRec hy;obtain⟨r',hr',hk',hn',_⟩:=hro;rw[kc _ _ _ hy,hr]at hr';simp at hr';subst hr';rw[e]at h1;simp only[R]at h1;obtain⟨_,r',hr',hm⟩:=h1;rw[hr]at hr';simp at hr';subst hr';cases hb:r.blk with
      |none=>rw[hb]at hm;obtain⟨h0,p,hv⟩:=hm;exact⟨p,0,by rw[hv,<-hn',h0]⟩
      |some q=>obtain⟨g,base,csz⟩:=q;rw[hb]at hm;obtain⟨cap,hv,_⟩:=hm;exact⟨_,cap,by rw[hv,hn']⟩
     ·simp at hn
    ·simp at hn
   split at hk
   ·rename_i n hn;obtain⟨p,cap,hv⟩:=hlen n hn;refine cm h (v:=.int .i64 n) ?_ (by simp[R]) hk;simp[execOp,ho,resolve,hc,hargs,htys,invoke,builtin,hv,Builtin.len_,run_underlying (hT.slice hkind),goInt]
   ·exact hk.elim
  ·exact hk.elim
 ·exact hk.elim
end
end Go.AM
end
section
namespace Go.AM
section
variable {P:Program}{T:Nat->TI}{C:zAz}{w0 w w':World}{L:Lv}{st st1:St}{a:Act}{G G':Gh}{fE fO fX fV:FP}{o:Oper}{K:St->Prop}{Q:Exit->Act->World->Prop}{v:Value}{sv:SV}
def Gh.frozen (G:Gh)(f:FP):Gh:=⟨fun g=>G.F g\/1<=f g,G.β⟩
def aU.freezeX {tmps:Array Value}(h:aU w0 L st tmps w G fE fO fX){f fX':FP}(hX:∀ g,fX' g+f g<=fX g):aU w0 L st tmps w (G.frozen f) fE fO fX' where
 size:=h.size
 E:=Mj (G':=G.frozen f) (fun _ hg=>.inl hg) rfl _ _ _ h.E
 O:=aW.frame (G':=G.frozen f) (fun _ hg=>.inl hg) rfl (fun _ _=>rfl) _ _ (fun _ _=>rfl) h.O
 le:=fun g=>by have:=h.le g;have:=hX g;omega
 fz:=fun g hg=>by
  have:=hX g;rcases hg with hg|hg
  ·have:=h.fz g hg;omega
  ·have:=h.le g;omega
 lf:=fun g hg=>by have:=h.lf g hg;have:=hX g;omega
 lt:=fun g hg=>h.lt g (by have:=hX g;omega)
 nodup:=h.nodup
 fsize:=fun g hg=>by
  rcases hg with hg|hg
  ·exact h.fsize g hg
  ·exact h.lt g (by have:=hX g;omega)
 fl:=fun g hg hL=>by
  rcases hg with hg|hg
  ·exact h.fl g hg hL
  ·have:=h.lf g hL;have:=hX g;omega
 keep:=h.keep
 lsize:=h.lsize
 fm:=fun g hg=>.inl (h.fm g hg)
 bk:=h.bk
 grow:=h.grow
 os:=h.os
 tape:=h.tape
 output:=h.output
def aU.freezeT (h:aU w0 L st a.tmps w G fE fO fX)(x:Operand) :
  ∃(G':Gh) (fE':FP),(∀g,G.F g->G'.F g)/\G'.β=G.β/\R w G' (frz (AM.ev st.env x)) (a.eval x) zf/\aU w0 L (kH st x) a.tmps w G' fE' fO fX:=by
 by_cases hx:cu (AM.ev st.env x)=ae
 ·cases x with
  | tmp t=>
    simp only[AM.ev]at hx;obtain⟨fE1,f1,hr,h1⟩:=h.takeT t;have h2:=h1.freezeX (f:=f1) (fX':=fX) (fun g=>bJ _);have hz:=iw (G':=G.frozen f1) (fun _ hg=>.inl hg) rfl _ _ f1 (fun g hg=>.inr hg) hr;obtain⟨fE3,h3⟩:=h2.put (fX':=fX) hz (fun g=>by simp[zf]) t;rw[rR]at h3;refine⟨G.frozen f1,fE3,fun _ hg=>.inl hg,rfl,by simpa[AM.ev,Act.eval]using hz,?_⟩
    ·simp only[kH,hx,if_true]
     have e4:b_ (b_ st t .u) t (frz (bx st.env t))=b_ st t (frz (bx st.env t)):=by simp only[b_,Ac]
     rw[e4]at h3;exact h3
  |const v=>exfalso;simp only[AM.ev]at hx;revert hx;unfold zCe;split<;>simp[cu]
  |global g=>simp[AM.ev,cu]at hx
  |func f=>simp[AM.ev,cu]at hx
 ·have hx':cu (AM.ev st.env x)=ag:=by simpa using hx
  have hr:=h.ev0 a rfl x hx';have hz:=iw (G':=G) (fun _ hg=>hg) rfl _ _ zf (fun g hg=>by simp[zf]at hg) hr;refine⟨G,fE,fun _ hg=>hg,rfl,hz,?_⟩;cases x with
  |tmp t=>simp only[AM.ev]at hx';simp only[kH,hx',cV,if_false];exact h
  |const v=>exact h
  |global g=>exact h
  |func f=>exact h
end
end Go.AM
end
section
namespace Go.AM
section
variable {P:Program}{T:Nat->TI}{C:zAz}{w0 w w':World}{L:Lv}{st st1:St}{a:Act}{G G':Gh}{fE fO fX fV:FP}{o:Oper}{K:St->Prop}{Q:Exit->Act->World->Prop}{v:Value}{sv:SV}
def Mk {l:List SV}{vs:List Value}(h:RL w G l vs zf)(n:Nat):RL w G (l.drop n) (vs.drop n) zf:=by
 obtain⟨f,hr,hle⟩:=RL.drop n l vs zf h;have:f=zf:=by funext j;have:=hle j;simp only[zf]at *;omega
 rw[this]at hr;exact hr
def Ml {l:List SV}{vs:List Value}(h:RL w G l vs zf)(n:Nat):RL w G (l.take n) (vs.take n) zf:=by
 obtain⟨f,hr,hle⟩:=RL.take n l vs zf h;have:f=zf:=by funext j;have:=hle j;simp only[zf]at *;omega
 rw[this]at hr;exact hr
def zee {l:List (List SV)}{vs:List Value}{k:Nat}(hl:∀ r∈l,r.length=k)(h:aH w G l vs zf)(n:Nat)(hn:n<=l.length):aH w G (l.drop n) (vs.drop (n*k)) zf:=by
 obtain⟨f,hr,hle⟩:=aH.drop n l vs zf hl h hn;have:f=zf:=by funext j;have:=hle j;simp only[zf]at *;omega
 rw[this]at hr;exact hr
def zef {l:List (List SV)}{vs:List Value}(h:aH w G l vs zf)(n:Nat):aH w G (l.take n) vs zf:=by
 obtain⟨f,hr,hle⟩:=aH.take n l vs zf h;have:f=zf:=by funext j;have:=hle j;simp only[zf]at *;omega
 rw[this]at hr;exact hr
def ER (hT:bU P T){s f:Nat}{fs:List (Nat×Nat)}(hk:(T s).kind = .struct fs){ft fo:Nat}(hf:fs[f]? = U (ft,fo)) :
  ∃(fields:Array Field) (fd:Field),P.underlying s=U (.struct fields)/\fields[f]? = U fd/\fd.type=ft/\fd.offset=fo:=by
 obtain⟨d,hd,hkd⟩:=hT.und (t:=s) (by rw[hk];simp);rw[hk]at hkd;simp only[lz]at hkd;obtain⟨fields,rfl,hfs,_⟩:=hkd;rw[<-hfs]at hf;simp only[List.getElem?_map]at hf;cases hq:fields.toList[f]? with
 |none=>rw[hq]at hf;simp at hf
 | some fd=>
   rw[hq]at hf;simp at hf;exact⟨fields,fd,hd,by simpa using hq,hf.1,hf.2⟩
def ES {s f:Nat}{x:Operand}(hT:bU P T)(ho:o.op = .fieldAddr s x f)(h:SR w0 L st a.tmps w G)(hk:a9 T C o st K):Ow P T o a w (Nx w0 L a.defers K) Q:=by
 obtain⟨fE,fO,h⟩:=h;simp only[a9,ho]at hk
 have hrun:∀(fs:List (Nat×Nat)) (ft fo b off:Nat),(T s).kind = .struct fs->fs[f]? = U (ft,fo)->(T ft).known=ae->(T ft).size≠0->a.eval x = .pointer (U ⟨b,off,aj⟩) ->
   (execOp a.eval o).run P w = .ok (.value (.pointer (U ⟨b,off+fo,aj⟩))) w:=by
  intro fs ft fo b off hkd hf hkn hz hv;obtain⟨fields,fd,hu,hfd,rfl,rfl⟩:=ER hT hkd hf;simp[execOp,ho,hv,Instr.fieldAt,run_underlying hu,hfd,Instr.sureAddr,fieldPlace,hT.sizeOf hkn,hz,Addr.add_lit]
 split at hk
 ·rename_i fs n i off hkd e1;have h1:=h.ev0 a rfl x (by rw[e1];rfl);rw[e1]at h1;split at hk
  ·rename_i ft fo hf;obtain⟨hkn,hz,hk⟩:=hk;simp only[R]at h1;obtain⟨_,g,base,csz,k,m,hb,hv⟩:=h1;refine cm h (hrun fs ft fo _ _ hkd hf hkn hz hv) ?_ hk;simp only[R]
   exact⟨trivial,g,base,csz,k,m,hb,by rw[Nat.add_assoc]⟩
  ·exact hk.elim
 ·rename_i fs cs hkd e1;have h1:=h.ev0 a rfl x (by rw[e1];rfl);rw[e1]at h1;split at hk
  ·rename_i ft fo hf;obtain⟨hkn,hz,hk⟩:=hk;simp only[R]at h1;obtain⟨_,g,b,c,e,fr,hv,hF,hh,hr⟩:=h1;refine cm h (hrun fs ft fo _ _ hkd hf hkn hz hv) ?_ hk;simp only[R]
   refine⟨trivial,g,b+fo,c,e,fr,rfl,hF,hh,?_⟩;rw[<-List.drop_drop];exact Mk hr fo
  ·exact hk.elim
 ·exact hk.elim
def bU.isAgg (hT:bU P T){t:Nat}(hk:(T t).known=ae)(w':World):(isAgg t).run P w' = .ok (dT T t) w':=by
 obtain⟨i,z,d,_,_,_,_,_,_,_,_,_,hd,_,hagg,_⟩:=hT.ok t hk;rw[EJ hd,hagg]
def bU.size1 (hT:bU P T){t:Nat}(hk:(T t).known=ae)(hs:dT T t=ag):(T t).size=1:=by
 obtain⟨i,z,d,_,_,_,_,_,_,_,_,_,hd,_,hagg,h1,_⟩:=hT.ok t hk;exact h1 hs
def dt (T:Nat->TI)(t:Nat)(vs:List Value):Value:=match(T t).kind with|.struct _=>.agg vs.toArray|_=>vs.headD undef
def R.valOf {t:Nat}{cs:List SV}{vs:List Value}{f:FP}(hr:RL w G cs vs f)(hlen:cs.length=(T t).size)(hvs:vs.length=(T t).size)(h1:dT T t=ag->(T t).size=1) :
  R w G (valOf T t cs) (dt T t vs) f:=by
 unfold AM.valOf dt
 have other:dT T t=ag->R w G (bx cs 0) (vs.headD undef) f:=by
  intro hs;have:=h1 hs;rw[this]at hlen
  match cs,hlen with
  | [c],_=>
    simp only[RL]at hr;obtain⟨v,vs',f1,f2,hv,hrv,h2,hff⟩:=hr;subst hv;have:f=f1:=by rw[hff,h2];funext j;simp[zf]
    rw[this];simpa[bx]using hrv
 unfold dT at other;cases hk:(T t).kind with
 | struct fs=>
   simp only[R]
   exact⟨vs.toArray,rfl,by simp[hvs,hlen],by simpa using hr⟩
 |_=>rw[hk]at other;exact other rfl
def Ad {t:Nat}:dT T t=ae->∃fs,(T t).kind = .struct fs:=by
 unfold dT;split
 ·rename_i fs e;intro _;exact⟨fs,e⟩
 ·intro h;simp at h
def ET {s f:Nat}{x:Operand}(hT:bU P T)(ho:o.op = .field s x f)(h:SR w0 L st a.tmps w G)(hk:a9 T C o st K):Ow P T o a w (Nx w0 L a.defers K) Q:=by
 obtain⟨fE,fO,h⟩:=h;simp only[a9,ho]at hk;split at hk
 ·rename_i fs cs hkd e1;split at hk
  ·rename_i ft fo hf;obtain⟨hkn,hown,hle,hk⟩:=hk;have h1:=h.ev0 a rfl x (by rw[e1];simpa[cu]using hown);rw[e1]at h1;simp only[R]at h1;obtain⟨vs,hv,hs,hr⟩:=h1;obtain⟨fields,fd,hu,hfd,rfl,rfl⟩:=ER hT hkd hf;have hr2:=Ml (Mk hr fd.offset) (T fd.type).size;have hlen:((cs.drop fd.offset).take (T fd.type).size).length=(T fd.type).size:=by simp;omega
   have hlen2:((vs.toList.drop fd.offset).take (T fd.type).size).length=(T fd.type).size:=by simp;omega
   have hR:=R.valOf (T:=T) (t:=fd.type) hr2 hlen hlen2 (hT.size1 hkn);refine cm h (v:=dt T fd.type ((vs.toList.drop fd.offset).take (T fd.type).size)) ?_ hR hk
   have hpart:(part fd.type vs fd.offset).run P w = .ok (dt T fd.type ((vs.toList.drop fd.offset).take (T fd.type).size)) w:=by
    unfold part dt;simp only[Sem.run_bind,hT.isAgg hkn,Result.andThen_ok]
    cases hst:dT T fd.type with
    | true=>
      obtain⟨fs',hfs'⟩:=Ad hst;simp[hT.sizeOf hkn,hfs'];apply Array.ext';simp
    | false=>
      have hs1:=hT.size1 hkn hst;have hlt:fd.offset<vs.size:=by omega
      have:vs[fd.offset]? = U vs[fd.offset]:=Array.getElem?_eq_getElem hlt;simp only[cV,if_false,this,Sem.run_pure]
      have hd:(vs.toList.drop fd.offset).take (T fd.type).size=[vs[fd.offset]]:=by
       rw[hs1,List.drop_eq_getElem_cons (by simpa using hlt)];simp
      rw[hd];split
      ·rename_i fs' e;unfold dT at hst;rw[e]at hst;simp at hst
      ·rfl
   simp[execOp,ho,hv,Instr.field,run_underlying hu,hfd,asAgg,hpart]
  ·exact hk.elim
 ·exact hk.elim
def EU {t:Nat}{x ix:Operand}(hT:bU P T)(ho:o.op = .indexAddr t x ix)(h:SR w0 L st a.tmps w G)(hk:a9 T C o st K):Ow P T o a w (Nx w0 L a.defers K) Q:=by
 obtain⟨fE,fO,h⟩:=h;obtain⟨f2,h2,_⟩:=h.ev a rfl ix;simp only[a9,ho]at hk
 have hrun:∀(e:Nat) (k:IntKind) (n:Int) (b off len cap:Nat),(T t).kind = .slice e->(T e).known=ae->a.eval ix = .int k n->0<=n->n<len->a.eval x = .slice (U ⟨b,off,aj⟩) len cap ->
   (execOp a.eval o).run P w = .ok (.value (.pointer (U ⟨b,off+n.toNat*(T e).size,aj⟩))) w:=by
  intro e k n b off len cap hkd hkn hix h0 h1 hv;simp[execOp,ho,hv,hix,Instr.indexAt,run_underlying (hT.slice hkd),asIntOf,h0,h1,hT.sizeOf hkn,Addr.add_lit]
 have frozen:∀(G':Gh) (rows:List (List SV)) (k:Nat) (n:Int),R w G' (.sl k rows) (a.eval x) zf->0<=n->n<rows.length->∃g base c e fr cap,a.eval x = .slice (U ⟨g,base,aj⟩) rows.length cap /\
   G'.F g/\w.heap[g]? = U (.cells c e fr)/\∀row,rows[n.toNat]? = U row->RL w G'.pure row (c.toList.drop (base+n.toNat*k)) zf:=by
  intro G' rows k n hr h0 h1;simp only[R]at hr;obtain⟨_,p,cap,hv,hcap,hrows⟩:=hr;rcases hrows with rfl|⟨g,base,c,e,fr,rfl,hF,hh,hl,hrr⟩
  ·simp at h1;omega
  ·refine⟨g,base,c,e,fr,cap,hv,hF,hh,fun row hrow=>?_⟩;obtain⟨g1,g2,hrow',_,hgg,_⟩:=aH.split rows _ zf n.toNat row hrow hl hrr;obtain⟨e1,_⟩:=Aa hgg;rw[e1,List.drop_drop]at hrow';exact hrow'
 split at hk
 ·rename_i e k rows k' n hkd e1 e2;obtain⟨hkn,rfl,⟨h0,h1⟩,hk⟩:=hk;rw[e2]at h2;simp only[R]at h2;have hx:=h.ev0 a rfl x (by rw[e1];rfl);rw[e1]at hx;obtain⟨g,base,c,e',fr,cap,hv,hF,hh,hrow⟩:=frozen G rows _ n hx h0 h1;have hlt:n.toNat<rows.length:=by omega
  refine cm h (hrun e k' n g base rows.length cap hkd hkn h2.2 h0 (by omega) hv) ?_ (hk _ (bI hlt));simp only[R]
  exact⟨trivial,g,_,c,e',fr,rfl,hF,hh,hrow _ (bI hlt)⟩
 ·rename_i e k rows k' n hkd e1 e2;obtain⟨hkn,rfl,⟨h0,h1⟩,hk⟩:=hk;rw[e2]at h2;simp only[R]at h2;obtain⟨G',fE',hFF,hβ,hz,h'⟩:=h.freezeT x;rw[e1]at hz;simp only[frz]at hz;have h1':n<(cC rows).length:=by rw[pX];exact h1
  obtain⟨g,base,c,e',fr,cap,hv,hF,hh,hrow⟩:=frozen G' (cC rows) _ n hz h0 h1';have hlt:n.toNat<(cC rows).length:=by omega
  refine gM (hrun e k' n g base _ cap hkd hkn h2.2 h0 (by omega) hv) h' (fV:=zf) ?_ (fun g=>by simp[zf]) (hk _ (bI hlt));simp only[R]
  exact⟨trivial,g,_,c,e',fr,rfl,hF,hh,hrow _ (bI hlt)⟩
 ·rename_i e ob k' n hkd e1 e2;split at hk
  ·rename_i y hy;obtain⟨hkn,hyk,⟨h0,h1⟩,hk⟩:=hk;rw[e2]at h2;simp only[R]at h2;have hx:=h.ev0 a rfl x (by rw[e1];rfl);rw[e1]at hx;obtain⟨r,f,hr,hro,_⟩:=h.obRec hy;obtain⟨r',hr',hk',hn',_⟩:=hro;rw[kc _ _ _ hy,hr]at hr';simp at hr';subst hr';simp only[R]at hx;obtain⟨_,r',hr',hm⟩:=hx;rw[hr]at hr';simp at hr';subst hr';cases hb:r.blk with
   |none=>rw[hb]at hm;rw[<-hn',hm.1]at h1;simp at h1;omega
   | some q=>
     obtain⟨g,base,csz⟩:=q;rw[hb]at hm;obtain⟨cap,hv,_⟩:=hm;refine cm h (hrun e k' n g base r.n cap hkd hkn h2.2 h0 (by rw[hn'];exact h1) hv) ?_ hk;simp only[R]
     refine⟨trivial,g,base,csz,r.k,r.n,?_,?_⟩
     ·rw[hr,<-hb]
     ·rw[hk',hyk];simp
  ·exact hk.elim
 ·exact hk.elim
end
end Go.AM
end
section
namespace Go.AM
section
variable {P:Program}{T:Nat->TI}{C:zAz}{w0 w w':World}{L:Lv}{st st1:St}{a:Act}{G G':Gh}{fE fO fX fV:FP}{o:Oper}{K:St->Prop}{Q:Exit->Act->World->Prop}{v:Value}{sv:SV}
def mb (h:aU w0 L st a.tmps w G fE fO fX){d:Int}:∀{x:Option Operand} {n:Int},fI st.env d x=U n->(x=aj/\n=d)\/∃y k,x=U y/\a.eval y = .int k n
 |none,n,hx=>by simp[fI]at hx;exact .inl ⟨rfl,hx.symm⟩
 | some y,n,hx=>by
   simp only[fI]at hx;obtain⟨f,hr,_⟩:=h.ev a rfl y;right;unfold Ez at hx;split at hx
   ·rename_i k m e;rw[e]at hr;simp only[R]at hr;simp at hx;subst hx;exact⟨y,k,rfl,hr.2⟩
   ·simp at hx
def uS (b:Bool)(len cap:Nat){lo hi:Option Value}{x y:Int}(hlo:(lo=aj/\x=0)\/∃ k,lo=U (.int k x))(hhi:(hi=aj/\y=len)\/∃ k,hi=U (.int k y))
  (h0:0<=x) (h1:x<=y) (h2:y<=len) (h3:len<=cap):(Instr.sliceBounds b len cap lo hi aj).run P w = .ok (x.toNat,y.toNat,cap) w:=by
 have hy0:0<=y:=by omega
 obtain⟨xn,rfl⟩:=Int.eq_ofNat_of_zero_le h0;obtain⟨yn,rfl⟩:=Int.eq_ofNat_of_zero_le hy0;have hy:yn<=cap:=by omega
 have hxy:xn<=yn:=by omega
 rcases hlo with⟨rfl,e⟩|⟨k,rfl⟩<;>rcases hhi with⟨rfl,e'⟩|⟨k',rfl⟩
 ·simp[Instr.sliceBounds];omega
 ·simp[Instr.sliceBounds,Instr.sliceBound,asIntOf,hy];omega
 ·have:xn<=len:=by omega
  simp[Instr.sliceBounds,Instr.sliceBound,asIntOf,this];omega
 ·simp[Instr.sliceBounds,Instr.sliceBound,asIntOf,hy,hxy]
def MM (len cap:Nat){lo hi:Option Value}{x y z:Int}{kz:IntKind}(hlo:(lo=aj/\x=0)\/∃ k,lo=U (.int k x))(hhi:∃ k,hi=U (.int k y))
  (h0:0<=x) (h1:x<=y) (h2:y<=z) (h3:z<=cap):(Instr.sliceBounds ae len cap lo hi (U (.int kz z))).run P w = .ok (x.toNat,y.toNat,z.toNat) w:=by
 have hy0:0<=y:=by omega
 have hz0:0<=z:=by omega
 obtain⟨xn,rfl⟩:=Int.eq_ofNat_of_zero_le h0;obtain⟨yn,rfl⟩:=Int.eq_ofNat_of_zero_le hy0;obtain⟨zn,rfl⟩:=Int.eq_ofNat_of_zero_le hz0;have hz:zn<=cap:=by omega
 have hyz:yn<=zn:=by omega
 have hxy:xn<=yn:=by omega
 obtain⟨k',rfl⟩:=hhi;rcases hlo with⟨rfl,e⟩|⟨k,rfl⟩
 ·simp[Instr.sliceBounds,Instr.sliceBound,asIntOf,hz,hyz];omega
 ·simp[Instr.sliceBounds,Instr.sliceBound,asIntOf,hz,hyz,hxy]
def oy {x:Option Operand}{n d:Int}(h:(x=aj/\n=d)\/∃ y k,x=U y/\a.eval y = .int k n):(x.map a.eval=aj/\n=d)\/∃k,x.map a.eval=U (.int k n):=by
 rcases h with⟨rfl,rfl⟩|⟨y,k,rfl,hy⟩
 ·exact .inl ⟨rfl,rfl⟩
 ·exact .inr ⟨k,by simp[hy]⟩
def uT (hT:bU P T){t e:Nat}{x:Operand}{lo hi mx:Option Operand}(ho:o.op = .slice t x lo hi mx)(hkd:(T t).kind = .slice e){p:Option Addr}{len cap l h m:Nat}(hv:a.eval x = .slice p len cap)
  (hb:(Instr.sliceBounds ae len cap (lo.map a.eval) (hi.map a.eval) (mx.map a.eval)).run P w = .ok (l,h,m) w) (hkn:(T e).known=ae) :
  (execOp a.eval o).run P w = .ok (.value (.slice (if m=l then p else p.map (·.add (l*(T e).size))) (h-l) (m-l))) w:=by
 simp[execOp,ho,hv,Instr.sliceAt,Instr.slice,run_underlying (hT.slice hkd),hb,hT.sizeOf hkn]
def Mm {k:Nat}{rows:List (List SV)}{p:Option Addr}{cap l h:Nat}(hr:R w G (.sl k rows) (.slice p rows.length cap) zf)(h1:l<=h)(h2:h<=rows.length)(m:Nat)(hm:h<=m) :
  R w G (.sl k ((rows.take h).drop l)) (.slice (if m=l then p else p.map (·.add (l*k))) (h-l) (m-l)) zf:=by
 simp only[R]at hr ⊢;obtain⟨_,p',cap',hv,hcap,hrows⟩:=hr;simp only[Value.slice.injEq,true_and]at hv;obtain⟨rfl,rfl⟩:=hv;have hlen:((rows.take h).drop l).length=h-l:=by simp;omega
 refine⟨trivial,_,m-l,by rw[hlen],by rw[hlen];omega,?_⟩;rcases hrows with rfl|⟨g,base,c,e,fr,rfl,hF,hh,hl,hrr⟩
 ·simp
 ·by_cases hz:h=l
  ·left;apply List.eq_nil_of_length_eq_zero;omega
  ·right;have hml:m≠l:=by omega
   refine⟨g,base+l*k,c,e,fr,by simp[hml,Addr.add_lit],hF,hh,fun r hr=>hl r (List.mem_of_mem_take (List.mem_of_mem_drop hr)),?_⟩;rw[<-List.drop_drop];exact zee (fun r hr=>hl r (List.mem_of_mem_take hr)) (zef hrr h) l (by simp;omega)
def aW.take {o:Nat}(hF:G'.F=G.F)(hβ:∀ n,n≠o->G'.β n=G.β n):∀(l:List Ob) (f:FP) (x:Ob),(aQ l).Nodup->bu l o=U x->aW w G l f ->
  ∃f1 f2:FP,aW w G' (gg o l) f1/\RO w G x f2/\∀j,f1 j+f2 j<=f j
 |[],f,x,_,hg,h=>by simp[bu]at hg
 | y::l,f,x,hnd,hg,h=>by
   obtain⟨f1,f2,h1,h2,hff⟩:=h;simp only[bu]at hg;split at hg
   ·rename_i hn;simp at hg;subst hg;obtain⟨g1,g2,hk,hgg⟩:=aW.kill hF hβ l f2 h2;refine⟨g1,f1,?_,h1,fun j=>by have:=bK hff j;have:=bK hgg j;omega⟩;simp only[gg,hn,if_true];exact hk
   ·rename_i hn;obtain⟨g1,g2,hk,hx,hle⟩:=aW.take hF hβ l f2 x (List.nodup_cons.1 hnd).2 hg h2;obtain⟨p1,p2,hy,hpp⟩:=aW.kill hF hβ [y] (fun h=>f1 h+zf h) ⟨f1,zf,h1,rfl,rfl⟩;simp only[gg,hn,if_false]at hy ⊢;obtain⟨q1,q2,hq,hq2,hqq⟩:=hy;have e2:q2=zf:=hq2;subst e2;exact⟨fun h=>q1 h+g1 h,g2,⟨q1,g1,hq,hk,rfl⟩,hx,fun j=>by have:=bK hff j;have:=bK hpp j;have:=bK hqq j;have:=hle j;simp only[zf]at *;omega⟩
def aU.takeRows (h:aU w0 L st a.tmps w G fE fO fX){x:Operand}{k:Nat}{rows:List (List SV)}{st':St}{k0:Nat}(ht:takeRows st k0 x=U (k,rows,st')) :
  ∃(G':Gh) (fE' fO' fV:FP),G'.F=G.F/\R w G' (.own k rows) (a.eval x) fV/\aU w0 L st' a.tmps w G' fE' fO' (fun g=>fX g+fV g):=by
 unfold AM.takeRows at ht;split at ht
 ·rename_i e;simp at ht;obtain⟨rfl,rfl,rfl⟩:=ht;have hx:=h.ev0 a rfl x (by rw[e];rfl);rw[e]at hx;simp only[R]at hx;refine⟨G,fE,fO,zf,rfl,?_,by simpa[ma]using h⟩;simp only[R]
  exact .inl ⟨trivial,trivial,hx.2⟩
 ·rename_i k' rows' e;simp at ht;obtain⟨rfl,rfl,rfl⟩:=ht;obtain⟨fE1,f1,hr,h1⟩:=h.take a rfl x;rw[e]at hr;exact⟨G,fE1,fO,f1,rfl,hr,h1⟩
 ·rename_i o e;split at ht
  ·rename_i y hy;split at ht
   ·simp at ht
   ·rename_i hnm;simp at ht;obtain⟨rfl,rfl,rfl⟩:=ht;have hx:=h.ev0 a rfl x (by rw[e];rfl);rw[e]at hx;obtain⟨g1,g2,hk,hro,hle⟩:=aW.take (G':=G) rfl (fun _ _=>rfl) st.ob fO y h.nodup hy h.O;refine⟨G,fE,g1,g2,rfl,?_,?_⟩
    ·obtain⟨r,hr,hrk,hrn,hl,hm⟩:=hro;rw[kc _ _ _ hy]at hr;simp only[R]at hx ⊢;obtain⟨_,r',hr',hm'⟩:=hx;rw[hr]at hr';simp at hr';subst hr';cases hb:r.blk with
     | none=>
       rw[hb]at hm hm';exact .inl ⟨hm.1,hm.2,hm'.2⟩
     | some q=>
       obtain⟨g,base,csz⟩:=q;rw[hb]at hm hm';obtain⟨c,e,f',hh,hs,hbb,hrr,hff⟩:=hm;obtain⟨cap,hv,hc,hcc⟩:=hm';right;exact⟨g,base,cap,c,e,f',by rw[hv,hrn],by omega,hh,by rw[hs,<-hrk];exact hcc,hl,by rw[if_neg hnm]at hrr;exact hrr,hff⟩
    ·exact
      {size:=by simp[AM.killSt,iy,h.size]
       E:=RL.kill (G':=G) rfl (fun _ _=>rfl) _ _ _ h.E
       O:=hk
       le:=fun g=>by have:=h.le g;have:=hle g;omega
       fz:=fun g hg=>by have:=h.fz g hg;have:=hle g;omega
       lf:=fun g hg=>by have:=h.lf g hg;have:=hle g;omega
       lt:=fun g hg=>h.lt g (by have:=hle g;omega)
       nodup:=rP o h.nodup
       fl:=h.fl,fm:=h.fm,bk:=h.bk,fsize:=h.fsize,keep:=h.keep,lsize:=h.lsize,grow:=h.grow,os:=h.os,tape:=h.tape,output:=h.output}
  ·simp at ht
 ·simp at ht
def zeg {k:Nat}{rows:List (List SV)}{p:Option Addr}{cap l h:Nat}{f:FP}(hr:R w G (.own k rows) (.slice p rows.length cap) f)(h1:l<=h)(h2:h<=rows.length)(hcap:rows.length<=cap) :
  ∃f':FP,(∀g,f' g<=f g)/\R w G (.own k ((rows.take h).drop l)) (.slice (if cap=l then p else p.map (·.add (l*k))) (h-l) (cap-l)) f':=by
 have hlen:((rows.take h).drop l).length=h-l:=by simp;omega
 by_cases hcl:cap=l
 ·refine⟨zf,fun g=>by simp[zf],?_⟩;simp only[R]
  have e1:h-l=0:=by omega
  have e2:cap-l=0:=by omega
  rw[e1,e2];exact .inl ⟨List.eq_nil_of_length_eq_zero (by omega),trivial,_,rfl⟩
 ·simp only[R]at hr;rcases hr with⟨rfl,_,q,hv⟩|⟨g,base,cap',c,e,f',hv,hc,hh,hb,hl,hrr,hff⟩
  ·simp only[Value.slice.injEq]at hv;obtain⟨_,_,rfl⟩:=hv;simp at h2;omega
  ·simp only[Value.slice.injEq]at hv;obtain⟨rfl,_,rfl⟩:=hv;obtain⟨g1,ht1,hle1⟩:=aH.take h rows _ f' hrr;obtain⟨g2,ht2,hle2⟩:=aH.drop (k:=k) l (rows.take h) _ g1 (fun r hr=>hl r (List.mem_of_mem_take hr)) ht1 (by simp;omega);refine⟨fun j=>one g j+g2 j,fun j=>by have:=bK hff j;have:=hle1 j;have:=hle2 j;dsimp only;omega,?_⟩;simp only[R]
   right;refine⟨g,base+l*k,cap-l,c,e,g2,by rw[hlen];simp[hcl,Addr.add_lit],by rw[hlen];omega,hh,?_,fun r hr=>hl r (List.mem_of_mem_take (List.mem_of_mem_drop hr)),?_,rfl⟩
   ·have:(cap-l)*k+l*k=cap*k:=by rw[<-Nat.add_mul];congr 1;omega
    omega
   ·rw[<-List.drop_drop];exact ht2
def MN (l:List UInt8)(a b:Nat):(ByteArray.mk l.toArray).extract a b=⟨((l.take b).drop a).toArray⟩:=by
 rw[ByteArray.extract_mk,List.drop_take]
def EV {t:Nat}{x:Operand}{lo hi mx:Option Operand}(hT:bU P T)(ho:o.op = .slice t x lo hi mx)(h:SR w0 L st a.tmps w G)(hk:a9 T C o st K):Ow P T o a w (Nx w0 L a.defers K) Q:=by
 obtain⟨fE,fO,h⟩:=h;simp only[a9,ho,kb]at hk;split at hk
 ·
  rename_i l hkd e1;have hx:=h.ev0 a rfl x (by rw[e1];rfl);rw[e1]at hx;simp only[R]at hx;split at hk
  ·rename_i p q elo ehi;obtain⟨h0,h1,h2,hk⟩:=hk;have e2:(ByteArray.mk l.toArray).size=l.length:=by simp[ByteArray.size]
   have hb:=uS (P:=P) (w:=w) ag l.length l.length (oy (mb h elo)) (oy (mb h ehi)) h0 h1 h2 (bJ _);refine cm h (v:=.string ⟨((l.take q.toNat).drop p.toNat).toArray⟩) ?_ (by simp[R]) hk;simp[execOp,ho,hx.2,Instr.sliceAt,Instr.slice,run_underlying (hT.str hkd),e2,hb,MN]
  ·exact hk.elim
 ·
  rename_i e k rows hkd e1;obtain⟨hkn,hks,hk⟩:=hk;have hx:=h.ev0 a rfl x (by rw[e1];rfl);rw[e1]at hx;have hx':=hx;simp only[R]at hx';obtain⟨_,p,cap,hv,hcap,_⟩:=hx';rw[hv]at hx;split at hk
  ·split at hk
   ·rename_i x' y' elo ehi;obtain⟨h0,h1,h2,hk⟩:=hk;have hb:=uS (P:=P) (w:=w) ae rows.length cap (oy (mb h elo)) (oy (mb h ehi)) h0 h1 h2 hcap;have hrun:=uT (mx:=aj) hT ho hkd hv (by simpa using hb) hkn;refine cm h hrun ?_ hk;rw[<-hks];exact Mm hx (by omega) (by omega) cap (by omega)
   ·exact hk.elim
  ·rename_i m;split at hk
   ·rename_i x' y0 y' z' elo emx ehi;obtain⟨h0,h1,h2,h3,hk⟩:=hk;have hm:=mb h emx;have hh:=mb h ehi;rcases hm with⟨e,_⟩|⟨y1,kz,e,hz⟩
    ·simp at e
    ·simp at e;subst e;rcases hh with⟨e,_⟩|⟨y2,ky,e,hy⟩
     ·simp at e
     ·simp at e;subst e;have hb:=MM (P:=P) (w:=w) (kz:=kz) rows.length cap (oy (mb h elo)) ⟨ky,congrArg U hy⟩ h0 h1 h2 (show z'<=(cap:Int)by omega);have hrun:=uT (mx:=U m) hT ho hkd hv (by simpa[hz]using hb) hkn;split at hk
      ·rename_i hz0;refine cm h hrun (sv:=.nil) ?_ hk;simp only[R]
       have e1:y'.toNat-x'.toNat=0:=by omega
       have e2:z'.toNat-x'.toNat=0:=by omega
       rw[e1,e2];exact⟨trivial,_,rfl⟩
      ·refine cm h hrun ?_ hk;rw[<-hks];exact Mm hx (by omega) (by omega) z'.toNat (by omega)
   ·exact hk.elim
 ·rename_i e hkd e1;split at hk
  ·obtain⟨hkn,hk⟩:=hk;have hx:=h.ev0 a rfl x (by rw[e1];rfl);rw[e1]at hx;simp only[R]at hx;obtain⟨_,p,hv⟩:=hx;have hb:=uS (P:=P) (w:=w) ae 0 0 (lo:=aj) (hi:=aj) (x:=0) (y:=0) (.inl ⟨rfl,rfl⟩) (.inl ⟨rfl,rfl⟩) (by omega) (by omega) (by omega) (bJ _);have hrun:=uT (lo:=aj) (hi:=aj) (mx:=aj) hT ho hkd hv hb hkn;refine cm h hrun (sv:=.nil) ?_ hk;simp only[R]
   exact⟨trivial,_,rfl⟩
  ·exact hk.elim
 ·rename_i e hkd _ _;split at hk
  ·rename_i k rows st' ht;obtain⟨hkn,hks,hk⟩:=hk;split at hk
   ·rename_i x' y' elo ehi;obtain⟨h0,h1,h2,hk⟩:=hk;obtain⟨G',fE',fO',fV,hF,hr,h'⟩:=h.takeRows ht
    have hv:∃p cap,a.eval x = .slice p rows.length cap/\rows.length<=cap:=by
     simp only[R]at hr;rcases hr with⟨rfl,_,q,hv⟩|⟨g,base,cap',c,e,f',hv,hc,_⟩
     ·exact⟨q,0,hv,by simp⟩
     ·exact⟨_,_,hv,hc⟩
    obtain⟨p,cap,hv,hcap⟩:=hv;rw[hv]at hr;have hb:=uS (P:=P) (w:=w) ae rows.length cap (oy (mb h elo)) (oy (mb h ehi)) h0 h1 h2 hcap;have hrun:=uT (mx:=aj) hT ho hkd hv (by simpa using hb) hkn;obtain⟨f',hle,hp⟩:=zeg hr (show x'.toNat<=y'.toNat by omega) (by omega) hcap;rw[<-hks]at hrun;exact gM hrun h' hp (fun g=>by simp only[zf];have:=hle g;omega) hk
   ·exact hk.elim
  ·exact hk.elim
 ·exact hk.elim
end
end Go.AM
end
namespace Go.AM
section
def EW:∀(cs row:List SV),cs.length<=row.length->lY cs row=cs++row.drop cs.length
 |[],row,_=>by simp[lY]
 |c::cs,[],h=>by simp at h
 |c::cs,r::row,h=>by simp[lY,EW cs row (by simpa using h)]
def Ae:∀(row:List SV) (n:Nat) (cs:List SV),n+cs.length<=row.length->wr row n cs=row.take n++cs++row.drop (n+cs.length)
 |row,0,cs,h=>by simp[wr,EW cs row (by simpa using h)]
 |[],n+1,cs,h=>by simp at h
 | x::row,n+1,cs,h=>by
   simp only[wr,Ae row n cs (by simp at h;omega)]
   have:n+1+cs.length=(n+cs.length)+1:=by omega
   simp[this]
def Af (row:List SV)(n:Nat)(cs:List SV)(h:n+cs.length<=row.length):(wr row n cs).length=row.length:=by
 rw[Ae _ _ _ h];simp;omega
def RL.cut {w:World}{G:Gh}:∀(x y:List SV) (vs:List Value) (f:FP),RL w G (x++y) vs f->∃f1 f2:FP,RL w G x vs f1/\RL w G y (vs.drop x.length) f2/\f=fun h=>f1 h+f2 h
 |[],y,vs,f,h=>⟨zf,f,by simp[RL],by simpa using h,(z8 f).symm⟩
 | a::x,y,vs,f,h=>by
   simp only[RL,cF]at h;obtain⟨v,vs',f1,f2,hv,h1,h2,hff⟩:=h;subst hv;obtain⟨g1,g2,hx,hy,hg⟩:=RL.cut x y vs' f2 h2;exact⟨fun h=>f1 h+g1 h,g2,by simp only[RL];exact⟨v,vs',f1,g1,rfl,h1,hx,rfl⟩,by simpa using hy,by rw[hff,hg];funext j;simp only;omega⟩
def Mn {w:World}{G:Gh}(row:List SV)(vs:List Value)(f:FP)(n m:Nat)(h:RL w G row vs f)(hn:n+m<=row.length) :
  ∃f1 f2:FP,RL w G ((row.drop n).take m) ((vs.drop n).take m) f1/\(f=fun h=>f1 h+f2 h)/\∀(cs:List SV) (vs':List Value) (f1':FP),cs.length=m->(∀j,j<n\/n+m<=j->vs'[j]? = vs[j]?) ->
   RL w G cs (vs'.drop n) f1'->RL w G (wr row n cs) vs' (fun h=>f1' h+f2 h):=by
 have e:row=row.take n++((row.drop n).take m++row.drop (n+m)):=by
  rw[<-List.drop_drop,List.take_append_drop,List.take_append_drop]
 rw[e]at h;obtain⟨fa,fbc,ha,hbc,h1⟩:=RL.cut _ _ _ _ h;obtain⟨fb,fc,hb,hc,h2⟩:=RL.cut _ _ _ _ hbc;have l1:(row.take n).length=n:=by simp;omega
 have l2:((row.drop n).take m).length=m:=by simp;omega
 rw[l1]at hb hc;rw[l2,List.drop_drop]at hc;refine⟨fb,fun j=>fa j+fc j,?_,by rw[h1,h2];funext j;simp only;omega,?_⟩
 ·refine j8 _ _ _ _ (fun j hj=>?_) hb;rw[List.getElem?_take];rw[if_pos (by omega)]
 ·intro cs vs' f1' hcs hsame hr;rw[Ae _ _ _ (by omega),hcs];have q1:RL w G (row.take n) vs' fa:=j8 _ _ _ _ (fun j hj=>hsame j (.inl (by omega))) ha
  have q3:RL w G (row.drop (n+m)) (vs'.drop (n+m)) fc:=by
   refine j8 _ _ _ _ (fun j hj=>?_) hc;simp only[List.getElem?_drop]
   exact hsame _ (.inr (by omega))
  have q2:=RL.append _ _ _ _ _ q1 (by rw[l1];exact hr);have q4:=RL.append _ (row.drop (n+m)) _ _ fc q2 (by simp only[aP,l1,hcs];exact q3);have:(fun h=>f1' h+(fa h+fc h))=fun h=>fa h+f1' h+fc h:=by funext j;omega
  rw[this];exact q4
mutual
def zeh {w:World}{G:Gh}:∀(x:SV) (v:Value) (f:FP),R w G.pure x v f->R w G x v f
 |.ar n,v,f,h=>by simp[R,Gh.pure]at h
 |.p n i off,v,f,h=>by simp[R,Gh.pure]at h
 |.fn n caps,v,f,h=>by simp only[R]at h ⊢;obtain⟨h0,vs,hv,hs,hr⟩:=h;exact⟨h0,vs,hv,hs,rI caps _ _ hr⟩
 |.agg cs,v,f,h=>by simp only[R]at h ⊢;obtain⟨vs,hv,hs,hr⟩:=h;exact⟨vs,hv,hs,rI cs _ _ hr⟩
 |.tup cs,v,f,h=>by simp only[R]at h ⊢;obtain⟨vs,hv,hs,hr⟩:=h;exact⟨vs,hv,hs,rI cs _ _ hr⟩
 |.sl k rows,v,f,h=>by simp only[R]at h ⊢;exact h
 |.own k rows,v,f,h=>by simp only[R]at h ⊢;exact h
 |.ro cells,v,f,h=>by simp only[R]at h ⊢;exact h
 |.u,v,f,h=>by simpa[R]using h
 |.sk,v,f,h=>by simpa[R]using h
 |.i _ _,v,f,h=>by simpa[R]using h
 |.b _,v,f,h=>by simpa[R]using h
 |.s _,v,f,h=>by simpa[R]using h
 |.nilp,v,f,h=>by simpa[R]using h
 |.nil,v,f,h=>by simpa[R]using h
def rI {w:World}{G:Gh}:∀(l:List SV) (vs:List Value) (f:FP),RL w G.pure l vs f->RL w G l vs f
 |[],vs,f,h=>by simpa[RL]using h
 | x::l,vs,f,h=>by
   simp only[RL]at h ⊢;obtain⟨v,vs',f1,f2,hv,h1,h2,hff⟩:=h;exact⟨v,vs',f1,f2,hv,zeh x _ _ h1,rI l _ _ h2,hff⟩
end
def R.plain {w:World}{G:Gh}:∀(x:SV) (v:Value) (f:FP),AM.plain x=ae->R w G x v f->R w G.pure x v f
 |.sl k rows,v,f,_,h=>by simp only[R]at h ⊢;exact h
 |.own k rows,v,f,_,h=>by simp only[R]at h ⊢;exact h
 |.i _ _,v,f,_,h=>by simpa[R]using h
 |.b _,v,f,_,h=>by simpa[R]using h
 |.s _,v,f,_,h=>by simpa[R]using h
 |.nil,v,f,_,h=>by simpa[R]using h
 |.u,_,_,h,_=>by simp[AM.plain]at h
 |.sk,_,_,h,_=>by simp[AM.plain]at h
 |.ar _,_,_,h,_=>by simp[AM.plain]at h
 |.p _ _ _,_,_,h,_=>by simp[AM.plain]at h
 |.ro _,_,_,h,_=>by simp[AM.plain]at h
 |.nilp,_,_,h,_=>by simp[AM.plain]at h
 |.fn _ _,_,_,h,_=>by simp[AM.plain]at h
 |.agg _,_,_,h,_=>by simp[AM.plain]at h
 |.tup _,_,_,h,_=>by simp[AM.plain]at h
def RL.plain {w:World}{G:Gh}:∀(l:List SV) (vs:List Value) (f:FP),fu l=ae->RL w G l vs f->RL w G.pure l vs f
 |[],vs,f,_,h=>by simpa[RL]using h
 | x::l,vs,f,hp,h=>by
   simp only[fu,aK]at hp;simp only[RL]at h ⊢;obtain⟨v,vs',f1,f2,hv,h1,h2,hff⟩:=h;exact⟨v,vs',f1,f2,hv,R.plain x _ _ hp.1 h1,RL.plain l _ _ hp.2 h2,hff⟩
def R.cell1 {w:World}{G:Gh}:∀(x:SV) (v:Value) (f:FP),AM.cell1 x=ae->R w G x v f->v.oneCell'=ae
 |.sl k rows,v,f,_,h=>by simp only[R]at h;obtain⟨_,a,cap,rfl,_⟩:=h;rfl
 |.own k rows,v,f,_,h=>by simp only[R]at h;rcases h with⟨_,_,a,rfl⟩|⟨_,_,_,_,_,_,rfl,_⟩<;>rfl
 |.i _ _,v,f,_,h=>by simp only[R]at h;rw[h.2];rfl
 |.b _,v,f,_,h=>by simp only[R]at h;rw[h.2];rfl
 |.s _,v,f,_,h=>by simp only[R]at h;rw[h.2];rfl
 |.nil,v,f,_,h=>by simp only[R]at h;obtain⟨_,a,rfl⟩:=h;rfl
 |.nilp,v,f,_,h=>by simp only[R]at h;rw[h.2];rfl
 | .ar _,v,f,_,h=>by
   simp only[R]at h;obtain⟨_,r,_,hm⟩:=h;cases hb:r.blk with
   |none=>rw[hb]at hm;obtain⟨_,a,rfl⟩:=hm;rfl
   |some q=>obtain⟨g,b,c⟩:=q;rw[hb]at hm;obtain⟨cap,rfl,_⟩:=hm;rfl
 |.p _ _ _,v,f,_,h=>by simp only[R]at h;obtain⟨_,_,_,_,_,_,_,rfl⟩:=h;rfl
 |.ro _,v,f,_,h=>by simp only[R]at h;obtain⟨_,_,_,_,_,_,rfl,_⟩:=h;rfl
 |.fn _ _,v,f,_,h=>by simp only[R]at h;obtain⟨_,vs,rfl,_⟩:=h;rfl
 |.u,_,_,h,_=>by simp[AM.cell1]at h
 |.sk,_,_,h,_=>by simp[AM.cell1]at h
 |.agg _,_,_,h,_=>by simp[AM.cell1]at h
 |.tup _,_,_,h,_=>by simp[AM.cell1]at h
def RL.ones {w:World}{G:Gh}:∀(l:List SV) (vs:List Value) (f:FP),fG l=ae->RL w G l vs f->AM.ones l.length vs
 |[],vs,f,_,h=>fun j v hj=>by simp at hj
 | x::l,vs,f,hp,h=>by
   simp only[fG,aK]at hp;simp only[RL]at h;obtain⟨v,vs',f1,f2,hv,h1,h2,hff⟩:=h;subst hv;intro j u hj hu;cases j with
   |zero=>simp at hu;subst hu;exact R.cell1 x _ _ hp.1 h1
   |succ j=>exact RL.ones l vs' f2 hp.2 h2 j u (by simpa using hj) (by simpa using hu)
end
end Go.AM
section
namespace Go.AM
section
variable {P:Program}{T:Nat->TI}{C:zAz}{w0 w w':World}{L:Lv}{st st1:St}{a:Act}{G G':Gh}{fE fO fX fV:FP}{o:Oper}{K:St->Prop}{Q:Exit->Act->World->Prop}{v:Value}{sv:SV}
def R.name {k:Nat}{rows:List (List SV)}{u:Value}{f:FP}(hr:R w G (.own k rows) u f)(t:Nat):∃r:kK,RO w (G.bind t r) ⟨t,k,rows,ag⟩ f/\R w (G.bind t r) (.ar t) u zf:=by
 simp only[R]at hr;rcases hr with⟨e0,e1,p,e2⟩|⟨g,base,cap,c,e,f',hv,hc,hh,hb,hl',hrr,hff⟩
 ·subst e0 e1;refine⟨⟨aj,k,0⟩,⟨⟨aj,k,0⟩,jM,rfl,rfl,by simp,rfl,rfl⟩,?_⟩;simp only[R]
  exact⟨trivial,⟨aj,k,0⟩,jM,rfl,p,e2⟩
 ·have hmul:rows.length*k<=cap*k:=Nat.mul_le_mul_right k hc;refine⟨⟨U (g,base,c.size),k,rows.length⟩,⟨_,jM,rfl,rfl,hl',?_⟩,?_⟩
  ·exact⟨c,e,f',hh,rfl,(by show base+rows.length*k<=c.size;omega),(by rw[if_neg (by simp)];exact hrr),hff⟩
  ·simp only[R]
   exact⟨trivial,_,jM,cap,hv,hc,hb⟩
def rS {w:World}{g j:Nat}{c:Array Value}{e:TypeId}{fr:Nat×Nat}(hh:w.heap[g]? = U (.cells c e fr)):w.cell? ⟨g,j,aj⟩=c[j]?:=by
 simp[World.cell?,hh]
def MO (hT:bU P T){t:Nat}(hk:(T t).known=ae){g b:Nat}{c:Array Value}{e:TypeId}{fr:Nat×Nat}(hh:w.heap[g]? = U (.cells c e fr))(hle:b+(T t).size<=c.size) :
  (loadVar t ⟨g,b,aj⟩).run P w = .ok (dt T t ((c.toList.drop b).take (T t).size)) w:=by
 unfold loadVar dt;simp only[Sem.run_bind,hT.isAgg hk,Result.andThen_ok]
 cases hst:dT T t with
 | true=>
   obtain⟨fs',hfs'⟩:=Ad hst;have hl:((c.toList.drop b).take (T t).size).length=(T t).size:=by simp;omega
   have hcells:=run_loadCells_list (P:=P) w ⟨g,b,aj⟩ ((c.toList.drop b).take (T t).size) (fun j v hj=>by
    have e1:(⟨g,b,aj⟩:Addr).add j=⟨g,b+j,aj⟩:=Addr.add_lit g b j;rw[e1,rS hh];rw[List.getElem?_take]at hj;split at hj
    ·simpa using hj
    ·simp at hj)
   rw[hl]at hcells;simp[hT.sizeOf hk,hfs',hcells]
 | false=>
   have hs1:=hT.size1 hk hst;have hlt:b<c.size:=by omega
   have hd:(c.toList.drop b).take (T t).size=[c[b]]:=by
    rw[hs1,List.drop_eq_getElem_cons (by simpa using hlt)];simp
   have hc:w.cell? ⟨g,b,aj⟩=U c[b]:=by rw[rS hh];exact Array.getElem?_eq_getElem hlt
   rw[hd];simp only[cV,if_false,run_load,hc]
   split
   ·rename_i fs' e;unfold dT at hst;rw[e]at hst;simp at hst
   ·rfl
def RL.dropOwn:∀(l:List SV) (vs:List Value) (f:FP),fG l=ae->RL w G l vs f->RL w G (kI l) vs zf
 |[],vs,f,_,h=>by simp[kI,RL]
 | x::l,vs,f,hp,h=>by
   simp only[fG,aK]at hp;simp only[RL,kI]at h ⊢;obtain⟨v,vs',f1,f2,hv,h1,h2,hff⟩:=h;refine⟨v,vs',zf,zf,hv,?_,RL.dropOwn l vs' f2 hp.2 h2,by funext j;simp[zf]⟩;cases x with
   |own k rows=>exact gJ _ _ _
   |agg cs=>simp[AM.cell1]at hp
   |tup cs=>simp[AM.cell1]at hp
   |_=>have hz:=jm _ _ _ (by simp[cu]) h1;rw[hz]at h1;simpa[AM.dropOwn]using h1
def aU.rowW (h:aU w0 L st tmps w G fE fO fX){ob:Nat}{x:Ob}(hg:bu st.ob ob=U x){i off m:Nat}{row:List SV}(hrow:x.rows[i]? = U row)(hle:off+m<=row.length){v:Value}(hp:R w G (.p ob i off) v zf) :
  ∃(g b:Nat) (c:Array Value) (e:TypeId) (f:FP),v = .pointer (U ⟨g,b,aj⟩)/\w.heap[g]? = U (.cells c e (0,0))/\b+m<=c.size/\ones m (c.toList.drop b) /\
   RL w (if x.nm then G else G.pure) ((row.drop off).take m) ((c.toList.drop b).take m) f /\
   ∀(c':Array Value) (cs:List SV) (f1 fX':FP),c'.size=c.size->(∀j,j<b\/b+m<=j->c'.toList[j]? = c.toList[j]?)->ones m (c'.toList.drop b)->cs.length=m->RL w (if x.nm then G else G.pure) cs (c'.toList.drop b) f1->(∀j,f1 j+fX' j<=f j+fX j) ->
    ∃fO',aU w0 L ⟨st.env,dz st.ob ob (x.rows.set i (wr row off cs))⟩ tmps (w.setRow g c') G fE fO' fX':=by
 simp only[R]at hp;obtain⟨_,g,base,csz,k,n,hb,hv⟩:=hp;obtain⟨hk,hn,hl,c,e,f',hh,hs,hbb,hrr,hsum,hput⟩:=h.write hg hb rfl;have hlen:row.length=x.k:=hl row (dO hrow);have hi:i<x.rows.length:=(List.getElem?_eq_some_iff.1 hrow).1;obtain⟨g1,g2,hr1,ho1,hgg,hput1⟩:=aH.split x.rows _ f' i row hrow hl hrr;obtain⟨p1,p2,hr2,hpp,hput2⟩:=Mn row _ g1 off m hr1 hle;simp only at hk hn hbb;rw[List.drop_drop,List.drop_drop,<-Nat.add_assoc]at hr2;have hmul:(i+1)*x.k<=x.rows.length*x.k:=Nat.mul_le_mul_right _ hi;rw[Nat.add_mul,Nat.one_mul]at hmul;rw[hk,hn]at hbb;rw[hk]at hv;rw[List.drop_drop]at ho1
 have hones0:ones m (c.toList.drop (base+i*x.k+off)):=by
  intro j v hj hv;refine ho1 (off+j) v (by omega) ?_;simp only[List.getElem?_drop]at hv ⊢;rw[<-hv];congr 1;omega
 refine⟨g,base+i*x.k+off,c,e,p1,hv,hh,by omega,hones0,hr2,?_⟩;intro c' cs f1 fX' hsz hsame hones hcs hr hX
 have hw:=hput2 cs (cU (i*x.k) (cU base c'.toList)) f1 hcs (fun j hj=>by
  simp only[List.getElem?_drop]
  refine hsame _ ?_
  rcases hj with hj|hj<;>omega) (by rw[List.drop_drop,List.drop_drop,<-Nat.add_assoc];exact hr)
 have hlen2:(wr row off cs).length=x.k:=by rw[Af _ _ _ (by omega),hlen]
 have hones2:ones x.k (cU (i*x.k) (cU base c'.toList)):=by
  intro j v hj hv;simp only[List.getElem?_drop]at hv;by_cases hin:off<=j/\j<off+m
  ·refine hones (j-off) v (by omega) ?_;simp only[List.getElem?_drop]
   rw[<-hv];congr 1;omega
  ·refine ho1 j v hj ?_;simp only[List.getElem?_drop]
   rw[<-hv,<-Nat.add_assoc];exact(hsame _ (by omega)).symm
 have hset:=hput1 (wr row off cs) (cU base c'.toList) _ hlen2 hones2 (fun j hj=>by
  simp only[List.getElem?_drop]
  refine hsame _ ?_;rw[Nat.add_mul,Nat.one_mul]at hj
  rcases hj with hj|hj<;>omega) hw
 exact hput c' (x.rows.set i (wr row off cs)) _ fX' hsz (by simp) (fun r hr=>by
  rcases List.mem_or_eq_of_mem_set hr with h1|rfl
  ·exact hl r h1
  ·exact hlen2) hset (fun j=>by have:=bK hgg j;have:=bK hpp j;have:=hX j;omega)
def aU.row (h:aU w0 L st tmps w G fE fO fX){ob:Nat}{x:Ob}(hg:bu st.ob ob=U x){i off m:Nat}{row:List SV}(hrow:x.rows[i]? = U row)(hle:off+m<=row.length){v:Value}(hp:R w G (.p ob i off) v zf) :
  ∃(g b:Nat) (c:Array Value) (e:TypeId) (fr:Nat×Nat) (f:FP),v = .pointer (U ⟨g,b,aj⟩)/\w.heap[g]? = U (.cells c e fr)/\b+m<=c.size /\
   RL w (if x.nm then G else G.pure) ((row.drop off).take m) ((c.toList.drop b).take m) f /\
   ∀(cs:List SV) (f1 fX':FP),cs.length=m->RL w (if x.nm then G else G.pure) cs (c.toList.drop b) f1->(∀j,f1 j+fX' j<=f j+fX j) ->
    ∃fO',aU w0 L ⟨st.env,dz st.ob ob (x.rows.set i (wr row off cs))⟩ tmps w G fE fO' fX':=by
 obtain⟨g,b,c,e,f,hv,hh,hb,hones,hr,hput⟩:=h.rowW hg hrow hle hp;refine⟨g,b,c,e,(0,0),f,hv,hh,hb,hr,fun cs f1 fX' hcs hr' hX=>?_⟩;have hfin:=hput c cs f1 fX' rfl (fun _ _=>rfl) hones hcs hr' hX;rw[setRow_self w g c e (0,0) hh]at hfin;exact hfin
def aU.openK (h:aU w0 L st a.tmps w G fE fO zf){ob:Nat}{x:Ob}(hg:bu st.ob ob=U x){i off d k:Nat}{row:List SV}{rows:List (List SV)}(hrow:x.rows[i]? = U row)(hoff:off+1<=row.length)
  (hcell:(row.drop off).take 1=[.own k rows]) (hd:d<100000) (hne:d≠ob) (hnm:x.nm=ae) {v:Value} (hp:R w G (.p ob i off) v zf) (hk:AM.openK st ob i off row x.rows d k rows K) :
  ∃(g b:Nat) (c:Array Value) (e:TypeId) (fr:Nat×Nat) (u:Value),v = .pointer (U ⟨g,b,aj⟩)/\w.heap[g]? = U (.cells c e fr)/\(c.toList.drop b).take 1=[u]/\b+1<=c.size /\
   Nx w0 L a.defers K (a.put (U d) u) w:=by
 obtain⟨g,b,c,e,fr,f,hv,hh,hle,hr,hput⟩:=h.row (m:=1) hg hrow hoff hp;simp only[hnm,if_true]at hr hput;rw[hcell]at hr;have hlt:b<c.size:=by omega
 have hu:(c.toList.drop b).take 1=[c[b]]:=by rw[List.drop_eq_getElem_cons (by simpa using hlt)];simp
 have hdrop:c.toList.drop b=c[b]::c.toList.drop (b+1):=by rw[List.drop_eq_getElem_cons (by simpa using hlt)];simp
 rw[hu]at hr;simp only[RL]at hr;obtain⟨u',us,f1,f2,hu',hru,hz,hff⟩:=hr;simp only[List.cons.injEq]at hu';obtain⟨rfl,rfl⟩:=hu';obtain⟨r,hro,har⟩:=hru.name d;refine⟨g,b,c,e,fr,c[b],hv,hh,hu,hle,?_⟩;obtain⟨fO2,h2⟩:=hput [.u] zf f rfl (by simp only[RL];exact⟨c[b],c.toList.drop (b+1),zf,zf,hdrop,gJ _ _ _,rfl,by funext j;simp[zf]⟩) (fun j=>by simp[zf]);obtain⟨fO3,h3⟩:=h2.addOb d k hd rows ag r (fX':=zf) hro (fun j=>by have:=bK hff j;simp only[zf];omega);unfold AM.openK at hk
 change (match bu (AM.addOb ⟨st.env,dz st.ob ob (x.rows.set i (wr row off [.u]))⟩ d k rows ag).ob ob with
  |some x'=>_|none=>False)at hk
 split at hk
 ·rename_i x1 hx1;obtain⟨hnm1,hi1,hk⟩:=hk;obtain⟨hoff1,hk⟩:=hk.all _ (bI hi1)
  have hp3:R w (G.bind d r) (.p ob i off) v zf:=by
   simp only[R]at hp ⊢;rw[zU ob (Ne.symm hne)];exact hp
  obtain⟨g',b',c',e',fr',f',hv',hh',hle',hr',hput'⟩:=h3.row (m:=1) hx1 (bI hi1) hoff1 hp3;rw[hv]at hv';simp only[Value.pointer.injEq,aF,Addr.mk.injEq,and_true]at hv';obtain⟨rfl,rfl⟩:=hv';rw[hh]at hh';simp only[aF,Obj.cells.injEq]at hh';obtain⟨rfl,rfl,rfl⟩:=hh';simp only[hnm1,if_true]at hput';obtain⟨fO4,h4⟩:=hput' [.ar d] zf zf rfl (by simp only[RL];exact⟨c[b],c.toList.drop (b+1),zf,zf,hdrop,har,rfl,by funext j;simp[zf]⟩) (fun j=>by simp[zf]);obtain⟨fE5,h5⟩:=h4.put (fX':=zf) har (fun j=>by simp[zf]) d;exact⟨_,G.bind d r,hk,⟨fE5,fO4,h5⟩,rfl⟩
 ·exact hk.elim
def Ag {t:Nat}{x:Operand}(hT:bU P T)(ho:o.op = .load t x)(h:SR w0 L st a.tmps w G)(hk:a9 T C o st K):Ow P T o a w (Nx w0 L a.defers K) Q:=by
 obtain⟨fE,fO,h⟩:=h;simp only[a9,ho,iY]at hk
 have hrun:∀(g b:Nat) (c:Array Value) (e:TypeId) (fr:Nat×Nat),(T t).known=ae->a.eval x = .pointer (U ⟨g,b,aj⟩)->w.heap[g]? = U (.cells c e fr)->b+(T t).size<=c.size ->
   (execOp a.eval o).run P w = .ok (.value (dt T t ((c.toList.drop b).take (T t).size))) w:=by
  intro g b c e fr hkn hv hh hle;simp[execOp,ho,hv,Instr.loadAt,Instr.sureAddr,MO hT hkn hh hle]
 split at hk
 ·rename_i cells e1;obtain⟨hkn,hnz,hle,hk⟩:=hk;have hx:=h.ev0 a rfl x (by rw[e1];rfl);rw[e1]at hx;simp only[R]at hx;obtain⟨_,g,b,c,e,fr,hv,hF,hh,hr⟩:=hx;have hlen:=Ex _ _ _ hr;simp only[dx,Array.length_toList]at hlen;have hle2:b+(T t).size<=c.size:=by omega
  have hr2:=rI _ _ _ (Ml hr (T t).size);exact cm h (hrun g b c e fr hkn hv hh hle2) (R.valOf hr2 (by simp;omega) (by simp;omega) (hT.size1 hkn)) hk
 ·rename_i ob i off e1;split at hk
  ·rename_i y hy;obtain⟨hkn,hi,hk⟩:=hk;obtain⟨hle,hk⟩:=hk.all _ (bI hi);have hx:=h.ev0 a rfl x (by rw[e1];rfl);rw[e1]at hx;obtain⟨g,b,c,e,fr,f,hv,hh,hle2,hr,hput⟩:=h.row hy (bI hi) hle hx;have hrunv:=hrun g b c e fr hkn hv hh hle2;have hlen1:((y.rows[i].drop off).take (T t).size).length=(T t).size:=by simp;omega
   have hlen2:((c.toList.drop b).take (T t).size).length=(T t).size:=by simp;omega
   have hr':RL w G ((y.rows[i].drop off).take (T t).size) ((c.toList.drop b).take (T t).size) f:=by
    split at hr
    ·exact hr
    ·exact rI _ _ _ hr
   have hR:=R.valOf (T:=T) (t:=t) hr' hlen1 hlen2 (hT.size1 hkn)
   have plainCase:∀v,valOf T t ((y.rows[i].drop off).take (T t).size)=v->(∀k rows,v ≠ .own k rows)->(if cu v then dT T t=ae/\fG (cellsOf v)=ae/\K (aZ (eG st ob y.rows i (wr y.rows[i] off (kI (cellsOf v)))) o.dst v)else K (aZ st o.dst v))->Ow P T o a w (Nx w0 L a.defers K) Q:=by
    intro v hval hno hk;rw[hval]at hR;split at hk
    ·rename_i hown;obtain⟨hst,hc1,hk⟩:=hk;obtain⟨fs,hfs⟩:=Ad hst;have hv':v = .agg ((y.rows[i].drop off).take (T t).size):=by rw[<-hval];simp[valOf,hfs]
     have hco:cellsOf v=(y.rows[i].drop off).take (T t).size:=by rw[hv'];rfl
     rw[hco]at hk hc1;have hd0:=RL.dropOwn _ _ _ hc1 hr
     have hd1:RL w (if y.nm then G else G.pure) (kI ((y.rows[i].drop off).take (T t).size)) (c.toList.drop b) zf:=by
      refine j8 _ _ _ _ (fun j hj=>?_) hd0;rw[uO,hlen1]at hj;rw[List.getElem?_take,if_pos hj]
     obtain⟨fO',h'⟩:=hput _ zf f (by rw[uO,hlen1]) hd1 (fun j=>by simp[zf]);exact gM hrunv h' hR (fun j=>bJ _) hk
    ·rename_i hown;have hz:=jm _ _ _ (by simpa using hown) hR;rw[hz]at hR;exact cm h hrunv hR hk
   split at hk
   ·rename_i k rows hval;split at hk
    ·rename_i d hd;rcases hk with hk|hk
     case inr=>
      rw[hval]at hR
      have hst:dT T t=ag:=by
       unfold dT;split
       ·rename_i fs e;unfold valOf at hval;rw[e]at hval;simp at hval
       ·rfl
      have hs1:=hT.size1 hkn hst;have hlt:b<c.size:=by omega
      have hdrop:c.toList.drop b=c[b]::c.toList.drop (b+1):=by rw[List.drop_eq_getElem_cons (by simpa using hlt)];simp
      obtain⟨fO',h'⟩:=hput [.u] zf f (by rw[hs1];rfl) (by simp only[RL];exact⟨c[b],c.toList.drop (b+1),zf,zf,hdrop,gJ _ _ _,rfl,by funext j;simp[zf]⟩) (fun j=>by simp[zf]);exact gM hrunv h' hR (fun j=>bJ _) (by rw[hd];exact hk)
     obtain⟨hd1,hne,hnm,hk⟩:=hk
     have hst:dT T t=ag:=by
      unfold dT;split
      ·rename_i fs e;unfold valOf at hval;rw[e]at hval;simp at hval
      ·rfl
     have hs1:=hT.size1 hkn hst
     have hcell:(y.rows[i].drop off).take 1=[.own k rows]:=by
      rw[hs1]at hlen1 hval
      match hq:(y.rows[i].drop off).take 1,hlen1 with
      | [z],_=>
        rw[hq]at hval;unfold valOf at hval;split at hval
        ·simp at hval
        ·simp[bx]at hval;rw[hval]
     obtain⟨g',b',c',e',fr',u,hv',hh',hu,hle',hnx⟩:=h.openK hy (bI hi) (by rw[hs1]at hle;exact hle) hcell hd1 hne hnm hx hk;rw[hv]at hv';simp only[Value.pointer.injEq,aF,Addr.mk.injEq,and_true]at hv';obtain⟨rfl,rfl⟩:=hv';rw[hh]at hh';simp only[aF,Obj.cells.injEq]at hh';obtain⟨rfl,rfl,rfl⟩:=hh'
     have hvalv:dt T t ((c.toList.drop b).take (T t).size)=u:=by
      rw[hs1,hu];unfold dt;split
      ·rename_i fs e;unfold dT at hst;rw[e]at hst;simp at hst
      ·rfl
     refine⟨?_,.inl ⟨_,hrunv⟩⟩;unfold Oper.wp;rw[hrunv,hvalv,Oper.upon_value,hd];exact hnx
    ·exact hk.elim
   ·rename_i hno;exact plainCase _ rfl (fun k rows e=>hno k rows e) hk
  ·exact hk.elim
 ·exact hk.elim
end
end Go.AM
end
section
namespace Go.AM
section
variable {P:Program}{T:Nat->TI}{C:zAz}{w0 w w':World}{L:Lv}{st st1:St}{a:Act}{G G':Gh}{fE fO fX fV:FP}{o:Oper}{K:St->Prop}{Q:Exit->Act->World->Prop}{v:Value}{sv:SV}
def R.cells (hr:R w G sv v fV)(h1:fG (cellsOf sv)=ae):RL w G (cellsOf sv) v.cells.toList fV/\v.cells.toList.length=(cellsOf sv).length:=by
 have hcase:(∃cs,sv = .agg cs)\/cellsOf sv=[sv]:=by cases sv<;>simp[cellsOf]
 rcases hcase with⟨cs,rfl⟩|hcase
 ·simp only[R]at hr;obtain⟨vs,rfl,hs,hr⟩:=hr;exact⟨by simpa[Value.cells,cellsOf]using hr,by simp[Value.cells,cellsOf,hs]⟩
 ·rw[hcase]at h1 ⊢;have hc:AM.cell1 sv=ae:=by simpa[fG]using h1
  have ho:=R.cell1 _ _ _ hc hr;have hv:v.cells = #[v]:=by cases v<;>first|rfl|simp[Value.oneCell']at ho
  rw[hv];refine⟨?_,by simp⟩;simp only[RL]
  exact⟨v,[],fV,zf,by simp,hr,rfl,(ma fV).symm⟩
def Ah {c:List Value}{b:Nat}{us:List Value}(hb:b+us.length<=c.length) :
  (∀j,j<b\/b+us.length<=j->(c.take b++us++c.drop (b+us.length))[j]? = c[j]?)/\(c.take b++us++c.drop (b+us.length)).drop b=us++c.drop (b+us.length):=by
 have l1:(c.take b).length=b:=by simp;omega
 constructor
 ·intro j hj;rcases hj with hj|hj
  ·rw[bD,List.getElem?_append_left (by omega),List.getElem?_take,if_pos hj]
  ·rw[List.getElem?_append_right (by simp;omega),List.getElem?_drop];simp only[aP,l1]
   congr 1;omega
 ·rw[bD,List.drop_append_of_le_length (by omega),List.drop_eq_nil_of_le (by omega)];rfl
def MP {t:Nat}{x y:Operand}(hT:bU P T)(ho:o.op = .store t x y)(h:SR w0 L st a.tmps w G)(hk:a9 T C o st K):o.wp P a w (Nx w0 L a.defers K) Q:=by
 obtain⟨fE,fO,h⟩:=h;simp only[a9,ho,ou]at hk;split at hk
 ·rename_i ob i off e1;split at hk
  ·rename_i z hz;obtain⟨hkn,hi,hk⟩:=hk;obtain⟨hle,hlen,hnm,hc1,hk⟩:=hk.all _ (bI hi);have hx:=h.ev0 a rfl x (by rw[e1];rfl);rw[e1]at hx;obtain⟨fE1,f1,hr,h1⟩:=h.take a rfl y;obtain⟨hcells,hclen⟩:=R.cells hr hc1;have hones:=RL.ones _ _ _ hc1 hcells;obtain⟨g,b,c,e,f,hv,hh,hb,_,_,hput⟩:=h1.rowW hz (bI hi) hle hx;have hul:(a.eval y).cells.toList.length=(T t).size:=by rw[hclen,hlen]
   have hbl:b+(a.eval y).cells.toList.length<=c.toList.length:=by rw[hul];simpa using hb
   obtain⟨hsame,hdrop⟩:=Ah hbl
   have hone:∀v∈(a.eval y).cells.toList,v.oneCell'=ae:=by
    intro v hv;obtain⟨j,hj⟩:=List.getElem?_of_mem hv;exact hones j v (by have:=(List.getElem?_eq_some_iff.1 hj).1;omega) hj
   have hst:=run_storeCells_at P g b e (a.eval y).cells.toList 0 c w hh (by simpa using hbl) hone;simp only[Nat.add_zero]at hst
   obtain⟨fO',h2⟩:=hput (c.toList.take b++(a.eval y).cells.toList++c.toList.drop (b+(a.eval y).cells.toList.length)).toArray (cellsOf (ev st.env y)) f1 zf
    (by simp only[List.size_toArray,aP,bT,dx];rw[<-Array.length_toList];omega) (by rw[hul]at hsame;simpa[hul]using hsame)
    (by
     intro j v hj hv;rw[List.toList_toArray,hdrop]at hv;rw[List.getElem?_append_left (by omega)]at hv
     exact hones j v (by omega) hv) hlen
    (by
     rw[List.toList_toArray,hdrop]
     have hG:RL w (if z.nm=ae then G else G.pure) (cellsOf (ev st.env y)) (a.eval y).cells.toList f1:=by
      rcases hnm with hnm|hnm
      ·rw[if_pos hnm];exact hcells
      ·split
       ·exact hcells
       ·exact RL.plain _ _ _ hnm hcells
     exact j8 _ _ _ _ (fun j hj=>by rw[List.getElem?_append_left (by omega)]) hG)
    (fun j=>by simp only[zf];omega)
   have hrun:(execOp a.eval o).run P w = .ok .skip (w.setRow g (c.toList.take b++(a.eval y).cells.toList++c.toList.drop (b+(a.eval y).cells.toList.length)).toArray):=by
    have hsz:(a.eval y).cells.size=(T t).size:=by simpa using hul
    simp only[execOp,ho,hv,Instr.storeAt,Instr.sureAddr,storeVar,Sem.run_bind,Sem.run_pure,Result.andThen_ok,hT.sizeOf hkn,hsz,ne_eq,not_true_eq_false,if_false,hst]
   unfold Oper.wp;rw[hrun,Oper.upon_skip];obtain⟨fE3,h3⟩:=h2.putD (fX':=zf) (sv:=.sk) (v:=undef) (fV:=zf) (by simp[R]) (fun j=>by simp[zf]) o.dst a rfl;exact⟨_,G,hk,⟨fE3,fO',h3⟩,Act.put_defers _ _ _⟩
  ·exact hk.elim
 ·exact hk.elim
def aU.box (h:aU w0 L st a.tmps w G fE fO fX){d k:Nat}{cs:List SV}{vs:List Value}{f:FP}(hr:RL w G cs vs f)(hf:∀ g,f g<=fX g)(hd:d<100000)(hlen:cs.length=k)(hvs:vs.length=k)(hones:fG cs=ae)(e:TypeId)(hk:K (b_ (AM.addOb st d k [di d cs] ae) d (.p d 0 0))) :
  Nx w0 L a.defers K (a.put (U d) (.pointer (U ⟨w.heap.size,0,aj⟩))) (w.alloc (.cells vs.toArray e)):=by
 have h1:=h.fresh (.cells vs.toArray e)
 let r:kK:=⟨U (w.heap.size,0,vs.length),k,1⟩
 have hr1:RL (w.alloc (.cells vs.toArray e)) (G.bind d r) (di d cs) vs f:=by
  refine RL.kill (G:=G) (G':=G.bind d r) rfl zU _ _ _ (RL.frame (G:=G) (fun _ h=>h) rfl (fun g hg=>heap_alloc_old w _ (h.fsize g hg)) _ _ _ (fun g hg=>heap_alloc_old w _ (h.lt g (by have:=hf g;omega))) hr)
 obtain⟨fO2,h2⟩:=h1.addOb d k hd [di d cs] ae r (fX':=zf) (fV:=fun j=>one w.heap.size j+(fun j=>f j+zf j) j) (by
  refine⟨r,jM,rfl,rfl,by simp[iy,hlen],?_⟩;refine⟨vs.toArray,e,fun j=>f j+zf j,heap_alloc_new w _,by simp,by simp[r,hvs],?_,rfl⟩;simp only[if_true,aH]
  refine⟨f,zf,by simpa using hr1,?_,rfl,rfl⟩;rw[iy];have:=RL.ones cs vs f hones hr
  simpa using this) (fun j=>by have:=hf j;simp only[zf];omega)
 obtain⟨fE3,h3⟩:=h2.put (fX':=zf) (sv:=.p d 0 0) (v:=.pointer (U ⟨w.heap.size,0,aj⟩)) (fV:=zf) (by
  simp only[R];exact⟨trivial,w.heap.size,0,vs.length,k,1,jM,by simp⟩) (fun j=>by simp[zf]) d
 exact⟨_,_,hk,⟨fE3,fO2,h3⟩,rfl⟩
def Ai (w:World)(G:Gh)(vs:List Value):RL w G (vs.map zCe) vs zf:=by
 induction vs with
 |nil=>simp[RL]
 |cons v vs ih=>simp only[bF,RL];exact⟨v,vs,zf,zf,rfl,R.const _ _ _,ih,by funext j;simp[zf]⟩
def MQ (d:Nat)(vs:List Value):di d (vs.map zCe)=vs.map zCe:=by
 induction vs with
 |nil=>rfl
 |cons v vs ih=>simp only[bF,di,ih];congr 1;unfold zCe;split<;>rfl
def MR {e:Nat}(hT:bU P T)(ho:o.op = .alloc e)(h:SR w0 L st a.tmps w G)(hk:a9 T C o st K):o.wp P a w (Nx w0 L a.defers K) Q:=by
 obtain⟨fE,fO,h⟩:=h;simp only[a9,ho]at hk;split at hk
 ·rename_i d hd;obtain⟨hd1,hkn,hk⟩:=hk;obtain⟨i,z,D,hi,hs,_,hz,hzz,hone,hzl,hc1,_⟩:=hT.ok e hkn
  have hrun:(execOp a.eval o).run P w = .ok (.value (.pointer (U ⟨w.heap.size,0,aj⟩))) (w.alloc (.cells z.cells e)):=by
   simp[execOp,ho,Instr.alloc,zeroValue,typeInfo,hi,hz,newVar,newRow]
  unfold Oper.wp;rw[hrun,Oper.upon_value,hd]
  have:=h.box (d:=d) (k:=(T e).size) (cs:=(T e).zero) (vs:=z.cells.toList) (f:=zf) (K:=K) (by rw[<-hzz];exact Ai w G _) (fun g=>by simp[zf]) hd1 hzl (by rw[<-hzl,<-hzz];simp) hc1 e (by
   rw[<-hzz,MQ,hzz];exact hk)
  simpa using this
 ·exact hk.elim
def MS {e:Nat}{x:Operand}(ho:o.op = .box e x)(h:SR w0 L st a.tmps w G)(hk:a9 T C o st K):o.wp P a w (Nx w0 L a.defers K) Q:=by
 obtain⟨fE,fO,h⟩:=h;simp only[a9,ho]at hk;split at hk
 ·rename_i d hd;obtain⟨hd1,hkn,hlen,hc1,hk⟩:=hk;obtain⟨fE1,f1,hr,h1⟩:=h.take a rfl x;obtain⟨hcells,hcl⟩:=R.cells hr hc1
  have hrun:(execOp a.eval o).run P w = .ok (.value (.pointer (U ⟨w.heap.size,0,aj⟩))) (w.alloc (.cells (a.eval x).cells e)):=by
   simp[execOp,ho,Instr.box,newVar,newRow]
  unfold Oper.wp;rw[hrun,Oper.upon_value,hd];have:=h1.box (d:=d) (k:=(T e).size) (cs:=cellsOf (ev st.env x)) (vs:=(a.eval x).cells.toList) (f:=f1) (K:=K) hcells (fun g=>by simp[zf]) hd1 hlen (by rw[hcl,hlen]) hc1 e hk;simpa using this
 ·exact hk.elim
end
end Go.AM
end
section
namespace Go.AM
section
variable {P:Program}{T:Nat->TI}{C:zAz}{w0 w w':World}{L:Lv}{st st1:St}{a:Act}{G G':Gh}{fE fO fX fV:FP}{o:Oper}{K:St->Prop}{Q:Exit->Act->World->Prop}{v:Value}{sv:SV}
def EX:∀(l:List Value) (k off:Nat) (cs:Array Value),off+k+l.length<=cs.size ->
  ((l.zipIdx k).foldl (fun(cs:Array Value) (p:Value×Nat)=>cs.setIfInBounds (off+p.2) p.1) cs).toList=cs.toList.take (off+k)++l++cs.toList.drop (off+k+l.length)
 |[],k,off,cs,h=>by simp
 | v::l,k,off,cs,h=>by
   simp only[List.zipIdx_cons,List.foldl_cons]
   have h':off+(k+1)+l.length<=(cs.setIfInBounds (off+k) v).size:=by simp at h ⊢;omega
   rw[EX l (k+1) off _ h'];have e:=list_seg_step cs.toList (off+k) v l (by simp at h ⊢;omega);simpa[Array.toList_setIfInBounds,Nat.add_assoc]using e
def EY (place:Nat->Option (Nat×Nat))(cells:Array Value)(i:Nat)(v:Value)(rest:List (Nat×Value)){off size:Nat}(hp:place i=U (off,size))(hs:v.cells.size=size)(hle:off+size<=cells.size) :
  Instr.fill place cells ((i,v)::rest)=Instr.fill place (cells.toList.take off++v.cells.toList++cells.toList.drop (off+v.cells.toList.length)).toArray rest:=by
 simp only[Instr.fill,hp]
 have h1:¬(v.cells.size≠size||off+v.cells.size>cells.size)=ae:=by simp[hs];omega
 rw[if_neg h1];congr 1;apply Array.ext';rw[<-Array.foldl_toList,Array.toList_zipIdx];have:=EX v.cells.toList 0 off cells (by simpa[hs]using hle);simpa using this
def EZ {fs:List (Nat×Nat)}{place:Nat->Option (Nat×Nat)}(hplace:∀ j ft fo,fs[j]? = U (ft,fo)->(T ft).known=ae->place j=U (fo,(T ft).size)):∀(ps:List (Nat×Operand)) (svs:List SV) (us:List Value) (row:List SV) (cells:Array Value) (f fp:FP),
  RL w G svs us fp->svs.length=ps.length->us.length=ps.length->RL w G row cells.toList f->row.length=cells.size->ot T fs row.length (j_ ps svs)=ae ->
  ∃(cells':Array Value) (f':FP),Instr.fill place cells (List.zipWith (fun p u=>(p.1,u)) ps us)=U cells'/\RL w G (ka fs row (j_ ps svs)) cells'.toList f'/\(∀g,f' g<=f g+fp g)/\cells'.size=cells.size/\(ka fs row (j_ ps svs)).length=row.length
 | [],svs,us,row,cells,f,fp,_,hl,hl2,hr,hlen,_=>by
   have h1:svs=[]:=by simpa using hl
   have h2:us=[]:=by simpa using hl2
   subst h1 h2;exact⟨cells,f,by simp[Instr.fill],by simpa[j_,ka]using hr,fun g=>by omega,rfl,by simp[j_,ka]⟩
 | (j,x)::ps,svs,us,row,cells,f,fp,hsv,hl,hl2,hr,hlen,hb=>by
   cases svs with
   |nil=>simp at hl
   | cons sv svs=>
     simp only[RL]at hsv;obtain⟨u,us',f1,f2,hu,hru,hrs,hff⟩:=hsv;subst hu;simp only[j_,ot,aK]at hb;obtain⟨hb1,hb2⟩:=hb;cases hfj:fs[j]? with
     |none=>rw[hfj]at hb1;simp at hb1
     | some q=>
       obtain⟨ft,fo⟩:=q;rw[hfj]at hb1;simp only[aK,beq_iff_eq,aL]at hb1;obtain⟨⟨⟨hkn,hsz⟩,hc1⟩,hle⟩:=hb1;obtain⟨hcells,hclen⟩:=R.cells hru hc1;have hus:u.cells.size=(T ft).size:=by have:=hclen;simp only[Array.length_toList]at this;omega
       have hgd:(fs.getD j (0,0)).2=fo:=by simp[List.getD_eq_getElem?_getD,hfj]
       obtain⟨p1,p2,_,hpp,hput⟩:=Mn row cells.toList f fo (T ft).size hr hle;have hbl:fo+u.cells.toList.length<=cells.toList.length:=by simp only[Array.length_toList];omega
       obtain⟨hsame,hdrop⟩:=Ah hbl
       have hw:=hput (cellsOf sv) (cells.toList.take fo++u.cells.toList++cells.toList.drop (fo+u.cells.toList.length)) f1 hsz (fun i hi=>hsame i (by simp only[Array.length_toList];omega)) (by
        rw[hdrop]
        exact j8 _ _ _ _ (fun i hi=>by rw[List.getElem?_append_left (by simp only[Array.length_toList];omega)]) hcells)
       have hwl:(wr row fo (cellsOf sv)).length=row.length:=Af _ _ _ (by omega)
       obtain⟨cells',f',hfill,hrl,hle',hsize,hpl⟩:=EZ hplace ps svs us' (wr row fo (cellsOf sv)) (cells.toList.take fo++u.cells.toList++cells.toList.drop (fo+u.cells.toList.length)).toArray (fun h=>f1 h+p2 h) f2 hrs (by simpa using hl) (by simpa using hl2)
        (by simpa using hw) (by rw[hwl,hlen];simp only[List.size_toArray,aP,bT,dx,Array.length_toList]at *;omega) (by rw[hwl];exact hb2)
       refine⟨cells',f',?_,?_,?_,?_,?_⟩
       ·simp only[List.zipWith_cons_cons]
        rw[EY place cells j u _ (hplace j ft fo hfj hkn) hus (by omega)];exact hfill
       ·simp only[j_,ka,hgd];exact hrl
       ·intro g;have:=hle' g;have:=bK hff g;have:=bK hpp g;omega
       ·rw[hsize];simp only[List.size_toArray,aP,bT,dx,Array.length_toList]at *;omega
       ·simp only[j_,ka,hgd];rw[hpl,hwl]
def uU:∀(xs:List Operand) (st:St),(gG st xs).length=xs.length
 |[],st=>rfl
 |x::xs,st=>by simp[gG,uU xs]
def E0 (hT:bU P T):∀(fields:List Field),pS T (fields.map fun f=>(f.type,f.offset))=ae ->
  fields.mapM (fun f=>(P.info? f.type).map fun i=>(f.offset,i.size))=U (fields.map fun f=>(f.offset,(T f.type).size))
 |[],_=>rfl
 | f::fields,h=>by
   simp only[bF,pS,aK]at h;obtain⟨i,z,d,hi,hs,_⟩:=hT.ok f.type h.1;simp[List.mapM_cons,hi,hs,E0 hT fields h.2]
def E1 {t:Nat}{ps:Array (Nat×Operand)}(hT:bU P T)(ho:o.op = .build t ps)(h:SR w0 L st a.tmps w G)(hk:a9 T C o st K):Ow P T o a w (Nx w0 L a.defers K) Q:=by
 obtain⟨fE,fO,h⟩:=h;simp only[a9,ho]at hk;split at hk
 ·rename_i fs hkd;obtain⟨hkn,hfk,hb,hk⟩:=hk;obtain⟨i,z,d,hi,hsi,hby,hz,hzz,hone,hzl,hc1,hpl,hd,hkdd,hagg,_,hst⟩:=hT.ok t hkn;rw[hkd]at hkdd;simp only[lz]at hkdd;obtain⟨fields,rfl,hfs,_⟩:=hkdd;obtain⟨fE1,f1,hr,h1⟩:=h.takeL a rfl (cx ps);have hzs:(T t).size=z.cells.size:=by rw[<-hzl,<-hzz];simp
  rw[<-hfs]at hfk;have hpl:=E0 hT fields.toList hfk;have hop:(cx ps).length=ps.toList.length:=by simp[cx]
  have hvl:=uU (cx ps) st
  have hplace:∀(j ft fo:Nat),fs[j]? = U (ft,fo)->(T ft).known=ae->((fields.toList.map fun f=>(f.offset,(T f.type).size)).toArray[·]?) j=U (fo,(T ft).size):=by
   intro j ft fo hj _;rw[<-hfs]at hj;simp only[List.getElem?_map]at hj;cases hq:fields.toList[j]? with
   |none=>rw[hq]at hj;simp at hj
   | some fd=>
     rw[hq]at hj;simp at hj;have hq':fields[j]? = U fd:=by simpa using hq
     simp[hq',hj.1,hj.2]
  obtain⟨cells',f',hfill,hrl,hle,hsz,hplen⟩:=EZ (w:=w) (G:=G) hplace ps.toList (gG st (cx ps)) ((cx ps).map a.eval) (T t).zero z.cells zf f1 hr (by rw[hvl,hop]) (by simp[cx]) (by rw[<-hzz];exact Ai w G _) (by rw[hzl,hzs]) (by rw[hzl];exact hb)
  have hparts:(ps.map fun p=>(p.1,a.eval p.2)).toList=List.zipWith (fun p u=>(p.1,u)) ps.toList ((cx ps).map a.eval):=by
   simp only[Array.toList_map,cx,List.map_map]
   generalize ps.toList=l
   induction l with
   |nil=>rfl
   |cons p l ih=>simp[ih]
  have hbuilt:P.built t (ps.map fun p=>(p.1,a.eval p.2)).toList=U cells':=by
   unfold Program.built;simp only[hi,hd,hz,hpl]
   rw[hparts];exact hfill
  have hrun:(execOp a.eval o).run P w = .ok (.value (.agg cells')) w:=by
   have:=run_build (P:=P) w t _ cells' hbuilt;simp[execOp,ho,this]
  refine gM hrun h1 (sv:=.agg (ka fs (T t).zero (mX st ps))) (fV:=f') ?_ (fun g=>by have:=hle g;simp only[zf]at *;omega) hk;simp only[R]
  exact⟨cells',rfl,by unfold mX;rw[hplen,hzl,hsz,hzs],hrl⟩
 ·exact hk.elim
def E2 (e size:Nat):∀(ps:List (Nat×Operand)) (us:List Value) (i:Nat) (cells:Array Value),pR i ps=ae->us.length=ps.length->(∀u∈us,u.cells.size=size)->(i+ps.length)*size<=cells.size ->
  Instr.fill (fun i=>U (i*size,size)) cells (List.zipWith (fun p u=>(p.1,u)) ps us)=U (cells.toList.take (i*size)++(us.flatMap fun u=>u.cells.toList)++cells.toList.drop ((i+ps.length)*size)).toArray
 | [],us,i,cells,_,hl,_,hle=>by
   have:us=[]:=by simpa using hl
   subst this;simp[Instr.fill]
 | (j,x)::ps,us,i,cells,hs,hl,hu,hle=>by
   cases us with
   |nil=>simp at hl
   | cons u us=>
     simp only[pR,aK,beq_iff_eq]at hs;obtain⟨rfl,hs⟩:=hs;have hus:u.cells.size=size:=hu u (by simp);simp only[bL]at hle;have e1:(i+(ps.length+1))*size=(i+1+ps.length)*size:=by congr 1;omega
     have e2:(i+1)*size=i*size+size:=by rw[Nat.add_mul,Nat.one_mul]
     have e3:(i+1+ps.length)*size=i*size+size+ps.length*size:=by rw[Nat.add_mul,e2]
     simp only[List.zipWith_cons_cons]
     rw[EY _ cells i u _ rfl hus (by omega)];have hul:u.cells.toList.length=size:=by simpa using hus
     have hlen:(cells.toList.take (i*size)++u.cells.toList++cells.toList.drop (i*size+u.cells.toList.length)).length=cells.size:=by
      simp only[aP,bT,dx,Array.length_toList]at *;omega
     rw[E2 e size ps us (i+1) _ hs (by simpa using hl) (fun v hv=>hu v (by simp[hv])) (by simp only[List.size_toArray];rw[hlen,e3];omega)];congr 2;have l1:(cells.toList.take (i*size)).length=i*size:=by simp only[bT,Array.length_toList];omega
     simp only[List.flatMap_cons]
     have hA:(cells.toList.take (i*size)++u.cells.toList++cells.toList.drop (i*size+u.cells.toList.length)).take ((i+1)*size)=cells.toList.take (i*size)++u.cells.toList:=by
      rw[List.take_append_of_le_length (by simp only[aP,l1];omega),List.take_of_length_le (by simp only[aP,l1];omega)]
     have hB:(cells.toList.take (i*size)++u.cells.toList++cells.toList.drop (i*size+u.cells.toList.length)).drop ((i+1+ps.length)*size)=cells.toList.drop ((i+(ps.length+1))*size):=by
      rw[List.drop_append,List.drop_eq_nil_of_le (by simp only[aP,l1];omega),dy,List.drop_drop];congr 1;simp only[aP,l1]
      omega
     simp only[bL]
     rw[hA,hB];simp[bD]
def E3 (size:Nat):∀(svs:List SV) (us:List Value) (f:FP) (tail:List Value),RL w G svs us f->us.length=svs.length->oq size svs=ae ->
  aH w G.pure (svs.map cellsOf) ((us.flatMap fun u=>u.cells.toList)++tail) f/\(∀r∈svs.map cellsOf,r.length=size)/\(∀u∈us,u.cells.size=size)
 | [],us,f,tail,h,hl,_=>by
   have:us=[]:=by simpa using hl
   subst this;simp only[RL]at h;simp[aH,h]
 | sv::svs,us,f,tail,h,hl,hk=>by
   simp only[RL]at h;obtain⟨u,us',f1,f2,hu,hr,hrs,hff⟩:=h;subst hu;simp only[oq,aK,beq_iff_eq]at hk;obtain⟨⟨⟨hsz,hc1⟩,hpl⟩,hk⟩:=hk;obtain⟨hcells,hclen⟩:=R.cells hr hc1;obtain⟨ih1,ih2,ih3⟩:=E3 size svs us' f2 tail hrs (by simpa using hl) hk;have hones:=RL.ones _ _ _ hc1 hcells;refine⟨?_,?_,?_⟩
   ·simp only[bF,List.flatMap_cons,aH,bD]
    refine⟨f1,f2,j8 _ _ _ _ (fun j hj=>by rw[List.getElem?_append_left (by omega)]) (RL.plain _ _ _ hpl hcells),?_,?_,hff⟩
    ·intro j v hj hv;rw[List.getElem?_append_left (by omega)]at hv;exact hones j v hj hv
    ·rw[List.drop_append_of_le_length (by omega),List.drop_eq_nil_of_le (by omega),dy];exact ih1
   ·intro r hr;simp only[bF,List.mem_cons]at hr;rcases hr with rfl|hr
    ·exact hsz
    ·exact ih2 r hr
   ·intro v hv;simp only[List.mem_cons]at hv;rcases hv with rfl|hv
    ·have:=hclen;simp only[Array.length_toList]at this;omega
    ·exact ih3 v hv
def MT {t len:Nat}{ps:Array (Nat×Operand)}(hT:bU P T)(ho:o.op = .buildSlice t len ps)(h:SR w0 L st a.tmps w G)(hk:a9 T C o st K):o.wp P a w (Nx w0 L a.defers K) Q:=by
 obtain⟨fE,fO,h⟩:=h;simp only[a9,ho]at hk;split at hk
 ·rename_i e hkd;obtain⟨hkn,hlen,h24,hseq,hrows,hk⟩:=hk;obtain⟨i,z,d,hi,hsi,hby,hz,hzz,hone,hzl,hc1,hpl,hd,hkdd,hagg,_,hst⟩:=hT.ok e hkn;obtain⟨fE1,f1,hr,h1⟩:=h.takeL a rfl (cx ps);have hzs:(T e).size=z.cells.size:=by rw[<-hzl,<-hzz];simp
  have hvl:=uU (cx ps) st;have hop:(cx ps).length=len:=by simp[cx,hlen]
  obtain⟨hR,hw,hus⟩:=E3 (T e).size (gG st (cx ps)) ((cx ps).map a.eval) f1 [] hr (by simp[hvl]) hrows
  have hparts:(ps.map fun p=>(p.1,a.eval p.2)).toList=List.zipWith (fun p u=>(p.1,u)) ps.toList ((cx ps).map a.eval):=by
   simp only[Array.toList_map,cx,List.map_map]
   generalize ps.toList=l
   induction l with
   |nil=>rfl
   |cons p l ih=>simp[ih]
  have hfill:=E2 e (T e).size ps.toList ((cx ps).map a.eval) 0
   (if len*(T e).size=0 then(Array.range (len*(T e).size)).map ((#[]:Array Value)[· % (#[]:Array Value).size]!)else(Array.range (len*(T e).size)).map (z.cells[· % z.cells.size]!)) hseq (by simp[cx]) hus (by
    split<;>simp[hlen])
  generalize hcs:((cx ps).map a.eval).flatMap (fun u=>u.cells.toList)=us at hfill hR
  have husl:us.length=len*(T e).size:=by
   rw[<-hcs]
   have:∀(l:List Value),(∀u∈l,u.cells.size=(T e).size)->(l.flatMap fun u=>u.cells.toList).length=l.length*(T e).size:=by
    intro l
    induction l with
    |nil=>intro _;simp
    | cons u l ih=>
      intro hl;simp only[List.flatMap_cons,aP,bL,Nat.add_mul,Nat.one_mul]
      rw[ih (fun v hv=>hl v (by simp[hv]))];have:=hl u (by simp);simp only[Array.length_toList];omega
   rw[this _ hus];simp[hop]
  have hfill2:∀cells:Array Value,cells.size=len*(T e).size->(cells.toList.take (0*(T e).size)++us++cells.toList.drop ((0+ps.toList.length)*(T e).size)).toArray=us.toArray:=by
   intro cells hc;have hd:cells.toList.drop ((0+ps.toList.length)*(T e).size)=[]:=List.drop_eq_nil_of_le (by simp[hc,hlen]);rw[hd];simp
  have hrun:(execOp a.eval o).run P w = .ok (.value (.slice (U ⟨w.heap.size,0,aj⟩) len len)) (w.alloc (.cells us.toArray e)):=by
   by_cases h0:len*(T e).size=0
   ·rw[if_pos h0]at hfill;rw[hfill2 _ (by simp)]at hfill;rw[<-hparts]at hfill;simp only[execOp,ho,Instr.buildSlice,Sem.run_bind,run_underlying (hT.slice hkd),Result.andThen_ok,hT.sizeOf hkn]
    have:¬(len*(T e).size>2^24):=by omega
    rw[if_neg this,if_pos h0];simp only[Sem.run_bind,Sem.run_pure,Result.andThen_ok]
    simp only[hfill]
    simp[newRow]
   ·rw[if_neg h0]at hfill;rw[hfill2 _ (by simp)]at hfill;rw[<-hparts]at hfill;simp only[execOp,ho,Instr.buildSlice,Sem.run_bind,run_underlying (hT.slice hkd),Result.andThen_ok,hT.sizeOf hkn]
    have:¬(len*(T e).size>2^24):=by omega
    have hzv:(zeroValue e).run P w = .ok z w:=by simp[zeroValue,typeInfo,hi,hz]
    simp only[this,if_false,h0,Sem.run_pure,Result.andThen_ok,Sem.run_bind,hzv,hfill]
    simp[newRow]
  have h2:=h1.fresh (.cells us.toArray e);refine ow hrun h2 (sv:=.own (T e).size ((gG st (cx ps)).map cellsOf)) (fV:=fun j=>one w.heap.size j+f1 j) ?_ (fun j=>by simp only[zf];omega) hk;simp only[R]
  right;refine⟨w.heap.size,0,len,us.toArray,e,f1,by simp[hvl,hop],by simp[hvl,hop],heap_alloc_new w _,by simp[husl],hw,?_,rfl⟩;rw[cB]at hR;have:=aH.frame (G:=G.pure) (G':=G.pure) (w:=w) (w':=w.alloc (.cells us.toArray e)) (fun _ h=>h) rfl (fun g hg=>heap_alloc_old w _ (h1.fsize g hg)) _ _ f1 (fun g hg=>heap_alloc_old w _ (h1.lt g (by simp only[zf];omega))) hR;simpa using this
 ·exact hk.elim
end
end Go.AM
end
