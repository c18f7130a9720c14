/- Part 11 of the proof of FnTidyAll; no condition. -/
import Derived.Test.YtmjlecabpbiigaaGreatX09
open Option renaming some -> U
open Decidable renaming decide -> aa
open Bool renaming true -> ae
open Bool renaming false -> ag
open Option renaming none -> aj
open Sum renaming inr -> an
open Sum renaming inl -> ao
open List renaming length -> au
open Int renaming toNat -> aw
open List renaming drop -> cU
open List renaming take -> de
set_option autoImplicit true
set_option relaxedAutoImplicit true
set_option linter.all false
section
namespace Go.TM
open Go.AM
section
variable {R:Type}{T:Nat->TI}{C:nw R}{C':zAz}{o:Oper}{s:TS}{K:TS->Option R}{K':St->Prop}{r:R}
def Kq {K':St->Prop}(hK:∀ s,K s=U r->K' (eS s)){s':TS}{st:St}(he:st=eS s')(h:K s'=U r):K' st:=by rw[he];exact hK _ h
def bG {b:Bool}{A:Prop}(hb:b=ae)(h:A):chk b A:=by rw[hb];exact h
def NV {v:V}(h:eJ v=ag):∀k rows,e v ≠ .own k rows:=by
 intro k rows he;cases v<;>simp[e,eJ]at he h
def A6 (v:V):(∃g d l,v = .own g d l)\/(∃g,v = .emp g)\/(∀k rows,e v ≠ .own k rows):=by
 cases v with
 |own g d l=>exact .inl ⟨_,_,_,rfl⟩
 |emp g=>exact .inr (.inl ⟨_,rfl⟩)
 |_=>refine .inr (.inr ?_);intro k rows h;simp[e]at h
def NW {x:Operand}(ho:o.op = .move x)(hK:∀ s,K s=U r->K' (eS s))(h:bZ T C o s K=U r):bO T C' o (eS s) (K'):=by
 simp only[bZ,ho]at h;simp only[bO,ho]
 cases x with
 | tmp t=>
   simp only at h ⊢;rw[i6];rcases A6 (cQ s t)with⟨g,d,l,hv⟩|⟨g,hv⟩|hv
   ·rw[hv]at h ⊢;obtain⟨h1,h2⟩:=bj h;refine bG h1 (Kq hK ?_ h2);rw[show(SV.u)=e .u from rfl,fJ];have:=nt (s:=dk s t .u) t (.arr t g d l) rfl;simp only[eO]at this;rw[this,show(SV.ar t)=e (.ar t)from rfl,fJ,bP]
   ·rw[hv]at h ⊢;obtain⟨h1,h2⟩:=bj h;refine bG h1 (Kq hK ?_ h2);rw[show(SV.u)=e .u from rfl,fJ];have:=nt (s:=dk s t .u) t (.arr t g ae []) rfl;simp only[eO,List.map_nil]at this;rw[this,show(SV.ar t)=e (.ar t)from rfl,fJ,bP]
   ·have h':(match eJ (cQ s t)with
     |true=>K (bB (dk s t .u) o.dst (cQ s t))
     |false=>K (bB s o.dst (cQ s t)))=U r:=by
     revert h;split
     ·rename_i g d l hq;rw[hq]at hv;exact absurd rfl (hv _ _)
     ·rename_i g hq;rw[hq]at hv;exact absurd rfl (hv _ _)
     ·exact id
    split
    ·rename_i hq;exact absurd hq (hv _ _)
    ·rw[iB];revert h';cases eJ (cQ s t)
     ·intro h';exact Kq hK (bP _ _) h'
     ·intro h';exact Kq hK (by rw[show(SV.u)=e .u from rfl,fJ,bP]) h'
 |_=>simp only at h ⊢;rw[bV,bP];exact hK _ h
def NX {x:Operand}(ho:o.op = .assign x)(hK:∀ s,K s=U r->K' (eS s))(h:bZ T C o s K=U r):bO T C' o (eS s) (K'):=by
 simp only[bZ,ho]at h;simp only[bO,a9,ho]
 rw[bV,jT,bP];exact hK _ h
def NY {c x y:Operand}(ho:o.op = .pick c x y)(hK:∀ s,K s=U r->K' (eS s))(h:bZ T C o s K=U r):bO T C' o (eS s) (K'):=by
 simp only[bZ,ho]at h;simp only[bO,a9,ho]
 rw[bV,bV,bV];generalize bp s c=vc at h ⊢;cases vc<;>simp only[e]at h ⊢<;>try cases h
 rename_i b
 have key:ai b (K (bB (cY s x) o.dst (bp s x))) (K (bB (cY s y) o.dst (bp s y)))=U r->cnd b (K' (aZ (dA (eS s) x) o.dst (e (bp s x)))) (K' (aZ (dA (eS s) y) o.dst (e (bp s y)))):=by
  intro h;refine cnd.mk (fun hb=>?_) (fun hb=>?_)
  ·subst hb;exact Kq hK (by rw[jT,bP]) h
  ·subst hb;exact Kq hK (by rw[jT,bP]) h
 revert h key;generalize hx:bp s x=vx;generalize hy:bp s y=vy;intro h key;have hb:∀z:Bool,aZ (eS s) o.dst (SV.b z)=eS (bB s o.dst (.b z)):=fun z=>bP o.dst (V.b z)
 cases vx<;>cases vy<;>simp only[e]at h key ⊢<;>first|exact Kq hK (hb _) h|exact key h
def NZ {t:TypeId}(ho:o.op = .alloc t)(hK:∀ s,K s=U r->K' (eS s))(h:bZ T C o s K=U r):bO T C' o (eS s) (K'):=by
 simp only[bZ,ho]at h;simp only[bO,ho]
 cases hd:o.dst with
 |none=>rw[hd]at h;cases h
 | some d=>
   rw[hd]at h;simp only at h ⊢;obtain⟨h1,h2⟩:=bj h;simp only[aK]at h1;refine bG (by simp only[h1.1.1.1,h1.1.1.2,ba]) (Kq hK ?_ h2);have hz:=AT _ h1.1.2;have:=nt (s:=s) d (.box d (nx (T t).zero)) rfl;simp only[eO,hz]at this;have hl:(nx (T t).zero).length=(T t).size:=by rw[<-cN,hz];exact eq_of_beq h1.2
   rw[hl]at this;rw[this,show(SV.p d 0 0)=e (.p d 0 0)from rfl,fJ]
def N0 {t:TypeId}{x:Operand}(ho:o.op = .box t x)(hK:∀ s,K s=U r->K' (eS s))(h:bZ T C o s K=U r):bO T C' o (eS s) (K'):=by
 simp only[bZ,ho]at h;simp only[bO,ho]
 cases hd:o.dst with
 |none=>rw[hd]at h;cases h
 | some d=>
   rw[hd]at h;simp only at h ⊢;obtain⟨h1,h2⟩:=bj h;rw[bV,nu,nr,cN];refine bG h1 (Kq hK ?_ h2);simp only[aK]at h1;have:=nt (s:=cY s x) d (.box d (ju d (eU (bp s x)))) rfl;simp only[eO,GB,eq_of_beq h1.1.2]at this;rw[mn,jT,this,show(SV.p d 0 0)=e (.p d 0 0)from rfl,fJ]
def GS:∀(ps:List (Nat×Operand)) (vs:List V),j_ ps (eL vs)=(oQ ps vs).map fun p=>(p.1,e p.2)
 |[],vs=>by cases vs<;>rfl
 |_::_,[]=>rfl
 |(j,_)::ps,v::vs=>by simp only[eL,j_,oQ,bF,GS ps vs]
def GU {fs:List (Nat×Nat)}{n:Nat}:∀l:List (Nat×V),ot T fs n (l.map fun p=>(p.1,e p.2))=vJ T fs n l
 |[]=>rfl
 | (j,v)::l=>by
   simp only[bF,ot,vJ,GU l,nu,cN,nr]
   congr 1;cases fs[j]? with
   |none=>rfl
   | some q=>
     have:∀a b:Nat,aa (a<=b)=ble a b:=fun a b=>by
      cases hb:ble a b with
      |true=>exact decide_eq_true (dZ hb)
      |false=>exact decide_eq_false fun hl=>by rw[show ble a b=ae from Nat.ble_eq_true_of_le hl]at hb;cases hb
     simp only[this]
def GV {fs:List (Nat×Nat)}:∀(l:List (Nat×V)) (row:List V),ka fs (eL row) (l.map fun p=>(p.1,e p.2))=eL (vK fs row l)
 |[],_=>rfl
 | (j,v)::l,row=>by
   simp only[bF,ka,vK,nu,<-g9,GV l]
def N1 {t:TypeId}{ps:Array (Nat×Operand)}(ho:o.op = .build t ps)(hK:∀ s,K s=U r->K' (eS s))(h:bZ T C o s K=U r):bO T C' o (eS s) (K'):=by
 simp only[bZ,ho]at h;simp only[bO,ho]
 split at h
 ·rename_i fs hk;simp only[hk]
  obtain⟨h1,h2⟩:=bj h;have hz:=AT _ (by simp only[aK]at h1;exact h1.1.2)
  have hp:mX (eS s) ps=(oQ ps.toList (lE s (cx ps))).map fun p=>(p.1,e p.2):=by
   simp only[mX,vB,GS]
  rw[hp,GU];refine bG (by simp only[aK]at h1 ⊢;exact⟨⟨h1.1.1.1,h1.1.1.2⟩,h1.2⟩) (Kq hK ?_ h2);have hpp:=GV (fs:=fs) (oQ ps.toList (lE s (cx ps))) (nx (T t).zero);rw[hz]at hpp;rw[hpp,vA];exact bP _ (.agg _)
 ·cases h
def GW {n:Nat}:∀l:List V,oq n (eL l)=vL n l
 |[]=>rfl
 |v::l=>by simp only[eL,oq,vL,nu,cN,nr,AJ,GW l]
def GX {d:Bool}{g:GT}{ks:List TK}(hs:dL T g ks=U []):∀(vs:List V) (K:List g.Den->Option R),vM d g vs K=U r->∃l,K l=U r/\mZ T ks ((eL vs).map cellsOf)=l.map (aO d g)
 |[],K,h=>⟨[],h,rfl⟩
 | v::vs,K,h=>by
   unfold vM at h;obtain⟨x,rest,h1,h2,_⟩:=AS g ks [] _ _ hs h;split at h1
   ·obtain⟨l,h3,h4⟩:=GX hs vs _ h1;refine⟨x::l,h3,?_⟩;simp only[eL,bF,mZ,h4,nu,h2,jo,cB]
   ·cases h1
def N2 {t:TypeId}{len:Nat}{ps:Array (Nat×Operand)}(ho:o.op = .buildSlice t len ps)(hK:∀ s,K s=U r->K' (eS s))(h:bZ T C o s K=U r):bO T C' o (eS s) (K'):=by
 simp only[bZ,ho]at h;simp only[bO,ho]
 split at h
 ·rename_i t' hk;simp only[hk]
  split at h
  ·rename_i g hg;obtain⟨h1,h2⟩:=bj h;simp only[aK]at h1;obtain⟨hsh,hsz⟩:=so h1.2;rw[vB,GW,vA];refine bG (by simp only[aK];exact h1.1) ?_;rw[hsz];split at h2
   ·rename_i hv;rw[hv];exact Kq hK (bP _ (.emp g)) h2
   ·rename_i v vs hv;obtain⟨l,h3,h4⟩:=GX hsh _ _ h2;rw[hv,h4];exact Kq hK (bP _ (.own g _ l)) h3
  ·cases h
 ·cases h
end
end Go.TM
end
