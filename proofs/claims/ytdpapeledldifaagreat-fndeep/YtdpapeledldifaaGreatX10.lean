/- Part 11 of the proof of FnDeep; no condition. -/
import Derived.Test.YtdpapeledldifaaGreatX09
open Option renaming some -> U
open Decidable renaming decide -> aa
open Bool renaming true -> ad
open Bool renaming false -> ag
open Option renaming none -> aj
open Sum renaming inl -> an
open Sum renaming inr -> ao
open List renaming length -> au
open Int renaming toNat -> aH
open List renaming drop -> kZ
open List renaming take -> nY
set_option autoImplicit true
set_option relaxedAutoImplicit true
set_option linter.all false
section
namespace Go.TM
open Go.AM
section
variable {R:Type}{T:Nat->TI}{C:ni R}{C':zAy}{o:Oper}{s:TS}{K:TS->Option R}{K':St->Prop}{r:R}
def Kq {K':St->Prop}(hK:∀ s,K s=U r->K' (eS s)){s':TS}{st:St}(he:st=eS s')(h:K s'=U r):K' st:=by rw[he];exact hK _ h
def bF {b:Bool}{A:Prop}(hb:b=ad)(h:A):bR b A:=by rw[hb];exact h
def M1 {v:V}(h:eu v=ag):∀k rows,e v ≠ .own k rows:=by
 intro k rows he;cases v<;>simp[e,eu]at he h
def At (v:V):(∃g d l,v = .own g d l)\/(∃g,v = .emp g)\/(∀k rows,e v ≠ .own k rows):=by
 cases v with
 |own g d l=>exact .inl ⟨_,_,_,rfl⟩
 |emp g=>exact .inr (.inl ⟨_,rfl⟩)
 |_=>refine .inr (.inr ?_);intro k rows h;simp[e]at h
def M3 {x:Operand}(ho:o.op = .move x)(hK:∀ s,K s=U r->K' (eS s))(h:b9 T C o s K=U r):bO T C' o (eS s) (K'):=by
 simp only[b9,ho]at h;simp only[bO,ho]
 cases x with
 | tmp t=>
   simp only at h ⊢;rw[jD];rcases At (cT s t)with⟨g,d,l,hv⟩|⟨g,hv⟩|hv
   ·rw[hv]at h ⊢;obtain⟨h1,h2⟩:=bl h;refine bF h1 (Kq hK ?_ h2);rw[show(SV.u)=e .u from rfl,gI];have:=p3 (s:=dT s t .u) t (.arr t g d l) rfl;simp only[eO]at this;rw[this,show(SV.ar t)=e (.ar t)from rfl,gI,bP]
   ·rw[hv]at h ⊢;obtain⟨h1,h2⟩:=bl h;refine bF h1 (Kq hK ?_ h2);rw[show(SV.u)=e .u from rfl,gI];have:=p3 (s:=dT s t .u) t (.arr t g ad []) rfl;simp only[eO,List.map_nil]at this;rw[this,show(SV.ar t)=e (.ar t)from rfl,gI,bP]
   ·have h':(match eu (cT s t)with
     |true=>K (bC (dT s t .u) o.dst (cT s t))
     |false=>K (bC s o.dst (cT s t)))=U r:=by
     revert h;split
     ·rename_i g d l hq;rw[hq]at hv;exact absurd rfl (hv _ _)
     ·rename_i g hq;rw[hq]at hv;exact absurd rfl (hv _ _)
     ·exact id
    split
    ·rename_i hq;exact absurd hq (hv _ _)
    ·rw[im];revert h';cases eu (cT s t)
     ·intro h';exact Kq hK (bP _ _) h'
     ·intro h';exact Kq hK (by rw[show(SV.u)=e .u from rfl,gI,bP]) h'
 |_=>simp only at h ⊢;rw[bW,bP];exact hK _ h
def M4 {x:Operand}(ho:o.op = .assign x)(hK:∀ s,K s=U r->K' (eS s))(h:b9 T C o s K=U r):bO T C' o (eS s) (K'):=by
 simp only[b9,ho]at h;simp only[bO,a9,ho]
 rw[bW,jE,bP];exact hK _ h
def M5 {c x y:Operand}(ho:o.op = .pick c x y)(hK:∀ s,K s=U r->K' (eS s))(h:b9 T C o s K=U r):bO T C' o (eS s) (K'):=by
 simp only[b9,ho]at h;simp only[bO,a9,ho]
 rw[bW,bW,bW];generalize bw s c=vc at h ⊢;cases vc<;>simp only[e]at h ⊢<;>try cases h
 rename_i b
 have key:ah b (K (bC (cU s x) o.dst (bw s x))) (K (bC (cU s y) o.dst (bw s y)))=U r->cnd b (K' (aZ (dp (eS s) x) o.dst (e (bw s x)))) (K' (aZ (dp (eS s) y) o.dst (e (bw s y)))):=by
  intro h;refine cnd.mk (fun hb=>?_) (fun hb=>?_)
  ·subst hb;exact Kq hK (by rw[jE,bP]) h
  ·subst hb;exact Kq hK (by rw[jE,bP]) h
 revert h key;generalize hx:bw s x=vx;generalize hy:bw s y=vy;intro h key;have hb:∀z:Bool,aZ (eS s) o.dst (SV.b z)=eS (bC s o.dst (.b z)):=fun z=>bP o.dst (V.b z)
 cases vx<;>cases vy<;>simp only[e]at h key ⊢<;>first|exact Kq hK (hb _) h|exact key h
def M6 {t:TypeId}(ho:o.op = .alloc t)(hK:∀ s,K s=U r->K' (eS s))(h:b9 T C o s K=U r):bO T C' o (eS s) (K'):=by
 simp only[b9,ho]at h;simp only[bO,ho]
 cases hd:o.dst with
 |none=>rw[hd]at h;cases h
 | some d=>
   rw[hd]at h;simp only at h ⊢;obtain⟨h1,h2⟩:=bl h;simp only[aG]at h1;refine bF (by simp only[h1.1.1.1,h1.1.1.2,bp]) (Kq hK ?_ h2);have hz:=Ai _ h1.1.2;have:=p3 (s:=s) d (.box d (nj (T t).zero)) rfl;simp only[eO,hz]at this;have hl:(nj (T t).zero).length=(T t).size:=by rw[<-cF,hz];exact eq_of_beq h1.2
   rw[hl]at this;rw[this,show(SV.p d 0 0)=e (.p d 0 0)from rfl,gI]
def M7 {t:TypeId}{x:Operand}(ho:o.op = .box t x)(hK:∀ s,K s=U r->K' (eS s))(h:b9 T C o s K=U r):bO T C' o (eS s) (K'):=by
 simp only[b9,ho]at h;simp only[bO,ho]
 cases hd:o.dst with
 |none=>rw[hd]at h;cases h
 | some d=>
   rw[hd]at h;simp only at h ⊢;obtain⟨h1,h2⟩:=bl h;rw[bW,ng,nf,cF];refine bF h1 (Kq hK ?_ h2);simp only[aG]at h1;have:=p3 (s:=cU s x) d (.box d (jd d (eI (bw s x)))) rfl;simp only[eO,FS,eq_of_beq h1.1.2]at this;rw[lZ,jE,this,show(SV.p d 0 0)=e (.p d 0 0)from rfl,gI]
def F9:∀(ps:List (Nat×Operand)) (vs:List V),jU ps (eL vs)=(oB ps vs).map fun p=>(p.1,e p.2)
 |[],vs=>by cases vs<;>rfl
 |_::_,[]=>rfl
 |(j,_)::ps,v::vs=>by simp only[eL,jU,oB,bL,F9 ps vs]
def F_ {fs:List (Nat×Nat)}{n:Nat}:∀l:List (Nat×V),n4 T fs n (l.map fun p=>(p.1,e p.2))=vq T fs n l
 |[]=>rfl
 | (j,v)::l=>by
   simp only[bL,n4,vq,F_ l,ng,cF,nf]
   congr 1;cases fs[j]? with
   |none=>rfl
   | some q=>
     have:∀a b:Nat,aa (a<=b)=ble a b:=fun a b=>by
      cases hb:ble a b with
      |true=>exact decide_eq_true (dQ hb)
      |false=>exact decide_eq_false fun hl=>by rw[show ble a b=ad from Nat.ble_eq_true_of_le hl]at hb;cases hb
     simp only[this]
def Ga {fs:List (Nat×Nat)}:∀(l:List (Nat×V)) (row:List V),jV fs (eL row) (l.map fun p=>(p.1,e p.2))=eL (vr fs row l)
 |[],_=>rfl
 | (j,v)::l,row=>by
   simp only[bL,jV,vr,ng,<-gH,Ga l]
def M8 {t:TypeId}{ps:Array (Nat×Operand)}(ho:o.op = .build t ps)(hK:∀ s,K s=U r->K' (eS s))(h:b9 T C o s K=U r):bO T C' o (eS s) (K'):=by
 simp only[b9,ho]at h;simp only[bO,ho]
 split at h
 ·rename_i fs hk;simp only[hk]
  obtain⟨h1,h2⟩:=bl h;have hz:=Ai _ (by simp only[aG]at h1;exact h1.1.2)
  have hp:mP (eS s) ps=(oB ps.toList (ll s (cy ps))).map fun p=>(p.1,e p.2):=by
   simp only[mP,vb,F9]
  rw[hp,F_];refine bF (by simp only[aG]at h1 ⊢;exact⟨⟨h1.1.1.1,h1.1.1.2⟩,h1.2⟩) (Kq hK ?_ h2);have hpp:=Ga (fs:=fs) (oB ps.toList (ll s (cy ps))) (nj (T t).zero);rw[hz]at hpp;rw[hpp,va];exact bP _ (.agg _)
 ·cases h
def Gb {n:Nat}:∀l:List V,nZ n (eL l)=vu n l
 |[]=>rfl
 |v::l=>by simp only[eL,nZ,vu,ng,cF,nf,Aa,Gb l]
def Gc {d:Bool}{g:GT}{ks:List TK}(hs:dB T g ks=U []):∀(vs:List V) (K:List g.Den->Option R),vv d g vs K=U r->∃l,K l=U r/\mR T ks ((eL vs).map cellsOf)=l.map (aM d g)
 |[],K,h=>⟨[],h,rfl⟩
 | v::vs,K,h=>by
   unfold vv at h;obtain⟨x,rest,h1,h2,_⟩:=Ah g ks [] _ _ hs h;split at h1
   ·obtain⟨l,h3,h4⟩:=Gc hs vs _ h1;refine⟨x::l,h3,?_⟩;simp only[eL,bL,mR,h4,ng,h2,i9,cN]
   ·cases h1
def M9 {t:TypeId}{len:Nat}{ps:Array (Nat×Operand)}(ho:o.op = .buildSlice t len ps)(hK:∀ s,K s=U r->K' (eS s))(h:b9 T C o s K=U r):bO T C' o (eS s) (K'):=by
 simp only[b9,ho]at h;simp only[bO,ho]
 split at h
 ·rename_i t' hk;simp only[hk]
  split at h
  ·rename_i g hg;obtain⟨h1,h2⟩:=bl h;simp only[aG]at h1;obtain⟨hsh,hsz⟩:=rW h1.2;rw[vb,Gb,va];refine bF (by simp only[aG];exact h1.1) ?_;rw[hsz];split at h2
   ·rename_i hv;rw[hv];exact Kq hK (bP _ (.emp g)) h2
   ·rename_i v vs hv;obtain⟨l,h3,h4⟩:=Gc hsh _ _ h2;rw[hv,h4];exact Kq hK (bP _ (.own g _ l)) h3
  ·cases h
 ·cases h
end
end Go.TM
end
