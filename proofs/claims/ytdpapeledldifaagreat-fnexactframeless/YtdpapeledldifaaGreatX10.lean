/- Part 11 of the proof that the law FnExactFrameLess holds of every input; no condition. -/
import Derived.Test.YtdpapeledldifaaGreatX09
set_option autoImplicit true
set_option relaxedAutoImplicit true
set_option linter.all false
section
namespace Go.TM
open Go.AM
section
variable {R:Type}{T:Nat→TI}{C:zQN R}{C':zAv}{o:Oper}{s:TS}{K:TS→Option R}{K':St→Prop}{r:R}
theorem Kq {K':St→Prop}(hK:∀ s,K s=some r→K' (eS s)){s':TS}{st:St}(he:st=eS s')(h:K s'=some r):K' st:=by rw[he];exact hK _ h
theorem zAR {b:Bool}{A:Prop}(hb:b=true)(h:A):chk b A:=by rw[hb];exact h
theorem e_ne_own {v:V}(h:zBB v=false):∀k rows,e v ≠ .own k rows:=by
 intro k rows he
 cases v<;>simp[e,zBB]at he h
theorem zIP (v:V):(∃g d l,v = .own g d l)∨(∃g,v = .emp g)∨(∀k rows,e v ≠ .own k rows):=by
 cases v with
 |own g d l=>exact .inl ⟨_,_,_,rfl⟩
 |emp g=>exact .inr (.inl ⟨_,rfl⟩)
 |_=>refine .inr (.inr ?_);intro k rows h;simp[e]at h
theorem tmove {x:Operand}(ho:o.op = .move x)(hK:∀ s,K s=some r→K' (eS s))(h:tstep T C o s K=some r):zAj T C' o (eS s) (K'):=by
 simp only[tstep,ho]at h
 simp only[zAj,ho]
 cases x with
 | tmp t =>
   simp only at h ⊢
   rw[zCb]
   rcases zIP (zBk s t)with⟨g,d,l,hv⟩|⟨g,hv⟩|hv
   ·rw[hv]at h ⊢
    obtain⟨h1,h2⟩:=zAF h
    refine zAR h1 (Kq hK ?_ h2)
    rw[show(SV.u)=e .u from rfl,zCh]
    have:=zGo (s:=setT s t .u) t (.arr t g d l) rfl
    simp only[eO]at this
    rw[this,show(SV.ar t)=e (.ar t)from rfl,zCh,zAS]
   ·rw[hv]at h ⊢
    obtain⟨h1,h2⟩:=zAF h
    refine zAR h1 (Kq hK ?_ h2)
    rw[show(SV.u)=e .u from rfl,zCh]
    have:=zGo (s:=setT s t .u) t (.arr t g true []) rfl
    simp only[eO,List.map_nil]at this
    rw[this,show(SV.ar t)=e (.ar t)from rfl,zCh,zAS]
   ·have h':(match zBB (zBk s t)with
     |true=>K (zAd (setT s t .u) o.dst (zBk s t))
     |false=>K (zAd s o.dst (zBk s t)))=some r:=by
     revert h
     split
     ·rename_i g d l hq;rw[hq]at hv;exact absurd rfl (hv _ _)
     ·rename_i g hq;rw[hq]at hv;exact absurd rfl (hv _ _)
     ·exact id
    split
    ·rename_i hq;exact absurd hq (hv _ _)
    ·rw[zBN]
     revert h'
     cases zBB (zBk s t)
     ·intro h';exact Kq hK (zAS _ _) h'
     ·intro h';exact Kq hK (by rw[show(SV.u)=e .u from rfl,zCh,zAS]) h'
 |_=>simp only at h ⊢;rw[zAq,zAS];exact hK _ h
theorem tassign {x:Operand}(ho:o.op = .assign x)(hK:∀ s,K s=some r→K' (eS s))(h:tstep T C o s K=some r):zAj T C' o (eS s) (K'):=by
 simp only[tstep,ho]at h
 simp only[zAj,zAK,ho]
 rw[zAq,zCX,zAS]
 exact hK _ h
theorem tpick {c x y:Operand}(ho:o.op = .pick c x y)(hK:∀ s,K s=some r→K' (eS s))(h:tstep T C o s K=some r):zAj T C' o (eS s) (K'):=by
 simp only[tstep,ho]at h
 simp only[zAj,zAK,ho]
 rw[zAq,zAq,zAq]
 generalize evT s c=vc at h ⊢
 cases vc<;>simp only[e]at h ⊢<;>try cases h
 rename_i b
 have key:cndO b (K (zAd (zAx s x) o.dst (evT s x))) (K (zAd (zAx s y) o.dst (evT s y)))=some r→cnd b (K' (setD (strip (eS s) x) o.dst (e (evT s x)))) (K' (setD (strip (eS s) y) o.dst (e (evT s y)))):=by
  intro h
  refine cnd.mk (fun hb=>?_) (fun hb=>?_)
  ·subst hb;exact Kq hK (by rw[zCX,zAS]) h
  ·subst hb;exact Kq hK (by rw[zCX,zAS]) h
 revert h key
 generalize hx:evT s x=vx
 generalize hy:evT s y=vy
 intro h key
 have hb:∀z:Bool,setD (eS s) o.dst (SV.b z)=eS (zAd s o.dst (.b z)):=fun z=>zAS o.dst (V.b z)
 cases vx<;>cases vy<;>simp only[e]at h key ⊢<;>first|exact Kq hK (hb _) h|exact key h
theorem talloc {t:TypeId}(ho:o.op = .alloc t)(hK:∀ s,K s=some r→K' (eS s))(h:tstep T C o s K=some r):zAj T C' o (eS s) (K'):=by
 simp only[tstep,ho]at h
 simp only[zAj,ho]
 cases hd:o.dst with
 |none=>rw[hd]at h;cases h
 | some d =>
   rw[hd]at h
   simp only at h ⊢
   obtain⟨h1,h2⟩:=zAF h
   simp only[Bool.and_eq_true]at h1
   refine zAR (by simp only[h1.1.1.1,h1.1.1.2,Bool.and_self]) (Kq hK ?_ h2)
   have hz:=zUH _ h1.1.2
   have:=zGo (s:=s) d (.box d (ofZL (T t).zero)) rfl
   simp only[eO,hz]at this
   have hl:(ofZL (T t).zero).length=(T t).size:=by rw[←zAO,hz];exact eq_of_beq h1.2
   rw[hl]at this
   rw[this,show(SV.p d 0 0)=e (.p d 0 0)from rfl,zCh]
theorem tbox {t:TypeId}{x:Operand}(ho:o.op = .box t x)(hK:∀ s,K s=some r→K' (eS s))(h:tstep T C o s K=some r):zAj T C' o (eS s) (K'):=by
 simp only[tstep,ho]at h
 simp only[zAj,ho]
 cases hd:o.dst with
 |none=>rw[hd]at h;cases h
 | some d =>
   rw[hd]at h
   simp only at h ⊢
   obtain⟨h1,h2⟩:=zAF h
   rw[zAq,zCo,zDl,zAO]
   refine zAR h1 (Kq hK ?_ h2)
   simp only[Bool.and_eq_true]at h1
   have:=zGo (s:=zAx s x) d (.box d (zDg d (zAp (evT s x)))) rfl
   simp only[eO,zGD,eq_of_beq h1.1.2]at this
   rw[zEM,zCX,this,show(SV.p d 0 0)=e (.p d 0 0)from rfl,zCh]
theorem zipL_e:∀(ps:List (Nat×Operand)) (vs:List V),zipL ps (eL vs)=(zipV ps vs).map fun p=>(p.1,e p.2)
 |[],vs=>by cases vs<;>rfl
 |_::_,[]=>rfl
 |(j,_)::ps,v::vs=>by simp only[eL,zipL,zipV,List.map_cons,zipL_e ps vs]
theorem zQK {fs:List (Nat×Nat)}{n:Nat}:∀l:List (Nat×V),zFk T fs n (l.map fun p=>(p.1,e p.2))=zHi T fs n l
 |[]=>rfl
 | (j,v)::l=>by
   simp only[List.map_cons,zFk,zHi,zQK l,zCo,zAO,zDl]
   congr 1
   cases fs[j]? with
   |none=>rfl
   | some q =>
     have:∀a b:Nat,decide (a≤b)=ble a b:=fun a b=>by
      cases hb:ble a b with
      |true=>exact decide_eq_true (zBU hb)
      |false=>exact decide_eq_false fun hl=>by rw[show ble a b=true from Nat.ble_eq_true_of_le hl]at hb;cases hb
     simp only[this]
theorem zJL {fs:List (Nat×Nat)}:∀(l:List (Nat×V)) (row:List V),zBy fs (eL row) (l.map fun p=>(p.1,e p.2))=eL (zFw fs row l)
 |[],_=>rfl
 | (j,v)::l,row=>by
   simp only[List.map_cons,zBy,zFw,zCo,←zCn,zJL l]
theorem tbuild {t:TypeId}{ps:Array (Nat×Operand)}(ho:o.op = .build t ps)(hK:∀ s,K s=some r→K' (eS s))(h:tstep T C o s K=some r):zAj T C' o (eS s) (K'):=by
 simp only[tstep,ho]at h
 simp only[zAj,ho]
 split at h
 ·rename_i fs hk
  simp only[hk]
  obtain⟨h1,h2⟩:=zAF h
  have hz:=zUH _ (by simp only[Bool.and_eq_true]at h1;exact h1.1.2)
  have hp:zEm (eS s) ps=(zipV ps.toList (zIv s (opnds ps))).map fun p=>(p.1,e p.2):=by
   simp only[zEm,zJq,zipL_e]
  rw[hp,zQK]
  refine zAR (by simp only[Bool.and_eq_true]at h1 ⊢;exact⟨⟨h1.1.1.1,h1.1.1.2⟩,h1.2⟩) (Kq hK ?_ h2)
  have hpp:=zJL (fs:=fs) (zipV ps.toList (zIv s (opnds ps))) (ofZL (T t).zero)
  rw[hz]at hpp
  rw[hpp,zHZ]
  exact zAS _ (.agg _)
 ·cases h
theorem zRw {n:Nat}:∀l:List V,zIC n (eL l)=zMG n l
 |[]=>rfl
 |v::l=>by simp only[eL,zIC,zMG,zCo,zAO,zDl,zMK,zRw l]
theorem zIK {d:Bool}{g:GT}{ks:List TK}(hs:shOk T g ks=some []):∀(vs:List V) (K:List g.Den→Option R),zRy d g vs K=some r→∃l,K l=some r∧zDc T ks ((eL vs).map cellsOf)=l.map (encC d g)
 |[],K,h=>⟨[],h,rfl⟩
 | v::vs,K,h=>by
   unfold zRy at h
   obtain⟨x,rest,h1,h2,_⟩:=zMI g ks [] _ _ hs h
   split at h1
   ·obtain⟨l,h3,h4⟩:=zIK hs vs _ h1
    refine⟨x::l,h3,?_⟩
    simp only[eL,List.map_cons,zDc,h4,zCo,h2,zCK,List.append_nil]
   ·cases h1
theorem zQV {t:TypeId}{len:Nat}{ps:Array (Nat×Operand)}(ho:o.op = .buildSlice t len ps)(hK:∀ s,K s=some r→K' (eS s))(h:tstep T C o s K=some r):zAj T C' o (eS s) (K'):=by
 simp only[tstep,ho]at h
 simp only[zAj,ho]
 split at h
 ·rename_i t' hk
  simp only[hk]
  split at h
  ·rename_i g hg
   obtain⟨h1,h2⟩:=zAF h
   simp only[Bool.and_eq_true]at h1
   obtain⟨hsh,hsz⟩:=zEg h1.2
   rw[zJq,zRw,zHZ]
   refine zAR (by simp only[Bool.and_eq_true];exact h1.1) ?_
   rw[hsz]
   split at h2
   ·rename_i hv
    rw[hv]
    exact Kq hK (zAS _ (.emp g)) h2
   ·rename_i v vs hv
    obtain⟨l,h3,h4⟩:=zIK hsh _ _ h2
    rw[hv,h4]
    exact Kq hK (zAS _ (.own g _ l)) h3
  ·cases h
 ·cases h
end
end Go.TM
end
