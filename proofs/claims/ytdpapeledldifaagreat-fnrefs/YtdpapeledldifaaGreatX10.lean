/- Part 11 of the proof that the law FnRefs holds of every input; no condition. -/
import Derived.Test.YtdpapeledldifaaGreatX09
set_option autoImplicit true
set_option relaxedAutoImplicit true
set_option linter.all false
section
namespace Go.TM
open Go.AM
section
variable {R:Type}{T:Nat→TI}{C:zPT R}{C':zAt}{o:Oper}{s:TS}{K:TS→Option R}{K':St→Prop}{r:R}
theorem Kq {K':St→Prop}(hK:∀ s,K s=some r→K' (eS s)){s':TS}{st:St}(he:st=eS s')(h:K s'=some r):K' st:=by rw[he];exact hK _ h
theorem zAQ {b:Bool}{A:Prop}(hb:b=true)(h:A):chk b A:=by rw[hb];exact h
theorem e_ne_own {v:V}(h:zAz v=false):∀k rows,e v ≠ .own k rows:=by
 intro k rows he
 cases v<;>simp[e,zAz]at he h
theorem zJM (v:V):(∃g d l,v = .own g d l)∨(∃g,v = .emp g)∨(∀k rows,e v ≠ .own k rows):=by
 cases v with
 |own g d l=>exact .inl ⟨_,_,_,rfl⟩
 |emp g=>exact .inr (.inl ⟨_,rfl⟩)
 |_=>refine .inr (.inr ?_);intro k rows h;simp[e]at h
theorem tmove {x:Operand}(ho:o.op = .move x)(hK:∀ s,K s=some r→K' (eS s))(h:tstep T C o s K=some r):zAh T C' o (eS s) (K'):=by
 simp only[tstep,ho]at h
 simp only[zAh,ho]
 cases x with
 | tmp t =>
   simp only at h ⊢
   rw[zCe]
   rcases zJM (zBn s t)with⟨g,d,l,hv⟩|⟨g,hv⟩|hv
   ·rw[hv]at h ⊢
    obtain⟨h1,h2⟩:=zAD h
    refine zAQ h1 (Kq hK ?_ h2)
    rw[show(SV.u)=e .u from rfl,zCk]
    have:=zHb (s:=setT s t .u) t (.arr t g d l) rfl
    simp only[eO]at this
    rw[this,show(SV.ar t)=e (.ar t)from rfl,zCk,zAR]
   ·rw[hv]at h ⊢
    obtain⟨h1,h2⟩:=zAD h
    refine zAQ h1 (Kq hK ?_ h2)
    rw[show(SV.u)=e .u from rfl,zCk]
    have:=zHb (s:=setT s t .u) t (.arr t g true []) rfl
    simp only[eO,List.map_nil]at this
    rw[this,show(SV.ar t)=e (.ar t)from rfl,zCk,zAR]
   ·have h':(match zAz (zBn s t)with
     |true=>K (zAc (setT s t .u) o.dst (zBn s t))
     |false=>K (zAc s o.dst (zBn s t)))=some r:=by
     revert h
     split
     ·rename_i g d l hq;rw[hq]at hv;exact absurd rfl (hv _ _)
     ·rename_i g hq;rw[hq]at hv;exact absurd rfl (hv _ _)
     ·exact id
    split
    ·rename_i hq;exact absurd hq (hv _ _)
    ·rw[zBK]
     revert h'
     cases zAz (zBn s t)
     ·intro h';exact Kq hK (zAR _ _) h'
     ·intro h';exact Kq hK (by rw[show(SV.u)=e .u from rfl,zCk,zAR]) h'
 |_=>simp only at h ⊢;rw[zAp,zAR];exact hK _ h
theorem tassign {x:Operand}(ho:o.op = .assign x)(hK:∀ s,K s=some r→K' (eS s))(h:tstep T C o s K=some r):zAh T C' o (eS s) (K'):=by
 simp only[tstep,ho]at h
 simp only[zAh,zAK,ho]
 rw[zAp,zCa,zAR]
 exact hK _ h
theorem tpick {c x y:Operand}(ho:o.op = .pick c x y)(hK:∀ s,K s=some r→K' (eS s))(h:tstep T C o s K=some r):zAh T C' o (eS s) (K'):=by
 simp only[tstep,ho]at h
 simp only[zAh,zAK,ho]
 rw[zAp,zAp,zAp]
 generalize evT s c=vc at h ⊢
 cases vc<;>simp only[e]at h ⊢<;>try cases h
 rename_i b
 have key:cndO b (K (zAc (zAv s x) o.dst (evT s x))) (K (zAc (zAv s y) o.dst (evT s y)))=some r→cnd b (K' (setD (strip (eS s) x) o.dst (e (evT s x)))) (K' (setD (strip (eS s) y) o.dst (e (evT s y)))):=by
  intro h
  refine cnd.mk (fun hb=>?_) (fun hb=>?_)
  ·subst hb;exact Kq hK (by rw[zCa,zAR]) h
  ·subst hb;exact Kq hK (by rw[zCa,zAR]) h
 revert h key
 generalize hx:evT s x=vx
 generalize hy:evT s y=vy
 intro h key
 have hb:∀z:Bool,setD (eS s) o.dst (SV.b z)=eS (zAc s o.dst (.b z)):=fun z=>zAR o.dst (V.b z)
 cases vx<;>cases vy<;>simp only[e]at h key ⊢<;>first|exact Kq hK (hb _) h|exact key h
theorem talloc {t:TypeId}(ho:o.op = .alloc t)(hK:∀ s,K s=some r→K' (eS s))(h:tstep T C o s K=some r):zAh T C' o (eS s) (K'):=by
 simp only[tstep,ho]at h
 simp only[zAh,ho]
 cases hd:o.dst with
 |none=>rw[hd]at h;cases h
 | some d =>
   rw[hd]at h
   simp only at h ⊢
   obtain⟨h1,h2⟩:=zAD h
   simp only[zBa]at h1
   refine zAQ (by simp only[h1.1.1.1,h1.1.1.2,Bool.and_self]) (Kq hK ?_ h2)
   have hz:=zVE _ h1.1.2
   have:=zHb (s:=s) d (.box d (ofZL (T t).zero)) rfl
   simp only[eO,hz]at this
   have hl:(ofZL (T t).zero).length=(T t).size:=by rw[←zAO,hz];exact eq_of_beq h1.2
   rw[hl]at this
   rw[this,show(SV.p d 0 0)=e (.p d 0 0)from rfl,zCk]
theorem tbox {t:TypeId}{x:Operand}(ho:o.op = .box t x)(hK:∀ s,K s=some r→K' (eS s))(h:tstep T C o s K=some r):zAh T C' o (eS s) (K'):=by
 simp only[tstep,ho]at h
 simp only[zAh,ho]
 cases hd:o.dst with
 |none=>rw[hd]at h;cases h
 | some d =>
   rw[hd]at h
   simp only at h ⊢
   obtain⟨h1,h2⟩:=zAD h
   rw[zAp,zCs,zDt,zAO]
   refine zAQ h1 (Kq hK ?_ h2)
   simp only[zBa]at h1
   have:=zHb (s:=zAv s x) d (.box d (zDn d (zAo (evT s x)))) rfl
   simp only[eO,zGl,eq_of_beq h1.1.2]at this
   rw[zEd,zCa,this,show(SV.p d 0 0)=e (.p d 0 0)from rfl,zCk]
theorem zipL_e:∀(ps:List (Nat×Operand)) (vs:List V),zipL ps (eL vs)=(zipV ps vs).map fun p=>(p.1,e p.2)
 |[],vs=>by cases vs<;>rfl
 |_::_,[]=>rfl
 |(j,_)::ps,v::vs=>by simp only[eL,zipL,zipV,List.map_cons,zipL_e ps vs]
theorem zPQ {fs:List (Nat×Nat)}{n:Nat}:∀l:List (Nat×V),zGI T fs n (l.map fun p=>(p.1,e p.2))=zIY T fs n l
 |[]=>rfl
 | (j,v)::l=>by
   simp only[List.map_cons,zGI,zIY,zPQ l,zCs,zAO,zDt]
   congr 1
   cases fs[j]? with
   |none=>rfl
   | some q =>
     have:∀a b:Nat,decide (a≤b)=ble a b:=fun a b=>by
      cases hb:ble a b with
      |true=>exact decide_eq_true (zBS hb)
      |false=>exact decide_eq_false fun hl=>by rw[show ble a b=true from Nat.ble_eq_true_of_le hl]at hb;cases hb
     simp only[this]
theorem zKM {fs:List (Nat×Nat)}:∀(l:List (Nat×V)) (row:List V),zBz fs (eL row) (l.map fun p=>(p.1,e p.2))=eL (zGe fs row l)
 |[],_=>rfl
 | (j,v)::l,row=>by
   simp only[List.map_cons,zBz,zGe,zCs,←zCr,zKM l]
theorem tbuild {t:TypeId}{ps:Array (Nat×Operand)}(ho:o.op = .build t ps)(hK:∀ s,K s=some r→K' (eS s))(h:tstep T C o s K=some r):zAh T C' o (eS s) (K'):=by
 simp only[tstep,ho]at h
 simp only[zAh,ho]
 split at h
 ·rename_i fs hk
  simp only[hk]
  obtain⟨h1,h2⟩:=zAD h
  have hz:=zVE _ (by simp only[zBa]at h1;exact h1.1.2)
  have hp:zFG (eS s) ps=(zipV ps.toList (zJt s (opnds ps))).map fun p=>(p.1,e p.2):=by
   simp only[zFG,zKs,zipL_e]
  rw[hp,zPQ]
  refine zAQ (by simp only[zBa]at h1 ⊢;exact⟨⟨h1.1.1.1,h1.1.1.2⟩,h1.2⟩) (Kq hK ?_ h2)
  have hpp:=zKM (fs:=fs) (zipV ps.toList (zJt s (opnds ps))) (ofZL (T t).zero)
  rw[hz]at hpp
  rw[hpp,zIN]
  exact zAR _ (.agg _)
 ·cases h
theorem zRu {n:Nat}:∀l:List V,zIy n (eL l)=zMO n l
 |[]=>rfl
 |v::l=>by simp only[eL,zIy,zMO,zCs,zAO,zDt,zMU,zRu l]
theorem zJH {d:Bool}{g:GT}{ks:List TK}(hs:shOk T g ks=some []):∀(vs:List V) (K:List g.Den→Option R),zRx d g vs K=some r→∃l,K l=some r∧zDj T ks ((eL vs).map cellsOf)=l.map (encC d g)
 |[],K,h=>⟨[],h,rfl⟩
 | v::vs,K,h=>by
   unfold zRx at h
   obtain⟨x,rest,h1,h2,_⟩:=zMQ g ks [] _ _ hs h
   split at h1
   ·obtain⟨l,h3,h4⟩:=zJH hs vs _ h1
    refine⟨x::l,h3,?_⟩
    simp only[eL,List.map_cons,zDj,h4,zCs,h2,zCM,List.append_nil]
   ·cases h1
theorem zPw {t:TypeId}{len:Nat}{ps:Array (Nat×Operand)}(ho:o.op = .buildSlice t len ps)(hK:∀ s,K s=some r→K' (eS s))(h:tstep T C o s K=some r):zAh T C' o (eS s) (K'):=by
 simp only[tstep,ho]at h
 simp only[zAh,ho]
 split at h
 ·rename_i t' hk
  simp only[hk]
  split at h
  ·rename_i g hg
   obtain⟨h1,h2⟩:=zAD h
   simp only[zBa]at h1
   obtain⟨hsh,hsz⟩:=zEx h1.2
   rw[zKs,zRu,zIN]
   refine zAQ (by simp only[zBa];exact h1.1) ?_
   rw[hsz]
   split at h2
   ·rename_i hv
    rw[hv]
    exact Kq hK (zAR _ (.emp g)) h2
   ·rename_i v vs hv
    obtain⟨l,h3,h4⟩:=zJH hsh _ _ h2
    rw[hv,h4]
    exact Kq hK (zAR _ (.own g _ l)) h3
  ·cases h
 ·cases h
end
end Go.TM
end
