/- Part 11 of the proof of FnTidy; no condition. -/
import Derived.Test.YtdpapeledldifaaGreatX09
set_option autoImplicit true
set_option relaxedAutoImplicit true
set_option linter.all false
section
namespace Go.TM
open Go.AM
section
variable {R:Type}{T:Nat→TI}{C:zQl R}{C':zAx}{o:Oper}{s:TS}{K:TS→Option R}{K':St→Prop}{r:R}
def Kq {K':St→Prop}(hK:∀ s,K s=some r→K' (eS s)){s':TS}{st:St}(he:st=eS s')(h:K s'=some r):K' st:=by rw[he];exact hK _ h
def zAQ {b:Bool}{A:Prop}(hb:b=true)(h:A):chk b A:=by rw[hb];exact h
def e_ne_own {v:V}(h:zBG v=false):∀k rows,e v ≠ .own k rows:=by
 intro k rows he;cases v<;>simp[e,zBG]at he h
def zJt (v:V):(∃g d l,v = .own g d l)∨(∃g,v = .emp g)∨(∀k rows,e v ≠ .own k rows):=by
 cases v with
 |own g d l=>exact .inl ⟨_,_,_,rfl⟩
 |emp g=>exact .inr (.inl ⟨_,rfl⟩)
 |_=>refine .inr (.inr ?_);intro k rows h;simp[e]at h
def tmove {x:Operand}(ho:o.op = .move x)(hK:∀ s,K s=some r→K' (eS s))(h:tstep T C o s K=some r):zAi T C' o (eS s) (K'):=by
 simp only[tstep,ho]at h;simp only[zAi,ho]
 cases x with
 | tmp t=>
   simp only at h ⊢;rw[zCp];rcases zJt (zBx s t)with⟨g,d,l,hv⟩|⟨g,hv⟩|hv
   ·rw[hv]at h ⊢;obtain⟨h1,h2⟩:=zAF h;refine zAQ h1 (Kq hK ?_ h2);rw[show(SV.u)=e .u from rfl,zCv];have:=zIB (s:=setT s t .u) t (.arr t g d l) rfl;simp only[eO]at this;rw[this,show(SV.ar t)=e (.ar t)from rfl,zCv,zAR]
   ·rw[hv]at h ⊢;obtain⟨h1,h2⟩:=zAF h;refine zAQ h1 (Kq hK ?_ h2);rw[show(SV.u)=e .u from rfl,zCv];have:=zIB (s:=setT s t .u) t (.arr t g true []) rfl;simp only[eO,List.map_nil]at this;rw[this,show(SV.ar t)=e (.ar t)from rfl,zCv,zAR]
   ·have h':(match zBG (zBx s t)with
     |true=>K (zAe (setT s t .u) o.dst (zBx s t))
     |false=>K (zAe s o.dst (zBx s t)))=some r:=by
     revert h;split
     ·rename_i g d l hq;rw[hq]at hv;exact absurd rfl (hv _ _)
     ·rename_i g hq;rw[hq]at hv;exact absurd rfl (hv _ _)
     ·exact id
    split
    ·rename_i hq;exact absurd hq (hv _ _)
    ·rw[zBR];revert h';cases zBG (zBx s t)
     ·intro h';exact Kq hK (zAR _ _) h'
     ·intro h';exact Kq hK (by rw[show(SV.u)=e .u from rfl,zCv,zAR]) h'
 |_=>simp only at h ⊢;rw[zAr,zAR];exact hK _ h
def tassign {x:Operand}(ho:o.op = .assign x)(hK:∀ s,K s=some r→K' (eS s))(h:tstep T C o s K=some r):zAi T C' o (eS s) (K'):=by
 simp only[tstep,ho]at h;simp only[zAi,zAL,ho]
 rw[zAr,zCl,zAR];exact hK _ h
def tpick {c x y:Operand}(ho:o.op = .pick c x y)(hK:∀ s,K s=some r→K' (eS s))(h:tstep T C o s K=some r):zAi T C' o (eS s) (K'):=by
 simp only[tstep,ho]at h;simp only[zAi,zAL,ho]
 rw[zAr,zAr,zAr];generalize evT s c=vc at h ⊢;cases vc<;>simp only[e]at h ⊢<;>try cases h
 rename_i b
 have key:cndO b (K (zAe (zBB s x) o.dst (evT s x))) (K (zAe (zBB s y) o.dst (evT s y)))=some r→cnd b (K' (setD (strip (eS s) x) o.dst (e (evT s x)))) (K' (setD (strip (eS s) y) o.dst (e (evT s y)))):=by
  intro h;refine cnd.mk (fun hb=>?_) (fun hb=>?_)
  ·subst hb;exact Kq hK (by rw[zCl,zAR]) h
  ·subst hb;exact Kq hK (by rw[zCl,zAR]) h
 revert h key;generalize hx:evT s x=vx;generalize hy:evT s y=vy;intro h key;have hb:∀z:Bool,setD (eS s) o.dst (SV.b z)=eS (zAe s o.dst (.b z)):=fun z=>zAR o.dst (V.b z)
 cases vx<;>cases vy<;>simp only[e]at h key ⊢<;>first|exact Kq hK (hb _) h|exact key h
def talloc {t:TypeId}(ho:o.op = .alloc t)(hK:∀ s,K s=some r→K' (eS s))(h:tstep T C o s K=some r):zAi T C' o (eS s) (K'):=by
 simp only[tstep,ho]at h;simp only[zAi,ho]
 cases hd:o.dst with
 |none=>rw[hd]at h;cases h
 | some d=>
   rw[hd]at h;simp only at h ⊢;obtain⟨h1,h2⟩:=zAF h;simp only[zBa]at h1;refine zAQ (by simp only[h1.1.1.1,h1.1.1.2,zBs]) (Kq hK ?_ h2);have hz:=zWq _ h1.1.2;have:=zIB (s:=s) d (.box d (ofZL (T t).zero)) rfl;simp only[eO,hz]at this;have hl:(ofZL (T t).zero).length=(T t).size:=by rw[←zAN,hz];exact eq_of_beq h1.2
   rw[hl]at this;rw[this,show(SV.p d 0 0)=e (.p d 0 0)from rfl,zCv]
def tbox {t:TypeId}{x:Operand}(ho:o.op = .box t x)(hK:∀ s,K s=some r→K' (eS s))(h:tstep T C o s K=some r):zAi T C' o (eS s) (K'):=by
 simp only[tstep,ho]at h;simp only[zAi,ho]
 cases hd:o.dst with
 |none=>rw[hd]at h;cases h
 | some d=>
   rw[hd]at h;simp only at h ⊢;obtain⟨h1,h2⟩:=zAF h;rw[zAr,zDD,zEI,zAN];refine zAQ h1 (Kq hK ?_ h2);simp only[zBa]at h1;have:=zIB (s:=zBB s x) d (.box d (zEE d (zAq (evT s x)))) rfl;simp only[eO,zHM,eq_of_beq h1.1.2]at this;rw[zEw,zCl,this,show(SV.p d 0 0)=e (.p d 0 0)from rfl,zCv]
def zipL_e:∀(ps:List (Nat×Operand)) (vs:List V),zipL ps (eL vs)=(zipV ps vs).map fun p=>(p.1,e p.2)
 |[],vs=>by cases vs<;>rfl
 |_::_,[]=>rfl
 |(j,_)::ps,v::vs=>by simp only[eL,zipL,zipV,zMc,zipL_e ps vs]
def zQi {fs:List (Nat×Nat)}{n:Nat}:∀l:List (Nat×V),zGi T fs n (l.map fun p=>(p.1,e p.2))=zIy T fs n l
 |[]=>rfl
 | (j,v)::l=>by
   simp only[zMc,zGi,zIy,zQi l,zDD,zAN,zEI]
   congr 1;cases fs[j]? with
   |none=>rfl
   | some q=>
     have:∀a b:Nat,decide (a≤b)=ble a b:=fun a b=>by
      cases hb:ble a b with
      |true=>exact decide_eq_true (zBY hb)
      |false=>exact decide_eq_false fun hl=>by rw[show ble a b=true from Nat.ble_eq_true_of_le hl]at hb;cases hb
     simp only[this]
def zLC {fs:List (Nat×Nat)}:∀(l:List (Nat×V)) (row:List V),zCJ fs (eL row) (l.map fun p=>(p.1,e p.2))=eL (zHF fs row l)
 |[],_=>rfl
 | (j,v)::l,row=>by
   simp only[zMc,zCJ,zHF,zDD,←zDC,zLC l]
def tbuild {t:TypeId}{ps:Array (Nat×Operand)}(ho:o.op = .build t ps)(hK:∀ s,K s=some r→K' (eS s))(h:tstep T C o s K=some r):zAi T C' o (eS s) (K'):=by
 simp only[tstep,ho]at h;simp only[zAi,ho]
 split at h
 ·rename_i fs hk;simp only[hk]
  obtain⟨h1,h2⟩:=zAF h;have hz:=zWq _ (by simp only[zBa]at h1;exact h1.1.2)
  have hp:zFb (eS s) ps=(zipV ps.toList (zKi s (opnds ps))).map fun p=>(p.1,e p.2):=by
   simp only[zFb,zLl,zipL_e]
  rw[hp,zQi];refine zAQ (by simp only[zBa]at h1 ⊢;exact⟨⟨h1.1.1.1,h1.1.1.2⟩,h1.2⟩) (Kq hK ?_ h2);have hpp:=zLC (fs:=fs) (zipV ps.toList (zKi s (opnds ps))) (ofZL (T t).zero);rw[hz]at hpp;rw[hpp,zIo];exact zAR _ (.agg _)
 ·cases h
def zTN {n:Nat}:∀l:List V,zJd n (eL l)=zNc n l
 |[]=>rfl
 |v::l=>by simp only[eL,zJd,zNc,zDD,zAN,zEI,zNh,zTN l]
def zJl {d:Bool}{g:GT}{ks:List TK}(hs:shOk T g ks=some []):∀(vs:List V) (K:List g.Den→Option R),zTP d g vs K=some r→∃l,K l=some r∧zDz T ks ((eL vs).map cellsOf)=l.map (encC d g)
 |[],K,h=>⟨[],h,rfl⟩
 | v::vs,K,h=>by
   unfold zTP at h;obtain⟨x,rest,h1,h2,_⟩:=zNe g ks [] _ _ hs h;split at h1
   ·obtain⟨l,h3,h4⟩:=zJl hs vs _ h1;refine⟨x::l,h3,?_⟩;simp only[eL,zMc,zDz,h4,zDD,h2,zCX,zAn]
   ·cases h1
def zRK {t:TypeId}{len:Nat}{ps:Array (Nat×Operand)}(ho:o.op = .buildSlice t len ps)(hK:∀ s,K s=some r→K' (eS s))(h:tstep T C o s K=some r):zAi T C' o (eS s) (K'):=by
 simp only[tstep,ho]at h;simp only[zAi,ho]
 split at h
 ·rename_i t' hk;simp only[hk]
  split at h
  ·rename_i g hg;obtain⟨h1,h2⟩:=zAF h;simp only[zBa]at h1;obtain⟨hsh,hsz⟩:=zFS h1.2;rw[zLl,zTN,zIo];refine zAQ (by simp only[zBa];exact h1.1) ?_;rw[hsz];split at h2
   ·rename_i hv;rw[hv];exact Kq hK (zAR _ (.emp g)) h2
   ·rename_i v vs hv;obtain⟨l,h3,h4⟩:=zJl hsh _ _ h2;rw[hv,h4];exact Kq hK (zAR _ (.own g _ l)) h3
  ·cases h
 ·cases h
end
end Go.TM
end
