/- Part 13 of the proof of FnTidyAll; no condition. -/
import Derived.Test.YtmjlecabpbiigaaGreatX11
open Option renaming some -> U
open Decidable renaming decide -> aa
open Bool renaming true -> ae
open Bool renaming false -> ag
open Option renaming none -> aj
open Sum renaming inr -> an
open Sum renaming inl -> ao
open List renaming length -> au
open Int renaming toNat -> aw
open List renaming drop -> cU
open List renaming take -> de
set_option autoImplicit true
set_option relaxedAutoImplicit true
set_option linter.all false
section
namespace Go.TM
open Go.AM
section
variable {R:Type}{T:Nat->TI}{C:nw R}{C':zAz}{o:Oper}{s:TS}{K:TS->Option R}{K':St->Prop}{r:R}
def N8 {x:Operand}(ho:o.op = .nilCheck x)(hK:∀ s,K s=U r->K' (eS s))(h:bZ T C o s K=U r):bO T C' o (eS s) K':=by
 simp only[bZ,ho]at h;simp only[bO,a9,ho]
 rw[bV];split at h
 ·rename_i hv;rw[hv];exact Kq hK (bP _ (.p _ _ _)) h
 ·rename_i hv;rw[hv];exact Kq hK (bP _ (.ro _)) h
 ·cases h
def G8 {op:BinOp}{x y:V}{K:V->Option R}{K':SV->Prop}(hb:∀ p q,¬ (x = .b p/\y = .b q))(h:vG op x y K=U r)(hK:∀ v,K v=U r->K' (e v)):ly op (e x) (e y) K':=by
 cases x<;>cases y<;>simp only[vG]at h<;>try cases h
 case b.b p q=>exact absurd ⟨rfl,rfl⟩ (hb p q)
 case i.i k a k' b=>
  simp only[e,ly]
  have hk:∀{A:Option R},aX (dj k k') A=U r->aa (k=k')=ae/\A=U r:=fun h=>bj h
  cases op with
  |add=>obtain⟨h1,h2⟩:=hk h;exact bG h1 (hK _ h2)
  |sub=>obtain⟨h1,h2⟩:=hk h;exact bG h1 (hK _ h2)
  |mul=>obtain⟨h1,h2⟩:=hk h;exact bG h1 (hK _ h2)
  |quo=>obtain⟨h1,h2⟩:=hk h;obtain⟨h3,h4⟩:=cR h2;exact bG h1 ⟨by simpa using h3,hK _ h4⟩
  |rem=>obtain⟨h1,h2⟩:=hk h;obtain⟨h3,h4⟩:=cR h2;exact bG h1 ⟨by simpa using h3,hK _ h4⟩
  |shl=>obtain⟨h3,h4⟩:=cR h;exact⟨by simpa using h3,hK _ h4⟩
  |shr=>obtain⟨h3,h4⟩:=cR h;exact⟨by simpa using h3,hK _ h4⟩
  |and=>simp only[pQ]at h ⊢;obtain⟨h1,h2⟩:=hk h;exact bG h1 (hK _ h2)
  |or=>simp only[pQ]at h ⊢;obtain⟨h1,h2⟩:=hk h;exact bG h1 (hK _ h2)
  |xor=>simp only[pQ]at h ⊢;obtain⟨h1,h2⟩:=hk h;exact bG h1 (hK _ h2)
  |eql=>simp only[kG]at h ⊢;obtain⟨h1,h2⟩:=hk h;exact bG h1 (hK _ h2)
  |neq=>simp only[kG]at h ⊢;obtain⟨h1,h2⟩:=hk h;exact bG h1 (hK _ h2)
  |lss=>simp only[kG]at h ⊢;obtain⟨h1,h2⟩:=hk h;exact bG h1 (hK _ h2)
  |leq=>simp only[kG]at h ⊢;obtain⟨h1,h2⟩:=hk h;exact bG h1 (hK _ h2)
  |gtr=>simp only[kG]at h ⊢;obtain⟨h1,h2⟩:=hk h;exact bG h1 (hK _ h2)
  |geq=>simp only[kG]at h ⊢;obtain⟨h1,h2⟩:=hk h;exact bG h1 (hK _ h2)
  |_=>simp only[kG]at h;cases h
 case s.s a b=>
  simp only[e,ly]
  cases op with
  |add=>obtain⟨h3,h4⟩:=cR h;exact⟨by simpa using h3,hK _ h4⟩
  |eql=>exact hK _ h
  |neq=>exact hK _ h
  |lss=>exact hK _ h
  |leq=>exact hK _ h
  |gtr=>exact hK _ h
  |geq=>exact hK _ h
  |_=>simp only[rK]at h;cases h
def sw:∀(n:Nat) (fs:List (Nat×Nat)) (a b:List V) (q:Bool),vF T n fs a b=U q->gX T n fs (eL a) (eL b)=U q
 |_,[],[],[],q,h=>h
 |_,[],[],_::_,q,h=>by cases h
 |_,[],_::_,_,q,h=>by cases h
 |_,(_,_)::_,[],_,q,h=>by cases h
 |_,(_,_)::_,_::_,[],q,h=>by cases h
 | n,(t,o)::fs,x::l,y::m,q,h=>by
   simp only[vF]at h;simp only[eL,gX]
   cases hn:o==n with
   |false=>rw[hn,cond_false]at h;cases h
   | true=>
     rw[hn,cond_true]at h;rw[if_pos (eq_of_beq hn)];split at h
     ·rename_i k0 k a k' b q' hk hq;rw[hk];simp only[e,lZ]
      rw[sw _ _ _ _ _ hq];cases hkk:dj k k' with
      |false=>rw[hkk,cond_false]at h;cases h
      | true=>
        rw[hkk,cond_true]at h;rw[if_pos (of_decide_eq_true hkk)];exact h
     ·rename_i a b q' hk hq;rw[hk];simp only[e,lZ]
      rw[sw _ _ _ _ _ hq];exact h
     ·rename_i a b q' hk hq;rw[hk];simp only[e,lZ]
      rw[sw _ _ _ _ _ hq];exact h
     ·cases h
def N9 {op:BinOp}{t ty:TypeId}{x y:Operand}(ho:o.op = .binOp op t x y ty)(hK:∀ s,K s=U r->K' (eS s))(h:bZ T C o s K=U r):bO T C' o (eS s) K':=by
 simp only[bZ,ho]at h;simp only[bO,ho]
 rw[bV,bV];split at h
 ·rename_i a b hx hy;rw[hx,hy];simp only[e,a9,ho]
  rw[bV,bV,hx,hy];simp only[e]
  split at h
  ·rename_i fs hk;rw[hk];simp only
   split at h
   ·rename_i q hq;rw[sw _ _ _ _ _ hq];exact Kq hK (bP _ (.b _)) h
   ·rename_i q hq;rw[sw _ _ _ _ _ hq];exact Kq hK (bP _ (.b _)) h
   ·cases h
  ·cases h
 ·rename_i g l hx hy;rw[hx,hy];simp only[e,a9,ho]
  rw[bV,bV,hx,hy];simp only[e]
  split at h
  ·rename_i t' hk;rw[hk];simp only
   obtain⟨h1,h2⟩:=bj h;refine⟨h1,fun z hz=>?_⟩;rcases AO h2 with⟨h3,h4⟩|⟨h3,h4⟩
   ·obtain⟨h5,h6⟩:=GJ h4;cases z
    ·exact Kq hK (bP _ (.b _)) h6
    ·exact Kq hK (bP _ (.b _)) h5
   ·simp only[bS]at h3;have:z=ag:=hz (by intro hl;rw[List.map_eq_nil_iff]at hl;rw[hl]at h3;exact h3 rfl);subst this;exact Kq hK (bP _ (.b _)) h4
  ·rename_i t' hk;rw[hk];simp only
   obtain⟨h1,h2⟩:=bj h;obtain⟨h3,h4⟩:=cR h2;simp only[Bool.not_eq_true',bS]at h3;refine⟨h1,fun z hz=>?_⟩;have:z=ae:=hz (by intro hl;rw[List.map_eq_nil_iff]at hl;rw[hl]at h3;exact h3 rfl);subst this;exact Kq hK (bP _ (.b _)) h4
  ·cases h
 ·rename_i p q hx hy;rw[hx,hy];simp only[e,a9,ho]
  rw[bV,bV,hx,hy];simp only[e]
  split at h
  ·rename_i hk;rw[hk];exact Kq hK (bP _ (.b _)) h
  ·rename_i hk;rw[hk];exact Kq hK (bP _ (.b _)) h
  ·cases h
 ·rename_i k a k' b hx hy;rw[hx,hy];simp only[e]
  exact G8 (x:=.i k a) (y:=.i k' b) (fun _ _ hh=>by cases hh.1) h fun v hv=>Kq hK (bP _ v) hv
 ·rename_i a b hx hy;rw[hx,hy];simp only[e]
  exact G8 (x:=.s a) (y:=.s b) (fun _ _ hh=>by cases hh.1) h fun v hv=>Kq hK (bP _ v) hv
 ·cases h
def N_ {op:UnOp}{t:TypeId}{x:Operand}(ho:o.op = .unOp op t x)(hK:∀ s,K s=U r->K' (eS s))(h:bZ T C o s K=U r):bO T C' o (eS s) K':=by
 simp only[bZ,ho]at h;simp only[bO,a9,ho]
 rw[bV];split at h
 ·rename_i hv;rw[hv];exact Kq hK (bP _ (.b _)) h
 ·rename_i hv;rw[hv];exact Kq hK (bP _ (.i _ _)) h
 ·cases h
def sy {g g':GT}{l:List g'.Den}{K:List g.Den->Option R}(h:oP l K=U r):∃hs:g.same g'=ae,K (fP hs l)=U r:=by
 unfold oP at h;split at h
 ·exact⟨_,h⟩
 ·cases h
def A9:∀l:List UInt8,bytesOf (l.map (aO ag .byte))=U l
 |[]=>rfl
 | c::l=>by
   have hc:UInt8.ofNat (((c:UInt8).toNat:Int)).toNat=c:=by simp
   have h1:AM.byteOf (aO ag .byte c)=U c:=by
    show U (UInt8.ofNat (((c:UInt8).toNat:Int)).toNat)=U c;rw[hc]
   have h2:=A9 l;rw[bF];unfold bytesOf;rw[h1,h2]
def Oa {src dst:TypeId}{x:Operand}(ho:o.op = .convert src dst x)(hK:∀ s,K s=U r->K' (eS s))(h:bZ T C o s K=U r):bO T C' o (eS s) K':=by
 simp only[bZ,ho]at h;simp only[bO,ho]
 rw[bV];split at h
 ·rename_i k k' n hk hv;rw[hk,hv];simp only[e]
  obtain⟨h1,h2⟩:=bj h;exact bG h1 (Kq hK (bP _ (.i _ _)) h2)
 ·rename_i t l hk hv;rw[hk,hv];simp only[e,a9,ho]
  rw[bV,hk,hv];simp only[e]
  split at h
  ·rename_i h1 h2;rw[h1,h2];exact Kq hK (bP _ (.sl .byte _)) h
  ·cases h
 ·rename_i l hk hv;rw[hk,hv];simp only[e,a9,ho]
  rw[bV,hk,hv];simp only[e]
  split at h
  ·rename_i h1;rw[h1];exact Kq hK (bP _ (.s _)) h
  ·cases h
 ·rename_i g l hk hv;rw[hk,hv];simp only[e,a9,ho]
  rw[bV,hk,hv];simp only[e]
  split at h
  ·rename_i t h1;rw[h1];simp only
   split at h
   ·rename_i h2;rw[h2];obtain⟨hs,h3⟩:=sy h;have hm:=jU hs l ag;rw[<-hm,A9];exact Kq hK (bP _ (.s _)) h3
   ·cases h
  ·cases h
 ·rename_i g d l hk hv;rw[hk,hv];simp only[e,a9,ho]
  rw[bV,hk,hv];simp only[e]
  split at h
  ·rename_i t h1;rw[h1];simp only
   split at h
   ·rename_i h2;rw[h2];obtain⟨hs,h3⟩:=sy h;have hm:=qh hs l (d:=ag) (d':=d) (.inr rfl);rw[<-hm,A9];exact Kq hK (bP _ (.s _)) h3
   ·cases h
  ·cases h
 ·cases h
def A_:∀xs:List Operand,xs.map (AM.ev (eS s).env)=eL (hJ s xs)
 |[]=>rfl
 |x::l=>by simp only[bF,hJ,eL,bV,A_ l]
def Oc {f:Fn}{first caps:Array Operand}(ho:o.op = .makeFunc f first caps)(hK:∀ s,K s=U r->K' (eS s))(h:bZ T C o s K=U r):bO T C' o (eS s) K':=by
 simp only[bZ,ho]at h;simp only[bO,ho]
 split at h
 ·obtain⟨h1,h2⟩:=bj h;rw[A_,oM];exact bG h1 (Kq hK (bP _ (.fn _ _)) h2)
 ·cases h
def Ba:∀(a b:List SV),bZ.eqSVs a b=ae->a=b
 |[],[],_=>rfl
 |[],_::_,h=>by simp[bZ.eqSVs]at h
 |_::_,[],h=>by simp[bZ.eqSVs]at h
 | x::l,y::m,h=>by
   simp only[bZ.eqSVs,aK]at h;rw[Ba l m h.2];congr 1;have h1:=h.1;split at h1
   ·simp only[dj,aK,aL]at h1;rw[h1.1,h1.2]
   ·rw[eq_of_beq h1]
   ·rfl
   ·rw[eq_of_beq h1]
   ·cases h1
def Od {t:TypeId}{x y:Operand}(ho:o.op = .makeSlice t x y)(hK:∀ s,K s=U r->K' (eS s))(h:bZ T C o s K=U r):bO T C' o (eS s) K':=by
 simp only[bZ,ho]at h;simp only[bO,a9,ho]
 rw[bV,bV];split at h
 ·rename_i t' n m hk hx hy;rw[hk,hx,hy];simp only[e]
  split at h
  ·rename_i g hg;obtain⟨h1,h2⟩:=bj h;obtain⟨h3,h4⟩:=cR h2;simp only[aK,aL]at h1 h3;refine⟨h1.1.1.1,h3.1.1.1,h3.1.1.2,h3.1.2,h3.2,Kq hK ?_ h4⟩;have:=bP (s:=s) o.dst (.own g ae (List.replicate n.toNat g.dflt));simp only[e,List.map_replicate]at this;rw[Ba _ _ h1.1.2,<-eq_of_beq h1.2];exact this
  ·cases h
 ·cases h
def mq (d:Int):∀x:Option Operand,fI (eS s).env d x=kR s d x
 |none=>rfl
 | some x=>by
   simp only[fI,kR,bV]
   cases bp s x<;>rfl
def Oe (cs:List V)(n:Nat):eL (cs.drop n)=(eL cs).drop n:=by simp only[sf,List.map_drop]
def Of {t:TypeId}{x:Operand}{f:Nat}(ho:o.op = .fieldAddr t x f)(hK:∀ s,K s=U r->K' (eS s))(h:bZ T C o s K=U r):bO T C' o (eS s) K':=by
 simp only[bZ,ho]at h;simp only[bO,ho]
 rw[bV];split at h
 ·rename_i fs a i off hk hv;rw[hk,hv];simp only[e]
  split at h
  ·rename_i ft fo hf;rw[hf];obtain⟨h1,h2⟩:=bj h;exact bG h1 (Kq hK (bP _ (.p _ _ _)) h2)
  ·cases h
 ·rename_i fs cs hk hv;rw[hk,hv];simp only[e]
  split at h
  ·rename_i ft fo hf;rw[hf];obtain⟨h1,h2⟩:=bj h;refine bG h1 (Kq hK ?_ h2);rw[<-Oe];exact bP _ (.ro _)
  ·cases h
 ·cases h
def Og {t:TypeId}{x:Operand}{f:Nat}(ho:o.op = .field t x f)(hK:∀ s,K s=U r->K' (eS s))(h:bZ T C o s K=U r):bO T C' o (eS s) K':=by
 simp only[bZ,ho]at h;simp only[bO,ho]
 rw[bV];split at h
 ·rename_i fs cs hk hv;rw[hk,hv];simp only[e]
  split at h
  ·rename_i ft fo hf;rw[hf];obtain⟨h1,h2⟩:=bj h;simp only
   rw[oM,cN,<-oS,oT];exact bG h1 (Kq hK (bP _ _) h2)
  ·cases h
 ·cases h
def G9 {g:GT}{l:List g.Den}{n:Int}{t:Nat}{d:Option Tmp}(ht:nv T t g=ae)(hK:∀ s,K s=U r->K' (eS s))(h:A5 s d K g l n=U r):(0<=n/\n<(l.map (aO ag g)).length)/\uN T t (l.map (aO ag g)) n.toNat d (eS s) K':=by
 obtain⟨h1,h2⟩:=cR h;have h1:=of_decide_eq_true h1;obtain⟨x,hx,h3⟩:=oN h2;have hlt:=nc hx;refine⟨⟨h1,by rw[cG];omega⟩,NR ht l,NS ht fun row hr=>?_⟩;rw[List.getElem?_map,hx]at hr;simp only[Option.map_some,aF]at hr;subst hr;rw[<-np];exact Kq hK (bP _ (.ro _)) h3
def G_:∀a b:List SV,gH (a++b)=gH a++gH b
 |[],_=>rfl
 |x::l,b=>by simp only[cF,gH,G_ l b]
def Bb:∀l:List (List SV),cC l=l.map gH
 |[]=>rfl
 |x::l=>by simp only[cC,bF,Bb l]
def vP:∀(g:GT) (d:Bool) (x:g.Den),gH (aO d g x)=aO ag g x
 |.int _,_,_=>rfl
 |.byte,_,_=>rfl
 |.bool,_,_=>rfl
 |.str,_,_=>rfl
 | .sl g,d,l=>by
   cases d with
   |false=>rfl
   | true=>
     simp only[aO,gH,frz,Bb,List.map_map]
     congr 2;exact List.map_congr_left fun x _=>vP g ae x
 |.unit,_,_=>rfl
 |.pair a b,d,x=>by simp only[aO,G_,vP a,vP b]
def kS (g:GT)(d:Bool)(l:List g.Den):cC (l.map (aO d g))=l.map (aO ag g):=by
 rw[Bb,List.map_map];exact List.map_congr_left fun x _=>vP g d x
mutual
def Ha:∀v:V,frz (e v)=e (ny v)
 |.own g d l=>by simp only[e,frz,ny,kS]
 |.emp g=>rfl
 |.agg cs=>by simp only[e,frz,ny,Bc cs]
 |.tup cs=>by simp only[e,frz,ny,Bc cs]
 |.u|.sk|.i _ _|.b _|.s _|.sl _ _|.ar _|.p _ _ _|.ro _|.nilp|.nil|.fn _ _=>rfl
def Bc:∀l:List V,gH (eL l)=eL (ny.frzVL l)
 |[]=>rfl
 |x::l=>by simp only[eL,gH,ny.frzVL,Ha x,Bc l]
end
def Bd (x:Operand):kH (eS s) x=eS (mo s x):=by
 cases x with
 | tmp t=>
   simp only[kH,mo]
   rw[i6,iB];cases eJ (cQ s t)
   ·rfl
   ·simp only[if_true];rw[Ha,fJ]
 |_=>rfl
def Oh {t:TypeId}{x y:Operand}(ho:o.op = .indexAddr t x y)(hK:∀ s,K s=U r->K' (eS s))(h:bZ T C o s K=U r):bO T C' o (eS s) K':=by
 simp only[bZ,ho]at h;simp only[bO,ho]
 rw[bV,bV];split at h
 ·rename_i t' g l k n hk hx hy;rw[hk,hx,hy];simp only[e]
  obtain⟨h1,h2⟩:=bj h;simp only[aK]at h1;exact bG (by rw[h1.1,(so h1.2).2];simp) (G9 h1.2 hK h2)
 ·rename_i t' g d l k n hk hx hy;rw[hk,hx,hy];simp only[e]
  obtain⟨h1,h2⟩:=bj h;simp only[aK]at h1;refine bG (by rw[h1.1,(so h1.2).2];simp) ?_;rw[kS,Bd,cG];have:=G9 h1.2 hK h2;rw[cG]at this;exact this
 ·rename_i t' a k n hk hx hy;rw[hk,hx,hy];simp only[e]
  split at h
  ·rename_i m g d l hg;rw[jw hg];obtain⟨h1,h2⟩:=bj h;obtain⟨h3,h4⟩:=cR h2;simp only[aK,aL]at h3;refine bG h1 ⟨⟨h3.1,by simp only[cG];exact h3.2⟩,Kq hK (bP _ (.p _ _ _)) h4⟩
  ·rename_i m g d l j cs hg;rw[i7 hg];obtain⟨h1,h2⟩:=bj h;obtain⟨h3,h4⟩:=cR h2;simp only[aK,aL]at h3;refine bG h1 ⟨⟨h3.1,by simp only[List.length_set,sh];exact h3.2⟩,Kq hK (bP _ (.p _ _ _)) h4⟩
  ·rename_i m g l k hg;rw[vO hg];obtain⟨h1,h2⟩:=bj h;obtain⟨h3,h4⟩:=cR h2;simp only[aK,aL]at h3;refine bG h1 ⟨⟨h3.1,by simp only[sh];exact h3.2⟩,Kq hK (bP _ (.p _ _ _)) h4⟩
  ·cases h
 ·cases h
def Oi {t:TypeId}{x y:Operand}(ho:o.op = .index t x y)(hK:∀ s,K s=U r->K' (eS s))(h:bZ T C o s K=U r):bO T C' o (eS s) K':=by
 simp only[bZ,ho]at h;simp only[bO,a9,ho]
 rw[bV,bV];split at h
 ·rename_i l k n hk hx hy;rw[hk,hx,hy];simp only[e]
  obtain⟨h1,h2⟩:=cR h;have h1:=of_decide_eq_true h1;obtain⟨c,hc,h3⟩:=oN h2;have hlt:=nc hc;refine⟨⟨h1,by omega⟩,fun c' hc'=>?_⟩;rw[hc]at hc';simp only[aF]at hc';subst hc';exact Kq hK (bP _ (.i _ _)) h3
 ·cases h
def Oj {x:Operand}{j:Nat}(ho:o.op = .extract x j)(hK:∀ s,K s=U r->K' (eS s))(h:bZ T C o s K=U r):bO T C' o (eS s) K':=by
 simp only[bZ,ho]at h;simp only[bO,ho]
 split at h
 ·rename_i t;simp only
  rw[i6];split at h
  ·rename_i vs hv;rw[hv];simp only[e]
   obtain⟨h1,h2⟩:=bj h;rw[cN,<-jv,iB];refine bG h1 ?_;revert h2;cases eJ (dE vs j)
   ·intro h2;exact Kq hK (bP _ _) h2
   ·intro h2;refine Kq hK ?_ h2;simp only
    rw[show SV.tup (cI (eL vs) j .u)=e (.tup (nq vs j .u))by simp only[e,AI],fJ,bP]
  ·cases h
 ·cases h
end
end Go.TM
end
