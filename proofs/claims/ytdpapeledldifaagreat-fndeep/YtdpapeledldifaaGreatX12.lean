/- Part 13 of the proof of FnDeep; no condition. -/
import Derived.Test.YtdpapeledldifaaGreatX11
open Option renaming some -> U
open Decidable renaming decide -> aa
open Bool renaming true -> ad
open Bool renaming false -> ag
open Option renaming none -> aj
open Sum renaming inl -> an
open Sum renaming inr -> ao
open List renaming length -> au
open Int renaming toNat -> aH
open List renaming drop -> kZ
open List renaming take -> nY
set_option autoImplicit true
set_option relaxedAutoImplicit true
set_option linter.all false
section
namespace Go.TM
open Go.AM
section
variable {R:Type}{T:Nat->TI}{C:ni R}{C':zAy}{o:Oper}{s:TS}{K:TS->Option R}{K':St->Prop}{r:R}
def Nf {x:Operand}(ho:o.op = .nilCheck x)(hK:∀ s,K s=U r->K' (eS s))(h:b9 T C o s K=U r):bO T C' o (eS s) K':=by
 simp only[b9,ho]at h;simp only[bO,a9,ho]
 rw[bW];split at h
 ·rename_i hv;rw[hv];exact Kq hK (bP _ (.p _ _ _)) h
 ·rename_i hv;rw[hv];exact Kq hK (bP _ (.ro _)) h
 ·cases h
def Gm {op:BinOp}{x y:V}{K:V->Option R}{K':SV->Prop}(hb:∀ p q,¬ (x = .b p/\y = .b q))(h:vk op x y K=U r)(hK:∀ v,K v=U r->K' (e v)):k9 op (e x) (e y) K':=by
 cases x<;>cases y<;>simp only[vk]at h<;>try cases h
 case b.b p q=>exact absurd ⟨rfl,rfl⟩ (hb p q)
 case i.i k a k' b=>
  simp only[e,k9]
  have hk:∀{A:Option R},aX (c9 k k') A=U r->aa (k=k')=ad/\A=U r:=fun h=>bl h
  cases op with
  |add=>obtain⟨h1,h2⟩:=hk h;exact bF h1 (hK _ h2)
  |sub=>obtain⟨h1,h2⟩:=hk h;exact bF h1 (hK _ h2)
  |mul=>obtain⟨h1,h2⟩:=hk h;exact bF h1 (hK _ h2)
  |quo=>obtain⟨h1,h2⟩:=hk h;obtain⟨h3,h4⟩:=cL h2;exact bF h1 ⟨by simpa using h3,hK _ h4⟩
  |rem=>obtain⟨h1,h2⟩:=hk h;obtain⟨h3,h4⟩:=cL h2;exact bF h1 ⟨by simpa using h3,hK _ h4⟩
  |shl=>obtain⟨h3,h4⟩:=cL h;exact⟨by simpa using h3,hK _ h4⟩
  |shr=>obtain⟨h3,h4⟩:=cL h;exact⟨by simpa using h3,hK _ h4⟩
  |and=>simp only[pD]at h ⊢;obtain⟨h1,h2⟩:=hk h;exact bF h1 (hK _ h2)
  |or=>simp only[pD]at h ⊢;obtain⟨h1,h2⟩:=hk h;exact bF h1 (hK _ h2)
  |xor=>simp only[pD]at h ⊢;obtain⟨h1,h2⟩:=hk h;exact bF h1 (hK _ h2)
  |eql=>simp only[kp]at h ⊢;obtain⟨h1,h2⟩:=hk h;exact bF h1 (hK _ h2)
  |neq=>simp only[kp]at h ⊢;obtain⟨h1,h2⟩:=hk h;exact bF h1 (hK _ h2)
  |lss=>simp only[kp]at h ⊢;obtain⟨h1,h2⟩:=hk h;exact bF h1 (hK _ h2)
  |leq=>simp only[kp]at h ⊢;obtain⟨h1,h2⟩:=hk h;exact bF h1 (hK _ h2)
  |gtr=>simp only[kp]at h ⊢;obtain⟨h1,h2⟩:=hk h;exact bF h1 (hK _ h2)
  |geq=>simp only[kp]at h ⊢;obtain⟨h1,h2⟩:=hk h;exact bF h1 (hK _ h2)
  |_=>simp only[kp]at h;cases h
 case s.s a b=>
  simp only[e,k9]
  cases op with
  |add=>obtain⟨h3,h4⟩:=cL h;exact⟨by simpa using h3,hK _ h4⟩
  |eql=>exact hK _ h
  |neq=>exact hK _ h
  |lss=>exact hK _ h
  |leq=>exact hK _ h
  |gtr=>exact hK _ h
  |geq=>exact hK _ h
  |_=>simp only[ru]at h;cases h
def r7:∀(n:Nat) (fs:List (Nat×Nat)) (a b:List V) (q:Bool),vi T n fs a b=U q->gC T n fs (eL a) (eL b)=U q
 |_,[],[],[],q,h=>h
 |_,[],[],_::_,q,h=>by cases h
 |_,[],_::_,_,q,h=>by cases h
 |_,(_,_)::_,[],_,q,h=>by cases h
 |_,(_,_)::_,_::_,[],q,h=>by cases h
 | n,(t,o)::fs,x::l,y::m,q,h=>by
   simp only[vi]at h;simp only[eL,gC]
   cases hn:o==n with
   |false=>rw[hn,cond_false]at h;cases h
   | true=>
     rw[hn,cond_true]at h;rw[if_pos (eq_of_beq hn)];split at h
     ·rename_i k0 k a k' b q' hk hq;rw[hk];simp only[e,lN]
      rw[r7 _ _ _ _ _ hq];cases hkk:c9 k k' with
      |false=>rw[hkk,cond_false]at h;cases h
      | true=>
        rw[hkk,cond_true]at h;rw[if_pos (of_decide_eq_true hkk)];exact h
     ·rename_i a b q' hk hq;rw[hk];simp only[e,lN]
      rw[r7 _ _ _ _ _ hq];exact h
     ·rename_i a b q' hk hq;rw[hk];simp only[e,lN]
      rw[r7 _ _ _ _ _ hq];exact h
     ·cases h
def Ng {op:BinOp}{t ty:TypeId}{x y:Operand}(ho:o.op = .binOp op t x y ty)(hK:∀ s,K s=U r->K' (eS s))(h:b9 T C o s K=U r):bO T C' o (eS s) K':=by
 simp only[b9,ho]at h;simp only[bO,ho]
 rw[bW,bW];split at h
 ·rename_i a b hx hy;rw[hx,hy];simp only[e,a9,ho]
  rw[bW,bW,hx,hy];simp only[e]
  split at h
  ·rename_i fs hk;rw[hk];simp only
   split at h
   ·rename_i q hq;rw[r7 _ _ _ _ _ hq];exact Kq hK (bP _ (.b _)) h
   ·rename_i q hq;rw[r7 _ _ _ _ _ hq];exact Kq hK (bP _ (.b _)) h
   ·cases h
  ·cases h
 ·rename_i g l hx hy;rw[hx,hy];simp only[e,a9,ho]
  rw[bW,bW,hx,hy];simp only[e]
  split at h
  ·rename_i t' hk;rw[hk];simp only
   obtain⟨h1,h2⟩:=bl h;refine⟨h1,fun z hz=>?_⟩;rcases Ae h2 with⟨h3,h4⟩|⟨h3,h4⟩
   ·obtain⟨h5,h6⟩:=F0 h4;cases z
    ·exact Kq hK (bP _ (.b _)) h6
    ·exact Kq hK (bP _ (.b _)) h5
   ·simp only[bN]at h3;have:z=ag:=hz (by intro hl;rw[List.map_eq_nil_iff]at hl;rw[hl]at h3;exact h3 rfl);subst this;exact Kq hK (bP _ (.b _)) h4
  ·rename_i t' hk;rw[hk];simp only
   obtain⟨h1,h2⟩:=bl h;obtain⟨h3,h4⟩:=cL h2;simp only[Bool.not_eq_true',bN]at h3;refine⟨h1,fun z hz=>?_⟩;have:z=ad:=hz (by intro hl;rw[List.map_eq_nil_iff]at hl;rw[hl]at h3;exact h3 rfl);subst this;exact Kq hK (bP _ (.b _)) h4
  ·cases h
 ·rename_i p q hx hy;rw[hx,hy];simp only[e,a9,ho]
  rw[bW,bW,hx,hy];simp only[e]
  split at h
  ·rename_i hk;rw[hk];exact Kq hK (bP _ (.b _)) h
  ·rename_i hk;rw[hk];exact Kq hK (bP _ (.b _)) h
  ·cases h
 ·rename_i k a k' b hx hy;rw[hx,hy];simp only[e]
  exact Gm (x:=.i k a) (y:=.i k' b) (fun _ _ hh=>by cases hh.1) h fun v hv=>Kq hK (bP _ v) hv
 ·rename_i a b hx hy;rw[hx,hy];simp only[e]
  exact Gm (x:=.s a) (y:=.s b) (fun _ _ hh=>by cases hh.1) h fun v hv=>Kq hK (bP _ v) hv
 ·cases h
def Nh {op:UnOp}{t:TypeId}{x:Operand}(ho:o.op = .unOp op t x)(hK:∀ s,K s=U r->K' (eS s))(h:b9 T C o s K=U r):bO T C' o (eS s) K':=by
 simp only[b9,ho]at h;simp only[bO,a9,ho]
 rw[bW];split at h
 ·rename_i hv;rw[hv];exact Kq hK (bP _ (.b _)) h
 ·rename_i hv;rw[hv];exact Kq hK (bP _ (.i _ _)) h
 ·cases h
def r8 {g g':GT}{l:List g'.Den}{K:List g.Den->Option R}(h:oA l K=U r):∃hs:g.same g'=ad,K (fC hs l)=U r:=by
 unfold oA at h;split at h
 ·exact⟨_,h⟩
 ·cases h
def Aw:∀l:List UInt8,bytesOf (l.map (aM ag .byte))=U l
 |[]=>rfl
 | c::l=>by
   have hc:UInt8.ofNat (((c:UInt8).toNat:Int)).toNat=c:=by simp
   have h1:AM.byteOf (aM ag .byte c)=U c:=by
    show U (UInt8.ofNat (((c:UInt8).toNat:Int)).toNat)=U c;rw[hc]
   have h2:=Aw l;rw[bL];unfold bytesOf;rw[h1,h2]
def Ni {src dst:TypeId}{x:Operand}(ho:o.op = .convert src dst x)(hK:∀ s,K s=U r->K' (eS s))(h:b9 T C o s K=U r):bO T C' o (eS s) K':=by
 simp only[b9,ho]at h;simp only[bO,ho]
 rw[bW];split at h
 ·rename_i k k' n hk hv;rw[hk,hv];simp only[e]
  obtain⟨h1,h2⟩:=bl h;exact bF h1 (Kq hK (bP _ (.i _ _)) h2)
 ·rename_i t l hk hv;rw[hk,hv];simp only[e,a9,ho]
  rw[bW,hk,hv];simp only[e]
  split at h
  ·rename_i h1 h2;rw[h1,h2];exact Kq hK (bP _ (.sl .byte _)) h
  ·cases h
 ·rename_i l hk hv;rw[hk,hv];simp only[e,a9,ho]
  rw[bW,hk,hv];simp only[e]
  split at h
  ·rename_i h1;rw[h1];exact Kq hK (bP _ (.s _)) h
  ·cases h
 ·rename_i g l hk hv;rw[hk,hv];simp only[e,a9,ho]
  rw[bW,hk,hv];simp only[e]
  split at h
  ·rename_i t h1;rw[h1];simp only
   split at h
   ·rename_i h2;rw[h2];obtain⟨hs,h3⟩:=r8 h;have hm:=jF hs l ag;rw[<-hm,Aw];exact Kq hK (bP _ (.s _)) h3
   ·cases h
  ·cases h
 ·rename_i g d l hk hv;rw[hk,hv];simp only[e,a9,ho]
  rw[bW,hk,hv];simp only[e]
  split at h
  ·rename_i t h1;rw[h1];simp only
   split at h
   ·rename_i h2;rw[h2];obtain⟨hs,h3⟩:=r8 h;have hm:=p5 hs l (d:=ag) (d':=d) (.inr rfl);rw[<-hm,Aw];exact Kq hK (bP _ (.s _)) h3
   ·cases h
  ·cases h
 ·cases h
def Ax:∀xs:List Operand,xs.map (AM.ev (eS s).env)=eL (gL s xs)
 |[]=>rfl
 |x::l=>by simp only[bL,gL,eL,bW,Ax l]
def Nj {f:Fn}{first caps:Array Operand}(ho:o.op = .makeFunc f first caps)(hK:∀ s,K s=U r->K' (eS s))(h:b9 T C o s K=U r):bO T C' o (eS s) K':=by
 simp only[b9,ho]at h;simp only[bO,ho]
 split at h
 ·obtain⟨h1,h2⟩:=bl h;rw[Ax,ow];exact bF h1 (Kq hK (bP _ (.fn _ _)) h2)
 ·cases h
def Ay:∀(a b:List SV),b9.eqSVs a b=ad->a=b
 |[],[],_=>rfl
 |[],_::_,h=>by simp[b9.eqSVs]at h
 |_::_,[],h=>by simp[b9.eqSVs]at h
 | x::l,y::m,h=>by
   simp only[b9.eqSVs,aG]at h;rw[Ay l m h.2];congr 1;have h1:=h.1;split at h1
   ·simp only[c9,aG,aI]at h1;rw[h1.1,h1.2]
   ·rw[eq_of_beq h1]
   ·rfl
   ·rw[eq_of_beq h1]
   ·cases h1
def Nk {t:TypeId}{x y:Operand}(ho:o.op = .makeSlice t x y)(hK:∀ s,K s=U r->K' (eS s))(h:b9 T C o s K=U r):bO T C' o (eS s) K':=by
 simp only[b9,ho]at h;simp only[bO,a9,ho]
 rw[bW,bW];split at h
 ·rename_i t' n m hk hx hy;rw[hk,hx,hy];simp only[e]
  split at h
  ·rename_i g hg;obtain⟨h1,h2⟩:=bl h;obtain⟨h3,h4⟩:=cL h2;simp only[aG,aI]at h1 h3;refine⟨h1.1.1.1,h3.1.1.1,h3.1.1.2,h3.1.2,h3.2,Kq hK ?_ h4⟩;have:=bP (s:=s) o.dst (.own g ad (List.replicate n.toNat g.dflt));simp only[e,List.map_replicate]at this;rw[Ay _ _ h1.1.2,<-eq_of_beq h1.2];exact this
  ·cases h
 ·cases h
def ma (d:Int):∀x:Option Operand,fq (eS s).env d x=kE s d x
 |none=>rfl
 | some x=>by
   simp only[fq,kE,bW]
   cases bw s x<;>rfl
def Nl (cs:List V)(n:Nat):eL (cs.drop n)=(eL cs).drop n:=by simp only[rQ,List.map_drop]
def Nn {t:TypeId}{x:Operand}{f:Nat}(ho:o.op = .fieldAddr t x f)(hK:∀ s,K s=U r->K' (eS s))(h:b9 T C o s K=U r):bO T C' o (eS s) K':=by
 simp only[b9,ho]at h;simp only[bO,ho]
 rw[bW];split at h
 ·rename_i fs a i off hk hv;rw[hk,hv];simp only[e]
  split at h
  ·rename_i ft fo hf;rw[hf];obtain⟨h1,h2⟩:=bl h;exact bF h1 (Kq hK (bP _ (.p _ _ _)) h2)
  ·cases h
 ·rename_i fs cs hk hv;rw[hk,hv];simp only[e]
  split at h
  ·rename_i ft fo hf;rw[hf];obtain⟨h1,h2⟩:=bl h;refine bF h1 (Kq hK ?_ h2);rw[<-Nl];exact bP _ (.ro _)
  ·cases h
 ·cases h
def No {t:TypeId}{x:Operand}{f:Nat}(ho:o.op = .field t x f)(hK:∀ s,K s=U r->K' (eS s))(h:b9 T C o s K=U r):bO T C' o (eS s) K':=by
 simp only[b9,ho]at h;simp only[bO,ho]
 rw[bW];split at h
 ·rename_i fs cs hk hv;rw[hk,hv];simp only[e]
  split at h
  ·rename_i ft fo hf;rw[hf];obtain⟨h1,h2⟩:=bl h;simp only
   rw[ow,cF,<-oD,oE];exact bF h1 (Kq hK (bP _ _) h2)
  ·cases h
 ·cases h
def Gp {g:GT}{l:List g.Den}{n:Int}{t:Nat}{d:Option Tmp}(ht:nh T t g=ad)(hK:∀ s,K s=U r->K' (eS s))(h:As s d K g l n=U r):(0<=n/\n<(l.map (aM ag g)).length)/\ux T t (l.map (aM ag g)) n.toNat d (eS s) K':=by
 obtain⟨h1,h2⟩:=cL h;have h1:=of_decide_eq_true h1;obtain⟨x,hx,h3⟩:=oy h2;have hlt:=mX hx;refine⟨⟨h1,by rw[dG];omega⟩,MX ht l,MY ht fun row hr=>?_⟩;rw[List.getElem?_map,hx]at hr;simp only[Option.map_some,aK]at hr;subst hr;rw[<-nc];exact Kq hK (bP _ (.ro _)) h3
def Gq:∀a b:List SV,gm (a++b)=gm a++gm b
 |[],_=>rfl
 |x::l,b=>by simp only[cD,gm,Gq l b]
def Az:∀l:List (List SV),cC l=l.map gm
 |[]=>rfl
 |x::l=>by simp only[cC,bL,Az l]
def vA:∀(g:GT) (d:Bool) (x:g.Den),gm (aM d g x)=aM ag g x
 |.int _,_,_=>rfl
 |.byte,_,_=>rfl
 |.bool,_,_=>rfl
 |.str,_,_=>rfl
 | .sl g,d,l=>by
   cases d with
   |false=>rfl
   | true=>
     simp only[aM,gm,frz,Az,List.map_map]
     congr 2;exact List.map_congr_left fun x _=>vA g ad x
 |.unit,_,_=>rfl
 |.pair a b,d,x=>by simp only[aM,Gq,vA a,vA b]
def kF (g:GT)(d:Bool)(l:List g.Den):cC (l.map (aM d g))=l.map (aM ag g):=by
 rw[Az,List.map_map];exact List.map_congr_left fun x _=>vA g d x
mutual
def Gr:∀v:V,frz (e v)=e (nk v)
 |.own g d l=>by simp only[e,frz,nk,kF]
 |.emp g=>rfl
 |.agg cs=>by simp only[e,frz,nk,AA cs]
 |.tup cs=>by simp only[e,frz,nk,AA cs]
 |.u|.sk|.i _ _|.b _|.s _|.sl _ _|.ar _|.p _ _ _|.ro _|.nilp|.nil|.fn _ _=>rfl
def AA:∀l:List V,gm (eL l)=eL (nk.frzVL l)
 |[]=>rfl
 |x::l=>by simp only[eL,gm,nk.frzVL,Gr x,AA l]
end
def AB (x:Operand):kq (eS s) x=eS (l_ s x):=by
 cases x with
 | tmp t=>
   simp only[kq,l_]
   rw[jD,im];cases eu (cT s t)
   ·rfl
   ·simp only[if_true];rw[Gr,gI]
 |_=>rfl
def Np {t:TypeId}{x y:Operand}(ho:o.op = .indexAddr t x y)(hK:∀ s,K s=U r->K' (eS s))(h:b9 T C o s K=U r):bO T C' o (eS s) K':=by
 simp only[b9,ho]at h;simp only[bO,ho]
 rw[bW,bW];split at h
 ·rename_i t' g l k n hk hx hy;rw[hk,hx,hy];simp only[e]
  obtain⟨h1,h2⟩:=bl h;simp only[aG]at h1;exact bF (by rw[h1.1,(rW h1.2).2];simp) (Gp h1.2 hK h2)
 ·rename_i t' g d l k n hk hx hy;rw[hk,hx,hy];simp only[e]
  obtain⟨h1,h2⟩:=bl h;simp only[aG]at h1;refine bF (by rw[h1.1,(rW h1.2).2];simp) ?_;rw[kF,AB,dG];have:=Gp h1.2 hK h2;rw[dG]at this;exact this
 ·rename_i t' a k n hk hx hy;rw[hk,hx,hy];simp only[e]
  split at h
  ·rename_i m g d l hg;rw[jf hg];obtain⟨h1,h2⟩:=bl h;obtain⟨h3,h4⟩:=cL h2;simp only[aG,aI]at h3;refine bF h1 ⟨⟨h3.1,by simp only[dG];exact h3.2⟩,Kq hK (bP _ (.p _ _ _)) h4⟩
  ·rename_i m g d l j cs hg;rw[iN hg];obtain⟨h1,h2⟩:=bl h;obtain⟨h3,h4⟩:=cL h2;simp only[aG,aI]at h3;refine bF h1 ⟨⟨h3.1,by simp only[List.length_set,rS];exact h3.2⟩,Kq hK (bP _ (.p _ _ _)) h4⟩
  ·rename_i m g l k hg;rw[vz hg];obtain⟨h1,h2⟩:=bl h;obtain⟨h3,h4⟩:=cL h2;simp only[aG,aI]at h3;refine bF h1 ⟨⟨h3.1,by simp only[rS];exact h3.2⟩,Kq hK (bP _ (.p _ _ _)) h4⟩
  ·cases h
 ·cases h
def Nq {t:TypeId}{x y:Operand}(ho:o.op = .index t x y)(hK:∀ s,K s=U r->K' (eS s))(h:b9 T C o s K=U r):bO T C' o (eS s) K':=by
 simp only[b9,ho]at h;simp only[bO,a9,ho]
 rw[bW,bW];split at h
 ·rename_i l k n hk hx hy;rw[hk,hx,hy];simp only[e]
  obtain⟨h1,h2⟩:=cL h;have h1:=of_decide_eq_true h1;obtain⟨c,hc,h3⟩:=oy h2;have hlt:=mX hc;refine⟨⟨h1,by omega⟩,fun c' hc'=>?_⟩;rw[hc]at hc';simp only[aK]at hc';subst hc';exact Kq hK (bP _ (.i _ _)) h3
 ·cases h
def Nr {x:Operand}{j:Nat}(ho:o.op = .extract x j)(hK:∀ s,K s=U r->K' (eS s))(h:b9 T C o s K=U r):bO T C' o (eS s) K':=by
 simp only[b9,ho]at h;simp only[bO,ho]
 split at h
 ·rename_i t;simp only
  rw[jD];split at h
  ·rename_i vs hv;rw[hv];simp only[e]
   obtain⟨h1,h2⟩:=bl h;rw[cF,<-je,im];refine bF h1 ?_;revert h2;cases eu (du vs j)
   ·intro h2;exact Kq hK (bP _ _) h2
   ·intro h2;refine Kq hK ?_ h2;simp only
    rw[show SV.tup (cE (eL vs) j .u)=e (.tup (nd vs j .u))by simp only[e,z_],gI,bP]
  ·cases h
 ·cases h
end
end Go.TM
end
