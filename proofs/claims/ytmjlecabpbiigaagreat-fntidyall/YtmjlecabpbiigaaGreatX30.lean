/- Part 31 of the proof of FnTidyAll; no condition. -/
import Derived.Test.YtmjlecabpbiigaaGreatX29
open Option renaming some -> U
open Decidable renaming decide -> aa
open Bool renaming true -> ae
open Bool renaming false -> ag
open Option renaming none -> aj
open Sum renaming inr -> an
open Sum renaming inl -> ao
open List renaming length -> au
open Int renaming toNat -> aw
open List renaming drop -> cU
open List renaming take -> de
set_option autoImplicit true
set_option relaxedAutoImplicit true
set_option linter.all false
section
namespace Go.TM
open Go.AM
section
variable {α X Y R S:Type}
def DI {a b:List α}{x:α}{k:α->Option R}:aq (a++x::b) a.length k=k x:=pE (by simp)
def DJ {a b:List α}{x v:α}:(a++x::b).set a.length v=a++v::b:=by simp
def DK {f:X->Option (X⊕(Y⊕R))}(mk:Nat->List α->X)(fin:List α->Y)(g:α->α)(l:List α){x0:X}{c:Y->Option R}(hx:x0=mk 0 l)(hl:l.length<=1048576)
  (hend:∀a,a.length=l.length->f (mk a.length a)=U (.inr (.inl (fin a))))
  (hstep:∀a x b,x∈l->a.length+b.length+1=l.length->f (mk a.length (a++x::b))=U (.inl (mk (a.length+1) (a++g x::b)))) :
  bindE (aE f x0) c=c (fin (l.map g)):=by
 have key:∀(s a:List α),(∀x∈s,x∈l)->a.length+s.length=l.length->aE f (mk a.length (a++s))=U (.inl (fin (a++s.map g))):=by
  intro s
  induction s with
  |nil=>intro a _ h;rw[eV,cB,hend _ (by simpa using h)];simp
  | cons x s ih=>
    intro a hs h;simp only[bL]at h;rw[eV,hstep a x s (hs x (by simp)) (by omega)];simp only
    have:=ih (a++[g x]) (fun y hy=>hs y (by simp[hy])) (by simp;omega);simp only[aP,bL,cX,bD,cF,dy,Nat.zero_add]at this;rw[this];simp
 have:=key l [] (fun _ h=>h) (by simp);simp only[cX,dy]at this;rw[hx,this,aJ]
def jJ {f:X->Option (X⊕(Y⊕R))}(mk:Nat->X)(fin:Y)(n:Nat){x0:X}{c:Y->Option R}(hx:x0=mk 0)(hend:f (mk n)=U (.inr (.inl fin)))(hstep:∀ i,i<n->f (mk i)=U (.inl (mk (i+1)))) :
  bindE (aE f x0) c=c fin:=by
 have key:∀m i,i+m=n->aE f (mk i)=U (.inl fin):=by
  intro m
  induction m with
  |zero=>intro i h;have:i=n:=by omega
         subst this;rw[eV,hend]
  |succ m ih=>intro i h;rw[eV,hstep i (by omega)];exact ih (i+1) (by omega)
 rw[hx,key n 0 (by omega),aJ]
end
end Go.TM
end
section
namespace Go.TM
def jj {α:Type}{a:List α}:((a.length:Int)<(a.length:Int))=False:=by simp
end Go.TM
namespace Go.Proofs.YtmjlecabpbiigaaGreat
open Go Go.AM Go.TM
def wn {n:Nat}(h1:n<=1048576):IntKind.wrap .i64 ((n:Int)+1)=((n+1:Nat):Int):=by rw[wI (by omega) (by omega)];rfl
def gB {a b:Nat}(ha:a<=1048577)(hb:b<=128):(aa (a<=9223372036854775807)&&aa (a*b<=140737488355328))=ae:=by
 have:a*b<=1048577*128:=Nat.mul_le_mul ha hb;simp only[aK,aL];omega
def zca (m:Mth)(h:ld m):ub m=U m:=by
 obtain⟨m0,m1,m2,m3,m4,m5,m6,m7⟩:=m;obtain⟨_,h1,h2,h3⟩:=h;simp only at h1 h2 h3;simp only[ub,gB (a:=m6.length) (b:=32) (by omega) (by omega),aD]
 refine(jJ (fun i=>((i:Int),(m0,m1,m2,m3,m4,m5,m6,m7),(0,0,0,0,0,[],[],[]),m0,m1,m2,m3,m4,m5,m6,m7.take i)) ((0,0,0,0,0,[],[],[]),m0,m1,m2,m3,m4,m5,m6,m7) m7.length rfl ?_ (fun i hi=>?_)).trans rfl
 ·simp only[jj,bc,aM,List.take_length]
 ·have i1:(i:Int)<m7.length:=by omega
  obtain⟨b1,b2⟩:=h3 _ (List.getElem_mem hi);simp only[kx]at b1 b2
  simp only[i1,ay,aN,fF,aD,aS,bq hi,gB (a:=m7[i].2.1.length) (b:=16) (by omega) (by omega),gB (a:=m7[i].2.2.length) (b:=16) (by omega) (by omega),
   gB (a:=(m7.take i).length+1) (b:=56) (by simp only[bT];omega) (by omega),wn (show i<=1048576 by omega),List.take_succ_eq_append_getElem hi]
def j93 (c:Cls)(h:je c):yT c=U c:=by
 obtain⟨c0,c1,c2,c3,c4,c5,c6⟩:=c;obtain⟨⟨h1,_⟩,h2,h3,h4,h5⟩:=h;simp only at h1 h2 h3 h4 h5;simp only[yT,gB (a:=c0.length) (b:=40) (by omega) (by omega),gB (a:=c4.length) (b:=8) (by omega) (by omega),gB (a:=c5.length) (b:=24) (by omega) (by omega),aD]
 refine(jJ (fun i=>((i:Int),(c0,c1,c2,c3,c4,c5,c6),([],0,0,0,[],[],[]),c0,c1,c2,c3,c4,c5,c6.take i)) (([],0,0,0,[],[],[]),c0,c1,c2,c3,c4,c5,c6) c6.length rfl ?_ (fun i hi=>?_)).trans rfl
 ·simp only[jj,bc,aM,List.take_length]
 ·have i1:(i:Int)<c6.length:=by omega
  have e:=zca _ (h5 _ (List.getElem_mem hi));have e':ub (c6[i].1,c6[i].2.1,c6[i].2.2.1,c6[i].2.2.2.1,c6[i].2.2.2.2.1,c6[i].2.2.2.2.2.1,c6[i].2.2.2.2.2.2.1,c6[i].2.2.2.2.2.2.2)=U c6[i]:=e
  simp only[i1,ay,aN,fF,aD,aS,bq hi,e',ax,
   gB (a:=(c6.take i).length+1) (b:=104) (by simp only[bT];omega) (by omega),wn (show i<=1048576 by omega),List.take_succ_eq_append_getElem hi]
def cl {α:Type}{b:Nat}(s:List α)(hl:s.length<=1048576)(hb:b<=128):ai (aa (s.length=0)) (ca (U []) (af (aa (s.length<=9223372036854775807)&&aa (s.length*b<=140737488355328)) (U s))) (af (aa (s.length<=9223372036854775807)&&aa (s.length*b<=140737488355328)) (U s))=U s:=by
 rw[gB (by omega) hb];cases s with
 |nil=>simp only[cX,ay,aN,aD];exact jd _
 |cons x l=>simp[aD]
def zcb (l:List Cst)(h:l.length<=1048576):C_ l=U l:=cl l h (by omega)
def zcc (l:List Int)(h:l.length<=1048576):Da l=U l:=cl l h (by omega)
def zcd (l:List Fld)(h:l.length<=1048576):Db l=U l:=cl l h (by omega)
def zce (l:List Mth)(h:l.length<=1048576):Dc l=U l:=cl l h (by omega)
def zcf (l:List Trp)(h:l.length<=1048576):Dd l=U l:=cl l h (by omega)
def zcg (l:List Frm)(h:l.length<=1048576):De l=U l:=cl l h (by omega)
def KM (l:List Knd)(h:l.length<=1048576):yK l=U l:=cl l h (by omega)
def j92 (c:Cls)(h:je c):yL c=U c:=by
 obtain⟨c0,c1,c2,c3,c4,c5,c6⟩:=c;obtain⟨⟨h1,_⟩,h2,h3,h4,h5⟩:=h;simp only at h1 h2 h3 h4 h5;simp only[yL,zcb c0 h1,zcc c4 h2,zcd c5 h3,zce c6 h4,ax,ay,aD,bE]
 refine(jJ (fun i=>((c6.length:Int),(i:Int),(c0,c1,c2,c3,c4,c5),([],0,0,0,[],[],[]),c6,i)) ((c0,c1,c2,c3,c4,c5,c6),([],0,0,0,[],[],[])) c6.length rfl ?_ (fun i hi=>?_)).trans rfl
 ·simp only[jj,bc,aM,ay,aD,Kd]
 ·have i1:(i:Int)<c6.length:=by omega
  have hb:=h5 _ (List.getElem_mem hi);have hs:c6.set i c6[i]=c6:=List.set_getElem_self hi;simp only[i1,ay,aN,fF,aD,ba,aS,bq hi,bJ]
  generalize c6[i]=m at hb hs;obtain⟨m0,m1,m2,m3,m4,m5,m6,m7⟩:=m;obtain⟨_,b1,b2,b3⟩:=hb;simp only at b1 b2 b3;simp only[zcf m6 b1,zcg m7 b2,ax,bE,hi,ay,ba,aD]
  refine(congrArg (bindE · _) (jJ (fun k=>((i:Int),(c6.length:Int),(i:Int),m7,(m7.length:Int),(k:Int),(c0,c1,c2,c3,c4,c5),([],0,0,0,[],[],[]),(c6,i,m0,m1,m2,m3,m4,m5,m6),m7,k))
   ((c6.length:Int),(i:Int),(c0,c1,c2,c3,c4,c5),([],0,0,0,[],[],[]),c6,i+1) m7.length rfl ?_ (fun k hk=>?_))).trans ?_
  ·simp only[jj,bc,aM,ay,aD,Kd,hi,ba,hs]
  ·have k1:(k:Int)<m7.length:=by omega
   obtain⟨d1,d2⟩:=b3 _ (List.getElem_mem hk);have ds:m7.set k (m7[k].1,m7[k].2.1,m7[k].2.2)=m7:=List.set_getElem_self hk;simp only[k1,i1,ay,aN,fF,aD,ba,aS,bq hk,hi,hk,KM _ d1,KM _ d2,ax,bE,beq_self_eq_true,ds,wn (show k<=1048576 by omega)]
  ·simp only[aJ,wn (show i<=1048576 by omega)]
end Go.Proofs.YtmjlecabpbiigaaGreat
end
namespace Go.Proofs.YtmjlecabpbiigaaGreat
section
open Go Go.AM Go.TM
def zch (x:UInt8):w1 (x.toNat:Int)=[x]:=by
 have h:IntKind.wrap .u8 (x.toNat:Int)=(x.toNat:Int):=by
  have h:IntKind.wrap .u8 (x.toNat:Int)=(x.toNat:Int) % 256:=by simp[IntKind.wrap,IntKind.bits,IntKind.signed]
  have:=x.toNat_lt;rw[h];omega
 unfold w1;rw[h,aS,UInt8.ofNat_toNat]
def ln {l r:List UInt8}{v:Int}(h:g1 l=U (v,r)):l=w1 v++r:=by
 cases l with
 |nil=>cases h
 | cons x l=>
   simp only[g1,aF,bm]at h;obtain⟨rfl,rfl⟩:=h;rw[zch];rfl
def im {l r:List UInt8}{v:Int}(h:g2 l=U (v,r)):l=tS v++r:=by
 obtain⟨⟨a,l1⟩,h1,h⟩:=bf h;obtain⟨⟨b,l2⟩,h2,h⟩:=bf h;simp only[aF,bm]at h;obtain⟨rfl,rfl⟩:=h;have ha:=f8 h1;have hb:=f8 h2;have e1:Int.tdiv (a*256+b) 256=a:=by rw[Int.tdiv_eq_ediv_of_nonneg (by omega)];omega
 have e2:Int.tmod (a*256+b) 256=b:=by rw[Int.tmod_eq_emod_of_nonneg (by omega)];omega
 unfold tS
 try dsimp only at *
 rw[e1,e2,wI (by omega) (by omega),ln h1,ln h2,bD]
def DL {n:Int}{l t r:List UInt8}(h:gT n l=U (t,r)):l=t++r:=by
 unfold gT at h;split at h
 ·simp only[aF,bm]at h;obtain⟨rfl,rfl⟩:=h;exact(List.take_append_drop _ _).symm
 ·cases h
def KN {n:Int}{l t r:List UInt8}(h:gT n l=U (t,r))(hn:0<=n):(t.length:Int)=n:=by
 unfold gT at h;split at h
 ·simp only[aF,bm]at h;obtain⟨rfl,rfl⟩:=h;rw[bT];omega
 ·cases h
def KO {β:Type}{g:List UInt8->Option (β×List UInt8)}{p:β->List UInt8}(hg:∀ {l v r},g l=U (v,r)->l=p v++r):∀{n:Nat} {l:List UInt8} {vs:List β} {r:List UInt8},bR g n l=U (vs,r)->l=(vs.map p).flatten++r
 |0,l,vs,r,h=>by simp only[bR,aF,bm]at h;rw[<-h.1,h.2];rfl
 | n+1,l,vs,r,h=>by
   simp only[bR]at h;obtain⟨⟨v,l1⟩,h1,h⟩:=bf h;obtain⟨⟨ws,l2⟩,h2,h⟩:=bf h;simp only[aF,bm]at h;obtain⟨rfl,rfl⟩:=h
   try dsimp only at *
   rw[hg h1,KO hg h2,bF,List.flatten_cons,bD]
def od {β:Type}{most:Int}{g:List UInt8->Option (β×List UInt8)}{p:β->List UInt8}(hg:∀ {l v r},g l=U (v,r)->l=p v++r){l r:List UInt8}{vs:List β}(h:cP most g l=U (vs,r)):l=w1 vs.length++((vs.map p).flatten++r):=by
 obtain⟨⟨n,l1⟩,h1,h2⟩:=bf h;simp only at h2;split at h2
 ·cases h2
 ·have hn:=f8 h1;have hl:=Dk _ _ _ _ h2;have e:(vs.length:Int)=n:=by omega
  rw[e,ln h1,KO hg h2]
def zci {l r:List UInt8}{v:Cst}(h:gy l=U (v,r)):l=gA tS v++r:=by
 obtain⟨⟨t,l1⟩,h1,h2⟩:=bf h;simp only at h2
 try dsimp only at *
 rw[ln h1];unfold iJ at h2;unfold gA;by_cases c1:t=1
 ·rw[if_pos c1]at h2;obtain⟨⟨n,l2⟩,h3,h4⟩:=bf h2;obtain⟨⟨q,l3⟩,h5,h6⟩:=bf h4;simp only[aF,bm]at h6;obtain⟨rfl,rfl⟩:=h6;simp only[if_true]
  try dsimp only at *
  rw[KN h5 (f8 h3).1,ln h3,DL h5,c1];simp only[bD]
 ·rw[if_neg c1]at h2;by_cases c2:t=2
  ·rw[if_pos c2]at h2;obtain⟨⟨n,l2⟩,h3,h4⟩:=bf h2;simp only[aF,bm]at h4;obtain⟨rfl,rfl⟩:=h4;have:¬(2:Int)=1:=by decide
   simp only[this,if_false,if_true]
   try dsimp only at *
   rw[im h3,c2,bD]
  ·rw[if_neg c2]at h2;split at h2
   ·obtain⟨⟨n,l2⟩,h3,h4⟩:=bf h2;obtain⟨⟨n2,l3⟩,h5,h6⟩:=bf h4;simp only[aF,bm]at h6;obtain⟨rfl,rfl⟩:=h6;simp only[c1,c2,if_false]
    try dsimp only at *
    rw[im h3,im h5];simp only[bD]
   ·cases h2
def KP {l r:List UInt8}{v:Knd}(h:eh l=U (v,r)):l=iO tS v++r:=by
 obtain⟨⟨t,l1⟩,h1,h2⟩:=bf h;simp only at h2
 try dsimp only at *
 rw[ln h1];unfold iO;by_cases c1:t=3
 ·rw[if_pos c1]at h2;obtain⟨⟨n,l2⟩,h3,h4⟩:=bf h2;simp only[aF,bm]at h4;obtain⟨rfl,rfl⟩:=h4;simp only[if_true]
  try dsimp only at *
  rw[im h3,c1,bD]
 ·rw[if_neg c1]at h2;split at h2
  ·cases h2
  ·simp only[aF,bm]at h2;obtain⟨rfl,rfl⟩:=h2;simp only[c1,if_false,cB]
def zcj {l r:List UInt8}{v:Trp}(h:iK l=U (v,r)):l=gC tS v++r:=by
 obtain⟨⟨a,l1⟩,h1,h⟩:=bf h;obtain⟨⟨b,l2⟩,h2,h⟩:=bf h;obtain⟨⟨c,l3⟩,h3,h⟩:=bf h;obtain⟨⟨d,l4⟩,h4,h⟩:=bf h;simp only[aF,bm]at h;obtain⟨rfl,rfl⟩:=h;unfold gC
 try dsimp only at *
 rw[im h1,im h2,im h3,im h4];simp only[bD]
def zck {l r:List UInt8}{v:Frm}(h:iL l=U (v,r)):l=fL tS v++r:=by
 obtain⟨⟨a,l1⟩,h1,h⟩:=bf h;obtain⟨⟨b,l2⟩,h2,h⟩:=bf h;obtain⟨⟨c,l3⟩,h3,h⟩:=bf h;simp only[aF,bm]at h;obtain⟨rfl,rfl⟩:=h;unfold fL kD
 try dsimp only at *
 rw[im h1,od KP h2,od KP h3];simp only[bD]
def zcl {l r:List UInt8}{v:Fld}(h:iM l=U (v,r)):l=jE tS v++r:=by
 obtain⟨⟨a,l1⟩,h1,h⟩:=bf h;obtain⟨⟨b,l2⟩,h2,h⟩:=bf h;obtain⟨⟨c,l3⟩,h3,h⟩:=bf h;simp only[aF,bm]at h;obtain⟨rfl,rfl⟩:=h;unfold jE
 try dsimp only at *
 rw[ln h1,im h2,im h3];simp only[bD]
def ru {f:Int}(h0:0<=f)(h1:f<=255):cH f=ae↔gR f:=by
 unfold cH gR;have e:Int.tdiv (Int.tmod f 16) 8=f % 16 / 8:=by rw[Int.tmod_eq_emod_of_nonneg h0,Int.tdiv_eq_ediv_of_nonneg (by omega)]
 rw[e,wI (by omega) (by omega),aL]
def zcm {l r:List UInt8}{v:Mth}(h:f9 l=U (v,r)):l=dI tS cH v++r:=by
 obtain⟨⟨f,l1⟩,h1,h⟩:=bf h;obtain⟨⟨n,l2⟩,h2,h⟩:=bf h;obtain⟨⟨d,l3⟩,h3,h⟩:=bf h;have hf:=f8 h1;simp only at h;unfold dI
 try dsimp only at *
 rw[ln h1,im h2,im h3];unfold m3 at h;by_cases c:gR f
 ·rw[if_pos c]at h;simp only[aF,bm]at h;obtain⟨rfl,rfl⟩:=h;have:cH f=ae:=(ru hf.1 hf.2).2 c;simp only[this,if_true,cB,bD]
 ·rw[if_neg c]at h;have ha:¬cH f=ae:=fun e=>c ((ru hf.1 hf.2).1 e)
  obtain⟨⟨s,l4⟩,h4,h⟩:=bf h;obtain⟨⟨lo,l5⟩,h5,h⟩:=bf h;obtain⟨⟨k,l6⟩,h6,h⟩:=bf h;simp only at h;unfold b5 at h;split at h
  ·cases h
  obtain⟨⟨code,l7⟩,h7,h⟩:=bf h;obtain⟨⟨tr,l8⟩,h8,h⟩:=bf h;obtain⟨⟨fr,l9⟩,h9,h⟩:=bf h;simp only[aF,bm]at h;obtain⟨rfl,rfl⟩:=h;simp only[ha]
  try dsimp only at *
  rw[ln h4,ln h5,im h6,DL h7,od zcj h8,od zck h9,KN h7 (yY h6).1];simp only[bD,cV,if_false]
def KQ {l r:List UInt8}{v:Cls}(h:fh l=U (v,r)):l=cJ tS cH v++r:=by
 obtain⟨⟨t,l1⟩,h1,h⟩:=bf h;simp only at h;unfold iN at h;split at h
 ·cases h
 rename_i ht;have ht:t=[83,84,79,87]:=Classical.not_not.1 ht;obtain⟨⟨p,l2⟩,h2,h⟩:=bf h;obtain⟨⟨f,l3⟩,h3,h⟩:=bf h;obtain⟨⟨n,l4⟩,h4,h⟩:=bf h;obtain⟨⟨s,l5⟩,h5,h⟩:=bf h;obtain⟨⟨fa,l6⟩,h6,h⟩:=bf h;obtain⟨⟨fi,l7⟩,h7,h⟩:=bf h;obtain⟨⟨ms,l8⟩,h8,h⟩:=bf h;simp only[aF,bm]at h;obtain⟨rfl,rfl⟩:=h;unfold cJ
 try dsimp only at *
 rw[DL h1,ht,od zci h2,ln h3,im h4,im h5,od im h6,od zcl h7,od zcm h8];simp only[bD]
end
section
open Go Go.AM Go.TM Go.Stow
def uj (b:UInt8)(n:Nat)(h:n<256):((b.toNat:Int)=(n:Int))=(b=UInt8.ofNat n):=by
 apply propext;constructor
 ·intro e;have e:b.toNat=n:=by omega
  rw[<-e,UInt8.ofNat_toNat]
 ·intro e;subst e;rw[UInt8.toNat_ofNat_of_lt' h]
def u41 (b:UInt8):((b.toNat:Int)=41)=(b=41):=uj b 41 (by omega)
def u40 (b:UInt8):((b.toNat:Int)=40)=(b=40):=uj b 40 (by omega)
def u59 (b:UInt8):((b.toNat:Int)=59)=(b=59):=uj b 59 (by omega)
def DN (b:UInt8):((b.toNat:Int)=73)=(b=73):=uj b 73 (by omega)
def u76 (b:UInt8):((b.toNat:Int)=76)=(b=76):=uj b 76 (by omega)
def KR {α:Type}{s t r:List α}{n:Nat}(h:s.drop n=t++r):(s.take (n+t.length)).drop n=t/\s.drop (n+t.length)=r:=by
 constructor
 ·rw[List.drop_take,h,show n+t.length-n=t.length by omega,List.take_left'];rfl
 ·rw[<-List.drop_drop,h,List.drop_left'];rfl
def KS {α:Type}{s t r:List α}{n:Nat}(hn:n<=s.length)(h:s.drop n=t++r):n+t.length+r.length=s.length:=by
 have:=congrArg au h;simp only[dx,aP]at this;omega
def DO (s:List UInt8)(a:Nat)(hl:s.length<=1048576)(ha:a<=s.length):qS (s,(a:Int))=U (match Stow.one (s.drop a)with|some (t,_)=>((a+t.length:Nat):Int)|none=>-1):=by
 have h0:(0:Int)<=a:=by omega
 by_cases hlt:(a:Int)<s.length
 ·have hn:a<s.length:=by omega
  have hle:¬((s.length:Int)<=a):=by omega
  simp (discharger:=omega) only[qS,hlt,hle,ay,bc,aN,aM,aD,h0,aS,bq,bW,aG,DN,u76,wI]
  rw[kv hn,DB];by_cases h73:s[a]=73
  ·rw[if_pos h73,if_pos h73,aV];simp only[List.length_singleton]
   rfl
  ·rw[if_neg h73,if_neg h73,aJ];simp (discharger:=omega) only[hle,if_false,h0,ay,aD,aS,bq]
   by_cases h76:s[a]=76
   ·rw[if_pos h76,if_pos h76];simp only[aJ]
    refine(DF (fun j=>(s,(a:Int),((a+1+j:Nat):Int))) () (s.drop (a+1)) (fun x=>aa (x=59)) (fun j=>if Nm ((s.drop (a+1)).take j)then((a+1+j+1:Nat):Int)else -1) ?_ ?_ ?_).trans ?_
    ·rw[wI (by omega) (by omega)];rfl
    ·have:¬(((a+1+(s.drop (a+1)).length:Nat):Int)<s.length):=by simp only[dx];omega
     simp only[this,if_false]
    ·intro j hj;have hj':a+1+j<s.length:=by simp only[dx]at hj;omega
     have hi:((a+1+j:Nat):Int)<s.length:=by omega
     have hi0:(0:Int)<=((a+1+j:Nat):Int):=by omega
     have hg1:(0:Int)<=(a:Int)+1:=by omega
     have hg2:(a:Int)+1<=((a+1+j:Nat):Int):=by omega
     have hg3:((a+1+j:Nat):Int)<=s.length:=by omega
     have ht:((a:Int)+1).toNat=a+1:=by omega
     have hd:(s.take (a+1+j)).drop (a+1)=(s.drop (a+1)).take j:=by rw[List.drop_take];congr 1;omega
     have hb:((s.drop (a+1)).take j).length<=1048576:=by simp only[bT,dx];omega
     have hg:(s.drop (a+1))[j]=s[a+1+j]:=by simp
     simp (discharger:=omega) only[hi,hi0,hg1,hg2,hg3,if_true,ay,ba,aN,aD,ht,aS,bq,u59,aG,hd,n9 _ hb,ax,wI,aL,hg]
     by_cases hx:s[a+1+j]=59
     ·rw[if_pos hx,if_pos hx];by_cases hm:Nm ((s.drop (a+1)).take j)
      ·rw[if_pos hm,if_pos hm];rfl
      ·rw[if_neg hm,if_neg hm]
     ·rw[if_neg hx,if_neg hx];rfl
    ·rw[KJ];cases hf:(s.drop (a+1)).findIdx? (fun x=>aa (x=59))with
     |none=>rfl
     | some j=>
       simp only[bh]
       have hj:=(List.findIdx?_eq_some_iff_getElem.1 hf).1;by_cases hm:Nm ((s.drop (a+1)).take j)
       ·rw[if_pos hm,if_pos hm];simp only[bL,aP,bT,cX]
        rw[Nat.min_eq_left (by omega)];congr 1;omega
       ·rw[if_neg hm,if_neg hm]
   ·rw[if_neg h76,if_neg h76];rfl
 ·have hle:(s.length:Int)<=a:=by omega
  simp only[qS,hlt,hle,ay,bc,aN,aM,aJ,aV]
  rw[List.drop_eq_nil_of_le (by omega)];rfl
def rv (s:List UInt8)(hl:s.length<=1048576):mD s=U (aa (Tok s)):=by
 simp only[mD,aG]
 by_cases h:(0:Int)<s.length
 ·have e:=DO s 0 hl (by omega);rw[if_pos h];rw[show((0:Int))=((0:Nat):Int)from rfl,e,ax,List.drop_zero];congr 1;rw[decide_eq_decide];cases ho:Stow.one s with
  | none=>
    simp only
    constructor
    ·intro h;omega
    ·intro ht;rw[KD,ho]at ht;cases ht
  | some p=>
    obtain⟨t,r⟩:=p;obtain⟨h1,h2⟩:=lj ho;simp only[Nat.zero_add]
    constructor
    ·intro hh
     have:r=[]:=by
      have:=congrArg au h1;rw[aP]at this;exact List.length_eq_zero_iff.1 (by omega)
     rw[this,cB]at h1;rw[h1];exact h2
    ·intro ht;rw[KD,ho]at ht;simp only[aF,bm]at ht;rw[ht.1]
 ·rw[if_neg h,eq_comm];have:s=[]:=List.length_eq_zero_iff.1 (by omega);subst this;simp only[aF,bS]
  exact uh
def zUc {X Y R:Type}{f:X->Option (X⊕(Y⊕R))}{k:Y->Option R}(s:List UInt8)(mk:List (List UInt8)->Nat->X)(bad:R)(good:List (List UInt8)->List UInt8->R)
  (hend:∀out a,s.length<=a->bindE (aE f (mk out a)) k=U bad)
  (h41:∀out a (h:a<s.length),s[a]=41->bindE (aE f (mk out a)) k=U (good out (s.drop (a+1))))
  (hbad:∀out a (h:a<s.length),s[a]≠41->(Stow.one (s.drop a)=aj\/4<=out.length)->bindE (aE f (mk out a)) k=U bad)
  (hstep:∀out a t r (h:a<s.length),s[a]≠41->Stow.one (s.drop a)=U (t,r)->out.length<4->f (mk out a)=U (.inl (mk (out++[t]) (a+t.length)))) :
  ∀(n a:Nat) (out:List (List UInt8)),out.length+n=4->a<=s.length->bindE (aE f (mk out a)) k=U (match more n (s.drop a)with|some (ts,b)=>good (out++ts) b|none=>bad):=by
 intro n
 induction n with
 | zero=>
   intro a out ho ha;by_cases h:a<s.length
   ·rw[kv h];simp only[more]
    by_cases hx:s[a]=41
    ·rw[if_pos hx,h41 out a h hx];simp only[cB]
    ·rw[if_neg hx,hbad out a h hx (.inr (by omega))]
   ·rw[hend out a (by omega),List.drop_eq_nil_of_le (by omega)];rfl
 | succ n ih=>
   intro a out ho ha;by_cases h:a<s.length
   ·rw[kv h,zj];by_cases hx:s[a]=41
    ·rw[if_pos hx,h41 out a h hx];simp only[cB]
    ·rw[if_neg hx,<-kv h];cases hone:Stow.one (s.drop a)with
     |none=>rw[hbad out a h hx (.inl hone)];rfl
     | some p=>
       obtain⟨t,r⟩:=p;have hds:=KR (lj hone).1;have hdl:=KS ha (lj hone).1;rw[n8 (hstep out a t r h hx hone (by omega)),ih (a+t.length) (out++[t]) (by simp;omega) (by omega),hds.2];simp only[bh]
       cases more n r with
       |none=>rfl
       |some q=>simp only[Option.map_some,bD,List.singleton_append]
   ·rw[hend out a (by omega),List.drop_eq_nil_of_le (by omega)];rfl
noncomputable def uk (ts:List (List UInt8))(back:List UInt8):List (List UInt8)×List UInt8×Bool:=if back=[86]\/Tok back then(ts,back,ae)else([],[],ag)
def zq (x:UInt8)(l:List UInt8):iS (x::l)=if x=40 then(match more 4 l with|some (ts,b)=>uk ts b|none=>([],[],ag))else([],[],ag):=by
 simp only[iS]
 split
 ·cases more 4 l with
  |none=>rfl
  |some p=>rfl
 ·rfl
def KT (s:List UInt8)(hl:s.length<=1048576):tz s=U (iS s):=by
 cases hs:s with
 |nil=>rfl
 | cons x l=>
   have hne:¬(((x::l).length:Int)=0):=by simp only[bL];omega
   have hpos:0<(x::l).length:=by simp
   rw[zq];simp (discharger:=assumption) only[tz,hne,bc,aM,bq,bW,aG,u40,u41,List.getElem_cons_zero]
   by_cases h40:x=40
   ·rw[if_pos h40,if_pos h40,aJ];rw[<-hs];have hd1:s.drop 1=l:=by rw[hs];rfl
    rw[<-hd1];refine zUc s (fun out a=>(s,out,(a:Int))) ([],[],ag) uk ?_ ?_ ?_ ?_ 4 1 [] rfl (by rw[hs];simp)
    ·intro out a ha;have h1:¬((a:Int)<s.length):=by omega
     have h2:(s.length:Int)<=a:=by omega
     rw[iV (y:=.inl (s,out,(a:Int))) (by simp only[h1,if_false,aV])];simp only[aJ,h2,if_true]
    ·intro out a h hx;have h1:(a:Int)<s.length:=by omega
     have h2:¬(s.length:Int)<=a:=by omega
     have h0:(0:Int)<=a:=by omega
     rw[iV (y:=.inl (s,out,(a:Int))) (by simp (discharger:=omega) only[h1,if_true,h0,ay,aD,aS,bq,hx,aV])];have ht:((a:Int)+1).toNat=a+1:=by omega
     have hg1:(0:Int)<=(a:Int)+1:=by omega
     have hg2:(a:Int)+1<=s.length:=by omega
     have hb:(s.drop (a+1)).length<=1048576:=by simp only[dx];omega
     simp (discharger:=omega) only[aJ,h2,if_false,wI,ht,hg1,hg2,Int.le_refl,ay,ba,aD,aS,List.take_length,rv _ hb,ax,aG,uk]
     by_cases hv:s.drop (a+1)=[86]
     ·simp only[hv,if_true,true_or]
     ·by_cases htk:Tok (s.drop (a+1))<;>simp only[hv,htk,if_true,if_false,false_or]
    ·intro out a h hx hh;have h1:(a:Int)<s.length:=by omega
     have h0:(0:Int)<=a:=by omega
     rw[iV (y:=.inr ([],[],ag))]
     ·rfl
     ·simp (discharger:=omega) only[h1,if_true,h0,ay,aD,aS,bq,hx,if_false,aJ,DO s a hl (by omega),ax]
      cases ho:Stow.one (s.drop a)with
      |none=>rfl
      | some p=>
        obtain⟨t,r⟩:=p;rcases hh with hh|hh
        ·rw[ho]at hh;cases hh
        ·have q1:¬(((a+t.length:Nat):Int)<0):=by omega
         have q2:(4:Int)<=out.length:=by omega
         simp only[q1,q2,if_true,if_false,aV]
    ·intro out a t r h hx ho hlt;have h1:(a:Int)<s.length:=by omega
     have h0:(0:Int)<=a:=by omega
     have hds:=KR (lj ho).1;have hdl:=KS (by omega) (lj ho).1;have q1:¬(((a+t.length:Nat):Int)<0):=by omega
     have q2:¬(4:Int)<=out.length:=by omega
     have q3:(a:Int)<=((a+t.length:Nat):Int):=by omega
     have q4:((a+t.length:Nat):Int)<=s.length:=by omega
     have q5:out.length+1<=9223372036854775807:=by omega
     have q6:(out.length+1)*16<=140737488355328:=by omega
     simp (discharger:=omega) only[h1,if_true,h0,ay,aD,aS,bq,hx,if_false,aJ,DO s a hl (by omega),ax,ho,q1,q2,q3,q4,q5,q6,ba,hds.1]
   ·rw[if_neg h40,if_neg h40,aV]
def zr (s:List UInt8)(hl:s.length<=1048576):pk s=U (aa (Dsc s)):=by
 simp only[pk,KT s hl,ax]
 congr 1;rw[Bool.eq_iff_iff,decide_eq_true_iff];exact Iff.rfl
def DP (s:List UInt8)(c:UInt8)(hl:s.length<=1048576):tQ (s,[c])=U (match s with|x::l=>if x=c then(l,ae)else(s,ag) | []=>(s,ag)):=by
 cases s with
 |nil=>rfl
 | cons x l=>
   have h1:(([c]:List UInt8).length:Int)<=(x::l).length:=by simp only[bL,cX];omega
   have h0:(0:Int)<=(([c]:List UInt8).length:Int):=by simp
   have ht:aw (([c]:List UInt8).length:Int)=1:=rfl;simp only[tQ,CX,CW,h1,h0,Int.le_refl,ay,aN,ba,aD,ht,ax,bW,aG,aS,List.take_length,List.drop_zero,List.take_succ_cons,List.take_zero,List.drop_succ_cons]
   by_cases hx:x=c
   ·rw[if_pos (by rw[hx]),if_pos hx,ax]
   ·rw[if_neg (by simpa using hx),if_neg hx,ax]
def DQ (s:List UInt8)(c:UInt8)(hl:s.length<=1048576):∃t b,yu (s,[c])=U (t,b)/\(b=ae->s=t++[c])/\(b=ag->∀u,s≠u++[c]):=by
 by_cases hs:s=[]
 ·subst hs;exact⟨[],ag,rfl,(fun h=>by cases h),fun _ u h=>by simp at h⟩
 ·have hpos:0<s.length:=List.length_pos_iff.2 hs;have h1:(([c]:List UInt8).length:Int)<=s.length:=by simp;omega
  have e1:(([c]:List UInt8).length:Int)=1:=rfl;have g1:(0:Int)<=(s.length:Int)-1:=by omega
  have g2:(s.length:Int)-1<=s.length:=by omega
  have ht:((s.length:Int)-1).toNat=s.length-1:=by omega
  have hsp:s.take (s.length-1)++s.drop (s.length-1)=s:=List.take_append_drop _ _;rw[e1]at h1;simp (discharger:=omega) only[yu,CZ,CY,e1,h1,ay,aN,wI,g1,g2,Int.le_refl,ba,aD,ht,aS,List.take_length,ax,bW,aG,List.drop_zero]
  by_cases hx:s.drop (s.length-1)=[c]
  ·rw[if_pos hx,ax];refine⟨_,_,rfl,fun _=>?_,fun h=>by cases h⟩;rw[<-hx,hsp]
  ·rw[if_neg hx,ax];refine⟨_,_,rfl,(fun h=>by cases h),fun _ u hu=>hx ?_⟩;rw[hu];simp
def um (s:List UInt8)(hl:s.length<=1048576):pz s=U (aa (Tok s)):=by
 simp only[pz,C0,DP s 76 hl,ax]
 cases s with
 | nil=>
   obtain⟨t,b,e,h1,h2⟩:=DQ [] 59 (by simp);rw[e];simp[uh]
 | cons x l=>
   by_cases hx:x=76
   ·simp only[hx,if_true]
    have hll:l.length<=1048576:=by simp only[bL]at hl;omega
    obtain⟨t,b,e,h1,h2⟩:=DQ l 59 hll;rw[e];cases b with
    | true=>
      have h1:=h1 rfl;have htl:t.length<=1048576:=by rw[h1,aP]at hll;omega
      simp only[ax,aN,ui t htl,aG]
      by_cases hn:Nm t
      ·rw[if_pos hn,eq_comm];simp only[aF,aL]
       exact .inr ⟨t,hn,by rw[h1]⟩
      ·rw[if_neg hn];congr 1;rw[decide_eq_decide];refine⟨fun h=>.inl h,fun h=>?_⟩;rcases h with h|⟨n,hm,h⟩
       ·exact h
       ·simp only[List.cons.injEq,true_and]at h;rw[h1]at h;have:=List.append_cancel_right h;rw[this]at hn;exact absurd hm hn
    | false=>
      have h2:=h2 rfl;simp only[ax,aN,aM]
      congr 1;rw[decide_eq_decide];refine⟨fun h=>.inl h,fun h=>?_⟩;rcases h with h|⟨n,hm,h⟩
      ·exact h
      ·simp only[List.cons.injEq,true_and]at h;exact absurd h (h2 n)
   ·simp only[hx,if_false]
    obtain⟨t,b,e,h1,h2⟩:=DQ (x::l) 59 hl;rw[e];simp only[ax,aM]
    congr 1;rw[decide_eq_decide];refine⟨fun h=>.inl h,fun h=>?_⟩;rcases h with h|⟨n,hm,h⟩
    ·exact h
    ·simp only[List.cons.injEq]at h;exact absurd h.1 hx
def KU (s:List UInt8)(c:UInt8):tR (s,(c.toNat:Int))=U (Lib.indexByte s c):=by
 simp only[tR,Cy,ax,aS]
 rw[show c.toNat.toUInt8=c from UInt8.ofNat_toNat]
def KV (s:List UInt8):yx (s,59)=U (Lib.indexByte s 59):=by
 simp only[yx]
 rw[show((59:Int))=(((59:UInt8).toNat:Nat):Int)from rfl,KU,ax]
def zcn (s:List UInt8)(hl:s.length<=1048576):yw s=U (match cut 41 s with|some (a,b)=>(a,b,ae)|none=>(s,[],ag)):=by
 have e321:yv s=U (Lib.indexByte s 41):=by
  simp only[yv,aJ,aG,ay,aN]
  have hat:∀k:UInt8->Option Int,aq [41] 0 k=k 41:=fun k=>rfl
  rw[hat,KU s 41,ax];by_cases h:([41]:List UInt8)=s
  ·rw[if_pos h,<-h];rfl
  ·rw[if_neg h];rfl
 simp only[yw,C2,e321,ax,aG]
 cases hc:cut 41 s with
 | none=>
   rw[DG (zh.1 hc),if_neg (by omega)];rfl
 | some p=>
   obtain⟨a,b⟩:=p;obtain⟨h1,h2⟩:=ug hc;have hlen:s.length=a.length+(b.length+1):=by rw[h1];simp
   rw[show Lib.indexByte s 41=(a.length:Int)by rw[h1];exact zm h2];have g0:(0:Int)<=a.length:=by omega
   have g1:(a.length:Int)<=s.length:=by omega
   have g2:(0:Int)<=(a.length:Int)+1:=by omega
   have g3:(a.length:Int)+1<=s.length:=by omega
   have ht:((a.length:Int)+1).toNat=a.length+1:=by omega
   have hta:s.take a.length=a:=by rw[h1];simp
   have hda:s.drop (a.length+1)=b:=by rw[h1];simp
   simp (discharger:=omega) only[g0,g1,g2,g3,wI,if_true,ay,ba,aD,bE,Int.le_refl,aS,ht,List.take_length,hta,hda,List.drop_zero,ax]
def zXA {X Y R:Type}{f:X->Option (X⊕(Y⊕R))}{k:Y->Option R}(mk:List (List UInt8)->List UInt8->X)(bad:R)(good:List (List UInt8)->R)
  (hend:∀out,bindE (aE f (mk out [])) k=U (good out))
  (hbad:∀out x l,(x::l).length<=1048576->(Stow.one (x::l)=aj\/out.length=4)->bindE (aE f (mk out (x::l))) k=U bad)
  (hstep:∀out x l t r,(x::l).length<=1048576->Stow.one (x::l)=U (t,r)->out.length<4->f (mk out (x::l))=U (.inl (mk (out++[t]) r))) :
  ∀(n:Nat) (s:List UInt8) (out:List (List UInt8)),s.length<=1048576->out.length+n=4->bindE (aE f (mk out s)) k=U (match mr n s with|some ts=>good (out++ts)|none=>bad):=by
 intro n
 induction n with
 | zero=>
   intro s out hs ho;cases s with
   |nil=>rw[hend];simp only[mr,cB]
   |cons x l=>rw[hbad out x l hs (.inr (by omega))];rfl
 | succ n ih=>
   intro s out hs ho;cases s with
   |nil=>rw[hend];simp only[mr,cB]
   | cons x l=>
     rw[KE];cases hone:Stow.one (x::l)with
     |none=>rw[hbad out x l hs (.inl hone)];rfl
     | some p=>
       obtain⟨t,r⟩:=p
       have hle:r.length<=1048576:=by
        have:=congrArg au (lj hone).1;rw[aP]at this;omega
       rw[n8 (hstep out x l t r hs hone (by omega)),ih r (out++[t]) hle (by simp;omega)];simp only[bh]
       cases mr n r with
       |none=>rfl
       |some q=>simp only[Option.map_some,bD,List.singleton_append]
noncomputable def fj (x:UInt8)(l:List UInt8):Nat:=if x=73 then 1 else(Lib.indexByte (x::l) 59+1).toNat
def KW (x:UInt8)(l:List UInt8):fj x l<=(x::l).length/\((Lib.indexByte (x::l) 59+1:Int)=((Lib.indexByte (x::l) 59+1).toNat:Int))/\(Lib.indexByte (x::l) 59+1).toNat<=(x::l).length:=by
 have h:(Lib.indexByte (x::l) 59+1).toNat<=(x::l).length:=by
  cases hc:cut 59 (x::l)with
  |none=>rw[DG (zh.1 hc)];simp
  | some p=>
    obtain⟨a,b⟩:=p;obtain⟨h1,h2⟩:=ug hc;rw[h1,zm h2];simp
 have:=Lib.indexByte_ge (x::l) 59;refine⟨?_,by omega,h⟩;unfold fj;split
 ·simp
 ·exact h
def KX (x:UInt8)(l:List UInt8):(Tok ((x::l).take (fj x l))->Stow.one (x::l)=U ((x::l).take (fj x l),(x::l).drop (fj x l)))/\(¬Tok ((x::l).take (fj x l))->Stow.one (x::l)=aj):=by
 constructor
 ·intro h;have:=zi h ((x::l).drop (fj x l));rwa[List.take_append_drop]at this
 ·intro h;rw[DC];intro t r e ht;have h0:=ht;rcases ht with rfl|⟨n,hn,rfl⟩
  ·have hx:x=73:=by simp at e;exact e.1
   rw[show fj x l=1 by unfold fj;rw[if_pos hx]]at h;apply h;rw[e];exact h0
  ·have e2:x::l=(76::n)++59::r:=by rw[e];simp
   have hx:x=76:=by simp at e;exact e.1
   have hno:(59:UInt8) ∉ 76::n:=by
    have:=hn.no 59 KC;simp[this]
   apply h
   have hs:fj x l=(76::n).length+1:=by
    unfold fj;rw[if_neg (by rw[hx];decide),e2,zm hno];omega
   rw[hs,e2]
   have:((76::n)++59::r).take ((76::n).length+1)=76::(n++[59]):=by
    rw[show(76::n)++59::r=(76::(n++[59]))++r by simp,show(76::n).length+1=(76::(n++[59])).length by simp];exact List.take_left' rfl
   rw[this];exact h0
def KY (s:List UInt8)(hl:s.length<=1048576):tT s=U (iS s):=by
 simp only[tT,zcn s hl,ax]
 cases hc:cut 41 s with
 | none=>
   simp only[bW,aM,DP s 40 hl]
   have:iS s=([],[],ag):=by
    cases s with
    |nil=>rfl
    | cons x l=>
      rw[zq];have h41:=zh.1 hc;simp only[List.mem_cons,not_or]at h41;rw[KG 4 l h41.2];split<;>rfl
   rw[this];cases s with
   |nil=>rfl
   |cons x l=>by_cases hx:x=40<;>simp only[hx,if_true,if_false,ax,aV]
 | some p=>
   obtain⟨a,b⟩:=p;obtain⟨h1,h2⟩:=ug hc;have hal:a.length<=1048576:=by rw[h1,aP]at hl;omega
   have hbl:b.length<=1048576:=by rw[h1,aP,bL]at hl;omega
   simp only[DP a 40 hal,ax]
   cases a with
   | nil=>
     simp only[bW,aN,aM,aV]
     rw[h1,dy,zq,if_neg (by decide)]
   | cons x l=>
     rw[h1,cF,zq];by_cases hx:x=40
     ·have hno:(41:UInt8) ∉ l:=fun hm=>h2 (by simp[hm])
      have hll:l.length<=1048576:=by simp only[bL]at hal;omega
      rw[if_pos hx,KF 4 l b hno];simp only[hx,if_true,bW,aN,aG,um b hbl,ax]
      by_cases hb:b=[86]\/Tok b
      ·have hgo:∀A B:Option ((List UInt8×List UInt8)⊕(List (List UInt8)×List UInt8×Bool)),(if b=[86]then A else(if Tok b then A else B))=A:=by
        intro A B;rcases hb with hb|hb
        ·rw[if_pos hb]
        ·rw[if_pos hb];split<;>rfl
       rw[hgo,aJ];simp only
       refine(zXA (fun out rest=>(b,rest,out)) ([],[],ag) (fun ts=>(ts,b,ae)) ?_ ?_ ?_ 4 l [] hll rfl).trans ?_
       ·intro out;rw[iV (y:=.inl (b,out)) (by simp only[if_true])];rfl
       ·intro out x l hs hh;have hne:¬(x::l=[]):=by simp
        obtain⟨s1,s2,s3⟩:=KW x l;obtain⟨k1,k2⟩:=KX x l;rw[iV (y:=.inr ([],[],ag))]
        ·rfl
        ·simp only[hne,if_false,aq,List.getElem?_cons_zero,DN,KV,ax]
         rw[show IntKind.wrap .i64 (Lib.indexByte (x::l) 59+1)=((Lib.indexByte (x::l) 59+1).toNat:Int)by rw[wI (by omega) (by omega)];exact s2];rw[show(if x=73 then U (Sum.inl (b,x::l,out,(1:Int)))else U (Sum.inl (b,x::l,out,((Lib.indexByte (x::l) 59+1).toNat:Int))):Option ((List UInt8×List UInt8×List (List UInt8)×Int)⊕((List UInt8×List UInt8×List (List UInt8))⊕((List UInt8×List (List UInt8))⊕(List (List UInt8)×List UInt8×Bool)))))=U (Sum.inl (b,x::l,out,(fj x l:Int)))by unfold fj;split<;>rfl];have g0:(0:Int)<=(fj x l:Int):=by omega
         have g1:(fj x l:Int)<=((x::l).length:Int):=by omega
         have hb1:((x::l).take (fj x l)).length<=1048576:=by simp only[bT];omega
         simp only[aJ,g0,g1,ay,ba,aD,aS,List.drop_zero,um _ hb1,ax,aG]
         by_cases htk:Tok ((x::l).take (fj x l))
         ·rw[if_pos htk]
          have h4:(out.length:Int)=4:=by
           rcases hh with hh|hh
           ·rw[k1 htk]at hh;cases hh
           ·omega
          rw[if_pos h4,aV]
         ·rw[if_neg htk,aV]
       ·intro out x l t r hs ho hlt;have hne:¬(x::l=[]):=by simp
        obtain⟨s1,s2,s3⟩:=KW x l;obtain⟨k1,k2⟩:=KX x l;simp only[hne,if_false,aq,List.getElem?_cons_zero,DN,KV,ax]
        rw[show IntKind.wrap .i64 (Lib.indexByte (x::l) 59+1)=((Lib.indexByte (x::l) 59+1).toNat:Int)by rw[wI (by omega) (by omega)];exact s2];rw[show(if x=73 then U (Sum.inl (b,x::l,out,(1:Int)))else U (Sum.inl (b,x::l,out,((Lib.indexByte (x::l) 59+1).toNat:Int))):Option ((List UInt8×List UInt8×List (List UInt8)×Int)⊕((List UInt8×List UInt8×List (List UInt8))⊕((List UInt8×List (List UInt8))⊕(List (List UInt8)×List UInt8×Bool)))))=U (Sum.inl (b,x::l,out,(fj x l:Int)))by unfold fj;split<;>rfl];have g0:(0:Int)<=(fj x l:Int):=by omega
        have g1:(fj x l:Int)<=((x::l).length:Int):=by omega
        have hb1:((x::l).take (fj x l)).length<=1048576:=by simp only[bT];omega
        simp only[aJ,g0,g1,ay,ba,aD,aS,List.drop_zero,um _ hb1,ax,aG]
        have htk:Tok ((x::l).take (fj x l)):=Classical.byContradiction fun hn=>by rw[k2 hn]at ho;cases ho
        have h4:¬(out.length:Int)=4:=by omega
        have q5:out.length+1<=9223372036854775807:=by omega
        have q6:(out.length+1)*16<=140737488355328:=by omega
        rw[if_pos htk,if_neg h4,aJ];rw[k1 htk]at ho;simp only[aF,bm]at ho;simp only[g0,g1,q5,q6,Int.le_refl,ay,ba,aD,aS,List.take_length,List.drop_zero,ho.1,ho.2]
       ·cases mr 4 l with
        |none=>rfl
        |some ts=>simp only[dy,Option.map_some,uk,if_pos hb]
      ·have hb1:¬b=[86]:=fun h=>hb (.inl h)
       have hb2:¬Tok b:=fun h=>hb (.inr h)
       simp only[hb1,hb2,if_false,aV]
       cases mr 4 l with
       |none=>rfl
       |some ts=>simp only[Option.map_some,uk,if_neg hb]
     ·rw[if_neg hx];simp only[hx,if_false,bW,aN,aM,aV]
end
end Go.Proofs.YtmjlecabpbiigaaGreat
section
namespace Go.Stow
def cz (p:List Ent):Prop:=p.length<=1048576/\∀x∈p,x.2.1.length<=1048576
def cz.at {p:List Ent}(h:cz p)(i:Int):(bt p i).2.1.length<=1048576:=by
 unfold bt;split
 ·rename_i hi;rw[bI (by omega)];exact h.2 _ (List.getElem_mem _)
 ·simp
end Go.Stow
namespace Go.Proofs.YtmjlecabpbiigaaGreat
open Go Go.AM Go.TM Go.Stow
def KZ (s:List UInt8)(hl:s.length<=1048576):tU s=U (aa (Dsc s)):=by
 simp only[tU,KY s hl,ax]
 congr 1;rw[Bool.eq_iff_iff,decide_eq_true_iff];exact Iff.rfl
noncomputable instance (s:List UInt8):Decidable (zOl s):=Classical.propDecidable _
def K0 (s:List UInt8)(hl:s.length<=1048576):tV s=U (aa (zOl s)):=by
 simp only[tV,um s hl,KZ s hl,ax,aG]
 by_cases h:Tok s
 ·rw[if_pos h,eq_comm];simp only[aF,aL];exact .inl h
 ·rw[if_neg h];congr 1;rw[decide_eq_decide];exact⟨fun h=>.inr h,fun h'=>h'.resolve_left h⟩
def ry (p:List Cst)(i:Int)(hp:p.length<=1048576):mG (p,i)=U (bt p i):=by
 simp only[mG,jh,ax,aG]
 unfold bt;by_cases h:1<=i/\i<=p.length
 ·rw[if_pos h,if_pos h];have h1:(0:Int)<=i-1:=by omega
  rw[wI (by omega) (by omega),cb h1,bq (by omega),bI (by omega)];rfl
 ·rw[if_neg h,if_neg h]
def lp (p:List Cst)(i:Int)(hp:p.length<=1048576):iI (p,i)=U (bt p i):=by
 simp only[iI,jI,ax,bW,aG]
 unfold bt;by_cases h:1<=i/\i<=p.length
 ·rw[if_pos h,if_pos h];have h1:(0:Int)<=i-1:=by omega
  rw[wI (by omega) (by omega),cb h1,bq (by omega),bI (by omega)];rfl
 ·rw[if_neg h,if_neg h]
def iW {R:Type}{r:Option Cst}{e:Cst}(h:r=U e)(k:Cst->Option R):ah r k=k (e.1,e.2.1,e.2.2.1,e.2.2.2):=by rw[h];rfl
def oe (p:List Cst)(i:Int)(hp:cz p):fZ (p,i)=U (bw p i):=by
 simp only[fZ]
 rw[iW (ry p i hp.1)];simp only[bW,aG,bw]
 split<;>rfl
def lq {p:List Cst}(h:cz p)(i:Int):(bw p i).length<=1048576:=by
 unfold bw;split
 ·exact h.at i
 ·simp
def pK (p:List Cst)(i:Int)(hp:cz p):jc (p,i)=U (cd p i):=by
 simp only[jc]
 rw[iW (ry p i hp.1)];simp only
 rw[iW (ry p _ hp.1)];simp only[bW,aG,n9 _ (hp.at _),ax,cd]
 by_cases h1:(bt p i).1=2
 ·by_cases h2:(bt p (bt p i).2.2.1).1=1
  ·by_cases h3:Nm (bt p (bt p i).2.2.1).2.1
   ·rw[if_pos h1,if_pos h2,if_pos h3,if_pos ⟨h1,h2,h3⟩]
   ·rw[if_pos h1,if_pos h2,if_neg h3,if_neg fun h=>h3 h.2.2]
  ·rw[if_pos h1,if_neg h2,if_neg fun h=>h2 h.2.1]
 ·rw[if_neg h1,if_neg fun h=>h1 h.1]
def zco (p:List Cst)(i:Int)(hp:cz p):xB (p,i)=U (cd p (bt p i).2.2.1,bw p (bt p (bt p i).2.2.2).2.2.1,bw p (bt p (bt p i).2.2.2).2.2.2):=by
 simp only[xB]
 rw[iW (ry p i hp.1)];simp only
 rw[iW (ry p _ hp.1)];simp only[pK p _ hp,oe p _ hp,ax,eq_self,ay,aD,bE]
def K1 (p:List Cst)(i k:Int)(hp:cz p):tA (p,i,k)=U (aa ((bt p i).1=k)):=by
 simp only[tA]
 rw[iW (ry p i hp.1)]
def zt {p:List Cst}{i:Int}{Q:List UInt8->Prop}[Decidable (Q (bt p i).2.1)]:(if(bt p i).1=1 then U (aa (Q (bt p i).2.1))else U ag:Option Bool)=U (aa (cj p i Q)):=by
 by_cases h:(bt p i).1=1
 ·rw[if_pos h];congr 1;rw[decide_eq_decide];exact⟨fun h'=>⟨h,h'⟩,fun h'=>h'.2⟩
 ·rw[if_neg h,eq_comm];simp only[aF,bS];exact fun h'=>h h'.1
def zu (p:List Cst)(i:Int)(hp:cz p):nU (p,i)=U (aa (cj p i Nm)):=by
 simp only[nU]
 rw[iW (lp p i hp.1)];simp only[ui _ (hp.at i),ax,aG]
 exact zt
def zcp (p:List Cst)(i:Int)(hp:cz p):yy (p,i)=U (aa (cj p i zOl)):=by
 simp only[yy]
 rw[iW (lp p i hp.1)];simp only[K0 _ (hp.at i),ax,aG]
 exact zt
def K2 (p:List Cst)(i:Int)(hp:cz p):tX (p,i)=U (aa (cj p i Tok)):=by
 simp only[tX]
 rw[iW (lp p i hp.1)];simp only[um _ (hp.at i),ax,aG]
 exact zt
def K3 (p:List Cst)(i:Int)(hp:cz p):tY (p,i)=U (aa (cj p i Dsc)):=by
 simp only[tY]
 rw[iW (lp p i hp.1)];simp only[KZ _ (hp.at i),ax,aG]
 exact zt
def K4 (p:List Cst)(i:Int)(hp:cz p):tW (p,i)=U (aa (cW p i)):=by
 simp only[tW]
 rw[iW (lp p i hp.1)];simp only[zu p _ hp,ax,aG]
 by_cases h:(bt p i).1=2
 ·rw[if_pos h];congr 1;rw[decide_eq_decide];exact⟨fun h'=>⟨h,h'⟩,fun h'=>h'.2⟩
 ·rw[if_neg h,eq_comm];simp only[aF,bS];exact fun h'=>h h'.1
def sd {P:Prop}[Decidable P]:∀{b:Bool},(b=ae↔P)->U b=U (aa P):=by
 intro b h;congr 1;rw[Bool.eq_iff_iff,h,decide_eq_true_iff]
def zcq (p:List Cst)(x:Cst)(hp:cz p):yz (p,x)=U (aa (x.2.1=[]/\cW p x.2.2.1/\(bt p x.2.2.2).1=3/\cj p (bt p x.2.2.2).2.2.2 Tok),p,x):=by
 obtain⟨x0,x1,x2,x3⟩:=x;simp only[yz]
 rw[iW (lp p x3 hp.1)];simp only[K4 p _ hp,K2 p _ hp,ax,aG]
 by_cases h1:x1=[]<;>by_cases h2:cW p x2<;>by_cases h3:(bt p x3).1=3<;>simp[h1,h2,h3]
def zcr (p:List Cst)(x:Cst)(hp:cz p):tZ (p,x)=U (aa (x.2.1=[]/\cW p x.2.2.1/\(bt p x.2.2.2).1=3/\cj p (bt p x.2.2.2).2.2.2 Dsc),p,x):=by
 obtain⟨x0,x1,x2,x3⟩:=x;simp only[tZ]
 rw[iW (lp p x3 hp.1)];simp only[K4 p _ hp,K3 p _ hp,ax,aG]
 by_cases h1:x1=[]<;>by_cases h2:cW p x2<;>by_cases h3:(bt p x3).1=3<;>simp[h1,h2,h3]
def q52 (p:List Cst)(x:Cst)(hp:cz p)(hx:x.2.1.length<=1048576):t4 (p,x)=U (aa (fD p x)):=by
 obtain⟨x0,x1,x2,x3⟩:=x;simp only at hx;simp only[t4,zcq p _ hp,zcr p _ hp,zu p _ hp,zcp p _ hp,ui _ hx,K0 _ hx,ax,aG]
 unfold fD;simp only
 by_cases h1:x0=1
 ·by_cases h2:x2=0
  ·by_cases h3:x3=0
   ·by_cases h4:Nm x1
    ·simp[h1,h2,h3,h4]
    ·simp[h1,h2,h3,h4]
   ·simp[h1,h2,h3]
  ·simp[h1,h2]
 ·by_cases h2:x0=2
  ·by_cases h3:x1=[]
   ·by_cases h4:x3=0<;>simp[h2,h3,h4]
   ·simp[h2,h3]
  ·by_cases h3:x0=3
   ·by_cases h4:x1=[]
    ·by_cases h5:cj p x2 Nm<;>simp[h3,h4,h5]
    ·simp[h3,h4]
   ·by_cases h4:x0=4
    ·simp[h4]
    ·by_cases h5:x0=5
     ·simp[h5]
     ·by_cases h6:x0=6
      ·simp[h6]
      ·simp[h1,h2,h3,h4,h5,h6]
def K5 (p:List Cst)(i:Nat)(hp:cz p)(hi:i<p.length):tB (p,(i:Int))=U (aa (fD p p[i])):=by
 have h0:(0:Int)<=i:=by omega
 have hw:IntKind.wrap .i64 ((i:Int)+1)=(i:Int)+1:=by have:=hp.1;exact wI (by omega) (by omega)
 have hx:p[i].2.1.length<=1048576:=hp.2 _ (List.getElem_mem hi);have he:=zYL hi;simp only[tB,h0,ay,aD,aS,hw]
 rw[bq hi];simp only[pK p _ hp,oe p _ hp,zco p _ hp,K1 p _ _ hp,jh,he,n9 _ hx,rv _ hx,zr _ hx,n9 _ (lq hp _),rv _ (lq hp _),zr _ (lq hp _),ax,bW,aG]
 generalize hxe:p[i]=x at he;obtain⟨x0,x1,x2,x3⟩:=x;rw[hxe]at hx;simp only at hx ⊢;by_cases e1:x0=1
 ·subst e1;by_cases h2:x2=0<;>by_cases h3:x3=0<;>by_cases h4:Nm x1<;>by_cases h5:Tok x1<;>simp only[h2,h3,h4,h5,if_true,if_false]<;>exact sd (by unfold fD;simp[*,zOl])
 rw[if_neg e1];by_cases e2:x0=2
 ·have hc:cd p ((i:Int)+1)=[]↔¬cj p x2 Nm:=by
   rw[<-Classical.not_not (a:=cd p ((i:Int)+1)=[]),not_congr];show cd p ((i:Int)+1)≠[]↔_;rw[lk];unfold cW;rw[he];simp[e2]
  subst e2;by_cases h3:x1=[]<;>by_cases h4:x3=0<;>by_cases h5:cj p x2 Nm<;>simp only[h3,h4,if_true,if_false]<;>exact sd (by unfold fD;simp[*])
 rw[if_neg e2];by_cases e3:x0=3
 ·have h6:Nm (bw p x2)↔cj p x2 Nm:=n7 DA;have h7:Tok (bw p x3)\/Dsc (bw p x3)↔cj p x3 zOl:=n7 (Q:=zOl) zNs;subst e3;by_cases h3:x1=[]<;>by_cases h4:Nm (bw p x2)<;>by_cases h5:Tok (bw p x3)<;>by_cases h8:Dsc (bw p x3)<;>simp only[h3,h4,h5,h8,if_true,if_false]<;>exact sd (by unfold fD;rw[<-h6,<-h7];clear h6 h7 he hxe;simp[*])
 rw[if_neg e3]
 have hc:cd p x2=[]↔¬cW p x2:=by
  rw[<-Classical.not_not (a:=cd p x2=[]),not_congr];exact lk
 by_cases e4:4<=x0/\x0<=6
 ·rw[if_pos e4];by_cases h3:x1=[]
  ·rw[if_pos h3];by_cases h4:cd p x2=[]
   ·rw[if_pos h4,aV];have:=hc.1 h4;exact sd (by unfold fD;simp[*])
   ·rw[if_neg h4];have hcl:cW p x2:=Classical.byContradiction fun h=>h4 (hc.2 h)
    by_cases h5:(bt p x3).1=3
    ·rw[if_pos h5,aJ];simp only[rv _ (lq hp _),zr _ (lq hp _),ax]
     have h6:Tok (bw p (bt p x3).2.2.2)↔cj p (bt p x3).2.2.2 Tok:=n7 uh;have h7:Dsc (bw p (bt p x3).2.2.2)↔cj p (bt p x3).2.2.2 Dsc:=n7 DD;by_cases h8:x0=4
     ·rw[if_pos h8];exact sd (by unfold fD;rw[decide_eq_true_iff,h6];simp[*])
     ·rw[if_neg h8];have h9:x0=5\/x0=6:=by omega
      exact sd (by unfold fD;rw[decide_eq_true_iff,h7];simp[*])
    ·rw[if_neg h5,aV];exact sd (by unfold fD;simp[*])
  ·rw[if_neg h3,aV];exact sd (by unfold fD;simp[*])
 ·rw[if_neg e4,aV];have h8:¬x0=4:=by omega
  have h9:¬x0=5:=by omega
  have h10:¬x0=6:=by omega
  exact sd (by unfold fD;simp[*])
def q15 (p:List Cst)(hp:cz p)(h60:p.length<=60):xD p=U (ei p p.length 0):=by
 simp only[xD,aG,bW]
 have h61:¬(60:Int)<p.length:=by omega
 suffices h:∀(m i:Nat),i+m=p.length->∀k:List Cst->Option Int,k p=U 0->bindE (aE (fun(x:List Cst×Int)=>
   bindE (if x.2<(x.1.length:Int)then if x.2<60 then U (Sum.inl (x.1,x.2))else U (Sum.inr (Sum.inr (Sum.inl x.1)))else U (Sum.inr (Sum.inr (Sum.inl x.1)))) fun(pool2,i1)=>
   ah (tB (pool2,i1)) fun y=>
   ai y (U (Sum.inl (pool2,IntKind.wrap .i64 (i1+1)))) (U (Sum.inr (Sum.inr (IntKind.wrap .i64 (i1+1)))))) (p,(i:Int))) k=U (ei p m i)by
  refine h p.length 0 (by omega) _ ?_;rw[if_neg h61]
 intro m
 induction m with
 | zero=>
   intro i hi k hk;have h1:¬(i:Int)<p.length:=by omega
   rw[iV (y:=.inl p) (by simp only[h1,if_false,aV]),aJ,hk];rfl
 | succ m ih=>
   intro i hi k hk;have h1:(i:Int)<p.length:=by omega
   have h2:(i:Int)<60:=by omega
   have hlt:i<p.length:=by omega
   unfold ei;rw[dif_pos hlt];by_cases he:fD p p[i]
   ·rw[if_pos he,<-ih (i+1) (by omega) k hk,n8];simp only[h1,h2,if_true,aJ,K5 p i hp hlt,ax,he,ay,aN]
    rw[wI (by omega) (by omega)];rfl
   ·rw[if_neg he,iV (y:=.inr ((i:Int)+1)),aV];simp only[h1,h2,if_true,aJ,K5 p i hp hlt,ax,he,bc,aM]
    rw[wI (by omega) (by omega)]
def q14 (p:List Cst)(hp:cz p)(h60:p.length<=60):yA p=U (ei p p.length 0):=by
 simp only[yA,aG,bW]
 suffices h:∀(m i:Nat),i+m=p.length->bindE (aE (fun(x:List Cst×List Cst×Int×Int)=>
   if x.2.2.2<x.2.2.1 then
    af (aa ((0:Int)<=x.2.2.2)) (aq x.2.1 (aw x.2.2.2) fun y=>if x.2.2.2=60 then U (Sum.inr (Sum.inr (61:Int)))else
     ah (t4 (x.1,y.1,y.2.1,y.2.2.1,y.2.2.2)) fun z=>
     ai z (U (Sum.inl (x.1,x.2.1,x.2.2.1,IntKind.wrap .i64 (x.2.2.2+1)))) (U (Sum.inr (Sum.inr (IntKind.wrap .i64 (x.2.2.2+1))))))
   else U (Sum.inr (Sum.inl ()))) (p,p,(p.length:Int),(i:Int))) (fun _:Unit=>U (0:Int))=U (ei p m i)by
  exact h p.length 0 (by omega)
 intro m
 induction m with
 | zero=>
   intro i hi;have h1:¬(i:Int)<p.length:=by omega
   rw[iV (y:=.inl ()) (by simp only[h1,if_false]),aJ];rfl
 | succ m ih=>
   intro i hi;have h1:(i:Int)<p.length:=by omega
   have h0:(0:Int)<=i:=by omega
   have h2:¬(i:Int)=60:=by omega
   have hlt:i<p.length:=by omega
   have hq:=q52 p p[i] hp (hp.2 _ (List.getElem_mem hlt));unfold ei;rw[dif_pos hlt];by_cases he:fD p p[i]
   ·rw[if_pos he,<-ih (i+1) (by omega),n8];simp (discharger:=assumption) only[h1,h2,h0,if_true,if_false,ay,aD,aS,bq,hq,ax,he,aN]
    rw[wI (by omega) (by omega)];rfl
   ·rw[if_neg he,iV (y:=.inr ((i:Int)+1)),aV];simp (discharger:=assumption) only[h1,h2,h0,if_true,if_false,ay,aD,aS,bq,hq,ax,he,bc,aM]
    rw[wI (by omega) (by omega)]
end Go.Proofs.YtmjlecabpbiigaaGreat
end
section
namespace Go.Stow
def K6 {p:List Ent}{i:Int}:cd p i=[]↔¬cW p i:=by
 constructor
 ·intro h hc;exact lk.2 hc h
 ·intro h;exact Classical.byContradiction fun hn=>h (lk.1 hn)
end Go.Stow
namespace Go.Proofs.YtmjlecabpbiigaaGreat
open Go Go.AM Go.TM Go.Stow
def zcs (n:Fin 256):aa (dK .i64 (n.val:Int) 1=0) = !aa (aT (n.val:Int) 1):=by revert n;decide +kernel
def zct (n:Fin 256):aa (dK .i64 (n.val:Int) 2=0) = !aa (aT (n.val:Int) 2):=by revert n;decide +kernel
def zcu (n:Fin 256):aa (dK .i64 (n.val:Int) 4=0) = !aa (aT (n.val:Int) 4):=by revert n;decide +kernel
def zcv (n:Fin 256):aa (dK .i64 (n.val:Int) 8=0) = !aa (aT (n.val:Int) 8):=by revert n;decide +kernel
def K7 {f:Int}(h0:0<=f)(h1:f<=255):aa (dK .i64 f 1=0) = !aa (aT f 1):=by
 have:=zcs ⟨f.toNat,by omega⟩;rwa[show((f.toNat:Nat):Int)=f by omega]at this
def zcw {f:Int}(h0:0<=f)(h1:f<=255):aa (dK .i64 f 2=0) = !aa (aT f 2):=by
 have:=zct ⟨f.toNat,by omega⟩;rwa[show((f.toNat:Nat):Int)=f by omega]at this
def K8 {f:Int}(h0:0<=f)(h1:f<=255):aa (dK .i64 f 4=0) = !aa (aT f 4):=by
 have:=zcu ⟨f.toNat,by omega⟩;rwa[show((f.toNat:Nat):Int)=f by omega]at this
def zcx {f:Int}(h0:0<=f)(h1:f<=255):aa (dK .i64 f 8=0) = !aa (aT f 8):=by
 have:=zcv ⟨f.toNat,by omega⟩;rwa[show((f.toNat:Nat):Int)=f by omega]at this
def zcy {f:Int}(h0:0<=f)(h1:f<=255):(dK .i64 f 1=0)=¬aT f 1:=by
 have:=K7 h0 h1;apply propext;rw[<-decide_not,decide_eq_decide]at this;exact this
def zcz {f:Int}(h0:0<=f)(h1:f<=255):(dK .i64 f 2=0)=¬aT f 2:=by
 have:=zcw h0 h1;apply propext;rw[<-decide_not,decide_eq_decide]at this;exact this
def zcA {f:Int}(h0:0<=f)(h1:f<=255):(dK .i64 f 4=0)=¬aT f 4:=by
 have:=K8 h0 h1;apply propext;rw[<-decide_not,decide_eq_decide]at this;exact this
def j6 {f k:Int}(h0:0<=f)(h1:f<=255)(hk:1<=k):ib (f,k)=U (aa (aT f k)):=by
 have hk0:¬k=0:=by omega
 have hd:0<=f / k:=Int.ediv_nonneg h0 (by omega);have hd2:f / k<=f:=Int.ediv_le_self k h0;simp only[ib,hk0,bc,Bool.not_false,aD]
 rw[Int.tdiv_eq_ediv_of_nonneg h0,wI (by omega) (by omega),Int.tmod_eq_emod_of_nonneg hd];rfl
def og {α R:Type}{r:Option α}{a:α}(h:r=U a)(k:α->Option R):ah r k=k a:=by rw[h];rfl
def zcB (c:Cls)(hp:cz c.1)(hf:0<=c.2.1/\c.2.1<=255)(hl:c.2.2.2.2.1.length<=1048576):xE c=U (aa (fM c)):=by
 obtain⟨c0,c1,c2,c3,c4,c5,c6⟩:=c;obtain⟨hf0,hf1⟩:=hf;simp only at hp hf0 hf1 hl;have hH:fM (c0,c1,c2,c3,c4,c5,c6)↔(cW c0 c2/\cW c0 c3/\cd c0 c3≠cd c0 c2/\(0<=c1/\c1<=7)/\(∀i,i<c4.length->cW c0 (c4.getD i 0)/\∀k,k<i->cd c0 (c4.getD k 0)≠cd c0 (c4.getD i 0))/\¬(aT c1 2/\aT c1 4)/\(aT c1 1->aT c1 4/\cd c0 c3=[79,98,106])):=Iff.rfl;simp only[xE,pK _ _ hp,ax,jh,bW,aG]
 by_cases a1:cd c0 c2=[]
 ·rw[if_pos a1,aV];exact sd (by rw[hH];simp[K6.1 a1])
 rw[if_neg a1];have a1:=lk.1 a1;by_cases a2:cd c0 c3=[]
 ·rw[if_pos a2,aV];exact sd (by rw[hH];simp[K6.1 a2])
 rw[if_neg a2];have a2:=lk.1 a2;by_cases a3:cd c0 c3=cd c0 c2
 ·rw[if_pos a3,aV];exact sd (by rw[hH];simp[a3])
 rw[if_neg a3];by_cases a4:0<=c1/\c1<=7
 ·rw[if_pos a4,aJ];simp only
  refine ji (fun i=>(cd c0 c3,(i:Int),c0,c1,c2,c3,c4,c5,c6)) (cd c0 c3,c0,c1,c2,c3,c4,c5,c6) ag c4.length (fun i=>cW c0 (c4.getD i 0)/\∀k,k<i->cd c0 (c4.getD k 0)≠cd c0 (c4.getD i 0)) rfl ?_ ?_ ?_ ?_
  ·simp only[bH,if_false]
  ·intro i hi;have h1:(i:Int)<c4.length:=by omega
   have h0:(0:Int)<=i:=by omega
   simp only[h1,h0,if_true,ay,aD,aS]
   rw[ep 0 hi];simp only[pK _ _ hp,ax]
   by_cases b1:cd c0 (c4.getD i 0)=[]
   ·rw[if_pos b1,aV];exact .inr ⟨fun h=>lk.2 h.1 b1,rfl⟩
   ·rw[if_neg b1];have b1:=lk.1 b1;refine DH (F:=(bindE · _)) (fun k=>(cd c0 c3,(i:Int),(k:Int),c0,c1,c2,c3,c4,c5,c6)) (cd c0 c3,(i:Int),c0,c1,c2,c3,c4,c5,c6) (.inr (.inr (.inr ag))) i (fun k=>cd c0 (c4.getD k 0)≠cd c0 (c4.getD i 0)) rfl ?_ ?_ ?_ ?_ ?_
    ·simp only[bH,if_false]
    ·intro k hk;have k1:(k:Int)<i:=by omega
     have k0:(0:Int)<=k:=by omega
     have hkl:k<c4.length:=by omega
     simp only[k1,k0,h0,if_true,ay,aD,aS]
     rw[ep 0 hkl,ep 0 hi];simp only[ep 0 hi,pK _ _ hp,ax,eq_self,ay,ck,aD,bE]
     by_cases e:cd c0 (c4.getD k 0)=cd c0 (c4.getD i 0)
     ·rw[if_pos e];exact .inr ⟨fun h=>h e,rfl⟩
     ·rw[if_neg e,wI (by omega) (by omega)];exact .inl ⟨e,rfl⟩
    ·exact⟨fun h=>h.2,fun h=>⟨b1,h⟩⟩
    ·simp only[aJ]
     rw[wI (by omega) (by omega)];rfl
    ·rfl
  ·intro hall
   have hH':fM (c0,c1,c2,c3,c4,c5,c6)↔(¬(aT c1 2/\aT c1 4)/\(aT c1 1->aT c1 4/\cd c0 c3=[79,98,106])):=by
    rw[hH];exact⟨fun h=>h.2.2.2.2.2,fun h=>⟨a1,a2,a3,a4,hall,h⟩⟩
   simp only[j6 hf0 hf1 (show(1:Int)<=2 by omega),j6 hf0 hf1 (show(1:Int)<=4 by omega),j6 hf0 hf1 (show(1:Int)<=1 by omega),ax,aG]
   by_cases b2:aT c1 2<;>by_cases b4:aT c1 4<;>by_cases b1:aT c1 1<;>simp only[j6 hf0 hf1 (show(1:Int)<=4 by omega),j6 hf0 hf1 (show(1:Int)<=1 by omega),ax,aG,b1,b2,b4,if_true,if_false,aJ,aV]<;>refine sd ?_<;>rw[hH']<;>simp[b1,b2,b4]
  ·intro hall;exact sd (by rw[hH];simp only[cV,false_iff];exact fun h=>hall h.2.2.2.2.1)
 ·rw[if_neg a4,aV];exact sd (by rw[hH];simp only[cV,false_iff];exact fun h=>a4 h.2.2.2.1)
def DR (c:Cls)(i:Int)(hp:cz c.1):k_ (c,i)=U (aa ((bt c.1 i).1=2)):=by
 obtain⟨c0,c1,c2,c3,c4,c5,c6⟩:=c;simp only[k_]
 rw[iW (lp c0 i hp.1)]
def rz (c:Cls)(i:Int)(hp:cz c.1):dN (c,i)=U (bY c.1 i):=by
 obtain⟨c0,c1,c2,c3,c4,c5,c6⟩:=c;simp only[dN]
 rw[iW (lp c0 i hp.1)];simp only
 rw[iW (lp c0 _ hp.1),aG];unfold bY;simp only
 split<;>rfl
def DS (c:Cls)(hf:0<=c.2.1/\c.2.1<=255):pA c=U (aa (aT c.2.1 1)):=by
 obtain⟨c0,c1,c2,c3,c4,c5,c6⟩:=c;obtain⟨hf0,hf1⟩:=hf;simp only at hf0 hf1;simp only[pA,K7 hf0 hf1,Bool.not_not]
def zcC (c:Cls)(g i:Int)(hp:cz c.1):t5 (g,c,i)=U (aa (bY c.1 g=bY c.1 i),c,i):=by
 obtain⟨c0,c1,c2,c3,c4,c5,c6⟩:=c;simp only[t5,rz _ _ hp,ax,eq_self,ay,ck,ba,aD,bE]
def zcD (c:Cls)(s:List Int)(i:Int)(hp:cz c.1)(hl:s.length<=1048576):∃b,yC (s,c,i)=U (b,c,i)/\(b=ag↔∀k,k<s.length->bY c.1 (s.getD k 0)≠bY c.1 i):=by
 obtain⟨c0,c1,c2,c3,c4,c5,c6⟩:=c;simp only[yC,C3]
 have key:=zo (f:=(fun(x:List Int×Int×Int×Cls×Int)=>ai (aa (x.2.2.1<x.2.1))
    (af (aa (0<=x.2.2.1)) (aq x.1 (aw x.2.2.1) fun y=>ah (t5 (y,(x.2.2.2.1.1,x.2.2.2.1.2.1,x.2.2.2.1.2.2.1,x.2.2.2.1.2.2.2.1,x.2.2.2.1.2.2.2.2.1,x.2.2.2.1.2.2.2.2.2.1,x.2.2.2.1.2.2.2.2.2.2),x.2.2.2.2)) fun z=>
    ai z.1 (U (.inr (.inr (x.2.2.1,z.2.1,z.2.2)))) (U (.inl (x.1,x.2.1,IntKind.wrap .i64 (x.2.2.1+1),z.2.1,z.2.2)))))
    (U (.inr (.inl ((x.2.2.2.1.1,x.2.2.2.1.2.1,x.2.2.2.1.2.2.1,x.2.2.2.1.2.2.2.1,x.2.2.2.1.2.2.2.2.1,x.2.2.2.1.2.2.2.2.2.1,x.2.2.2.1.2.2.2.2.2.2),x.2.2.2.2))))))
  (fun k=>(s,(s.length:Int),(k:Int),(c0,c1,c2,c3,c4,c5,c6),i)) ((c0,c1,c2,c3,c4,c5,c6),i) (fun k=>((k:Int),(c0,c1,c2,c3,c4,c5,c6),i)) s.length (fun k=>bY c0 (s.getD k 0)=bY c0 i) (x0:=(s,(s.length:Int),0,(c0,c1,c2,c3,c4,c5,c6),i)) (k:=fun x=>U ((-1:Int),x.1,x.2)) rfl ?_ ?_
 ·rcases key with⟨h1,h2⟩|⟨k,h1,h2,h3⟩
  ·refine⟨ag,?_,iff_of_true rfl h1⟩;rw[og h2];rfl
  ·refine⟨ae,?_,iff_of_false (by simp) fun h=>h k h1 h2⟩;rw[og h3];simp
 ·simp only[bH,bc,aM]
 ·intro k hk;have k1:(k:Int)<s.length:=by omega
  have k0:(0:Int)<=k:=by omega
  simp only[k1,k0,ay,aN,aD,aS]
  rw[ep 0 hk];have hq:=zcC (c0,c1,c2,c3,c4,c5,c6) (s.getD k 0) i hp;simp only at hq;rw[hq];simp only[ax,aG]
  rw[wI (by omega) (by omega)];by_cases e:bY c0 (s.getD k 0)=bY c0 i
  ·rw[if_pos e];exact .inl ⟨e,rfl⟩
  ·rw[if_neg e];exact .inr ⟨e,rfl⟩
end Go.Proofs.YtmjlecabpbiigaaGreat
end
section
namespace Go.Stow
def rA {α:Type}{l:List α}{i k:Nat}{d:α}(h:k<i):(l.take i).getD k d=l.getD k d:=by
 rw[List.getD_eq_getElem?_getD,List.getD_eq_getElem?_getD,List.getElem?_take,if_pos h]
end Go.Stow
namespace Go.Proofs.YtmjlecabpbiigaaGreat
open Go Go.AM Go.TM Go.Stow
def q83 (c:Cls)(hp:cz c.1)(hf:0<=c.2.1/\c.2.1<=255)(hl:c.2.2.2.2.1.length<=1048576)(hok:pH c.1):yD c=U (aa (fM c)):=by
 obtain⟨c0,c1,c2,c3,c4,c5,c6⟩:=c;obtain⟨hf0,hf1⟩:=hf;simp only at hp hf0 hf1 hl hok;have hH:fM (c0,c1,c2,c3,c4,c5,c6)↔(cW c0 c2/\cW c0 c3/\cd c0 c3≠cd c0 c2/\(0<=c1/\c1<=7)/\(∀i,i<c4.length->cW c0 (c4.getD i 0)/\∀k,k<i->cd c0 (c4.getD k 0)≠cd c0 (c4.getD i 0))/\¬(aT c1 2/\aT c1 4)/\(aT c1 1->aT c1 4/\cd c0 c3=[79,98,106])):=Iff.rfl;have z162:∀i,k_ ((c0,c1,c2,c3,c4,c5,c6),i)=U (aa ((bt c0 i).1=2)):=fun i=>DR (c0,c1,c2,c3,c4,c5,c6) i hp
 have z111:∀i,dN ((c0,c1,c2,c3,c4,c5,c6),i)=U (bY c0 i):=fun i=>rz (c0,c1,c2,c3,c4,c5,c6) i hp
 simp only[yD,z162,z111,ax,bW,aG,eq_self,ay,ck,ba,aD,bE]
 by_cases a1:(bt c0 c2).1=2
 ·rw[if_pos a1];have a1:=hok.cls.2 a1;by_cases a2:(bt c0 c3).1=2
  ·rw[if_pos a2];have a2:=hok.cls.2 a2;rw[pI a1,pI a2];by_cases a3:cd c0 c3=cd c0 c2
   ·rw[if_pos a3,aV];exact sd (by rw[hH];simp[a3])
   ·rw[if_neg a3,aJ];simp only
    refine ji (fun i=>(c4,(c4.length:Int),(i:Int),c0,c1,c2,c3,c4,c5,c6)) (c0,c1,c2,c3,c4,c5,c6) ag c4.length (fun i=>(bt c0 (c4.getD i 0)).1=2/\∀k,k<i->bY c0 (c4.getD k 0)≠bY c0 (c4.getD i 0)) rfl ?_ ?_ ?_ ?_
    ·simp only[bH,if_false]
    ·intro i hi;have h1:(i:Int)<c4.length:=by omega
     have h0:(0:Int)<=i:=by omega
     have h2:(i:Int)<=c4.length:=by omega
     simp only[h1,h0,h2,if_true,ay,ba,aD,aS,List.drop_zero]
     rw[ep 0 hi];simp only[z162,ax,aG,bW]
     by_cases b1:(bt c0 (c4.getD i 0)).1=2
     ·rw[if_pos b1];obtain⟨b,e,hb⟩:=zcD (c0,c1,c2,c3,c4,c5,c6) (c4.take i) (c4.getD i 0) hp (by simp only[bT];omega);rw[e];simp only[ax]
      have hbi:b=ag↔∀k,k<i->bY c0 (c4.getD k 0)≠bY c0 (c4.getD i 0):=by
       rw[hb];simp only[bT,Nat.min_eq_left (Nat.le_of_lt hi)]
       exact⟨fun h k hk=>by have:=h k hk;rwa[rA hk]at this,fun h k hk=>by rw[rA hk];exact h k hk⟩
      cases b with
      | true=>
        exact .inr ⟨fun h=>(by cases hbi.2 h.2),rfl⟩
      | false=>
        refine .inl ⟨⟨b1,hbi.1 rfl⟩,?_⟩;simp only[aM,aJ]
        rw[wI (by omega) (by omega)];rfl
     ·rw[if_neg b1];exact .inr ⟨fun h=>b1 h.1,rfl⟩
    ·intro hall
     have hall':∀i,i<c4.length->cW c0 (c4.getD i 0)/\∀k,k<i->cd c0 (c4.getD k 0)≠cd c0 (c4.getD i 0):=fun i hi=>
      ⟨hok.cls.2 (hall i hi).1,fun k hk=>by
       have:=(hall i hi).2 k hk
       rwa[pI (hok.cls.2 (hall i hi).1),pI (hok.cls.2 (hall k (by omega)).1)]at this⟩
     have hH':fM (c0,c1,c2,c3,c4,c5,c6)↔((0<=c1/\c1<=7)/\¬(aT c1 2/\aT c1 4)/\(aT c1 1->aT c1 4/\cd c0 c3=[79,98,106])):=by
      rw[hH];exact⟨fun h=>⟨h.2.2.2.1,h.2.2.2.2.2⟩,fun h=>⟨a1,a2,a3,h.1,hall',h.2⟩⟩
     simp only[eq_self,ay,aD,bE,jI,ax,zcz hf0 hf1,zcA hf0 hf1,DS (c0,c1,c2,c3,c4,c5,c6) ⟨hf0,hf1⟩,z111,Bool.not_not,bW,aG,pI a2]
     by_cases b0:0<=c1/\c1<=7
     ·rw[if_pos b0];by_cases b2:aT c1 2<;>by_cases b4:aT c1 4<;>by_cases b1:aT c1 1<;>simp only[b1,b2,b4,not_true,not_false_iff,if_true,if_false]<;>refine sd ?_<;>rw[hH']<;>simp[b0,b1,b2,b4]
     ·rw[if_neg b0];refine sd ?_;rw[hH'];simp[b0]
    ·intro hall;refine sd ?_;rw[hH];simp only[cV,false_iff]
     refine fun h=>hall fun i hi=>⟨(h.2.2.2.2.1 i hi).1.1,fun k hk=>?_⟩
     rw[pI (h.2.2.2.2.1 i hi).1,pI (h.2.2.2.2.1 k (by omega)).1];exact(h.2.2.2.2.1 i hi).2 k hk
  ·rw[if_neg a2,aV];exact sd (by rw[hH];simp only[cV,false_iff];exact fun h=>a2 h.2.1.1)
 ·rw[if_neg a1,aV];exact sd (by rw[hH];simp only[cV,false_iff];exact fun h=>a1 h.1.1)
def zcE (c:Cls)(hp:cz c.1)(hf:0<=c.2.1/\c.2.1<=255)(hl:c.2.2.2.2.2.1.length<=1048576):xF c=U (aa (jG c)):=by
 obtain⟨c0,c1,c2,c3,c4,c5,c6⟩:=c;obtain⟨hf0,hf1⟩:=hf;simp only at hp hf0 hf1 hl;simp only[xF,aG]
 refine ji (fun i=>((i:Int),c0,c1,c2,c3,c4,c5,c6)) () ag c5.length (DE (c0,c1,c2,c3,c4,c5,c6)) rfl ?_ ?_ ?_ ?_
 ·simp only[bH,if_false]
 ·intro i hi;have h1:(i:Int)<c5.length:=by omega
  have h0:(0:Int)<=i:=by omega
  simp only[h1,h0,if_true,ay,aD,aS]
  rw[ep (0,0,0) hi];have hF:DE (c0,c1,c2,c3,c4,c5,c6) i↔(cj c0 (c5.getD i (0,0,0)).2.1 Nm/\cj c0 (c5.getD i (0,0,0)).2.2 Tok/\(0<=(c5.getD i (0,0,0)).1/\(c5.getD i (0,0,0)).1<=3)/\(aT c1 1->(c5.getD i (0,0,0)).1=1)/\∀k,k<i->bw c0 (c5.getD k (0,0,0)).2.1≠bw c0 (c5.getD i (0,0,0)).2.1):=Iff.rfl;rw[hF];generalize c5.getD i (0,0,0)=x;simp only[oe _ _ hp,n9 _ (lq hp _),rv _ (lq hp _),jh,ax,bW,aG]
  have t1:Nm (bw c0 x.2.1)↔cj c0 x.2.1 Nm:=n7 DA;have t2:Tok (bw c0 x.2.2)↔cj c0 x.2.2 Tok:=n7 uh;by_cases b1:Nm (bw c0 x.2.1)
  ·rw[if_pos b1];by_cases b2:Tok (bw c0 x.2.2)
   ·rw[if_pos b2];by_cases b3:0<=x.1/\x.1<=3
    ·rw[if_pos b3,aJ];simp only[j6 hf0 hf1 (show(1:Int)<=1 by omega),ax,aG]
     by_cases b4:aT c1 1->x.1=1
     ·rw[show(if aT c1 1 then if x.1=1 then U (Sum.inl ((i:Int),(c0,c1,c2,c3,c4,c5,c6),x.1,x.2.1,x.2.2))else U (Sum.inr (Sum.inr (Sum.inr (Sum.inr ag))))else U (Sum.inl ((i:Int),(c0,c1,c2,c3,c4,c5,c6),x.1,x.2.1,x.2.2)):Option ((Int×Cls×Int×Int×Int)⊕((Int×Cls)⊕((Int×Cls)⊕(Unit⊕Bool)))))=U (Sum.inl ((i:Int),(c0,c1,c2,c3,c4,c5,c6),x.1,x.2.1,x.2.2))by
       by_cases g:aT c1 1
       ·rw[if_pos g,if_pos (b4 g)]
       ·rw[if_neg g],aJ]
      simp only
      refine DH (F:=(bindE · _)) (fun k=>((i:Int),(k:Int),(c0,c1,c2,c3,c4,c5,c6),x.1,x.2.1,x.2.2)) ((i:Int),c0,c1,c2,c3,c4,c5,c6) (.inr (.inr (.inr ag))) i (fun k=>bw c0 (c5.getD k (0,0,0)).2.1≠bw c0 x.2.1) rfl ?_ ?_ ?_ ?_ ?_
      ·simp only[bH,if_false]
      ·intro k hk;have k1:(k:Int)<i:=by omega
       have k0:(0:Int)<=k:=by omega
       have hkl:k<c5.length:=by omega
       simp only[k1,k0,if_true,ay,aD,aS]
       rw[ep (0,0,0) hkl];simp only[oe _ _ hp,ax,eq_self,ay,aD,bE]
       by_cases e:bw c0 (c5.getD k (0,0,0)).2.1=bw c0 x.2.1
       ·rw[if_pos e];exact .inr ⟨fun h=>h e,rfl⟩
       ·rw[if_neg e,wI (by omega) (by omega)];exact .inl ⟨e,rfl⟩
      ·exact⟨fun h=>h.2.2.2.2,fun h=>⟨t1.1 b1,t2.1 b2,b3,b4,h⟩⟩
      ·simp only[aJ]
       rw[wI (by omega) (by omega)];rfl
      ·rfl
     ·have g:aT c1 1:=Classical.byContradiction fun h=>b4 fun h'=>absurd h' h
      have g2:¬x.1=1:=fun h=>b4 fun _=>h
      rw[if_pos g,if_neg g2];exact .inr ⟨fun h=>g2 (h.2.2.2.1 g),rfl⟩
    ·rw[if_neg b3];exact .inr ⟨fun h=>b3 h.2.2.1,rfl⟩
   ·rw[if_neg b2];exact .inr ⟨fun h=>b2 (t2.2 h.2.1),rfl⟩
  ·rw[if_neg b1];exact .inr ⟨fun h=>b1 (t1.2 h.1),rfl⟩
 ·intro hall;exact sd (iff_of_true rfl hall)
 ·intro hall;exact sd (iff_of_false (by simp) hall)
end Go.Proofs.YtmjlecabpbiigaaGreat
end
section
namespace Go.Stow
def rB (c:ClsP)(i:Nat):Prop :=
 let f:=c.2.2.2.2.2.1.getD i (0,0,0)
 cj c.1 f.2.1 Nm/\cj c.1 f.2.2 Tok/\(0<=f.1/\f.1<=3)/\(aT c.2.1 1->f.1=1)/\∀k,k<i->bY c.1 (c.2.2.2.2.2.1.getD k (0,0,0)).2.1≠bY c.1 f.2.1
noncomputable instance (c:ClsP)(i:Nat):Decidable (rB c i):=Classical.propDecidable _
def zcF (c:ClsP):(∀i,i<c.2.2.2.2.2.1.length->rB c i)↔jG c:=by
 constructor
 ·intro h i hi;obtain⟨h1,h2,h3,h4,h5⟩:=h i hi;refine⟨h1,h2,h3,h4,fun k hk=>?_⟩;have hk':=h k (by omega);have:=h5 k hk;rwa[il h1.1,il hk'.1.1]at this
 ·intro h i hi;obtain⟨h1,h2,h3,h4,h5⟩:=h i hi;refine⟨h1,h2,h3,h4,fun k hk=>?_⟩;have hk':=h k (by omega);have:=h5 k hk;rwa[il h1.1,il hk'.1.1]
def rC (c:ClsP)(i:Nat):Prop :=
 let m:=c.2.2.2.2.2.2.getD i bl
 cj c.1 m.2.1 Nm/\cj c.1 m.2.2.1 Dsc/\lU c m /\
 ∀k,k<i->¬(bY c.1 (c.2.2.2.2.2.2.getD k bl).2.1=bY c.1 m.2.1/\bY c.1 (c.2.2.2.2.2.2.getD k bl).2.2.1=bY c.1 m.2.2.1)
noncomputable instance (c:ClsP)(i:Nat):Decidable (rC c i):=Classical.propDecidable _
def zcG (c:ClsP):(∀i,i<c.2.2.2.2.2.2.length->rC c i)↔kF c:=by
 constructor
 ·intro h i hi;obtain⟨h1,h2,h3,h5⟩:=h i hi;refine⟨h1,h2,h3,fun k hk=>?_⟩;have hk':=h k (by omega);have:=h5 k hk;rwa[il h1.1,il hk'.1.1,il h2.1,il hk'.2.1.1]at this
 ·intro h i hi;obtain⟨h1,h2,h3,h5⟩:=h i hi;refine⟨h1,h2,h3,fun k hk=>?_⟩;have hk':=h k (by omega);have:=h5 k hk;rwa[il h1.1,il hk'.1.1,il h2.1,il hk'.2.1.1]
end Go.Stow
namespace Go.Proofs.YtmjlecabpbiigaaGreat
open Go Go.AM Go.TM Go.Stow
def zcH (c:Cls)(g f:Fld)(hp:cz c.1):t6 (g,c,f)=U (aa (bY c.1 g.2.1=bY c.1 f.2.1),c,f):=by
 obtain⟨c0,c1,c2,c3,c4,c5,c6⟩:=c;obtain⟨g0,g1,g2⟩:=g;obtain⟨f0,f1,f2⟩:=f;have z111:∀i,dN ((c0,c1,c2,c3,c4,c5,c6),i)=U (bY c0 i):=fun i=>rz (c0,c1,c2,c3,c4,c5,c6) i hp
 simp only[t6,z111,ax,eq_self,ay,ck,ba,aD,bE]
def zcI (c:Cls)(s:List Fld)(f:Fld)(hp:cz c.1)(hl:s.length<=1048576):∃b,yE (s,c,f)=U (b,c,f)/\(b=ag↔∀k,k<s.length->bY c.1 (s.getD k (0,0,0)).2.1≠bY c.1 f.2.1):=by
 obtain⟨c0,c1,c2,c3,c4,c5,c6⟩:=c;obtain⟨f0,f1,f2⟩:=f;simp only[yE,C4]
 have key:=zo (f:=(fun(x:List Fld×Int×Int×Cls×Fld)=>ai (aa (x.2.2.1<x.2.1))
    (af (aa (0<=x.2.2.1)) (aq x.1 (aw x.2.2.1) fun y=>ah (t6 ((y.1,y.2.1,y.2.2),(x.2.2.2.1.1,x.2.2.2.1.2.1,x.2.2.2.1.2.2.1,x.2.2.2.1.2.2.2.1,x.2.2.2.1.2.2.2.2.1,x.2.2.2.1.2.2.2.2.2.1,x.2.2.2.1.2.2.2.2.2.2),x.2.2.2.2.1,x.2.2.2.2.2.1,x.2.2.2.2.2.2)) fun z=>
    ai z.1 (U (.inr (.inr (x.2.2.1,z.2.1,z.2.2)))) (U (.inl (x.1,x.2.1,IntKind.wrap .i64 (x.2.2.1+1),z.2.1,z.2.2)))))
    (U (.inr (.inl ((x.2.2.2.1.1,x.2.2.2.1.2.1,x.2.2.2.1.2.2.1,x.2.2.2.1.2.2.2.1,x.2.2.2.1.2.2.2.2.1,x.2.2.2.1.2.2.2.2.2.1,x.2.2.2.1.2.2.2.2.2.2),x.2.2.2.2.1,x.2.2.2.2.2.1,x.2.2.2.2.2.2))))))
  (fun k=>(s,(s.length:Int),(k:Int),(c0,c1,c2,c3,c4,c5,c6),f0,f1,f2)) ((c0,c1,c2,c3,c4,c5,c6),f0,f1,f2) (fun k=>((k:Int),(c0,c1,c2,c3,c4,c5,c6),f0,f1,f2)) s.length (fun k=>bY c0 (s.getD k (0,0,0)).2.1=bY c0 f1) (x0:=(s,(s.length:Int),0,(c0,c1,c2,c3,c4,c5,c6),f0,f1,f2)) (k:=fun x=>U ((-1:Int),x.1,x.2)) rfl ?_ ?_
 ·rcases key with⟨h1,h2⟩|⟨k,h1,h2,h3⟩
  ·refine⟨ag,?_,iff_of_true rfl h1⟩;rw[og h2];rfl
  ·refine⟨ae,?_,iff_of_false (by simp) fun h=>h k h1 h2⟩;rw[og h3];simp
 ·simp only[bH,bc,aM]
 ·intro k hk;have k1:(k:Int)<s.length:=by omega
  have k0:(0:Int)<=k:=by omega
  simp only[k1,k0,ay,aN,aD,aS]
  rw[ep (0,0,0) hk];have hq:=zcH (c0,c1,c2,c3,c4,c5,c6) (s.getD k (0,0,0)) (f0,f1,f2) hp;simp only at hq;refine(show _=_/\_\/_ from ?_);rw[hq];simp only[ax,aG]
  rw[wI (by omega) (by omega)];by_cases e:bY c0 (s.getD k (0,0,0)).2.1=bY c0 f1
  ·rw[if_pos e];exact .inl ⟨e,rfl⟩
  ·rw[if_neg e];exact .inr ⟨e,rfl⟩
def q84 (c:Cls)(i:Nat)(hp:cz c.1)(hf:0<=c.2.1/\c.2.1<=255)(hl:c.2.2.2.2.2.1.length<=1048576)(hi:i<c.2.2.2.2.2.1.length):yF (c,(i:Int))=U (aa (rB c i)):=by
 obtain⟨c0,c1,c2,c3,c4,c5,c6⟩:=c;obtain⟨hf0,hf1⟩:=hf;simp only at hp hf0 hf1 hl hi;have h0:(0:Int)<=i:=by omega
 have h2:(i:Int)<=c5.length:=by omega
 have hF:rB (c0,c1,c2,c3,c4,c5,c6) i↔(cj c0 (c5.getD i (0,0,0)).2.1 Nm/\cj c0 (c5.getD i (0,0,0)).2.2 Tok/\(0<=(c5.getD i (0,0,0)).1/\(c5.getD i (0,0,0)).1<=3)/\(aT c1 1->(c5.getD i (0,0,0)).1=1)/\∀k,k<i->bY c0 (c5.getD k (0,0,0)).2.1≠bY c0 (c5.getD i (0,0,0)).2.1):=Iff.rfl;simp only[yF,h0,h2,ay,ba,aD,aS]
 rw[ep (0,0,0) hi];generalize c5.getD i (0,0,0)=x at hF ⊢;simp only[zu _ _ hp,K2 _ _ hp,jI,DS (c0,c1,c2,c3,c4,c5,c6) ⟨hf0,hf1⟩,ax,bW,aG]
 by_cases b1:cj c0 x.2.1 Nm
 ·rw[if_pos b1];by_cases b2:cj c0 x.2.2 Tok
  ·rw[if_pos b2];by_cases b3:0<=x.1/\x.1<=3
   ·rw[if_pos b3];by_cases b4:aT c1 1->x.1=1
    ·rw[show(if aT c1 1 then if x.1=1 then U (Sum.inl ((i:Int),(c0,c1,c2,c3,c4,c5,c6),x.1,x.2.1,x.2.2))else U (Sum.inr ag)else U (Sum.inl ((i:Int),(c0,c1,c2,c3,c4,c5,c6),x.1,x.2.1,x.2.2)):Option ((Int×Cls×Int×Int×Int)⊕Bool))=U (Sum.inl ((i:Int),(c0,c1,c2,c3,c4,c5,c6),x.1,x.2.1,x.2.2))by
      by_cases g:aT c1 1
      ·rw[if_pos g,if_pos (b4 g)]
      ·rw[if_neg g],aJ]
     obtain⟨b,e,hb⟩:=zcI (c0,c1,c2,c3,c4,c5,c6) (c5.take i) x hp (by simp only[bT];omega);obtain⟨x0,x1,x2⟩:=x;simp only[h0,h2,ay,ba,aD,aS,List.drop_zero]
     rw[e];simp only[ax]
     have hbi:b=ag↔∀k,k<i->bY c0 (c5.getD k (0,0,0)).2.1≠bY c0 x1:=by
      rw[hb];simp only[bT,Nat.min_eq_left (Nat.le_of_lt hi)]
      exact⟨fun h k hk=>by have:=h k hk;rwa[rA hk]at this,fun h k hk=>by rw[rA hk];exact h k hk⟩
     refine sd ?_;rw[hF];simp only[Bool.not_eq_true',hbi]
     exact⟨fun h=>⟨b1,b2,b3,b4,h⟩,fun h=>h.2.2.2.2⟩
    ·have g:aT c1 1:=Classical.byContradiction fun h=>b4 fun h'=>absurd h' h
     have g2:¬x.1=1:=fun h=>b4 fun _=>h
     rw[if_pos g,if_neg g2,aV];exact sd (by rw[hF];exact iff_of_false (by simp) fun h=>b4 h.2.2.2.1)
   ·rw[if_neg b3,aV];exact sd (by rw[hF];exact iff_of_false (by simp) fun h=>b3 h.2.2.1)
  ·rw[if_neg b2,aV];exact sd (by rw[hF];exact iff_of_false (by simp) fun h=>b2 h.2.1)
 ·rw[if_neg b1,aV];exact sd (by rw[hF];exact iff_of_false (by simp) fun h=>b1 h.1)
def zcJ (c:Cls)(m:Mth)(hp:cz c.1)(hf:0<=c.2.1/\c.2.1<=255)(hm:0<=m.1/\m.1<=255):tC (c,m)=U (aa (lU c m)):=by
 obtain⟨c0,c1,c2,c3,c4,c5,c6⟩:=c;obtain⟨m0,m1,m2,m3,m4,m5,m6,m7⟩:=m;obtain⟨hf0,hf1⟩:=hf;obtain⟨hm0,hm1⟩:=hm;simp only at hp hf0 hf1 hm0 hm1;have hF:lU (c0,c1,c2,c3,c4,c5,c6) (m0,m1,m2,m3,m4,m5,m6,m7)↔((0<=m0/\m0<=15)/\(bw c0 m1=[98,101,103,105,110]->m0=1/\bw c0 m2=[40,41,86])/\(aT m0 8->m0=8/\aT c1 4)/\(¬aT m0 8->aT c1 1->m0=1)):=Iff.rfl;simp only[tC,oe _ _ hp,jh,ax,bW,aG]
 by_cases b1:0<=m0/\m0<=15
 ·rw[if_pos b1];have e8:=j6 hm0 hm1 (show(1:Int)<=8 by omega);have e4:=j6 hf0 hf1 (show(1:Int)<=4 by omega);have e1:=j6 hf0 hf1 (show(1:Int)<=1 by omega)
  have go:(bw c0 m1=[98,101,103,105,110]->m0=1/\bw c0 m2=[40,41,86])->(if aT m0 8 then if m0=8 then U (aa (aT c1 4))else U ag else if aT c1 1 then U (aa (m0=1))else U ae:Option Bool)=U (aa (lU (c0,c1,c2,c3,c4,c5,c6) (m0,m1,m2,m3,m4,m5,m6,m7))):=by
   intro b2;by_cases b5:aT m0 8
   ·rw[if_pos b5];by_cases b8:m0=8
    ·rw[if_pos b8];refine sd ?_;rw[hF,decide_eq_true_iff];exact⟨fun h=>⟨b1,b2,fun _=>⟨b8,h⟩,fun h=>absurd b5 h⟩,fun h=>(h.2.2.1 b5).2⟩
    ·rw[if_neg b8];exact sd (by rw[hF];exact iff_of_false (by simp) fun h=>b8 (h.2.2.1 b5).1)
   ·rw[if_neg b5];by_cases b7:aT c1 1
    ·rw[if_pos b7];refine sd ?_;rw[hF,decide_eq_true_iff];exact⟨fun h=>⟨b1,b2,fun h'=>absurd h' b5,fun _ _=>h⟩,fun h=>h.2.2.2 b5 b7⟩
    ·rw[if_neg b7];exact sd (by rw[hF];exact iff_of_true rfl ⟨b1,b2,fun h'=>absurd h' b5,fun _ h=>absurd h b7⟩)
  by_cases b2:bw c0 m1=[98,101,103,105,110]
  ·rw[if_pos b2];by_cases b3:m0=1
   ·rw[if_pos b3];by_cases b4:bw c0 m2=[40,41,86]
    ·rw[if_pos b4,aJ];simp only[e8,e4,e1,ax,aG]
     exact go fun _=>⟨b3,b4⟩
    ·rw[if_neg b4,aV];exact sd (by rw[hF];exact iff_of_false (by simp) fun h=>b4 (h.2.1 b2).2)
   ·rw[if_neg b3,aV];exact sd (by rw[hF];exact iff_of_false (by simp) fun h=>b3 (h.2.1 b2).1)
  ·rw[if_neg b2,aJ];simp only[e8,e4,e1,ax,aG]
   exact go fun h=>absurd h b2
 ·rw[if_neg b1];exact sd (by rw[hF];exact iff_of_false (by simp) fun h=>b1 h.1)
def zcK (c:Cls)(hp:cz c.1)(hf:0<=c.2.1/\c.2.1<=255)(hl:c.2.2.2.2.2.2.length<=1048576)(hm:∀ m∈c.2.2.2.2.2.2,0<=m.1/\m.1<=255):xH c=U (aa (kF c)):=by
 obtain⟨c0,c1,c2,c3,c4,c5,c6⟩:=c;simp only at hp hl hm;simp only[xH,aG]
 refine ji (fun i=>((i:Int),c0,c1,c2,c3,c4,c5,c6)) () ag c6.length (zk (c0,c1,c2,c3,c4,c5,c6)) rfl ?_ ?_ ?_ ?_
 ·simp only[bH,if_false]
 ·intro i hi;have h1:(i:Int)<c6.length:=by omega
  have h0:(0:Int)<=i:=by omega
  have hmi:0<=(c6.getD i bl).1/\(c6.getD i bl).1<=255:=by
   rw[List.getD_eq_getElem?_getD,bI hi];exact hm _ (List.getElem_mem hi)
  simp only[h1,h0,if_true,ay,aD,aS]
  rw[ep bl hi]
  have hF:zk (c0,c1,c2,c3,c4,c5,c6) i↔(cj c0 (c6.getD i bl).2.1 Nm/\cj c0 (c6.getD i bl).2.2.1 Dsc/\lU (c0,c1,c2,c3,c4,c5,c6) (c6.getD i bl) /\
   ∀k,k<i->¬(bw c0 (c6.getD k bl).2.1=bw c0 (c6.getD i bl).2.1/\bw c0 (c6.getD k bl).2.2.1=bw c0 (c6.getD i bl).2.2.1)):=Iff.rfl
  rw[hF];generalize c6.getD i bl=x at hmi;have z244:tC ((c0,c1,c2,c3,c4,c5,c6),x.1,x.2.1,x.2.2.1,x.2.2.2.1,x.2.2.2.2.1,x.2.2.2.2.2.1,x.2.2.2.2.2.2.1,x.2.2.2.2.2.2.2)=U (aa (lU (c0,c1,c2,c3,c4,c5,c6) x)):=zcJ (c0,c1,c2,c3,c4,c5,c6) x hp hf hmi;simp only[oe _ _ hp,n9 _ (lq hp _),zr _ (lq hp _),z244,ax,bW,aG]
  have t1:Nm (bw c0 x.2.1)↔cj c0 x.2.1 Nm:=n7 DA;have t2:Dsc (bw c0 x.2.2.1)↔cj c0 x.2.2.1 Dsc:=n7 DD;by_cases b1:Nm (bw c0 x.2.1)
  ·rw[if_pos b1];by_cases b2:Dsc (bw c0 x.2.2.1)
   ·rw[if_pos b2];by_cases b3:lU (c0,c1,c2,c3,c4,c5,c6) x
    ·rw[if_pos b3,aJ];simp only
     refine DH (F:=(bindE · _)) (fun k=>((i:Int),(k:Int),(c0,c1,c2,c3,c4,c5,c6),x.1,x.2.1,x.2.2.1,x.2.2.2.1,x.2.2.2.2.1,x.2.2.2.2.2.1,x.2.2.2.2.2.2.1,x.2.2.2.2.2.2.2)) ((i:Int),c0,c1,c2,c3,c4,c5,c6) (.inr (.inr (.inr ag))) i (fun k=>¬(bw c0 (c6.getD k bl).2.1=bw c0 x.2.1/\bw c0 (c6.getD k bl).2.2.1=bw c0 x.2.2.1)) rfl ?_ ?_ ?_ ?_ ?_
     ·simp only[bH,if_false]
     ·intro k hk;have k1:(k:Int)<i:=by omega
      have k0:(0:Int)<=k:=by omega
      have hkl:k<c6.length:=by omega
      simp only[k1,k0,if_true,ay,aD,aS]
      rw[ep bl hkl];simp only[ep bl hkl,oe _ _ hp,ax,eq_self,ay,aD,bE]
      by_cases e:bw c0 (c6.getD k bl).2.1=bw c0 x.2.1
      ·rw[if_pos e];by_cases e2:bw c0 (c6.getD k bl).2.2.1=bw c0 x.2.2.1
       ·rw[if_pos e2,aV];exact .inr ⟨fun h=>h ⟨e,e2⟩,rfl⟩
       ·rw[if_neg e2,aJ];simp only
        rw[wI (by omega) (by omega)];exact .inl ⟨fun h=>e2 h.2,rfl⟩
      ·rw[if_neg e,aJ];simp only
       rw[wI (by omega) (by omega)];exact .inl ⟨fun h=>e h.1,rfl⟩
     ·exact⟨fun h=>h.2.2.2,fun h=>⟨t1.1 b1,t2.1 b2,b3,h⟩⟩
     ·simp only[aJ]
      rw[wI (by omega) (by omega)];rfl
     ·rfl
    ·rw[if_neg b3];exact .inr ⟨fun h=>b3 h.2.2.1,rfl⟩
   ·rw[if_neg b2];exact .inr ⟨fun h=>b2 (t2.2 h.2.1),rfl⟩
  ·rw[if_neg b1];exact .inr ⟨fun h=>b1 (t1.2 h.1),rfl⟩
 ·intro hall;exact sd (iff_of_true rfl hall)
 ·intro hall;exact sd (iff_of_false (by simp) hall)
end Go.Proofs.YtmjlecabpbiigaaGreat
end
section
namespace Go.TM
def zVL {R:Type}(a:Option R):ca a a=a:=by unfold ca;rw[if_pos rfl]
end Go.TM
namespace Go.Proofs.YtmjlecabpbiigaaGreat
open Go Go.AM Go.TM Go.Stow
def zcL (c:Cls)(g:Mth)(a b:List UInt8)(hp:cz c.1):t7 (g,c,a,b)=U (aa (bY c.1 g.2.1=a/\bY c.1 g.2.2.1=b),c,a,b):=by
 obtain⟨c0,c1,c2,c3,c4,c5,c6⟩:=c;obtain⟨g0,g1,g2,g3,g4,g5,g6,g7⟩:=g;have z111:∀i,dN ((c0,c1,c2,c3,c4,c5,c6),i)=U (bY c0 i):=fun i=>rz (c0,c1,c2,c3,c4,c5,c6) i hp
 simp only[t7,z111,ax,eq_self,ay,aD,bE,aG]
 by_cases e:bY c0 g1=a
 ·rw[if_pos e];simp[e]
 ·rw[if_neg e];simp[e]
def zcM (c:Cls)(s:List Mth)(a b:List UInt8)(hp:cz c.1)(hl:s.length<=1048576):∃r,yG (s,c,a,b)=U (r,c,a,b)/\(r=ag↔∀k,k<s.length->¬(bY c.1 (s.getD k bl).2.1=a/\bY c.1 (s.getD k bl).2.2.1=b)):=by
 obtain⟨c0,c1,c2,c3,c4,c5,c6⟩:=c;simp only[yG,C5]
 have key:=zo (f:=(fun(x:List Mth×Int×Int×Cls×List UInt8×List UInt8)=>ai (aa (x.2.2.1<x.2.1))
    (af (aa (0<=x.2.2.1)) (aq x.1 (aw x.2.2.1) fun y=>ah (t7 ((y.1,y.2.1,y.2.2.1,y.2.2.2.1,y.2.2.2.2.1,y.2.2.2.2.2.1,y.2.2.2.2.2.2.1,y.2.2.2.2.2.2.2),(x.2.2.2.1.1,x.2.2.2.1.2.1,x.2.2.2.1.2.2.1,x.2.2.2.1.2.2.2.1,x.2.2.2.1.2.2.2.2.1,x.2.2.2.1.2.2.2.2.2.1,x.2.2.2.1.2.2.2.2.2.2),x.2.2.2.2.1,x.2.2.2.2.2)) fun z=>
    ai z.1 (U (.inr (.inr (x.2.2.1,z.2.1,z.2.2)))) (U (.inl (x.1,x.2.1,IntKind.wrap .i64 (x.2.2.1+1),z.2.1,z.2.2)))))
    (U (.inr (.inl ((x.2.2.2.1.1,x.2.2.2.1.2.1,x.2.2.2.1.2.2.1,x.2.2.2.1.2.2.2.1,x.2.2.2.1.2.2.2.2.1,x.2.2.2.1.2.2.2.2.2.1,x.2.2.2.1.2.2.2.2.2.2),x.2.2.2.2.1,x.2.2.2.2.2))))))
  (fun k=>(s,(s.length:Int),(k:Int),(c0,c1,c2,c3,c4,c5,c6),a,b)) ((c0,c1,c2,c3,c4,c5,c6),a,b) (fun k=>((k:Int),(c0,c1,c2,c3,c4,c5,c6),a,b)) s.length (fun k=>bY c0 (s.getD k bl).2.1=a/\bY c0 (s.getD k bl).2.2.1=b) (x0:=(s,(s.length:Int),0,(c0,c1,c2,c3,c4,c5,c6),a,b)) (k:=fun x=>U ((-1:Int),x.1,x.2)) rfl ?_ ?_
 ·rcases key with⟨h1,h2⟩|⟨k,h1,h2,h3⟩
  ·refine⟨ag,?_,iff_of_true rfl h1⟩;rw[og h2];rfl
  ·refine⟨ae,?_,iff_of_false (by simp) fun h=>h k h1 h2⟩;rw[og h3];simp
 ·simp only[bH,bc,aM]
 ·intro k hk;have k1:(k:Int)<s.length:=by omega
  have k0:(0:Int)<=k:=by omega
  simp only[k1,k0,ay,aN,aD,aS]
  rw[ep bl hk];have hq:=zcL (c0,c1,c2,c3,c4,c5,c6) (s.getD k bl) a b hp;refine(show(_/\_)/\_=_\/_ from ?_);rw[show(((s.getD k bl).1,(s.getD k bl).2.1,(s.getD k bl).2.2.1,(s.getD k bl).2.2.2.1,(s.getD k bl).2.2.2.2.1,(s.getD k bl).2.2.2.2.2.1,(s.getD k bl).2.2.2.2.2.2.1,(s.getD k bl).2.2.2.2.2.2.2):Mth)=s.getD k bl from rfl];rw[hq];simp only[ax,aG]
  rw[wI (by omega) (by omega)];by_cases e:bY c0 (s.getD k bl).2.1=a/\bY c0 (s.getD k bl).2.2.1=b
  ·rw[if_pos e];exact .inl ⟨e,rfl⟩
  ·rw[if_neg e];exact .inr ⟨e,rfl⟩
def K9 (f:Int)(h0:0<=f)(h1:f<=255):k9 f=U (aa (aT f 8)):=by
 simp only[k9,zcx h0 h1,Bool.not_not]
def q85 (c:Cls)(i:Nat)(hp:cz c.1)(hf:0<=c.2.1/\c.2.1<=255)(hl:c.2.2.2.2.2.2.length<=1048576)(hm:∀ m∈c.2.2.2.2.2.2,0<=m.1/\m.1<=255)(hi:i<c.2.2.2.2.2.2.length):yH (c,(i:Int))=U (aa (rC c i)):=by
 obtain⟨c0,c1,c2,c3,c4,c5,c6⟩:=c;obtain⟨hf0,hf1⟩:=hf;simp only at hp hf0 hf1 hl hm hi;have h0:(0:Int)<=i:=by omega
 have h2:(i:Int)<=c6.length:=by omega
 have hmi:0<=(c6.getD i bl).1/\(c6.getD i bl).1<=255:=by
  rw[List.getD_eq_getElem?_getD,bI hi];exact hm _ (List.getElem_mem hi)
 have hF:rC (c0,c1,c2,c3,c4,c5,c6) i↔(cj c0 (c6.getD i bl).2.1 Nm/\cj c0 (c6.getD i bl).2.2.1 Dsc/\((0<=(c6.getD i bl).1/\(c6.getD i bl).1<=15)/\(bw c0 (c6.getD i bl).2.1=[98,101,103,105,110]->(c6.getD i bl).1=1/\bw c0 (c6.getD i bl).2.2.1=[40,41,86])/\(aT (c6.getD i bl).1 8->(c6.getD i bl).1=8/\aT c1 4)/\(¬aT (c6.getD i bl).1 8->aT c1 1->(c6.getD i bl).1=1)) /\
   ∀k,k<i->¬(bY c0 (c6.getD k bl).2.1=bY c0 (c6.getD i bl).2.1/\bY c0 (c6.getD k bl).2.2.1=bY c0 (c6.getD i bl).2.2.1)):=Iff.rfl
 simp only[yH,h0,ay,aD,aS]
 rw[ep bl hi];generalize c6.getD i bl=x at hF hmi ⊢;obtain⟨x0,x1,x2,x3,x4,x5,x6,x7⟩:=x;obtain⟨hm0,hm1⟩:=hmi;simp only at hF hm0 hm1;simp only[zu _ _ hp,K3 _ _ hp,jI,ax,bW]
 have z111:∀i,dN ((c0,c1,c2,c3,c4,c5,c6),i)=U (bY c0 i):=fun i=>rz (c0,c1,c2,c3,c4,c5,c6) i hp
 have z165:pA (c0,c1,c2,c3,c4,c5,c6)=U (aa (aT c1 1)):=DS (c0,c1,c2,c3,c4,c5,c6) ⟨hf0,hf1⟩;have z86:=K9 x0 hm0 hm1;by_cases b1:cj c0 x1 Nm
 ·rw[decide_eq_true b1,aN];by_cases b2:cj c0 x2 Dsc
  ·rw[decide_eq_true b2,aN];by_cases b3:0<=x0/\x0<=15
   ·rw[decide_eq_true b3,aN,aJ];simp only[z111,ax,eq_self,ay,ck,ba,aD,bE,zVL]
    rw[il b1.1,il b2.1]
    cases d5:aa (aT x0 8)<;>cases d8:aa (x0=8)<;>cases d6:aa (aT c1 4)<;>cases d7:aa (aT c1 1)<;>cases d9:aa (x0=1) <;>
     simp only[z86,z165,ax,d5,d8,d7,d9,K8 hf0 hf1,d6,aN,aM,Bool.not_true,Bool.not_false,aJ,aV]
    all_goals simp only[aL,bS]at d5 d6 d7 d8 d9
    all_goals first
     |(refine sd ?_
       rw[hF];refine iff_of_false (by simp) fun h=>?_
       obtain⟨_,_,⟨_,_,k1,k2⟩,_⟩:=h
       first
        |exact d8 (k1 d5).1
        |exact d6 (k1 d5).2
        |exact d9 (k2 d5 d7))
     |skip
    all_goals
     have e1:aT x0 8->x0=8/\aT c1 4:=fun h=>by first|exact⟨d8,d6⟩|exact absurd h d5
     have e2:¬aT x0 8->aT c1 1->x0=1:=fun h h'=>by first|exact d9|exact absurd h' d7|exact absurd d5 h
     have k2:=d9;clear d5 d6 d7 d8 d9;cases k1:aa (bw c0 x1=[98,101,103,105,110])<;>cases k3:aa (bw c0 x2=[40,41,86])<;>simp only[k1,k3,Bool.not_true,Bool.not_false,aN,aM,aJ,aV]
     all_goals simp only[aL,bS]at k1 k3
     all_goals first
      |(refine sd ?_
        rw[hF];refine iff_of_false (by simp) fun h=>?_
        obtain⟨_,_,⟨_,g1,_,_⟩,_⟩:=h
        first
         |exact k2 (g1 k1).1
         |exact k3 (g1 k1).2)
      |skip
     all_goals
      have e3:bw c0 x1=[98,101,103,105,110]->x0=1/\bw c0 x2=[40,41,86]:=fun h=>by first|exact⟨k2,k3⟩|exact absurd h k1
      clear k1 k2 k3;obtain⟨b,e,hb⟩:=zcM (c0,c1,c2,c3,c4,c5,c6) (c6.take i) (bw c0 x1) (bw c0 x2) hp (by simp only[bT];omega);simp only[h0,h2,ay,ba,aD,aS,List.drop_zero]
      rw[e];simp only[ax]
      refine sd ?_;rw[hF,il b1.1,il b2.1]
      have hbi:b=ag↔∀k,k<i->¬(bY c0 (c6.getD k bl).2.1=bw c0 x1/\bY c0 (c6.getD k bl).2.2.1=bw c0 x2):=by
       rw[hb];simp only[bT,Nat.min_eq_left (Nat.le_of_lt hi)]
       exact⟨fun h k hk=>by have:=h k hk;rwa[rA hk]at this,fun h k hk=>by rw[rA hk];exact h k hk⟩
      rw[Bool.not_eq_true',hbi];exact⟨fun h=>⟨b1,b2,⟨b3,e3,e1,e2⟩,h⟩,fun h=>h.2.2.2⟩
   ·rw[decide_eq_false b3,aM,aV];exact sd (by rw[hF];exact iff_of_false (by simp) fun h=>b3 h.2.2.1.1)
  ·rw[decide_eq_false b2,aM,aV];exact sd (by rw[hF];exact iff_of_false (by simp) fun h=>b2 h.2.1)
 ·rw[decide_eq_false b1,aM,aV];exact sd (by rw[hF];exact iff_of_false (by simp) fun h=>b1 h.1)
end Go.Proofs.YtmjlecabpbiigaaGreat
end
section
namespace Go.Stow
def DT (op:Int) : -1<=aY op/\aY op<=2:=by unfold aY;repeat' split<;>omega
end Go.Stow
namespace Go.Proofs.YtmjlecabpbiigaaGreat
open Go Go.AM Go.TM Go.Stow
def zv (op:Int):kY op=U (aY op):=by
 simp only[kY,jh,ax,aG,fC,aJ,aV]
 unfold aY
 repeat' split
 all_goals first|rfl|(exfalso;omega)
def uo (op:Int):qZ op=U (aY op):=by
 simp only[qZ,jI,ax,aG,aN,fC,aJ,aV]
 unfold aY
 repeat' split
 all_goals first|rfl|(exfalso;omega)
def zcN (s:List UInt8)(op:Int)(hs:s.length<=2):tD (s,op)=U (iT op s):=by
 match s,hs with
 |[],_=>rfl
 | [a],_=>
   have ha:=a.toNat_lt;have e0:∀k:UInt8->Option Int,aq [a] 0 k=k a:=fun k=>rfl
   simp (discharger:=omega) only[tD,bL,cX,e0,wI,aG,fC,aJ,iT]
   rw[if_neg (by omega),if_neg (by omega)];rw[if_neg (show ¬(32768:Int)<=(a.toNat:Int)by omega)];split<;>rfl
 | [a,b],_=>
   have ha:=a.toNat_lt;have hb:=b.toNat_lt;have e0:∀k:UInt8->Option Int,aq [a,b] 0 k=k a:=fun k=>rfl
   have e1:∀k:UInt8->Option (Int×Int⊕Int),aq [a,b] 1 k=k b:=fun k=>rfl
   simp (discharger:=omega) only[tD,bL,cX,e0,e1,wI,aG,fC,aJ,iT]
   rw[if_neg (by omega),if_pos (by omega)];by_cases h1:op=1
   ·rw[if_pos h1];by_cases h2:(32768:Int)<=(a.toNat:Int)*256+(b.toNat:Int)
    ·rw[if_pos h2,if_pos ⟨h1,h2⟩]
    ·rw[if_neg h2,if_neg fun h=>h2 h.2]
   ·rw[if_neg h1,if_neg fun h=>h1 h.1]
def K_ {X Y R:Type}{f:X->Option (X⊕(Y⊕R))}{k:Y->Option R}(s:List UInt8)(mk:List InsP->Nat->X)(bad:R)(good:List InsP->R)
  (hend:∀out,out.length<=s.length->bindE (aE f (mk out s.length)) k=U (good out))
  (hbad:∀out a (h:a<s.length),out.length<=a->(aY s[a].toNat<0\/((s.drop (a+1)).length:Int)<aY s[a].toNat)->bindE (aE f (mk out a)) k=U bad)
  (hstep:∀out a (h:a<s.length) (n:Nat),out.length<=a->aY s[a].toNat=n->n<=(s.drop (a+1)).length->f (mk out a)=U (.inl (mk (out++[((a:Int),(s[a].toNat:Int),iT s[a].toNat ((s.drop (a+1)).take n))]) (a+1+n)))) :
  ∀(m a:Nat) (out:List InsP),s.length-a<=m->a<=s.length->out.length<=a->bindE (aE f (mk out a)) k=U (match ej m (a:Int) (s.drop a)with|some r=>good (out++r)|none=>bad):=by
 intro m
 induction m with
 | zero=>
   intro a out hm ha ho;have:a=s.length:=by omega
   subst this;rw[hend out ho,List.drop_eq_nil_of_le (bJ _)];simp only[ej,cB]
 | succ m ih=>
   intro a out hm ha ho;by_cases h:a<s.length
   ·rw[kv h];simp only[ej]
    by_cases hb:aY s[a].toNat<0\/((s.drop (a+1)).length:Int)<aY s[a].toNat
    ·rw[if_pos hb,hbad out a h ho hb]
    ·rw[if_neg hb];have hn:aY s[a].toNat=((aY s[a].toNat).toNat:Int):=by omega
     generalize (aY s[a].toNat).toNat=n at hn;have hle:n<=(s.drop (a+1)).length:=by omega
     have hd:(s.drop (a+1)).drop n=s.drop (a+1+n):=by rw[List.drop_drop]
     have hlen:a+1+n<=s.length:=by simp only[dx]at hle;omega
     rw[n8 (hstep out a h n ho hn hle),ih (a+1+n) _ (by omega) hlen (by simp only[aP,bL,cX];omega),hn,hd];rw[show(((a+1+n:Nat)):Int)=(a:Int)+1+n by omega];cases ej m ((a:Int)+1+n) (s.drop (a+1+n))with
     |none=>rfl
     |some q=>simp only[Option.map_some,bD,List.singleton_append]
   ·have:a=s.length:=by omega
    subst this;rw[hend out ho,List.drop_eq_nil_of_le (bJ _)];simp only[ej,cB]
def La (s:List UInt8)(hs:s.length<=1048576):tE s=U (bN s):=by
 simp only[tE,aG]
 refine(K_ s (fun out a=>(s,out,(a:Int))) ([],ag) (fun r=>(r,aa ((0:Int)<r.length))) ?_ ?_ ?_ s.length 0 [] (by omega) (by omega) (by simp)).trans ?_
 ·intro out ho;rw[iV (y:=.inl out) (by simp only[bH,if_false]),aJ]
 ·intro out a h ho hb;have h1:(a:Int)<s.length:=by omega
  have h0:(0:Int)<=a:=by omega
  have hr:=s[a].toNat_lt;rw[iV (y:=.inr ([],ag)),aV];simp (discharger:=omega) only[h1,h0,if_true,ay,aD,aS,bq,wI,zv,ax]
  by_cases h2:aY s[a].toNat<0
  ·rw[if_pos h2,aV]
  ·have h3:=(DT s[a].toNat).2
   have h4:(s.length:Int)<(a:Int)+1+aY s[a].toNat:=by
    have:=hb.resolve_left h2;simp only[dx]at this;omega
   rw[if_neg h2,wI (by omega) (by omega),if_pos h4,aV]
 ·intro out a h n ho hn hle;have h1:(a:Int)<s.length:=by omega
  have h0:(0:Int)<=a:=by omega
  have hr:=s[a].toNat_lt;have hn2:=(DT s[a].toNat).2;rw[hn]at hn2;have h2:¬((n:Int)<0):=by omega
  have hle':=hle;simp only[dx]at hle';have h4:¬(s.length:Int)<(a:Int)+1+n:=by omega
  have g1:(0:Int)<=(a:Int)+1:=by omega
  have g2:(a:Int)+1<=(a:Int)+1+n:=by omega
  have g3:(a:Int)+1+n<=s.length:=by omega
  have t1:((a:Int)+1).toNat=a+1:=by omega
  have t2:((a:Int)+1+n).toNat=a+1+n:=by omega
  have hd:(s.take (a+1+n)).drop (a+1)=(s.drop (a+1)).take n:=by rw[List.drop_take];congr 1;omega
  have hl2:((s.drop (a+1)).take n).length<=2:=by simp only[bT];omega
  have q5:out.length+1<=9223372036854775807:=by omega
  have q6:(out.length+1)*24<=140737488355328:=by omega
  simp (discharger:=omega) only[h1,h0,if_true,ay,aD,aS,bq,wI,zv,ax,hn,h2,h4,if_false,aJ,g1,g2,g3,ba,t1,t2,hd,zcN _ _ hl2,q5,q6]
  rfl
 ·rw[List.drop_zero];unfold bN;simp only[dy]
  show U (match ej s.length (0:Int) s with|some r=>_|none=>_)=_;cases ej s.length 0 s with
  |none=>rfl
  | some r=>
    cases r with
    |nil=>rfl
    |cons x r=>simp
def gE:List UInt8->Int
 |[]=>0
 |[a]=>a.toNat
 |a::b::_=>256*(a.toNat:Int)+b.toNat
def zcO (op:Int)(t:List UInt8):(op=1/\32767<gE t->gE t-65536=iT op t)/\(¬(op=1/\32767<gE t)->gE t=iT op t):=by
 match t with
 |[]=>exact⟨fun h=>absurd h.2 (by simp[gE]),fun _=>rfl⟩
 | [a]=>
   have:=a.toNat_lt;exact⟨fun h=>absurd h.2 (by simp only[gE];omega),fun _=>rfl⟩
 | a::b::l=>
   have:=a.toNat_lt;have:=b.toNat_lt;have hr:gE (a::b::l)=256*(a.toNat:Int)+b.toNat:=rfl;have hn:iT op (a::b::l)=if op=1/\32768<=(a.toNat:Int)*256+b.toNat then(a.toNat:Int)*256+b.toNat-65536 else(a.toNat:Int)*256+b.toNat:=rfl
   rw[hr,hn];constructor
   ·intro h;rw[if_pos ⟨h.1,by omega⟩];omega
   ·intro h;rw[if_neg fun h'=>h ⟨h'.1,by omega⟩];omega
def zcP (t:List UInt8):0<=gE t/\gE t<=65535:=by
 match t with
 |[]=>simp[gE]
 |[a]=>have:=a.toNat_lt;simp only[gE];omega
 |a::b::l=>have:=a.toNat_lt;have:=b.toNat_lt;simp only[gE];omega
def zcQ {X Y R:Type}{f:X->Option (X⊕(Y⊕R))}{k:Y->Option R}(t:List UInt8)(mk:Int->Nat->X)(fin:Int->Y)(ht:t.length<=2){x0:X}(hx:x0=mk 0 0)
  (hend:∀acc,f (mk acc t.length)=U (.inr (.inl (fin acc))))
  (hstep:∀acc i (h:i<t.length),0<=acc->acc<=255->f (mk acc i)=U (.inl (mk (256*acc+t[i].toNat) (i+1)))):bindE (aE f x0) k=k (fin (gE t)):=by
 rw[hx]
 match t,ht with
 | [],_=>
   have h1:f (mk 0 0)=U (.inr (.inl (fin 0))):=hend 0;rw[iV h1,aJ];rfl
 | [a],_=>
   have:=a.toNat_lt;have h0:f (mk 0 0)=U (.inl (mk (a.toNat:Int) 1)):=by have:=hstep 0 0 (by simp) (by omega) (by omega);simpa using this
   have h1:f (mk (a.toNat:Int) 1)=U (.inr (.inl (fin (a.toNat:Int)))):=hend _;rw[n8 h0,iV h1,aJ];rfl
 | [a,b],_=>
   have ha:=a.toNat_lt;have hb:=b.toNat_lt;have h0:f (mk 0 0)=U (.inl (mk (a.toNat:Int) 1)):=by have:=hstep 0 0 (by simp) (by omega) (by omega);simpa using this
   have h1:f (mk (a.toNat:Int) 1)=U (.inl (mk (256*(a.toNat:Int)+b.toNat) 2)):=by have:=hstep (a.toNat:Int) 1 (by simp) (by omega) (by omega);simpa using this
   have h2:f (mk (256*(a.toNat:Int)+b.toNat) 2)=U (.inr (.inl (fin (256*(a.toNat:Int)+b.toNat)))):=hend _;rw[n8 h0,n8 h1,iV h2,aJ];rfl
def DU (s:List UInt8)(hs:s.length<=120):pB s=U (bN s):=by
 simp only[pB,jI,ax,bW,aG]
 by_cases hr:(1:Int)<=s.length/\(s.length:Int)<=120
 ·rw[if_pos hr];refine(K_ s (fun out a=>(s,out,(a:Int))) ([],ag) (fun r=>(r,ae)) ?_ ?_ ?_ s.length 0 [] (by omega) (by omega) (by simp)).trans ?_
  ·intro out ho;rw[iV (y:=.inl out) (by simp only[bH,if_false]),aJ]
  ·intro out a h ho hb;have h1:(a:Int)<s.length:=by omega
   have h0:(0:Int)<=a:=by omega
   have hrr:=s[a].toNat_lt;rw[iV (y:=.inr ([],ag)),aV];simp (discharger:=omega) only[h1,h0,if_true,ay,aD,aS,bq,wI,uo,ax]
   by_cases h2:aY s[a].toNat<0
   ·rw[if_pos h2];rfl
   ·have h4:(s.length:Int)-a<=aY s[a].toNat:=by
     have:=hb.resolve_left h2;simp only[dx]at this;omega
    rw[if_neg h2,if_pos h4];rfl
  ·intro out a h n ho hn hle;have h1:(a:Int)<s.length:=by omega
   have h0:(0:Int)<=a:=by omega
   have hrr:=s[a].toNat_lt;have hn2:=(DT s[a].toNat).2;rw[hn]at hn2;have h2:¬((n:Int)<0):=by omega
   have hle':=hle;simp only[dx]at hle';have h4:¬(s.length:Int)-a<=(n:Int):=by omega
   have g1:(0:Int)<=(a:Int)+1:=by omega
   have g2:(a:Int)+1<=(a:Int)+1+n:=by omega
   have g3:(a:Int)+1+n<=s.length:=by omega
   have t1:((a:Int)+1).toNat=a+1:=by omega
   have t2:((a:Int)+1+n).toNat=a+1+n:=by omega
   have hd:(s.take (a+1+n)).drop (a+1)=(s.drop (a+1)).take n:=by rw[List.drop_take];congr 1;omega
   have hl2:((s.drop (a+1)).take n).length<=2:=by simp only[bT];omega
   have q5:out.length+1<=9223372036854775807:=by omega
   have q6:(out.length+1)*24<=140737488355328:=by omega
   simp (discharger:=omega) only[h1,h0,if_true,ay,aD,aS,bq,wI,uo,ax,hn,h2,h4,if_false,aJ,g1,g2,g3,ba,t1,t2,hd]
   generalize (s.drop (a+1)).take n=t at hl2;generalize s[a]=x at hrr;have hk:=zcO x.toNat t;have hrr2:=zcP t;refine(congrArg (bindE · _) (zcQ t (fun acc i=>(s,out,(a:Int),(n:Int),t,(t.length:Int),(i:Int),(a:Int),(x.toNat:Int),acc)) (fun acc=>(s,out,(a:Int),(n:Int),(a:Int),(x.toNat:Int),acc)) hl2 rfl ?_ ?_)).trans ?_
   ·intro acc;simp only[bH,if_false]
   ·intro acc i hi ha0 ha1;have i1:(i:Int)<t.length:=by omega
    have i0:(0:Int)<=i:=by omega
    have:=t[i].toNat_lt;simp (discharger:=omega) only[i1,i0,if_true,ay,aD,aS,bq,wI]
    rfl
   ·have e:(if(if(x.toNat:Int)=1 then aa (32767<gE t)else ag)=ae then gE t-65536 else gE t)=iT x.toNat t:=by
     by_cases hc:(x.toNat:Int)=1/\32767<gE t
     ·rw[<-hk.1 hc];simp[hc.1,hc.2]
     ·rw[<-hk.2 hc];by_cases h1:(x.toNat:Int)=1
      ·have:¬32767<gE t:=fun h=>hc ⟨h1,h⟩
       simp[h1,this]
      ·simp[h1]
    rw[<-e];simp only
    by_cases c1:(x.toNat:Int)=1
    ·simp only[if_pos c1,aJ]
     by_cases c2:32767<gE t
     ·simp (discharger:=omega) only[c2,ay,aN,aG,aJ,if_true,q5,q6,ba,aD,wI]
      rw[show(a:Int)+(1+(n:Int))=((a+1+n:Nat):Int)by omega]
     ·simp (discharger:=omega) only[c2,bc,aM,aG,aJ,if_false,cV,q5,q6,ay,ba,aD,wI]
      rw[show(a:Int)+(1+(n:Int))=((a+1+n:Nat):Int)by omega]
    ·simp (discharger:=omega) only[if_neg c1,aJ,aM,cV,if_false,q5,q6,ay,ba,aD,wI]
     rw[show(a:Int)+(1+(n:Int))=((a+1+n:Nat):Int)by omega]
  ·rw[List.drop_zero];unfold bN;simp only[dy]
   show U (match ej s.length (0:Int) s with|some r=>_|none=>_)=_;cases he:ej s.length 0 s with
   |none=>rfl
   | some r=>
     cases r with
     | nil=>
       exfalso;cases s with
       |nil=>simp at hr
       | cons x l=>
         simp only[bL,ej]at he;split at he
         ·cases he
         ·cases ho:ej l.length (0+1+aY x.toNat) (l.drop (aY x.toNat).toNat)with
          |none=>rw[ho]at he;cases he
          |some q=>rw[ho]at he;simp at he
     |cons x r=>rfl
 ·rw[if_neg hr];have:s=[]:=List.length_eq_zero_iff.1 (by omega);subst this;rfl
end Go.Proofs.YtmjlecabpbiigaaGreat
end
section
namespace Go.Stow
def eM {α:Type}{l:List α}(d:α){P:α->Prop}:(∀x∈l,P x)↔∀i,i<l.length->P (l.getD i d):=by
 constructor
 ·intro h i hi;rw[List.getD_eq_getElem?_getD,bI hi];exact h _ (List.getElem_mem hi)
 ·intro h x hx;obtain⟨i,hi,rfl⟩:=List.mem_iff_getElem.1 hx;have:=h i hi;rwa[List.getD_eq_getElem?_getD,bI hi]at this
def Lb:∀(m:Nat) (a:Int) (s:List UInt8) (r:List InsP),ej m a s=U r->r.length<=m
 |0,a,[],r,h=>by simp only[ej,aF]at h;simp[<-h]
 |_+1,a,[],r,h=>by simp only[ej,aF]at h;simp[<-h]
 |0,a,_::_,r,h=>by simp[ej]at h
 | m+1,a,x::l,r,h=>by
   simp only[ej]at h;split at h
   ·cases h
   ·cases ho:ej m (a+1+aY x.toNat) (l.drop (aY x.toNat).toNat)with
    |none=>rw[ho]at h;cases h
    | some q=>
      rw[ho]at h;simp only[Option.map_some,aF]at h;have:=Lb m _ _ q ho;rw[<-h];simp only[bL]
      omega
def zw (s:List UInt8):(bN s).1.length<=s.length:=by
 unfold bN;cases h:ej s.length 0 s with
 |none=>simp
 | some r=>
   cases r with
   |nil=>simp
   |cons x r=>exact Lb _ _ _ _ h
def Lc:∀(k:Nat) (l:List UInt8) (ts:List (List UInt8)) (b:List UInt8),more k l=U (ts,b)->ts.length<=k
 |0,[],ts,b,h=>by simp[more]at h
 |_+1,[],ts,b,h=>by simp[more]at h
 | 0,x::l,ts,b,h=>by
   simp only[more]at h;split at h
   ·simp only[aF,bm]at h;rw[<-h.1];simp
   ·cases h
 | k+1,x::l,ts,b,h=>by
   rw[zj]at h;split at h
   ·simp only[aF,bm]at h;rw[<-h.1];simp
   ·cases ho:one (x::l)with
    |none=>rw[ho]at h;cases h
    | some p=>
      rw[ho]at h;simp only[bh]at h;cases hm:more k p.2 with
      |none=>rw[hm]at h;cases h
      | some q=>
        obtain⟨q1,q2⟩:=q;rw[hm]at h;simp only[Option.map_some,aF,bm]at h;have:=Lc k _ _ _ hm;rw[<-h.1];simp only[bL]
        omega
def Ld (s:List UInt8):(iS s).1.length<=4:=by
 cases s with
 |nil=>simp[iS]
 | cons x l=>
   simp only[iS]
   split
   ·cases h:more 4 l with
    |none=>simp
    | some p=>
      obtain⟨ts,b⟩:=p;simp only
      split
      ·exact Lc 4 l ts b h
      ·simp
   ·simp
end Go.Stow
namespace Go.Proofs.YtmjlecabpbiigaaGreat
open Go Go.AM Go.TM Go.Stow
def zx (l:List InsP)(a:Int)(hl:l.length<=1048576):lS (l,a)=U (cr l a):=by
 simp only[lS,aG]
 refine(DF (fun i=>(l,a,(i:Int))) () l (fun x=>aa (x.1=a)) (fun i=>(i:Int)) rfl ?_ ?_).trans ?_
 ·simp only[bH,if_false]
 ·intro i hi;have i1:(i:Int)<l.length:=by omega
  have i0:(0:Int)<=i:=by omega
  simp (discharger:=omega) only[i1,i0,if_true,ay,aD,aS,bq,wI,aL]
  split<;>rfl
 ·unfold cr;cases l.findIdx? (fun x=>aa (x.1=a))<;>rfl
def zcR (op:Int):pf op=U (cK op):=by
 simp only[pf,aG,aN,fC,aJ,aV]
 unfold cK
 repeat' split
 all_goals first|rfl|(exfalso;omega)
def zcS (c:Cls)(m:Mth)(l:List InsP)(x:InsP)(hp:cz c.1)(hl:l.length<=1048576):xJ (c,m,l,x)=U (aa (jH c.1 m.2.2.2.2.1 l x)):=by
 obtain⟨c0,c1,c2,c3,c4,c5,c6⟩:=c;obtain⟨m0,m1,m2,m3,m4,m5,m6,m7⟩:=m;obtain⟨x0,x1,x2⟩:=x;simp only at hp;have hI:jH c0 m4 l (x0,x1,x2)↔((3<=x1/\x1<=6->x2<m4)/\(14<=x1/\x1<=18->0<=cr l x2)/\(cK x1≠0->(bt c0 x2).1=cK x1)):=Iff.rfl;simp only[xJ,jh,zx _ _ hl,zcR,K1 _ _ _ hp,ax,aG]
 by_cases h1:3<=x1/\x1<=6
 ·rw[if_pos h1];have h2:¬(14<=x1/\x1<=18):=by omega
  have h3:cK x1=0:=by unfold cK;repeat' split<;>omega
  exact sd (by rw[hI,decide_eq_true_iff];simp[h1,h2,h3])
 ·rw[if_neg h1];by_cases h2:14<=x1/\x1<=18
  ·rw[if_pos h2];have h3:cK x1=0:=by unfold cK;repeat' split<;>omega
   exact sd (by rw[hI,decide_eq_true_iff];simp[h1,h2,h3])
  ·rw[if_neg h2];by_cases h3:cK x1=0
   ·rw[if_pos h3];exact sd (by rw[hI];simp[h1,h2,h3])
   ·rw[if_neg h3];exact sd (by rw[hI,decide_eq_true_iff];simp[h1,h2,h3])
def zcT (c:Cls)(m:Mth)(l:List InsP)(t:Trp)(hp:cz c.1)(hl:l.length<=1048576):xK (c,m,l,t)=U (aa (iU c.1 m.2.2.2.2.2.1.length l t)):=by
 obtain⟨c0,c1,c2,c3,c4,c5,c6⟩:=c;obtain⟨m0,m1,m2,m3,m4,m5,m6,m7⟩:=m;obtain⟨t0,t1,t2,t3⟩:=t;simp only at hp;have hI:iU c0 m5.length l (t0,t1,t2,t3)↔(t0<t1/\0<=cr l t0/\(t1=(m5.length:Int)\/0<=cr l t1)/\0<=cr l t2/\(t3=0\/cW c0 t3)):=Iff.rfl;simp only[xK,zx _ _ hl,ax,bW,aG]
 by_cases h1:t1<=t0
 ·rw[if_pos h1,aV];exact sd (by rw[hI];exact iff_of_false (by simp) fun h=>by omega)
 rw[if_neg h1];by_cases h2:cr l t0<0
 ·rw[if_pos h2,aV];exact sd (by rw[hI];exact iff_of_false (by simp) fun h=>by omega)
 rw[if_neg h2]
 have hfin:(t1=(m5.length:Int)\/0<=cr l t1)->(bindE (if cr l t2<0 then U (Sum.inr ag)else U (Sum.inl ((c0,c1,c2,c3,c4,c5,c6),t0,t1,t2,t3)):Option ((Cls×Int×Int×Int×Int)⊕Bool)) fun(x:Cls×Int×Int×Int×Int)=>
   if x.2.2.2.2=0 then U ae else ah (jc (x.1.1,x.2.2.2.2)) fun y=>U (!aa (y=[])))=U (aa (iU c0 m5.length l (t0,t1,t2,t3))):=by
  intro h3;by_cases h4:cr l t2<0
  ·rw[if_pos h4,aV];exact sd (by rw[hI];exact iff_of_false (by simp) fun h=>by omega)
  rw[if_neg h4,aJ];simp only[pK _ _ hp,ax]
  by_cases h5:t3=0
  ·rw[if_pos h5];exact sd (by rw[hI];exact iff_of_true rfl ⟨by omega,by omega,h3,by omega,.inl h5⟩)
  ·rw[if_neg h5];refine sd ?_;rw[hI];simp only[Bool.not_eq_true',bS]
   rw[show(¬cd c0 t3=[])↔cW c0 t3 from lk];exact⟨fun h=>⟨by omega,by omega,h3,by omega,.inr h⟩,fun h=>h.2.2.2.2.resolve_left h5⟩
 by_cases h3:t1=(m5.length:Int)
 ·rw[if_pos h3];exact hfin (.inl h3)
 ·rw[if_neg h3];by_cases h4:cr l t1<0
  ·rw[if_pos h4,aV];exact sd (by rw[hI];exact iff_of_false (by simp) fun h=>by omega)
  ·rw[if_neg h4];exact hfin (.inr (by omega))
def Le (c:Cls)(l:List Knd)(hp:cz c.1)(hl:l.length<=1048576):mH (c,l)=U (aa (dW c.1 l)):=by
 obtain⟨c0,c1,c2,c3,c4,c5,c6⟩:=c;simp only at hp;simp only[mH,aG]
 refine ji (fun i=>(l,(i:Int),c0,c1,c2,c3,c4,c5,c6)) () ag l.length (fun i=>ll c0 (l.getD i (0,0))) rfl ?_ ?_ ?_ ?_
 ·simp only[bH,if_false]
 ·intro i hi;have i1:(i:Int)<l.length:=by omega
  have i0:(0:Int)<=i:=by omega
  simp only[i1,i0,if_true,ay,aD,aS]
  simp only[ep ((0,0):Knd) hi]
  generalize l.getD i (0,0)=x;have hK:ll c0 x↔((0<=x.1/\x.1<=3)/\(x.1=3->cW c0 x.2)/\(x.1≠3->x.2=0)):=Iff.rfl;simp only[jh,pK _ _ hp,ax,bW,aG]
  by_cases h1:0<=x.1/\x.1<=3
  ·rw[if_pos h1];by_cases h2:x.1=3
   ·rw[if_pos h2,if_pos h2];by_cases h3:cd c0 x.2=[]
    ·rw[if_pos h3];exact .inr ⟨fun h=>lk.2 ((hK.1 h).2.1 h2) h3,rfl⟩
    ·rw[if_neg h3];refine .inl ⟨hK.2 ⟨h1,fun _=>lk.1 h3,fun h=>absurd h2 h⟩,?_⟩;simp only[aJ]
     rw[wI (by omega) (by omega)];rfl
   ·rw[if_neg h2,if_neg h2];by_cases h3:x.2=0
    ·rw[if_pos h3];refine .inl ⟨hK.2 ⟨h1,fun h=>absurd h h2,fun _=>h3⟩,?_⟩;simp only[aJ]
     rw[wI (by omega) (by omega)];rfl
    ·rw[if_neg h3];exact .inr ⟨fun h=>h3 ((hK.1 h).2.2 h2),rfl⟩
  ·rw[if_neg h1];exact .inr ⟨fun h=>h1 (hK.1 h).1,rfl⟩
 ·intro h;exact sd (iff_of_true rfl ((eM (0,0)).2 h))
 ·intro h;exact sd (iff_of_false (by simp) fun h'=>h ((eM (0,0)).1 h'))
def zcU (c:Cls)(m:Mth)(hp:cz c.1)(hm:0<=m.1/\m.1<=255):xI (c,m)=U (lV c.1 m):=by
 obtain⟨c0,c1,c2,c3,c4,c5,c6⟩:=c;obtain⟨m0,m1,m2,m3,m4,m5,m6,m7⟩:=m;obtain⟨hm0,hm1⟩:=hm;simp only at hp hm0 hm1;have hd:=Ld (bw c0 m2);simp only[xI,oe _ _ hp,KT _ (lq hp _),j6 hm0 hm1 (show(1:Int)<=1 by omega),ax,aG,lV]
 split
 ·rfl
 ·rw[wI (by omega) (by omega)]
def zcV (c:Cls)(m:Mth)(l:List InsP)(hp:cz c.1)(hl:l.length<=1048576)(hm:m.2.2.2.2.2.2.2.length<=1048576)(hk:∀ f∈m.2.2.2.2.2.2.2,mK f):xL (c,m,l)=U (aa (pJ c.1 m l)):=by
 obtain⟨c0,c1,c2,c3,c4,c5,c6⟩:=c;obtain⟨m0,m1,m2,m3,m4,m5,m6,m7⟩:=m;simp only at hp hm hk;simp only[xL,aG]
 refine ji (fun i=>(l,(i:Int),(c0,c1,c2,c3,c4,c5,c6),m0,m1,m2,m3,m4,m5,m6,m7)) () ag m7.length (rq c0 (m0,m1,m2,m3,m4,m5,m6,m7) l) rfl ?_ ?_ ?_ ?_
 ·simp only[bH,if_false]
 ·intro i hi;have i1:(i:Int)<m7.length:=by omega
  have i0:(0:Int)<=i:=by omega
  have hF:rq c0 (m0,m1,m2,m3,m4,m5,m6,m7) l i↔(0<=cr l (m7.getD i (0,[],[])).1/\(0<i->(m7.getD (i-1) (0,[],[])).1<(m7.getD i (0,[],[])).1)/\((m7.getD i (0,[],[])).2.1.length:Int)=m4/\((m7.getD i (0,[],[])).2.2.length:Int)<=m3/\dW c0 (m7.getD i (0,[],[])).2.1/\dW c0 (m7.getD i (0,[],[])).2.2):=Iff.rfl;have hb:mK (m7.getD i (0,[],[])):=(eM (P:=mK) (0,[],[])).1 hk i hi;simp only[i1,i0,if_true,ay,aD,aS]
  rw[ep (0,[],[]) hi];rw[hF];generalize m7.getD i (0,[],[])=x at hb;have z1:mH ((c0,c1,c2,c3,c4,c5,c6),x.2.1)=U (aa (dW c0 x.2.1)):=Le (c0,c1,c2,c3,c4,c5,c6) x.2.1 hp hb.1;have z2:mH ((c0,c1,c2,c3,c4,c5,c6),x.2.2)=U (aa (dW c0 x.2.2)):=Le (c0,c1,c2,c3,c4,c5,c6) x.2.2 hp hb.2;simp only[zx _ _ hl,z1,z2,ax,bW,aG]
  by_cases h1:cr l x.1<0
  ·rw[if_pos h1];exact .inr ⟨fun h=>by omega,rfl⟩
  rw[if_neg h1]
  have hrest:(0<i->(m7.getD (i-1) (0,[],[])).1<x.1)->∀F:Option ((List InsP×Int×Cls×Mth)⊕((List InsP×Int×Cls×Mth)⊕(Unit⊕Bool)))->Option ((List InsP×Int×Cls×Mth)⊕(Unit⊕Bool)),F (U (.inr (.inr (.inr ag))))=U (.inr (.inr ag)) ->
    F (U (.inl (l,(i:Int),(c0,c1,c2,c3,c4,c5,c6),m0,m1,m2,m3,m4,m5,m6,m7)))=U (.inl (l,((i+1:Nat):Int),(c0,c1,c2,c3,c4,c5,c6),m0,m1,m2,m3,m4,m5,m6,m7)) ->
    ((0<=cr l x.1/\(0<i->(m7.getD (i-1) (0,[],[])).1<x.1)/\(x.2.1.length:Int)=m4/\(x.2.2.length:Int)<=m3/\dW c0 x.2.1/\dW c0 x.2.2) /\
      F (if(x.2.1.length:Int)=m4 then if m3<(x.2.2.length:Int)then U (.inr (.inr (.inr ag)))else if dW c0 x.2.1 then if dW c0 x.2.2 then U (.inl (l,(i:Int),(c0,c1,c2,c3,c4,c5,c6),m0,m1,m2,m3,m4,m5,m6,m7))else U (.inr (.inr (.inr ag)))else U (.inr (.inr (.inr ag)))else U (.inr (.inr (.inr ag))))=U (.inl (l,((i+1:Nat):Int),(c0,c1,c2,c3,c4,c5,c6),m0,m1,m2,m3,m4,m5,m6,m7))) \/
    (¬(0<=cr l x.1/\(0<i->(m7.getD (i-1) (0,[],[])).1<x.1)/\(x.2.1.length:Int)=m4/\(x.2.2.length:Int)<=m3/\dW c0 x.2.1/\dW c0 x.2.2) /\
     F (if(x.2.1.length:Int)=m4 then if m3<(x.2.2.length:Int)then U (.inr (.inr (.inr ag)))else if dW c0 x.2.1 then if dW c0 x.2.2 then U (.inl (l,(i:Int),(c0,c1,c2,c3,c4,c5,c6),m0,m1,m2,m3,m4,m5,m6,m7))else U (.inr (.inr (.inr ag)))else U (.inr (.inr (.inr ag)))else U (.inr (.inr (.inr ag))))=U (.inr (.inr ag))):=by
   intro h2 F f1 f2;by_cases h3:(x.2.1.length:Int)=m4
   ·rw[if_pos h3];by_cases h4:m3<(x.2.2.length:Int)
    ·rw[if_pos h4];exact .inr ⟨fun h=>by omega,f1⟩
    ·rw[if_neg h4];by_cases h5:dW c0 x.2.1
     ·rw[if_pos h5];by_cases h6:dW c0 x.2.2
      ·rw[if_pos h6];exact .inl ⟨⟨by omega,h2,h3,by omega,h5,h6⟩,f2⟩
      ·rw[if_neg h6];exact .inr ⟨fun h=>h6 h.2.2.2.2.2,f1⟩
     ·rw[if_neg h5];exact .inr ⟨fun h=>h5 h.2.2.2.2.1,f1⟩
   ·rw[if_neg h3];exact .inr ⟨fun h=>h3 h.2.2.1,f1⟩
  by_cases h2:(0:Int)<i
  ·have j1:((i:Int)-1).toNat=i-1:=by omega
   have j0:(0:Int)<=(i:Int)-1:=by omega
   have jl:i-1<m7.length:=by omega
   rw[if_pos h2];simp (discharger:=omega) only[wI,j0,ay,aD,j1]
   rw[ep (0,[],[]) jl];by_cases h3:x.1<=(m7.getD (i-1) (0,[],[])).1
   ·rw[if_pos h3];exact .inr ⟨fun h=>by have:=h.2.1 (by omega);omega,rfl⟩
   ·rw[if_neg h3];refine hrest (fun _=>by omega) (bindE · _) rfl ?_;simp only[aJ]
    rw[wI (by omega) (by omega)];rfl
  ·rw[if_neg h2];refine hrest (fun h=>absurd h (by omega)) (bindE · _) rfl ?_;simp only[aJ]
   rw[wI (by omega) (by omega)];rfl
 ·intro h;exact sd (iff_of_true rfl h)
 ·intro h;exact sd (iff_of_false (by simp) h)
end Go.Proofs.YtmjlecabpbiigaaGreat
end
namespace Go.Proofs.YtmjlecabpbiigaaGreat
section
open Go Go.AM Go.TM Go.Stow
def zcW (c:Cls)(m:Mth)(hp:cz c.1)(hm:0<=m.1/\m.1<=255)(hb:ld m):tF (c,m)=U (aa (¬aT m.1 8->eo c.1 m)):=by
 have z245:=zcU c m hp hm;obtain⟨c0,c1,c2,c3,c4,c5,c6⟩:=c;obtain⟨m0,m1,m2,m3,m4,m5,m6,m7⟩:=m;obtain⟨hm0,hm1⟩:=hm;obtain⟨b1,b2,b3,b4⟩:=hb;simp only at hp hm0 hm1 b1 b2 b3 b4 z245;have hlen:=zw m5;have hB:eo c0 (m0,m1,m2,m3,m4,m5,m6,m7)↔((bN m5).2=ae/\m3<=8/\(lV c0 (m0,m1,m2,m3,m4,m5,m6,m7)<=m4/\m4<=8)/\(∀x∈(bN m5).1,jH c0 m4 (bN m5).1 x)/\(∀t∈m6,iU c0 m5.length (bN m5).1 t)/\pJ c0 (m0,m1,m2,m3,m4,m5,m6,m7) (bN m5).1):=Iff.rfl;simp only[tF,j6 hm0 hm1 (show(1:Int)<=8 by omega),La _ b1,ax,aG,bW]
 by_cases h0:aT m0 8
 ·rw[if_pos h0];exact sd (iff_of_true rfl fun h=>absurd h0 h)
 rw[if_neg h0];have hgo:∀b:Bool,(b=ae↔eo c0 (m0,m1,m2,m3,m4,m5,m6,m7))->U b=U (aa (¬aT m0 8->eo c0 (m0,m1,m2,m3,m4,m5,m6,m7))):=fun b hb=>sd (hb.trans ⟨fun h _=>h,fun h=>h h0⟩)
 generalize hv:bN m5=v at hlen hB;obtain⟨ops,ok⟩:=v;simp only at hlen hB ⊢;have hol:ops.length<=1048576:=by omega
 cases ok with
 | false=>
   rw[aM,aV];exact hgo ag (by rw[hB];exact iff_of_false (by simp) fun h=>by cases h.1)
 | true=>
   rw[aN];by_cases h1:8<m3
   ·rw[if_pos h1,aV];exact hgo ag (by rw[hB];exact iff_of_false (by simp) fun h=>by omega)
   rw[if_neg h1,z245,ax];simp only[eq_self,ay,aD,bE,jh,ax,aG]
   by_cases h2:lV c0 (m0,m1,m2,m3,m4,m5,m6,m7)<=m4/\m4<=8
   ·rw[if_pos h2,aJ];simp only
    refine ji (fun i=>(ops,(i:Int),(c0,c1,c2,c3,c4,c5,c6),m0,m1,m2,m3,m4,m5,m6,m7)) (ops,(c0,c1,c2,c3,c4,c5,c6),m0,m1,m2,m3,m4,m5,m6,m7) ag ops.length (fun i=>jH c0 m4 ops (ops.getD i (0,0,0))) rfl ?_ ?_ ?_ ?_
    ·simp only[bH,if_false]
    ·intro i hi;have i1:(i:Int)<ops.length:=by omega
     have i0:(0:Int)<=i:=by omega
     simp only[i1,i0,if_true,ay,ba,aD,aS]
     rw[ep (0,0,0) hi];generalize ops.getD i (0,0,0)=x;have z:=zcS (c0,c1,c2,c3,c4,c5,c6) (m0,m1,m2,m3,m4,m5,m6,m7) ops x hp hol;rw[show((x.1,x.2.1,x.2.2):InsP)=x from rfl,z];simp only[ax,aG]
     by_cases h:jH c0 m4 ops x
     ·rw[if_pos h,wI (by omega) (by omega)];exact .inl ⟨h,rfl⟩
     ·rw[if_neg h];exact .inr ⟨h,rfl⟩
    ·intro hins;have hins:=(eM (P:=fun x=>jH c0 m4 ops x) (0,0,0)).2 hins;simp only
     refine ji (fun i=>(ops,(i:Int),(c0,c1,c2,c3,c4,c5,c6),m0,m1,m2,m3,m4,m5,m6,m7)) (ops,(c0,c1,c2,c3,c4,c5,c6),m0,m1,m2,m3,m4,m5,m6,m7) ag m6.length (fun i=>iU c0 m5.length ops (m6.getD i (0,0,0,0))) rfl ?_ ?_ ?_ ?_
     ·simp only[bH,if_false]
     ·intro i hi;have i1:(i:Int)<m6.length:=by omega
      have i0:(0:Int)<=i:=by omega
      simp only[i1,i0,if_true,ay,ba,aD,aS]
      rw[ep (0,0,0,0) hi];generalize m6.getD i (0,0,0,0)=x;have z:=zcT (c0,c1,c2,c3,c4,c5,c6) (m0,m1,m2,m3,m4,m5,m6,m7) ops x hp hol;rw[show((x.1,x.2.1,x.2.2.1,x.2.2.2):Trp)=x from rfl,z];simp only[ax,aG]
      by_cases h:iU c0 m5.length ops x
      ·rw[if_pos h,wI (by omega) (by omega)];exact .inl ⟨h,rfl⟩
      ·rw[if_neg h];exact .inr ⟨h,rfl⟩
     ·intro htr;have htr:=(eM (P:=fun x=>iU c0 m5.length ops x) (0,0,0,0)).2 htr;have z:=zcV (c0,c1,c2,c3,c4,c5,c6) (m0,m1,m2,m3,m4,m5,m6,m7) ops hp hol b3 b4;simp only
      rw[z,ax];refine hgo _ ?_;rw[hB,decide_eq_true_iff];exact⟨fun h=>⟨rfl,by omega,h2,hins,htr,h⟩,fun h=>h.2.2.2.2.2⟩
     ·intro htr;exact hgo ag (by rw[hB];exact iff_of_false (by simp) fun h=>htr ((eM (P:=fun x=>iU c0 m5.length ops x) (0,0,0,0)).1 h.2.2.2.2.1))
    ·intro hins;exact hgo ag (by rw[hB];exact iff_of_false (by simp) fun h=>hins ((eM (P:=fun x=>jH c0 m4 ops x) (0,0,0)).1 h.2.2.2.1))
   ·rw[if_neg h2,aV];exact hgo ag (by rw[hB];exact iff_of_false (by simp) fun h=>h2 h.2.2.1)
def DV (l:List InsP)(a:Int)(hl:l.length<=1048576):nV (l,a)=U (cr l a):=by
 have e:yJ (l,a)=U (cr l a,a):=by
  simp only[yJ,aG]
  refine(DF (fun i=>(l,(l.length:Int),(i:Int),a)) a l (fun x=>aa (x.1=a)) (fun i=>((i:Int),a)) rfl ?_ ?_).trans ?_
  ·simp only[bH,if_false]
  ·intro i hi;have i1:(i:Int)<l.length:=by omega
   have i0:(0:Int)<=i:=by omega
   simp (discharger:=omega) only[i1,i0,if_true,ay,aD,aS,bq,wI,aL,C7,ax,aG]
   split<;>rfl
  ·unfold cr;cases l.findIdx? (fun x=>aa (x.1=a))<;>rfl
 simp only[nV,e,ax]
def zcX (op:Int):yI op=U (cK op):=by
 simp only[yI,jI,ax,aG,aN,fC,aJ,aV]
 unfold cK
 repeat' split
 all_goals first|rfl|(exfalso;omega)
def Lf (c:Cls)(l:List Knd)(hp:cz c.1)(hok:pH c.1)(hl:l.length<=1048576)(hk:∀ k∈l,0<=k.1/\k.1<=3):pC (c,l)=U (aa (dW c.1 l)):=by
 obtain⟨c0,c1,c2,c3,c4,c5,c6⟩:=c;simp only at hp hok;simp only[pC,C9,C8]
 have hk':=(eM (P:=fun k:Knd=>0<=k.1/\k.1<=3) (0,0)).1 hk
 have key:=zo (f:=(fun(x:List Knd×Int×Int×Cls)=>ai (aa (x.2.2.1<x.2.1))
    (af (aa (0<=x.2.2.1)) (aq x.1 (aw x.2.2.1) fun y=>ah (t8 ((y.1,y.2),x.2.2.2.1,x.2.2.2.2.1,x.2.2.2.2.2.1,x.2.2.2.2.2.2.1,x.2.2.2.2.2.2.2.1,x.2.2.2.2.2.2.2.2.1,x.2.2.2.2.2.2.2.2.2)) fun z=>
    ai z.1 (U (.inr (.inr (x.2.2.1,z.2)))) (U (.inl (x.1,x.2.1,IntKind.wrap .i64 (x.2.2.1+1),z.2)))))
    (U (.inr (.inl (x.2.2.2.1,x.2.2.2.2.1,x.2.2.2.2.2.1,x.2.2.2.2.2.2.1,x.2.2.2.2.2.2.2.1,x.2.2.2.2.2.2.2.2.1,x.2.2.2.2.2.2.2.2.2))))))
  (fun k=>(l,(l.length:Int),(k:Int),c0,c1,c2,c3,c4,c5,c6)) (c0,c1,c2,c3,c4,c5,c6) (fun k=>((k:Int),c0,c1,c2,c3,c4,c5,c6)) l.length (fun k=>¬ll c0 (l.getD k (0,0))) (x0:=(l,(l.length:Int),0,c0,c1,c2,c3,c4,c5,c6)) (k:=fun x=>U ((-1:Int),x)) rfl ?_ ?_
 ·rcases key with⟨h1,h2⟩|⟨k,h1,h2,h3⟩
  ·rw[og h2];exact sd (iff_of_true rfl ((eM (0,0)).2 fun i hi=>Classical.not_not.1 (h1 i hi)))
  ·rw[og h3];refine sd (iff_of_false ?_ fun h=>h2 ((eM (0,0)).1 h k h1));simp
 ·simp only[bH,bc,aM]
 ·intro k hkl;have k1:(k:Int)<l.length:=by omega
  have k0:(0:Int)<=k:=by omega
  simp only[k1,k0,ay,aN,aD,aS]
  rw[ep (0,0) hkl];have hr:=hk' k hkl;generalize l.getD k (0,0)=x at hr;have hK:ll c0 x↔((0<=x.1/\x.1<=3)/\(x.1=3->cW c0 x.2)/\(x.1≠3->x.2=0)):=Iff.rfl;have z162:k_ ((c0,c1,c2,c3,c4,c5,c6),x.2)=U (aa ((bt c0 x.2).1=2)):=DR (c0,c1,c2,c3,c4,c5,c6) x.2 hp
  have z:t8 ((x.1,x.2),c0,c1,c2,c3,c4,c5,c6)=U (aa (¬ll c0 x),c0,c1,c2,c3,c4,c5,c6):=by
   simp only[t8,z162,ax,bW,aG]
   by_cases h1:x.1=3
   ·rw[if_pos h1];by_cases h2:(bt c0 x.2).1=2
    ·rw[if_pos h2,if_pos h1,decide_eq_false fun h=>h (hK.2 ⟨hr,fun _=>hok.cls.2 h2,fun h=>absurd h1 h⟩)]
    ·rw[if_neg h2,decide_eq_true (p:=¬ll c0 x) fun h=>h2 ((hK.1 h).2.1 h1).1]
   ·rw[if_neg h1,if_neg h1];by_cases h2:x.2=0
    ·rw[decide_eq_true h2,decide_eq_false fun h=>h (hK.2 ⟨hr,fun h=>absurd h h1,fun _=>h2⟩)];rfl
    ·rw[decide_eq_false h2,decide_eq_true (p:=¬ll c0 x) fun h=>h2 ((hK.1 h).2.2 h1)];rfl
  refine(show ¬ll c0 x/\_=_\/_ from ?_);rw[z];simp only[ax,aG]
  rw[wI (by omega) (by omega)];by_cases e:¬ll c0 x
  ·rw[if_pos e];exact .inl ⟨e,rfl⟩
  ·rw[if_neg e];exact .inr ⟨e,rfl⟩
def q87 (c:Cls)(m:Mth)(hp:cz c.1)(hok:pH c.1)(hm:0<=m.1/\m.1<=255)(hb:ld m)(h120:m.2.2.2.2.2.1.length<=120)(hfr:∀ f∈m.2.2.2.2.2.2.2,rm f)(hd:cj c.1 m.2.2.1 Dsc):t9 (c,m)=U (aa (eo c.1 m)):=by
 obtain⟨c0,c1,c2,c3,c4,c5,c6⟩:=c;obtain⟨m0,m1,m2,m3,m4,m5,m6,m7⟩:=m;obtain⟨hm0,hm1⟩:=hm;obtain⟨b1,b2,b3,b4⟩:=hb;simp only at hp hok hm0 hm1 b1 b2 b3 b4 h120 hfr hd;have hlen:=zw m5;have hB:eo c0 (m0,m1,m2,m3,m4,m5,m6,m7)↔((bN m5).2=ae/\m3<=8/\(lV c0 (m0,m1,m2,m3,m4,m5,m6,m7)<=m4/\m4<=8)/\(∀x∈(bN m5).1,jH c0 m4 (bN m5).1 x)/\(∀t∈m6,iU c0 m5.length (bN m5).1 t)/\pJ c0 (m0,m1,m2,m3,m4,m5,m6,m7) (bN m5).1):=Iff.rfl;have z111:∀i,dN ((c0,c1,c2,c3,c4,c5,c6),i)=U (bY c0 i):=fun i=>rz (c0,c1,c2,c3,c4,c5,c6) i hp
 have z162:∀i,k_ ((c0,c1,c2,c3,c4,c5,c6),i)=U (aa ((bt c0 i).1=2)):=fun i=>DR (c0,c1,c2,c3,c4,c5,c6) i hp
 have z124:∀k,iI (c0,k)=U (bt c0 k):=fun k=>lp c0 k hp.1
 have hdl:=Ld (bw c0 m2);have hT:lV c0 (m0,m1,m2,m3,m4,m5,m6,m7)=if aT m0 1 then((iS (bw c0 m2)).1.length:Int)else(iS (bw c0 m2)).1.length+1:=rfl
 simp only[t9,DU _ h120,z111,il hd.1,KY _ (lq hp _),ax,aG,bW,zcy hm0 hm1]
 rw[show(if ¬aT m0 1 then U (Sum.inl ((bN m5).1,(bN m5).2,IntKind.wrap .i64 (((iS (bw c0 m2)).1.length:Int)+1),(c0,c1,c2,c3,c4,c5,c6),m0,m1,m2,m3,m4,m5,m6,m7))else U (Sum.inl ((bN m5).1,(bN m5).2,((iS (bw c0 m2)).1.length:Int),(c0,c1,c2,c3,c4,c5,c6),m0,m1,m2,m3,m4,m5,m6,m7)):Option ((List InsP×Bool×Int×Cls×Mth)⊕Bool))=U (Sum.inl ((bN m5).1,(bN m5).2,lV c0 (m0,m1,m2,m3,m4,m5,m6,m7),(c0,c1,c2,c3,c4,c5,c6),m0,m1,m2,m3,m4,m5,m6,m7))by
  rw[hT];by_cases h:aT m0 1
  ·rw[if_neg (by simp[h]),if_pos h]
  ·rw[if_pos h,if_neg h,wI (by omega) (by omega)],aJ]
 generalize lV c0 (m0,m1,m2,m3,m4,m5,m6,m7)=need at hB;generalize hv:bN m5=v at hlen hB;obtain⟨ops,ok⟩:=v;simp only at hlen hB ⊢;have hol:ops.length<=1048576:=by omega
 cases ok with
 | false=>
   rw[aM,aV];exact sd (by rw[hB];exact iff_of_false (by simp) fun h=>by cases h.1)
 | true=>
   rw[aN];by_cases h1:8<m3
   ·rw[if_pos h1,aV];exact sd (by rw[hB];exact iff_of_false (by simp) fun h=>by omega)
   rw[if_neg h1];simp only[jI,ax,aG]
   by_cases h2:need<=m4/\m4<=8
   ·rw[if_pos h2,aJ];simp only
    refine ji (fun i=>((ops.length:Int),(i:Int),(c0,c1,c2,c3,c4,c5,c6),(m0,m1,m2,m3,m4,m5,m6,m7),ops)) (ops,(c0,c1,c2,c3,c4,c5,c6),m0,m1,m2,m3,m4,m5,m6,m7) ag ops.length (fun i=>jH c0 m4 ops (ops.getD i (0,0,0))) rfl ?_ ?_ ?_ ?_
    ·simp only[bH,if_false]
    ·intro i hi;have i1:(i:Int)<ops.length:=by omega
     have i0:(0:Int)<=i:=by omega
     simp only[i1,i0,if_true,ay,ba,aD,aS]
     rw[ep (0,0,0) hi];generalize ops.getD i (0,0,0)=x;obtain⟨x0,x1,x2⟩:=x;have hI:jH c0 m4 ops (x0,x1,x2)↔((3<=x1/\x1<=6->x2<m4)/\(14<=x1/\x1<=18->0<=cr ops x2)/\(cK x1≠0->(bt c0 x2).1=cK x1)):=Iff.rfl;rw[hI];simp only[zcX,q_,jI,DV _ _ hol,z124,ax,aG,bW]
     have hfin:∀F:Option ((Int×Int×Cls×Mth×List InsP)⊕((Int×Int×Cls×Mth×List InsP)⊕((List InsP×Cls×Mth)⊕Bool)))->Option ((Int×Int×Cls×Mth×List InsP)⊕((List InsP×Cls×Mth)⊕Bool)),
       F (U (.inr (.inr (.inr ag))))=U (.inr (.inr ag))->F (U (.inl ((ops.length:Int),(i:Int),(c0,c1,c2,c3,c4,c5,c6),(m0,m1,m2,m3,m4,m5,m6,m7),ops)))=U (.inl ((ops.length:Int),((i+1:Nat):Int),(c0,c1,c2,c3,c4,c5,c6),(m0,m1,m2,m3,m4,m5,m6,m7),ops)) ->
       (3<=x1/\x1<=6->x2<m4)->(14<=x1/\x1<=18->0<=cr ops x2) ->
       (((3<=x1/\x1<=6->x2<m4)/\(14<=x1/\x1<=18->0<=cr ops x2)/\(cK x1≠0->(bt c0 x2).1=cK x1))/\F (if cK x1=0 then U (.inl ((ops.length:Int),(i:Int),(c0,c1,c2,c3,c4,c5,c6),(m0,m1,m2,m3,m4,m5,m6,m7),ops))else if(bt c0 x2).1=cK x1 then U (.inl ((ops.length:Int),(i:Int),(c0,c1,c2,c3,c4,c5,c6),(m0,m1,m2,m3,m4,m5,m6,m7),ops))else U (.inr (.inr (.inr ag))))=U (.inl ((ops.length:Int),((i+1:Nat):Int),(c0,c1,c2,c3,c4,c5,c6),(m0,m1,m2,m3,m4,m5,m6,m7),ops))) \/
       (¬((3<=x1/\x1<=6->x2<m4)/\(14<=x1/\x1<=18->0<=cr ops x2)/\(cK x1≠0->(bt c0 x2).1=cK x1))/\F (if cK x1=0 then U (.inl ((ops.length:Int),(i:Int),(c0,c1,c2,c3,c4,c5,c6),(m0,m1,m2,m3,m4,m5,m6,m7),ops))else if(bt c0 x2).1=cK x1 then U (.inl ((ops.length:Int),(i:Int),(c0,c1,c2,c3,c4,c5,c6),(m0,m1,m2,m3,m4,m5,m6,m7),ops))else U (.inr (.inr (.inr ag))))=U (.inr (.inr ag))):=by
      intro F f1 f2 k1 k2;by_cases h3:cK x1=0
      ·rw[if_pos h3];exact .inl ⟨⟨k1,k2,fun h=>absurd h3 h⟩,f2⟩
      ·rw[if_neg h3];by_cases h4:(bt c0 x2).1=cK x1
       ·rw[if_pos h4];exact .inl ⟨⟨k1,k2,fun _=>h4⟩,f2⟩
       ·rw[if_neg h4];exact .inr ⟨fun h=>h4 (h.2.2 h3),f1⟩
     have f2:bindE (U (.inl ((ops.length:Int),(i:Int),(c0,c1,c2,c3,c4,c5,c6),(m0,m1,m2,m3,m4,m5,m6,m7),ops)):Option ((Int×Int×Cls×Mth×List InsP)⊕((Int×Int×Cls×Mth×List InsP)⊕((List InsP×Cls×Mth)⊕Bool)))) (fun x=>U (.inl (x.1,IntKind.wrap .i64 (x.2.1+1),x.2.2.1,x.2.2.2.1,x.2.2.2.2)))=U (.inl ((ops.length:Int),((i+1:Nat):Int),(c0,c1,c2,c3,c4,c5,c6),(m0,m1,m2,m3,m4,m5,m6,m7),ops)):=by
      simp only[aJ]
      rw[wI (by omega) (by omega)];rfl
     by_cases k1:3<=x1/\x1<=6
     ·rw[if_pos k1];by_cases k2:m4<=x2
      ·rw[if_pos k2];exact .inr ⟨fun h=>by have:=h.1 k1;omega,rfl⟩
      ·rw[if_neg k2];have k3:¬(14<=x1/\x1<=18):=by omega
       rw[if_neg k3];exact hfin (bindE · _) rfl f2 (fun _=>by omega) fun h=>absurd h k3
     ·rw[if_neg k1];by_cases k3:14<=x1/\x1<=18
      ·rw[if_pos k3];by_cases k4:cr ops x2<0
       ·rw[if_pos k4];exact .inr ⟨fun h=>by have:=h.2.1 k3;omega,rfl⟩
       ·rw[if_neg k4];exact hfin (bindE · _) rfl f2 (fun h=>absurd h k1) fun _=>by omega
      ·rw[if_neg k3];exact hfin (bindE · _) rfl f2 (fun h=>absurd h k1) fun h=>absurd h k3
    ·intro hins;have hins:=(eM (P:=fun x=>jH c0 m4 ops x) (0,0,0)).2 hins;simp only
     refine ji (fun i=>(ops,m6,(m6.length:Int),(i:Int),(c0,c1,c2,c3,c4,c5,c6),m0,m1,m2,m3,m4,m5,m6,m7)) (ops,(c0,c1,c2,c3,c4,c5,c6),m0,m1,m2,m3,m4,m5,m6,m7) ag m6.length (fun i=>iU c0 m5.length ops (m6.getD i (0,0,0,0))) rfl ?_ ?_ ?_ ?_
     ·simp only[bH,if_false]
     ·intro i hi;have i1:(i:Int)<m6.length:=by omega
      have i0:(0:Int)<=i:=by omega
      simp only[i1,i0,if_true,ay,ba,aD,aS]
      rw[ep (0,0,0,0) hi];generalize m6.getD i (0,0,0,0)=x;obtain⟨t0,t1,t2,t3⟩:=x;have hI:iU c0 m5.length ops (t0,t1,t2,t3)↔(t0<t1/\0<=cr ops t0/\(t1=(m5.length:Int)\/0<=cr ops t1)/\0<=cr ops t2/\(t3=0\/cW c0 t3)):=Iff.rfl;rw[hI];simp only[DV _ _ hol,z162,ax,aG,bW]
      have f2:bindE (U (.inl (ops,m6,(m6.length:Int),(i:Int),(c0,c1,c2,c3,c4,c5,c6),m0,m1,m2,m3,m4,m5,m6,m7)):Option ((List InsP×List Trp×Int×Int×Cls×Mth)⊕((List InsP×List Trp×Int×Int×Cls×Mth)⊕((List InsP×Cls×Mth)⊕Bool)))) (fun x=>U (.inl (x.1,x.2.1,x.2.2.1,IntKind.wrap .i64 (x.2.2.2.1+1),x.2.2.2.2.1,x.2.2.2.2.2)))=U (.inl (ops,m6,(m6.length:Int),((i+1:Nat):Int),(c0,c1,c2,c3,c4,c5,c6),m0,m1,m2,m3,m4,m5,m6,m7)):=by
       simp only[aJ]
       rw[wI (by omega) (by omega)];rfl
      by_cases k1:t1<=t0
      ·rw[if_pos k1];exact .inr ⟨fun h=>by omega,rfl⟩
      rw[if_neg k1];by_cases k2:cr ops t0<0
      ·rw[if_pos k2];exact .inr ⟨fun h=>by omega,rfl⟩
      rw[if_neg k2];by_cases k3:cr ops t2<0
      ·rw[if_pos k3];exact .inr ⟨fun h=>by omega,rfl⟩
      rw[if_neg k3];by_cases k4:cr ops t1<0
      ·rw[if_pos k4];by_cases k5:t1=(m5.length:Int)
       ·rw[if_pos k5];by_cases k6:t3=0
        ·rw[if_pos k6];exact .inl ⟨⟨by omega,by omega,.inl k5,by omega,.inl k6⟩,f2⟩
        ·rw[if_neg k6];by_cases k7:(bt c0 t3).1=2
         ·rw[if_pos k7];exact .inl ⟨⟨by omega,by omega,.inl k5,by omega,.inr (hok.cls.2 k7)⟩,f2⟩
         ·rw[if_neg k7];exact .inr ⟨fun h=>k7 (h.2.2.2.2.resolve_left k6).1,rfl⟩
       ·rw[if_neg k5];exact .inr ⟨fun h=>h.2.2.1.elim k5 fun h=>by omega,rfl⟩
      ·rw[if_neg k4];by_cases k6:t3=0
       ·rw[if_pos k6];exact .inl ⟨⟨by omega,by omega,.inr (by omega),by omega,.inl k6⟩,f2⟩
       ·rw[if_neg k6];by_cases k7:(bt c0 t3).1=2
        ·rw[if_pos k7];exact .inl ⟨⟨by omega,by omega,.inr (by omega),by omega,.inr (hok.cls.2 k7)⟩,f2⟩
        ·rw[if_neg k7];exact .inr ⟨fun h=>k7 (h.2.2.2.2.resolve_left k6).1,rfl⟩
     ·intro htr;have htr:=(eM (P:=fun x=>iU c0 m5.length ops x) (0,0,0,0)).2 htr;simp only
      refine ji (fun i=>(ops,(if i=0 then(-1:Int)else(m7.getD (i-1) (0,[],[])).1),m7,(m7.length:Int),(i:Int),(c0,c1,c2,c3,c4,c5,c6),m0,m1,m2,m3,m4,m5,m6,m7)) () ag m7.length (rq c0 (m0,m1,m2,m3,m4,m5,m6,m7) ops) rfl ?_ ?_ ?_ ?_
      ·simp only[bH,if_false]
      ·intro i hi;have i1:(i:Int)<m7.length:=by omega
       have i0:(0:Int)<=i:=by omega
       have hF:rq c0 (m0,m1,m2,m3,m4,m5,m6,m7) ops i↔(0<=cr ops (m7.getD i (0,[],[])).1/\(0<i->(m7.getD (i-1) (0,[],[])).1<(m7.getD i (0,[],[])).1)/\((m7.getD i (0,[],[])).2.1.length:Int)=m4/\((m7.getD i (0,[],[])).2.2.length:Int)<=m3/\dW c0 (m7.getD i (0,[],[])).2.1/\dW c0 (m7.getD i (0,[],[])).2.2):=Iff.rfl;have hff:rm (m7.getD i (0,[],[])):=(eM (P:=rm) (0,[],[])).1 hfr i hi
       have hnx:∀y:Int,y=(m7.getD i (0,[],[])).1->y=(if i+1=0 then(-1:Int)else(m7.getD (i+1-1) (0,[],[])).1):=by
        intro y hy;rw[if_neg (by omega),Nat.add_sub_cancel];exact hy
       simp only[i1,i0,if_true,ay,aD,aS]
       rw[ep (0,[],[]) hi];rw[hF];generalize m7.getD i (0,[],[])=x at hff hnx
       have hpr:(x.1<=(if i=0 then(-1:Int)else(m7.getD (i-1) (0,[],[])).1))↔¬(0<i->(m7.getD (i-1) (0,[],[])).1<x.1):=by
        have:=hff.1.1;by_cases h0:i=0
        ·rw[if_pos h0];exact iff_of_false (by omega) fun h=>h fun h'=>absurd h' (by omega)
        ·rw[if_neg h0];exact⟨fun h h'=>by have:=h' (by omega);omega,fun h=>Classical.byContradiction fun h'=>h fun _=>by omega⟩
       generalize (if i=0 then(-1:Int)else(m7.getD (i-1) (0,[],[])).1)=before at hpr;have z1:pC ((c0,c1,c2,c3,c4,c5,c6),x.2.1)=U (aa (dW c0 x.2.1)):=Lf (c0,c1,c2,c3,c4,c5,c6) x.2.1 hp hok (by have:=hff.2.1.1;omega) fun k hk=>(hff.2.1.2 k hk).1
       have z2:pC ((c0,c1,c2,c3,c4,c5,c6),x.2.2)=U (aa (dW c0 x.2.2)):=Lf (c0,c1,c2,c3,c4,c5,c6) x.2.2 hp hok (by have:=hff.2.2.1;omega) fun k hk=>(hff.2.2.2 k hk).1
       simp only[DV _ _ hol,z1,z2,ax,bW,aG]
       by_cases k1:cr ops x.1<0
       ·rw[if_pos k1];exact .inr ⟨fun h=>by omega,rfl⟩
       rw[if_neg k1];by_cases k2:x.1<=before
       ·rw[if_pos k2];exact .inr ⟨fun h=>(hpr.1 k2) h.2.1,rfl⟩
       rw[if_neg k2];have k2':=Classical.not_not.1 fun h=>k2 (hpr.2 h)
       by_cases k3:(x.2.1.length:Int)=m4
       ·rw[if_pos k3];by_cases k4:m3<(x.2.2.length:Int)
        ·rw[if_pos k4];exact .inr ⟨fun h=>by omega,rfl⟩
        rw[if_neg k4];by_cases k5:dW c0 x.2.1
        ·rw[if_pos k5];by_cases k6:dW c0 x.2.2
         ·rw[if_pos k6];refine .inl ⟨⟨by omega,k2',k3,by omega,k5,k6⟩,?_⟩;simp only[aJ]
          rw[wI (by omega) (by omega),<-hnx x.1 rfl];rfl
         ·rw[if_neg k6];exact .inr ⟨fun h=>k6 h.2.2.2.2.2,rfl⟩
        ·rw[if_neg k5];exact .inr ⟨fun h=>k5 h.2.2.2.2.1,rfl⟩
       ·rw[if_neg k3];exact .inr ⟨fun h=>k3 h.2.2.1,rfl⟩
      ·intro h;exact sd (by rw[hB];exact iff_of_true rfl ⟨rfl,by omega,h2,hins,htr,h⟩)
      ·intro h;exact sd (by rw[hB];exact iff_of_false (by simp) fun h'=>h h'.2.2.2.2.2)
     ·intro htr;exact sd (by rw[hB];exact iff_of_false (by simp) fun h=>htr ((eM (P:=fun x=>iU c0 m5.length ops x) (0,0,0,0)).1 h.2.2.2.2.1))
    ·intro hins;exact sd (by rw[hB];exact iff_of_false (by simp) fun h=>hins ((eM (P:=fun x=>jH c0 m4 ops x) (0,0,0)).1 h.2.2.2.1))
   ·rw[if_neg h2,aV];exact sd (by rw[hB];exact iff_of_false (by simp) fun h=>h2 h.2.2.1)
end
end Go.Proofs.YtmjlecabpbiigaaGreat
section
namespace Go.Stow
def Lg {c:ClsP}(h:¬ ei c.1 c.1.length 0=0):dR c=2:=by unfold dR;rw[if_pos h]
def Lh {c:ClsP}(h1:ei c.1 c.1.length 0=0)(h2:¬ fM c):dR c=3:=by
 unfold dR;rw[if_neg (show ¬ei c.1 c.1.length 0≠0 from fun h=>h h1),if_pos h2]
def Li {c:ClsP}(h1:ei c.1 c.1.length 0=0)(h2:fM c)(h3:¬ jG c):dR c=4:=by
 unfold dR;rw[if_neg (show ¬ei c.1 c.1.length 0≠0 from fun h=>h h1),if_neg (show ¬ ¬fM c from fun h=>h h2),if_pos h3]
def Lj {c:ClsP}(h1:ei c.1 c.1.length 0=0)(h2:fM c)(h3:jG c)(h4:¬ kF c):dR c=5:=by
 unfold dR;rw[if_neg (show ¬ei c.1 c.1.length 0≠0 from fun h=>h h1),if_neg (show ¬ ¬fM c from fun h=>h h2),if_neg (show ¬ ¬jG c from fun h=>h h3),if_pos h4]
def Lk {c:ClsP}(h1:ei c.1 c.1.length 0=0)(h2:fM c)(h3:jG c)(h4:kF c)(h5:¬ mR c):dR c=6:=by
 unfold dR;rw[if_neg (show ¬ei c.1 c.1.length 0≠0 from fun h=>h h1),if_neg (show ¬ ¬fM c from fun h=>h h2),if_neg (show ¬ ¬jG c from fun h=>h h3),if_neg (show ¬ ¬kF c from fun h=>h h4),if_pos h5]
def DW {c:ClsP}(h1:ei c.1 c.1.length 0=0)(h2:fM c)(h3:jG c)(h4:kF c)(h5:mR c):dR c=0:=by
 unfold dR;rw[if_neg (show ¬ei c.1 c.1.length 0≠0 from fun h=>h h1),if_neg (show ¬ ¬fM c from fun h=>h h2),if_neg (show ¬ ¬jG c from fun h=>h h3),if_neg (show ¬ ¬kF c from fun h=>h h4),if_neg (show ¬ ¬mR c from fun h=>h h5)]
end Go.Stow
namespace Go.Proofs.YtmjlecabpbiigaaGreat
open Go Go.AM Go.TM Go.Stow
def Ll {c:Cls}(h:gS c):cz c.1:=by
 obtain⟨⟨f1,_⟩,h1,_⟩:=h;exact⟨by omega,fun x hx=>by have:=(h1 x hx).2.1;omega⟩
def DX (c:Cls)(h:gS c):pq c=U (dR c):=by
 have hp:=Ll h;have hb:=n6 h;obtain⟨⟨f1,f2,f3,f4⟩,_,hfl,_,_,_,_,hms⟩:=h;have hmf:∀m∈c.2.2.2.2.2.2,0<=m.1/\m.1<=255:=fun m hm=>(hms m hm).1
 have z15:=q15 c.1 hp f1;have z175:=zcB c hp hfl (by omega);have z176:=zcE c hp hfl (by omega);have z177:=zcK c hp hfl (by omega) hmf;have hbm:=hb.2.2.2.2;obtain⟨c0,c1,c2,c3,c4,c5,c6⟩:=c;simp only at f1 f2 f3 f4 hfl hmf hp z15 hbm;simp only[pq,z15,z175,z176,z177,ax,bW,aG]
 by_cases h1:ei c0 c0.length 0=0
 ·rw[if_pos h1];by_cases h2:fM (c0,c1,c2,c3,c4,c5,c6)
  ·rw[if_pos h2];by_cases h3:jG (c0,c1,c2,c3,c4,c5,c6)
   ·rw[if_pos h3];by_cases h4:kF (c0,c1,c2,c3,c4,c5,c6)
    ·rw[if_pos h4];refine ji (fun i=>((i:Int),c0,c1,c2,c3,c4,c5,c6)) () 6 c6.length (fun i=>¬aT (c6.getD i bl).1 8->eo c0 (c6.getD i bl)) rfl ?_ ?_ ?_ ?_
     ·simp only[bH,if_false]
     ·intro i hi;have i1:(i:Int)<c6.length:=by omega
      have i0:(0:Int)<=i:=by omega
      simp only[i1,i0,if_true,ay,aD,aS]
      rw[ep bl hi];have hm1:=(eM (P:=fun m:Mth=>0<=m.1/\m.1<=255) bl).1 hmf i hi;have hm2:=(eM (P:=ld) bl).1 hbm i hi;generalize c6.getD i bl=x at hm1 hm2;have z:tF ((c0,c1,c2,c3,c4,c5,c6),x.1,x.2.1,x.2.2.1,x.2.2.2.1,x.2.2.2.2.1,x.2.2.2.2.2.1,x.2.2.2.2.2.2.1,x.2.2.2.2.2.2.2)=U (aa (¬aT x.1 8->eo c0 x)):=zcW (c0,c1,c2,c3,c4,c5,c6) x hp hm1 hm2;rw[z];simp only[ax,aG]
      by_cases e:¬aT x.1 8->eo c0 x
      ·rw[if_pos e,wI (by omega) (by omega)];exact .inl ⟨e,rfl⟩
      ·rw[if_neg e];exact .inr ⟨e,rfl⟩
     ·intro hall;rw[DW h1 h2 h3 h4 ((eM (P:=fun m:Mth=>¬aT m.1 8->eo c0 m) bl).2 hall)]
     ·intro hall;rw[Lk h1 h2 h3 h4 fun h:mR _=>hall ((eM (P:=fun m:Mth=>¬aT m.1 8->eo c0 m) bl).1 h)]
    ·rw[if_neg h4,Lj h1 h2 h3 h4]
   ·rw[if_neg h3,Li h1 h2 h3]
  ·rw[if_neg h2,Lh h1 h2]
 ·rw[if_neg h1,Lg h1]
def pL {c:Cls}(h:put c≠[]):gS c:=by
 refine Classical.byContradiction fun hn=>h (kE fun hh=>hn hh.1)
def zcY (c:Cls)(h:je c):yS c=U (if put c=[]then 1 else dR c):=by
 have z:=KA c h;have z88:=fun hp:put c≠[]=>DX c (pL hp)
 obtain⟨c0,c1,c2,c3,c4,c5,c6⟩:=c;simp only[yS,z,ax,aG]
 by_cases hp:put (c0,c1,c2,c3,c4,c5,c6)=[]
 ·rw[if_pos hp,if_pos hp]
 ·rw[if_neg hp,if_neg hp,z88 hp,ax]
def Lm (c:Cls)(h:je c):F9 c=U (if put c=[]then 1 else dR c):=by
 have z:=Ky c h;by_cases hpu:put c=[]
 ·obtain⟨c0,c1,c2,c3,c4,c5,c6⟩:=c;simp only[F9,z,ax,aG]
  rw[if_pos hpu,if_pos hpu]
 have hf:=pL hpu;have hp:=Ll hf;have hb:=h;obtain⟨⟨f1,f2,f3,f4⟩,_,hfl,_,_,_,_,hms⟩:=hf;have hmf:∀m∈c.2.2.2.2.2.2,0<=m.1/\m.1<=255:=fun m hm=>(hms m hm).1
 have z14:=q14 c.1 hp f1;have z83:=fun hok=>q83 c hp hfl (by omega) hok
 have z84:=fun i hi=>q84 c i hp hfl (by omega) hi
 have z85:=fun i hi=>q85 c i hp hfl (by omega) hmf hi
 have hfi:=zcF c;have hmi:=zcG c;have hbm:=hb.2.2.2.2;obtain⟨c0,c1,c2,c3,c4,c5,c6⟩:=c;simp only at f1 f2 f3 f4 hfl hmf hp z14 hbm z84 z85 hfi hmi hms z83;simp only[F9,z,z14,ax,bW,aG]
 rw[if_neg hpu,if_neg hpu];by_cases h1:ei c0 c0.length 0=0
 ·rw[if_pos h1];have hok:=KI.1 h1;rw[z83 hok,ax,aG];by_cases h2:fM (c0,c1,c2,c3,c4,c5,c6)
  ·rw[if_pos h2];refine ji (fun i=>((c5.length:Int),(i:Int),c0,c1,c2,c3,c4,c5,c6)) (c0,c1,c2,c3,c4,c5,c6) 4 c5.length (rB (c0,c1,c2,c3,c4,c5,c6)) rfl ?_ ?_ ?_ ?_
   ·simp only[bH,if_false]
   ·intro i hi;have i1:(i:Int)<c5.length:=by omega
    simp only[i1,if_true,z84 i hi,ax,aG]
    by_cases e:rB (c0,c1,c2,c3,c4,c5,c6) i
    ·rw[if_pos e,wI (by omega) (by omega)];exact .inl ⟨e,rfl⟩
    ·rw[if_neg e];exact .inr ⟨e,rfl⟩
   ·intro hall0;simp only
    refine ji (fun i=>((c6.length:Int),(i:Int),c0,c1,c2,c3,c4,c5,c6)) (c0,c1,c2,c3,c4,c5,c6) 5 c6.length (rC (c0,c1,c2,c3,c4,c5,c6)) rfl ?_ ?_ ?_ ?_
    ·simp only[bH,if_false]
    ·intro i hi;have i1:(i:Int)<c6.length:=by omega
     simp only[i1,if_true,z85 i hi,ax,aG]
     by_cases e:rC (c0,c1,c2,c3,c4,c5,c6) i
     ·rw[if_pos e,wI (by omega) (by omega)];exact .inl ⟨e,rfl⟩
     ·rw[if_neg e];exact .inr ⟨e,rfl⟩
    ·intro hall2;simp only
     refine ji (fun i=>(c6,(c6.length:Int),(i:Int),c0,c1,c2,c3,c4,c5,c6)) () 6 c6.length (fun i=>¬aT (c6.getD i bl).1 8->eo c0 (c6.getD i bl)) rfl ?_ ?_ ?_ ?_
     ·simp only[bH,if_false]
     ·intro i hi;have i1:(i:Int)<c6.length:=by omega
      have i0:(0:Int)<=i:=by omega
      simp only[i1,i0,if_true,ay,aD,aS]
      rw[ep bl hi];have hm1:=(eM (P:=fun m:Mth=>0<=m.1/\m.1<=255) bl).1 hmf i hi;have hm2:=(eM (P:=ld) bl).1 hbm i hi;have hm3:=(eM (P:=lT) bl).1 hms i hi;have hm4:cj c0 (c6.getD i bl).2.2.1 Dsc:=(hall2 i hi).2.1;generalize c6.getD i bl=x at hm1 hm2 hm3 hm4;have z87:t9 ((c0,c1,c2,c3,c4,c5,c6),x.1,x.2.1,x.2.2.1,x.2.2.2.1,x.2.2.2.2.1,x.2.2.2.2.2.1,x.2.2.2.2.2.2.1,x.2.2.2.2.2.2.2)=U (aa (eo c0 x)):=q87 (c0,c1,c2,c3,c4,c5,c6) x hp hok hm1 hm2 hm3.2.2.2.2.2.1 hm3.2.2.2.2.2.2.2.2 hm4;rw[K9 _ hm1.1 hm1.2,ax,aG];by_cases e1:aT x.1 8
      ·rw[if_pos e1];simp only[aJ]
       rw[wI (by omega) (by omega)];exact .inl ⟨fun h=>absurd e1 h,rfl⟩
      ·rw[if_neg e1,z87,ax,aG];by_cases e:eo c0 x
       ·rw[if_pos e];simp only[aJ]
        rw[wI (by omega) (by omega)];exact .inl ⟨fun _=>e,rfl⟩
       ·rw[if_neg e];exact .inr ⟨fun h=>e (h e1),rfl⟩
     ·intro hall;rw[DW h1 h2 (hfi.1 hall0) (hmi.1 hall2) ((eM (P:=fun m:Mth=>¬aT m.1 8->eo c0 m) bl).2 hall)]
     ·intro hall;rw[Lk h1 h2 (hfi.1 hall0) (hmi.1 hall2) fun h:mR _=>hall ((eM (P:=fun m:Mth=>¬aT m.1 8->eo c0 m) bl).1 h)]
    ·intro hall2;rw[Lj h1 h2 (hfi.1 hall0) fun h=>hall2 (hmi.2 h)]
   ·intro hall;rw[Li h1 h2 fun h=>hall (hfi.2 h)]
  ·rw[if_neg h2,Lh h1 h2]
 ·rw[if_neg h1,Lg h1]
end Go.Proofs.YtmjlecabpbiigaaGreat
end
namespace Go.Proofs.YtmjlecabpbiigaaGreat
section
open Go Go.AM Go.TM Go.Stow
def Ln {n:Int}(h0:0<=n)(h1:n<=255):IntKind.wrap .u8 n=n:=by
 have h:IntKind.wrap .u8 n=n % 256:=by
  simp[IntKind.wrap,IntKind.bits,IntKind.signed]
 rw[h];omega
def lr {n:Int}(h:i1 n)(r:List UInt8):g1 (w1 n++r)=U (n,r):=by
 unfold i1 at h;unfold w1;simp only[cF,dy,g1,Ln h.1 h.2,UInt8.toNat_ofNat',aF,bm,and_true]
 omega
def iq {n:Int}(h:i2 n)(r:List UInt8):g2 (tS n++r)=U (n,r):=by
 unfold i2 at h;have hd:Int.tdiv n 256=n / 256:=Int.tdiv_eq_ediv_of_nonneg h.1;have hm:Int.tmod n 256=n % 256:=Int.tmod_eq_emod_of_nonneg h.1;unfold tS g2;rw[hd,hm,wI (by omega) (by omega),bD,lr (n:=n / 256) ⟨by omega,by omega⟩,bh,lr (n:=n % 256) ⟨by omega,by omega⟩,bh];simp only[aF,bm,and_true]
 omega
def DY (t r:List UInt8):gT (t.length:Int) (t++r)=U (t,r):=by
 unfold gT;rw[if_pos (by simp only[aP];omega),aS,List.take_left,List.drop_left]
def Lo {β:Type}{g:List UInt8->Option (β×List UInt8)}{p:β->List UInt8}:∀(l:List β) (r:List UInt8),(∀x∈l,∀r,g (p x++r)=U (x,r))->bR g l.length ((l.map p).flatten++r)=U (l,r)
 |[],r,_=>rfl
 | x::l,r,h=>by
   simp only[bF,List.flatten_cons,bL,bR,bD]
   rw[h x (by simp),bh,Lo l r fun y hy=>h y (by simp[hy])];rfl
def pM {β:Type}{g:List UInt8->Option (β×List UInt8)}{p:β->List UInt8}{most:Int}{l:List β}(hl:(l.length:Int)<=most)(h255:most<=255)(h:∀ x∈l,∀ r,g (p x++r)=U (x,r))(r:List UInt8) :
  cP most g (w1 l.length++((l.map p).flatten++r))=U (l,r):=by
 unfold cP;rw[lr ⟨by omega,by omega⟩,bh,if_neg (by simp only;omega)];simp only[aS]
 exact Lo l r h
def uq (e:Cst):Prop:=if e.1=1 then e.2.2.1=0/\e.2.2.2=0 else if e.1=2 then e.2.1=[]/\e.2.2.2=0 else e.2.1=[]
def zcZ {p:List Cst}{e:Cst}(h:fD p e):uq e:=by
 unfold fD at h;unfold uq;by_cases h1:e.1=1
 ·rw[if_pos h1]at h ⊢;exact⟨h.1,h.2.1⟩
 ·rw[if_neg h1]at h ⊢;by_cases h2:e.1=2
  ·rw[if_pos h2]at h ⊢;exact⟨h.1,h.2.1⟩
  ·rw[if_neg h2]at h ⊢;split at h
   ·exact h.1
   ·split at h
    ·exact h.1
    ·split at h
     ·exact h.1
     ·exact h.elim
def zc0 {e:Cst}(h:zc e)(hc:uq e)(r:List UInt8):gy (gA tS e++r)=U (e,r):=by
 obtain⟨k,t,a,b⟩:=e;obtain⟨⟨h0,h1⟩,h2,h3,h4⟩:=h;simp only at h0 h1 h2 h3 h4;unfold uq at hc;simp only at hc;unfold gy gA;simp only
 rw[bD,lr ⟨by omega,by omega⟩,bh];unfold iJ;simp only
 by_cases k1:k=1
 ·rw[if_pos k1]at hc;obtain⟨rfl,rfl⟩:=hc;rw[if_pos k1,if_pos k1,bD,lr ⟨by omega,by omega⟩,bh,DY];simp only[bh,k1]
 ·rw[if_neg k1]at hc;rw[if_neg k1,if_neg k1];by_cases k2:k=2
  ·rw[if_pos k2]at hc;obtain⟨rfl,rfl⟩:=hc;rw[if_pos k2,if_pos k2,iq h3];simp only[bh,k2]
  ·rw[if_neg k2]at hc;subst hc;rw[if_neg k2,if_neg k2,if_pos (by omega),bD,iq h3,bh,iq h4];rfl
def zy (k:Knd):Prop:=k.1≠3->k.2=0
def zc1 {k:Knd}(h:Dt k)(hc:zy k)(r:List UInt8):eh (iO tS k++r)=U (k,r):=by
 obtain⟨a,b⟩:=k;obtain⟨⟨h0,h1⟩,h2⟩:=h;simp only at h0 h1 h2;unfold eh iO;simp only
 rw[bD,lr ⟨by omega,by omega⟩,bh];simp only
 by_cases k3:a=3
 ·rw[if_pos k3,if_pos k3,iq h2];simp only[bh,k3]
 ·have:b=0:=hc k3;subst this;rw[if_neg k3,if_neg k3,if_neg (by omega)];rfl
def zc2 {t:Trp}(h:Du t)(r:List UInt8):iK (gC tS t++r)=U (t,r):=by
 obtain⟨h1,h2,h3,h4⟩:=h;unfold iK gC;simp only[bD,iq h1,iq h2,iq h3,iq h4,bh]
def Lp {l:List Knd}(h:zd l)(hc:∀ k∈l,zy k)(r:List UInt8):cP 8 eh (kD tS l++r)=U (l,r):=by
 unfold kD;rw[bD];exact pM (by have:=h.1;omega) (by omega) (fun k hk r=>zc1 (h.2 k hk) (hc k hk) r) r
def DZ (f:Frm):Prop:=(∀k∈f.2.1,zy k)/\∀k∈f.2.2,zy k
def zc3 {f:Frm}(h:rm f)(hc:DZ f)(r:List UInt8):iL (fL tS f++r)=U (f,r):=by
 obtain⟨h1,h2,h3⟩:=h;unfold iL fL;simp only[bD]
 rw[iq h1,bh];simp only
 rw[Lp h2 hc.1,bh];simp only
 rw[Lp h3 hc.2,bh]
def zc4 {f:Fld}(h:Dv f)(r:List UInt8):iM (jE tS f++r)=U (f,r):=by
 obtain⟨h1,h2,h3⟩:=h;unfold iM jE;simp only[bD,lr h1,iq h2,iq h3,bh]
def D0 (m:Mth):Prop:=(gR m.1->m.2.2.2.1=0/\m.2.2.2.2.1=0/\m.2.2.2.2.2.1=[]/\m.2.2.2.2.2.2.1=[]/\m.2.2.2.2.2.2.2=[])/\∀f∈m.2.2.2.2.2.2.2,DZ f
def zc5 {m:Mth}(h:lT m)(hc:D0 m)(r:List UInt8):f9 (dI tS cH m++r)=U (m,r):=by
 obtain⟨f,n,d,s,lo,code,tr,fr⟩:=m;obtain⟨h1,h2,h3,h4,h5,h6,⟨h7,h8⟩,h9,h10⟩:=h;simp only at h1 h2 h3 h4 h5 h6 h7 h8 h9 h10;unfold f9 dI;simp only[bD]
 rw[lr h1,bh];unfold m1;simp only
 rw[iq h2,bh];unfold m2;simp only
 rw[iq h3,bh];unfold m3;simp only
 by_cases ha:gR f
 ·obtain⟨e1,e2,e3,e4,e5⟩:=hc.1 ha;simp only at e1 e2 e3 e4 e5;subst e1 e2 e3 e4 e5;rw[if_pos ((ru h1.1 h1.2).2 ha),if_pos ha];rfl
 ·rw[if_neg fun h=>ha ((ru h1.1 h1.2).1 h),if_neg ha];unfold rf;simp only[bD]
  rw[lr h4,bh];unfold b3;simp only
  rw[lr h5,bh];unfold b4;simp only
  rw[iq ⟨by omega,by omega⟩,bh];unfold b5;simp only
  rw[if_neg (by omega),DY,bh];unfold b6;simp only
  rw[pM (by omega) (by omega) (fun t ht r=>zc2 (h8 t ht) r),bh];unfold b7;simp only
  rw[pM (by omega) (by omega) (fun t ht r=>zc3 (h10 t ht) (hc.2 t ht) r),bh]
def zc6 {c:Cls}(h:gS c)(hp:∀ e∈c.1,uq e)(hm:∀ m∈c.2.2.2.2.2.2,D0 m):fh (cJ tS cH c)=U (c,[]):=by
 obtain⟨p,f,n,s,fa,fi,ms⟩:=c;obtain⟨⟨k1,k2,k3,k4⟩,h1,h2,h3,h4,h5,h6,h7⟩:=h;simp only at k1 k2 k3 k4 h1 h2 h3 h4 h5 h6 h7 hp hm;unfold fh cJ;have e4:((4:Int))=(([83,84,79,87]:List UInt8).length:Int):=rfl;rw[e4,DY,bh];unfold iN;simp only[not_true,if_false]
 unfold lg;rw[pM (by omega) (by omega) (fun e he r=>zc0 (h1 e he) (hp e he) r),bh];unfold jf;simp only
 rw[lr h2,bh];unfold mM;simp only
 rw[iq h3,bh];unfold f_;simp only
 rw[iq h4,bh];unfold y_;simp only
 rw[pM (by omega) (by omega) (fun e he r=>iq (h5 e he) r),bh];unfold ik;simp only
 rw[pM (by omega) (by omega) (fun e he r=>zc4 (h6 e he) r),bh];unfold j5;simp only
 have:=pM (g:=f9) (p:=dI tS cH) (most:=6) (l:=ms) (by omega) (by omega) (fun e he r=>zc5 (h7 e he) (hm e he) r) [];rw[cB]at this;rw[this,bh]
end
end Go.Proofs.YtmjlecabpbiigaaGreat
