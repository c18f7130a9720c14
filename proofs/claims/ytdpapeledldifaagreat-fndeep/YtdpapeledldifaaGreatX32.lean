/- Part 33 of the proof of FnDeep; no condition. -/
import Derived.Test.YtdpapeledldifaaGreatX31
open Option renaming some -> U
open Decidable renaming decide -> aa
open Bool renaming true -> ad
open Bool renaming false -> ag
open Option renaming none -> aj
open Sum renaming inl -> an
open Sum renaming inr -> ao
open List renaming length -> au
open Int renaming toNat -> aH
open List renaming drop -> kZ
open List renaming take -> nY
set_option autoImplicit true
set_option relaxedAutoImplicit true
set_option linter.all false
namespace Go.Proofs.YtdpapeledldifaaGreat
section
open Go Go.AM Go.TM
set_option maxRecDepth 10000
def gh {α R:Type}{l:List α}{n:Nat}{x:α}{k:α->Option R}(e:l[n]? = U x):aq l n k=k x:=by
 show(match l[n]? with|some x=>k x|none=>aj)=k x;rw[e]
def Pl (K:Nat)(p:List Cst):Prop:=p.length<=K/\∀x∈p,x.2.1.length<=60
def Pl.mono {K L:Nat}{p:List Cst}(h:Pl K p)(hc:K<=L):Pl L p:=⟨Nat.le_trans h.1 hc,h.2⟩
def Pl.app {K:Nat}{p:List Cst}{x:Cst}(h:Pl K p)(hx:x.2.1.length<=60):Pl (K+1) (p++[x]):=by
 refine⟨by have:=h.1;simp only[aR,bD,cW];omega,fun y hy=>?_⟩;simp only[List.mem_append,List.mem_singleton]at hy;rcases hy with hy|rfl
 ·exact h.2 y hy
 ·exact hx
def uj {s:List UInt8}(hs:s.length<=1000000000000):ae (nH s) fun _=>True:=by
 unfold nH;refine ae.bindE (fun y=>y.1=s) (ae.loop (fun z=>z.1=s/\0<=z.2.2/\z.2.2<=(s.length:Int)) (fun z=>s.length-z.2.2.toNat) ?_ ⟨rfl,by simp,by simp⟩) ?_
 ·rintro⟨s1,n,i⟩ ⟨rfl,h0,h1⟩;simp only at h0 h1 hs;refine aw (fun h=>?_) (fun h=>ae.ret rfl);simp only[aI]at h;refine ae.bindE (fun y=>y=(s1,n,i)) ?_ ?_
  ·exact aA (by simpa using h0) (ae.at (by omega) fun x _=>aw (fun _=>ae.ret trivial) fun _=>aA (by simpa using h0) (ae.at (by omega) fun x1 _=>aw (fun _=>ae.ret trivial) fun _=>aw (fun _=>ae.ret trivial) fun _=>ae.ret rfl))
  ·rintro _ rfl;refine aA (by simpa using h0) (ae.at (by omega) fun x _=>ae.ret ⟨⟨rfl,?_,?_⟩,?_⟩)<;>(simp only;rw[wrapI (x:=i+1) (by omega) (by omega)];omega)
 ·rintro⟨s1,n⟩ rfl;refine aw (fun _=>ae.ret trivial) fun _=>aw (fun h=>?_) fun _=>ae.ret trivial
  simp only[aI]at h;exact ae.at (by omega) fun x _=>aw (fun _=>ae.ret trivial) fun _=>ae.ret trivial
def zcw {s:List UInt8}(hs:s.length<=1000000000000):ae (wN s) fun _=>True:=by
 unfold wN;refine ae.bindE (fun y=>y.1=s/\(y.2=ad->1<s.length)) ?_ ?_
 ·refine aw (fun h=>?_) fun h=>ae.ret ⟨rfl,by simp⟩
  simp only[aI]at h;exact ae.at (by omega) fun x _=>ae.ret ⟨rfl,fun _=>by omega⟩
 ·rintro⟨s1,b⟩ ⟨rfl,hb⟩;simp only at hb hs;refine aw (fun h=>?_) fun h=>ae.bind (uj hs) fun _ _=>ae.ret trivial
  have:=hb h;exact aA (by simp;omega) (ae.bind (uj (by simp;omega)) fun _ _=>ae.ret trivial)
def zg {x:Cst}{p:List Cst}{f n s:Int}{fa:List Int}{fi:List (Int×Int×Int)}{ms:List Mth}{bad:Bool}{K:Nat}(hx:x.2.1.length<=60)(hp:Pl K p)(hK:K<=1000000):ae (oX (x,p,f,n,s,fa,fi,ms,bad)) fun y=>∃i q,y=(i,q,f,n,s,fa,fi,ms,bad)/\Pl (K+1) q:=by
 obtain⟨c0,c1,c2,c3⟩:=x;have hl:=hp.1;unfold oX;refine ae.bindE (fun y=>y=((c0,c1,c2,c3),p,f,n,s,fa,fi,ms,bad)) (ae.loop (fun z=>z.2=((c0,c1,c2,c3),p,f,n,s,fa,fi,ms,bad)/\0<=z.1/\z.1<=(p.length:Int)) (fun z=>p.length-z.1.toNat) ?_ ⟨rfl,by simp,by simp⟩) ?_
 ·rintro⟨i,z⟩ ⟨hz,h0,h1⟩;simp only at hz h0 h1;subst hz;refine aw (fun h=>?_) (fun h=>ae.ret rfl);simp only[aI]at h;refine aA (by simp;omega) (ae.at (by omega) fun y _=>aw (fun _=>?_) fun _=>?_)
  ·exact ae.ret ⟨_,_,rfl,hp.mono (by omega)⟩
  ·refine ae.ret ⟨⟨rfl,?_,?_⟩,?_⟩<;>(simp only;rw[wrapI (by omega) (by omega)];omega)
 ·rintro _ rfl;exact aA (by simp;omega) (ae.ret ⟨_,_,rfl,hp.app hx⟩)
def uk {x:List UInt8}{p:List Cst}{f n s:Int}{fa:List Int}{fi:List (Int×Int×Int)}{ms:List Mth}{bad:Bool}{K:Nat}(hp:Pl K p)(hK:K<=1000000):ae (lD (x,p,f,n,s,fa,fi,ms,bad)) fun y=>∃i q b,y=(i,q,f,n,s,fa,fi,ms,b)/\Pl (K+1) q:=by
 unfold lD;refine aw (fun h=>ae.ret ⟨_,_,_,rfl,hp.mono (by omega)⟩) (fun h=>?_);simp only[bN]at h;refine ae.bind (zg (by simp only;omega) hp hK) ?_;rintro _ ⟨i,q,rfl,hq⟩;exact ae.ret ⟨_,_,_,rfl,hq⟩
def um {x:List UInt8}{p:List Cst}{f n s:Int}{fa:List Int}{fi:List (Int×Int×Int)}{ms:List Mth}{bad:Bool}{K:Nat}(hp:Pl K p)(hK:K<=900000):ae (nG (x,p,f,n,s,fa,fi,ms,bad)) fun y=>∃i q b,y=(i,q,f,n,s,fa,fi,ms,b)/\Pl (K+2) q:=by
 unfold nG;refine ae.bind (uk hp (by omega)) ?_;rintro _ ⟨i,q,b,rfl,hq⟩;refine ae.bind (zg (by simp) hq (by omega)) ?_;rintro _ ⟨i,q,rfl,hq⟩;exact ae.ret ⟨_,_,_,rfl,hq⟩
def nW {x:List UInt8}{p:List Cst}{f n s:Int}{fa:List Int}{fi:List (Int×Int×Int)}{ms:List Mth}{bad:Bool}  (hx:x.length<=1000000000000):ae (gV (x,p,f,n,s,fa,fi,ms,bad)) fun y=>∃i b,y=(i,p,f,n,s,fa,fi,ms,b):=by
 unfold gV;refine ae.bind (uj hx) ?_;rintro i -;exact aw (fun _=>ae.ret ⟨_,_,rfl⟩) fun _=>ae.ret ⟨_,_,rfl⟩
def Lf {x:Cst}{p:List Cst}{f n s:Int}{fa:List Int}{fi:List (Int×Int×Int)}{ms:List Mth}{bad:Bool}{K:Nat}(hx:x.2.1.length<=60)(hp:Pl K p)(hK:K<=1000000):ae (sX (x,(p,f,n,s,fi,ms,bad),fa)) fun y=>∃i q,y=(i,(q,f,n,s,fi,ms,bad),fa)/\Pl (K+1) q:=by
 obtain⟨c0,c1,c2,c3⟩:=x;have hl:=hp.1;unfold sX;refine ae.bindE (fun y=>y=((c0,c1,c2,c3),(p,f,n,s,fi,ms,bad),fa)) (ae.loop (fun z=>z.2=((c0,c1,c2,c3),(p,f,n,s,fi,ms,bad),fa)/\0<=z.1/\z.1<=(p.length:Int)) (fun z=>p.length-z.1.toNat) ?_ ⟨rfl,by simp,by simp⟩) ?_
 ·rintro⟨i,z⟩ ⟨hz,h0,h1⟩;simp only at hz h0 h1;subst hz;refine aw (fun h=>?_) (fun h=>ae.ret rfl);simp only[aI]at h;refine aA (by simp;omega) (ae.at (by omega) fun y _=>aw (fun _=>?_) fun _=>?_)
  ·exact ae.ret ⟨_,_,rfl,hp.mono (by omega)⟩
  ·refine ae.ret ⟨⟨rfl,?_,?_⟩,?_⟩<;>(simp only;rw[wrapI (by omega) (by omega)];omega)
 ·rintro _ rfl;exact aA (by simp;omega) (ae.ret ⟨_,_,rfl,hp.app hx⟩)
def zcx {x:List UInt8}{p:List Cst}{f n s:Int}{fa:List Int}{fi:List (Int×Int×Int)}{ms:List Mth}{bad:Bool}{K:Nat}(hp:Pl K p)(hK:K<=1000000):ae (wQ (x,(p,f,n,s,fi,ms,bad),fa)) fun y=>∃i q b,y=(i,(q,f,n,s,fi,ms,b),fa)/\Pl (K+1) q:=by
 unfold wQ;refine aw (fun h=>ae.ret ⟨_,_,_,rfl,hp.mono (by omega)⟩) (fun h=>?_);simp only[bN]at h;refine ae.bind (Lf (by simp only;omega) hp hK) ?_;rintro _ ⟨i,q,rfl,hq⟩;exact ae.ret ⟨_,_,_,rfl,hq⟩
def zcy {x:List UInt8}{p:List Cst}{f n s:Int}{fa:List Int}{fi:List (Int×Int×Int)}{ms:List Mth}{bad:Bool}{K:Nat}(hp:Pl K p)(hK:K<=900000):ae (wR (x,(p,f,n,s,fi,ms,bad),fa)) fun y=>∃i q b,y=(i,(q,f,n,s,fi,ms,b),fa)/\Pl (K+2) q:=by
 unfold wR;refine ae.bind (zcx hp (by omega)) ?_;rintro _ ⟨i,q,b,rfl,hq⟩;refine ae.bind (Lf (by simp) hq (by omega)) ?_;rintro _ ⟨i,q,rfl,hq⟩;exact ae.ret ⟨_,_,_,rfl,hq⟩
def zcz {x:Cst}{p:List Cst}{f n s:Int}{fa:List Int}{fi:List (Int×Int×Int)}{ms:List Mth}{bad:Bool}{K:Nat}(hx:x.2.1.length<=60)(hp:Pl K p)(hK:K<=1000000):ae (wS (x,(p,f,n,s,fa,ms,bad),fi)) fun y=>∃i q,y=(i,(q,f,n,s,fa,ms,bad),fi)/\Pl (K+1) q:=by
 obtain⟨c0,c1,c2,c3⟩:=x;have hl:=hp.1;unfold wS;refine ae.bindE (fun y=>y=((c0,c1,c2,c3),(p,f,n,s,fa,ms,bad),fi)) (ae.loop (fun z=>z.2=((c0,c1,c2,c3),(p,f,n,s,fa,ms,bad),fi)/\0<=z.1/\z.1<=(p.length:Int)) (fun z=>p.length-z.1.toNat) ?_ ⟨rfl,by simp,by simp⟩) ?_
 ·rintro⟨i,z⟩ ⟨hz,h0,h1⟩;simp only at hz h0 h1;subst hz;refine aw (fun h=>?_) (fun h=>ae.ret rfl);simp only[aI]at h;refine aA (by simp;omega) (ae.at (by omega) fun y _=>aw (fun _=>?_) fun _=>?_)
  ·exact ae.ret ⟨_,_,rfl,hp.mono (by omega)⟩
  ·refine ae.ret ⟨⟨rfl,?_,?_⟩,?_⟩<;>(simp only;rw[wrapI (by omega) (by omega)];omega)
 ·rintro _ rfl;exact aA (by simp;omega) (ae.ret ⟨_,_,rfl,hp.app hx⟩)
def Lg {x:List UInt8}{p:List Cst}{f n s:Int}{fa:List Int}{fi:List (Int×Int×Int)}{ms:List Mth}{bad:Bool}{K:Nat}(hp:Pl K p)(hK:K<=1000000):ae (sY (x,(p,f,n,s,fa,ms,bad),fi)) fun y=>∃i q b,y=(i,(q,f,n,s,fa,ms,b),fi)/\Pl (K+1) q:=by
 unfold sY;refine aw (fun h=>ae.ret ⟨_,_,_,rfl,hp.mono (by omega)⟩) (fun h=>?_);simp only[bN]at h;refine ae.bind (zcz (by simp only;omega) hp hK) ?_;rintro _ ⟨i,q,rfl,hq⟩;exact ae.ret ⟨_,_,_,rfl,hq⟩
def zcA {x:List UInt8}{p:List Cst}{f n s:Int}{fa:List Int}{fi:List (Int×Int×Int)}{ms:List Mth}{bad:Bool}  (hx:x.length<=1000000000000):ae (wT (x,(p,f,n,s,fa,ms,bad),fi)) fun y=>∃i b,y=(i,(p,f,n,s,fa,ms,b),fi):=by
 unfold wT;refine ae.bind (uj hx) ?_;rintro i -;exact aw (fun _=>ae.ret ⟨_,_,rfl⟩) fun _=>ae.ret ⟨_,_,rfl⟩
def Lh {x:Cst}{p:List Cst}{f n s:Int}{fa:List Int}{fi:List (Int×Int×Int)}{ms:List Mth}{bad:Bool}{K:Nat}{ri:Nat}{r0 r1 r2 r3 r4:Int}{r5:List UInt8}{r6:List (Int×Int×Int×Int)}{fr:List Frm}(hri:ri<ms.length)(hx:x.2.1.length<=60)(hp:Pl K p)(hK:K<=1000000):ae (sZ (x,(p,f,n,s,fa,fi,bad),(ms,ri,r0,r1,r2,r3,r4,r5,r6),fr)) fun y=>∃i q,y=(i,(q,f,n,s,fa,fi,bad),(ms,ri,r0,r1,r2,r3,r4,r5,r6),fr)/\Pl (K+1) q:=by
 obtain⟨c0,c1,c2,c3⟩:=x;have hl:=hp.1;unfold sZ;simp only[eq_self,ay,hri,bp,aC]
 refine ae.bindE (fun y=>y=((c0,c1,c2,c3),(p,f,n,s,fa,fi,bad),(ms,ri,r0,r1,r2,r3,r4,r5,r6),fr)) (ae.loop (fun z=>z.2=((c0,c1,c2,c3),(p,f,n,s,fa,fi,bad),(ms,ri,r0,r1,r2,r3,r4,r5,r6),fr)/\0<=z.1/\z.1<=(p.length:Int)) (fun z=>p.length-z.1.toNat) ?_ ⟨rfl,by simp,by simp⟩) ?_
 ·rintro⟨i,z⟩ ⟨hz,h0,h1⟩;simp only at hz h0 h1;subst hz;simp only[eq_self,ay,hri,bp,aC]
  refine aw (fun h=>?_) (fun h=>ae.ret rfl);simp only[aI]at h;refine aA (by simp;omega) (ae.at (by omega) fun y _=>aw (fun _=>?_) fun _=>?_)
  ·exact ae.ret ⟨_,_,rfl,hp.mono (by omega)⟩
  ·refine ae.ret ⟨⟨rfl,?_,?_⟩,?_⟩<;>(simp only;rw[wrapI (by omega) (by omega)];omega)
 ·rintro _ rfl;simp only[eq_self,ay,hri,bp,aC]
  exact aA (by simp;omega) (ae.ret ⟨_,_,rfl,hp.app hx⟩)
def zUt {x:List UInt8}{p:List Cst}{f n s:Int}{fa:List Int}{fi:List (Int×Int×Int)}{ms:List Mth}{bad:Bool}{K:Nat}{ri:Nat}{r0 r1 r2 r3 r4:Int}{r5:List UInt8}{r6:List (Int×Int×Int×Int)}{fr:List Frm}(hri:ri<ms.length)(hp:Pl K p)(hK:K<=1000000):ae (w5 (x,(p,f,n,s,fa,fi,bad),(ms,ri,r0,r1,r2,r3,r4,r5,r6),fr)) fun y=>∃i q b,y=(i,(q,f,n,s,fa,fi,b),(ms,ri,r0,r1,r2,r3,r4,r5,r6),fr)/\Pl (K+1) q:=by
 unfold w5;simp only[eq_self,ay,hri,bp,aC]
 refine aw (fun h=>ae.ret ⟨_,_,_,rfl,hp.mono (by omega)⟩) (fun h=>?_);simp only[bN]at h;refine ae.bind (Lh hri (by simp only;omega) hp hK) ?_;rintro _ ⟨i,q,rfl,hq⟩;simp only[eq_self,ay,hri,bp,aC]
 exact ae.ret ⟨_,_,_,rfl,hq⟩
def zUv {x:List UInt8}{p:List Cst}{f n s:Int}{fa:List Int}{fi:List (Int×Int×Int)}{ms:List Mth}{bad:Bool}{K:Nat}{ri:Nat}{r0 r1 r2 r3 r4:Int}{r5:List UInt8}{r6:List (Int×Int×Int×Int)}{fr:List Frm}(hri:ri<ms.length)(hp:Pl K p)(hK:K<=900000):ae (w6 (x,(p,f,n,s,fa,fi,bad),(ms,ri,r0,r1,r2,r3,r4,r5,r6),fr)) fun y=>∃i q b,y=(i,(q,f,n,s,fa,fi,b),(ms,ri,r0,r1,r2,r3,r4,r5,r6),fr)/\Pl (K+2) q:=by
 unfold w6;simp only[eq_self,ay,hri,bp,aC]
 refine ae.bind (zUt hri hp (by omega)) ?_;rintro _ ⟨i,q,b,rfl,hq⟩;refine ae.bind (Lh hri (by simp) hq (by omega)) ?_;rintro _ ⟨i,q,rfl,hq⟩;simp only[eq_self,ay,hri,bp,aC]
 exact ae.ret ⟨_,_,_,rfl,hq⟩
def zUu {x:List UInt8}{p:List Cst}{f n s:Int}{fa:List Int}{fi:List (Int×Int×Int)}{ms:List Mth}{bad:Bool}  {ri:Nat}{r0 r1 r2 r3 r4:Int}{r5:List UInt8}{r6:List (Int×Int×Int×Int)}{fr:List Frm}(hri:ri<ms.length)(hx:x.length<=1000000000000):ae (wY (x,(p,f,n,s,fa,fi,bad),(ms,ri,r0,r1,r2,r3,r4,r5,r6),fr)) fun y=>∃i b,y=(i,(p,f,n,s,fa,fi,b),(ms,ri,r0,r1,r2,r3,r4,r5,r6),fr):=by
 unfold wY;simp only[eq_self,ay,hri,bp,aC]
 refine ae.bind (uj hx) ?_;rintro i -;exact aw (fun _=>ae.ret ⟨_,_,rfl⟩) fun _=>ae.ret ⟨_,_,rfl⟩
def Mb (N:Nat)(m:Mth):Prop:=m.2.2.2.2.2.1.length<=N/\m.2.2.2.2.2.2.1.length<=N/\m.2.2.2.2.2.2.2.length<=N/\∀f∈m.2.2.2.2.2.2.2,f.2.1.length<=16/\f.2.2.length<=16
def Ms (N:Nat)(l:List Mth):Prop:=l.length<=N/\∀m∈l,Mb N m
def Mb.mono {K L:Nat}{m:Mth}(h:Mb K m)(hc:K<=L):Mb L m:=⟨Nat.le_trans h.1 hc,Nat.le_trans h.2.1 hc,Nat.le_trans h.2.2.1 hc,h.2.2.2⟩
def Ms.mono {K L:Nat}{l:List Mth}(h:Ms K l)(hc:K<=L):Ms L l:=⟨Nat.le_trans h.1 hc,fun m hm=>(h.2 m hm).mono hc⟩
def Ms.set {K:Nat}{l:List Mth}(h:Ms K l)(i:Nat){m:Mth}(hm:Mb K m):Ms K (l.set i m):=by
 refine⟨by rw[List.length_set];exact h.1,fun x hx=>?_⟩;rcases List.mem_or_eq_of_mem_set hx with hx|rfl
 ·exact h.2 x hx
 ·exact hm
def Ms.app {K:Nat}{l:List Mth}(h:Ms K l){m:Mth}(hm:Mb K m):Ms (K+1) (l++[m]):=by
 refine⟨by have:=h.1;simp only[aR,bD,cW];omega,fun y hy=>?_⟩;simp only[List.mem_append,List.mem_singleton]at hy;rcases hy with hy|rfl
 ·exact(h.2 y hy).mono (by omega)
 ·exact hm.mono (by omega)
def DV {ms:List Mth}(h1:1<=ms.length)(h2:ms.length<=1000000)(p:List Cst)(f n s:Int)(fa:List Int)(fi:List (Int×Int×Int))(bad:Bool):nI (p,f,n,s,fa,fi,ms,bad)=U (ms.length-1,ms,p,f,n,s,fa,fi,bad):=by
 have e:IntKind.wrap .i64 ((ms.length:Int)-1)=(ms.length:Int)-1:=wrapI (by omega) (by omega);have g:(aa ((0:Int)<=(ms.length:Int)-1)&&aa ((ms.length:Int)-1<(ms.length:Int)))=ad:=by simp;omega
 have t:((ms.length:Int)-1).toNat=ms.length-1:=by omega
 simp only[nI,e,g,t,aC]
def DW {ms:List Mth}(h1:1<=ms.length)(h2:ms.length<=1000000)(p:List Cst)(f n s:Int)(fa:List Int)(fi:List (Int×Int×Int))(bad:Bool):nJ ((p,f,n,s,fa,fi,bad),ms)=U (ms.length-1,(p,f,n,s,fa,fi,bad),ms):=by
 have e:IntKind.wrap .i64 ((ms.length:Int)-1)=(ms.length:Int)-1:=wrapI (by omega) (by omega);have g:(aa ((0:Int)<=(ms.length:Int)-1)&&aa ((ms.length:Int)-1<(ms.length:Int)))=ad:=by simp;omega
 have t:((ms.length:Int)-1).toNat=ms.length-1:=by omega
 simp only[nJ,e,g,t,aC]
def zcB {k:Int}{a b c:List UInt8}{p:List Cst}{f n s:Int}{fa:List Int}{fi:List (Int×Int×Int)}{ms:List Mth}{bad:Bool}{K:Nat}(hp:Pl K p)(hK:K<=900000) :
  ae (wM (k,a,b,c,p,f,n,s,fa,fi,ms,bad)) fun y=>∃i q b,y=(i,q,f,n,s,fa,fi,ms,b)/\Pl (K+6) q:=by
 unfold wM;refine ae.bind (um hp hK) ?_;rintro _ ⟨_,q,_,rfl,hq⟩;refine ae.bind (uk hq (by omega)) ?_;rintro _ ⟨_,q,_,rfl,hq⟩;refine ae.bind (uk hq (by omega)) ?_;rintro _ ⟨_,q,_,rfl,hq⟩;refine ae.bind (zg (by simp) hq (by omega)) ?_;rintro _ ⟨_,q,rfl,hq⟩;refine ae.bind (zg (by simp) hq (by omega)) ?_;rintro _ ⟨_,q,rfl,hq⟩;exact ae.ret ⟨_,_,_,rfl,hq⟩
def zcC (n:Int):ae (oW n) fun _=>True:=by
 unfold oW;refine ae.bindE (fun _=>True) ?_ ?_
 ·exact aw (fun _=>ae.ret trivial) fun _=>aw (fun _=>ae.ret trivial) fun _=>ae.ret trivial
 rintro⟨_,_⟩ -;refine aw (fun _=>ae.ret trivial) fun _=>ae.bindE (fun _=>True) ?_ ?_
 ·exact aw (fun _=>ae.ret trivial) fun _=>aw (fun _=>ae.ret trivial) fun _=>aw (fun _=>ae.ret trivial) fun _=>ae.ret trivial
 rintro⟨_,_⟩ -;refine aw (fun _=>ae.ret trivial) fun _=>ae.bindE (fun _=>True) ?_ ?_
 ·exact aw (fun _=>ae.ret trivial) fun _=>aw (fun _=>ae.ret trivial) fun _=>ae.ret trivial
 rintro⟨_,_⟩ -;exact aw (fun _=>ae.ret trivial) fun _=>aw (fun _=>ae.ret trivial) fun _=>ae.ret trivial
def Li (n:Int):ae (ew n) fun y=>y.length=1:=by
 unfold ew;exact aA (nV _) (ae.ret rfl)
def zcD (n:Int):ae (eP n) fun y=>y.length=2:=by
 unfold eP;exact aA (nV _) (aA (nV _) (ae.ret rfl))
def zcE (x:Int×Int×Int):ae (wO [x]) fun y=>y.length<=3:=by
 unfold wO;refine ae.bindE (fun y=>y.length<=3) (ae.loop (fun z=>z.1=[x]/\((z.2.2=0/\z.2.1.length=0)\/(z.2.2=1/\z.2.1.length<=3))) (fun z=>1-z.2.2.toNat) ?_ ⟨rfl,.inl ⟨rfl,rfl⟩⟩) fun y hy=>ae.ret hy
 rintro⟨l,out,i⟩ ⟨hl,hi⟩;simp only at hl hi;subst hl;refine aw (fun h=>?_) fun h=>ae.ret (by show out.length<=3;omega)
 simp only[aI,bD,cW]at h;have h0:i=0/\out.length=0:=by omega
 obtain⟨rfl,ho⟩:=h0;refine aA (by simp) (cr (x:=x) rfl (ae.bind (Li _) fun y hy=>aA (by simp;omega) (ae.bind (zd _) fun y1 _=>?_)));refine ae.bindE (fun w=>w.1=[x]/\w.2.1.length<=3/\w.2.2=0) ?_ ?_
 ·refine aw (fun _=>ae.bind (Li _) fun z hz=>aA (by simp;omega) (ae.ret ⟨rfl,by simp;omega,rfl⟩)) fun _=>aw (fun _=>ae.bind (zcD _) fun z hz=>aA (by simp;omega) (ae.ret ⟨rfl,by simp;omega,rfl⟩)) fun _=>ae.ret ⟨rfl,by simp;omega,rfl⟩
 ·rintro⟨l,out,i⟩ ⟨rfl,ho,rfl⟩;exact ae.ret ⟨⟨rfl,.inr ⟨rfl,ho⟩⟩,by show 1-(IntKind.wrap .i64 (0+1)).toNat<1-(0:Int).toNat;rw[wrapI (by omega) (by omega)];decide⟩
def zcF {v:List (List UInt8)}{p:List Cst}{f n s:Int}{fa:List Int}{fi:List (Int×Int×Int)}{ms:List Mth}{bad:Bool}{K:Nat}(hv:1<=v.length)(hv2:v.length<=10)(hvt:∀ x∈v,x.length<=1000000000000)(hp:Pl K p)(hm:Ms K ms)(hK:K<=900000) :
  ae (wP (v,p,f,n,s,fa,fi,ms,bad)) fun y=>∃q ms' b,y=(q,f,n,s,fa,fi,ms',b)/\Pl (K+10) q/\Ms (K+10) ms':=by
 obtain⟨x,e0⟩:∃x,v[0]? = U x:=⟨v[0],bt hv⟩
 obtain⟨y,ey,hy⟩:ae (sU ()) fun y=>y.length<=100:=ae.ret (by decide)
 obtain⟨y1,e1,-⟩:=Ld (list:=y) (s:=x) (by omega);have hl:=hm.1;have hat:∀i (h:i<v.length),v[i].length<=1000000000000:=fun i h=>hvt _ (List.getElem_mem h)
 simp only[wP,gh e0,ey,e1,av,eq_self,ay,ck,aC,bQ,mA]
 refine ae.bindE (fun z=>z=(v,(0,y1,0),p,f,n,s,fa,fi,ms,bad)/\1<=ms.length) ?_ ?_
 ·refine aw (fun _=>ae.ret ⟨_,_,_,rfl,hp.mono (by omega),hm.mono (by omega)⟩) fun h=>aw (fun _=>ae.ret ⟨_,_,_,rfl,hp.mono (by omega),hm.mono (by omega)⟩) fun _=>?_
  simp only[bN]at h;exact ae.ret ⟨rfl,by omega⟩
 rintro _ ⟨rfl,h1⟩;refine ae.bind (zcC _) ?_;rintro y2 -;refine ae.bindE (fun z=>∃a b c q bd,z=((a,b,c),q,f,n,s,fa,fi,ms,bd)/\Pl (K+10) q) ?_ ?_
 ·refine ae.bindE (fun z=>∃b,z=(v,y2,b,(0,y1,0),p,f,n,s,fa,fi,ms,bad)/\(b=ad->v.length=2)) ?_ ?_
  ·exact aw (fun _=>ae.ret ⟨_,rfl,fun h=>by simp only[aI]at h;omega⟩) fun _=>ae.ret ⟨_,rfl,by simp⟩
  rintro _ ⟨b,rfl,hb⟩;refine aw (fun h=>?_) fun _=>?_
  ·have:=hb h;refine ae.at (by show _<v.length;omega) fun z _=>ae.bind (um hp hK) ?_
   rintro _ ⟨i,q,b,rfl,hq⟩;exact ae.ret ⟨_,_,_,_,_,rfl,hq.mono (by omega)⟩
  refine ae.bindE (fun z=>∃b,z=(v,y2,b,(0,y1,0),p,f,n,s,fa,fi,ms,bad)/\(b=ad->v.length=4)) ?_ ?_
  ·exact aw (fun _=>ae.ret ⟨_,rfl,fun h=>by simp only[aI]at h;omega⟩) fun _=>ae.ret ⟨_,rfl,by simp⟩
  rintro _ ⟨b,rfl,hb⟩;refine aw (fun h=>?_) fun _=>?_
  ·have:=hb h;refine ae.at (by show _<v.length;omega) fun z _=>ae.at (by show _<v.length;omega) fun z2 _=>ae.at (by show _<v.length;omega) fun z3 _=>ae.bind (zcB hp hK) ?_
   rintro _ ⟨i,q,b,rfl,hq⟩;exact ae.ret ⟨_,_,_,_,_,rfl,hq.mono (by omega)⟩
  refine ae.bindE (fun z=>∃b,z=(v,y2,b,(0,y1,0),p,f,n,s,fa,fi,ms,bad)/\(b=ad->v.length=2)) ?_ ?_
  ·exact aw (fun _=>ae.ret ⟨_,rfl,fun h=>by simp only[aI]at h;omega⟩) fun _=>ae.ret ⟨_,rfl,by simp⟩
  rintro _ ⟨b,rfl,hb⟩;refine aw (fun h=>?_) fun _=>?_
  ·have:=hb h;refine ae.at (by show _<v.length;omega) fun z hz=>ae.bind (zcw (hvt _ (cK hz))) ?_
   rintro⟨y3,y4⟩ -;exact aw (fun _=>ae.ret ⟨_,_,_,_,_,rfl,hp.mono (by omega)⟩) fun _=>ae.ret ⟨_,_,_,_,_,rfl,hp.mono (by omega)⟩
  refine ae.bindE (fun z=>∃b,z=(v,y2,b,(0,y1,0),p,f,n,s,fa,fi,ms,bad)/\(b=ad->v.length=2)) ?_ ?_
  ·refine aw (fun _=>ae.bind (zd _) fun _ _=>aw (fun _=>ae.ret ⟨_,rfl,fun h=>by simp only[aI]at h;omega⟩) fun _=>ae.ret ⟨_,rfl,by simp⟩) fun _=>ae.ret ⟨_,rfl,by simp⟩
  rintro _ ⟨b,rfl,hb⟩;refine aw (fun h=>?_) fun _=>?_
  ·have:=hb h;refine ae.at (by show _<v.length;omega) fun z hz=>ae.bind (nW (hvt _ (cK hz))) ?_
   rintro _ ⟨i,b,rfl⟩;exact ae.ret ⟨_,_,_,_,_,rfl,hp.mono (by omega)⟩
  refine aw (fun _=>ae.bind (zd _) fun _ _=>aw (fun _=>aw (fun _=>?_) fun _=>?_) fun _=>?_) fun _=>?_
  ·exact ae.ret ⟨_,_,_,_,_,rfl,hp.mono (by omega)⟩
  ·exact ae.ret ⟨_,_,_,rfl,hp.mono (by omega),hm.mono (by omega)⟩
  ·exact ae.ret ⟨_,_,_,rfl,hp.mono (by omega),hm.mono (by omega)⟩
  ·exact ae.ret ⟨_,_,_,rfl,hp.mono (by omega),hm.mono (by omega)⟩
 rintro _ ⟨a,b,c,q,bd,rfl,hq⟩;refine ae.bind (zc _ _ _) fun y3 _=>aw (fun _=>ae.ret ⟨_,_,_,rfl,hq,hm.mono (by omega)⟩) fun _=>?_
 obtain⟨m,em⟩:∃m,ms[ms.length-1]? = U m:=⟨ms[ms.length-1],bt (by omega)⟩
 have hmb:=hm.2 m (cK em);obtain⟨code,ec,hc⟩:=zcE (a,b,c)
 have g:aa ((((au m.2.2.2.2.2.1:Nat):Int)+((au code:Nat):Int))<=9223372036854775807)=ad:=by
  have:=hmb.1;simp only[aI];omega
 have g':aa (au m.2.2.2.2.2.1+au code<=9223372036854775807)=ad:=by
  have:=hmb.1;simp only[aI];omega
 simp only[DV h1 (show ms.length<=1000000 by omega),DW h1 (show ms.length<=1000000 by omega),av,gh em,ec,eq_self,ay,ck,beq_self_eq_true,aC,bQ,g,g',mA]
 refine ae.ret ⟨_,_,_,rfl,hq,(hm.mono (by omega)).set _ ?_⟩;obtain⟨k1,k2,k3,k4⟩:=hmb;exact⟨by simp only[aR];omega,by simp only;omega,by simp only;omega,k4⟩
def zcG (f:Int){k:Int}(hk:(!aa (k=0))=ad):ae (gW (f,k)) fun _=>True:=by
 unfold gW;exact aA hk (ae.ret trivial)
def zcH {w:List (List UInt8)}{p:List Cst}{f n s:Int}{fa:List Int}{fi:List (Int×Int×Int)}{ms:List Mth}{bad:Bool}{K:Nat}(hw:w.length=4\/w.length=6)(hwt:∀ x∈w,x.length<=1000000000000)(hp:Pl K p)(hm:Ms K ms)(hK:K<=900000) :
  ae (wU (w,p,f,n,s,fa,fi,ms,bad)) fun y=>∃q ms' b,y=(q,f,n,s,fa,fi,ms',b)/\Pl (K+10) q/\Ms (K+10) ms':=by
 have hl:=hm.1;obtain⟨x1,e1⟩:∃x,w[1]? = U x:=⟨w[1],bt (by omega)⟩
 obtain⟨x2,e2⟩:∃x,w[2]? = U x:=⟨w[2],bt (by omega)⟩
 obtain⟨x3,e3⟩:∃x,w[3]? = U x:=⟨w[3],bt (by omega)⟩
 obtain⟨_,c1,i1,q1,b1,rfl,hq1⟩:=uk (x:=x1) (f:=f) (n:=n) (s:=s) (fa:=fa) (fi:=fi) (ms:=ms) (bad:=bad) hp (by omega);obtain⟨_,c2,i2,q2,b2,rfl,hq2⟩:=uk (x:=x2) (f:=f) (n:=n) (s:=s) (fa:=fa) (fi:=fi) (ms:=ms) (bad:=b1) hq1 (by omega);obtain⟨_,c3,i3,b3,rfl⟩:=nW (x:=x3) (p:=q2) (f:=f) (n:=n) (s:=s) (fa:=fa) (fi:=fi) (ms:=ms) (bad:=b2) (hwt _ (cK e3));simp only[wU,gh e1,gh e2,gh e3,c1,c2,c3,av,eq_self,ay,ck,aC,bQ,mA]
 refine ae.bindE (fun z=>∃d e b,z=(w,(i3,i1,i2,d,e,[],[],[]),q2,f,n,s,fa,fi,ms,b)) ?_ ?_
 ·refine aw (fun h=>?_) fun _=>ae.ret ⟨_,_,_,rfl⟩
  simp only[aI]at h;refine ae.at (by omega) fun z hz=>ae.bind (nW (hwt _ (cK hz))) ?_
  rintro _ ⟨_,b,rfl⟩;refine ae.at (by omega) fun z hz=>ae.bind (nW (hwt _ (cK hz))) ?_
  rintro _ ⟨_,b,rfl⟩;exact ae.ret ⟨_,_,_,rfl⟩
 rintro _ ⟨d,e,b,rfl⟩;refine ae.bindE (fun z=>∃b,z=((i3,i1,i2,d,e,[],[],[]),q2,f,n,s,fa,fi,ms,b)) ?_ ?_
 ·exact ae.bind (zcG _ (by decide)) fun _ _=>aw (fun _=>ae.ret ⟨_,rfl⟩) fun _=>ae.ret ⟨_,rfl⟩
 rintro _ ⟨b,rfl⟩;refine aA (by simp;omega) (ae.ret ⟨_,_,_,rfl,hq2.mono (by omega),(hm.app ?_).mono (by omega)⟩);exact⟨by simp,by simp,by simp,by simp⟩
def zcI {w:List (List UInt8)}{p:List Cst}{f n s:Int}{fa:List Int}{fi:List (Int×Int×Int)}{ms:List Mth}{bad:Bool}{K:Nat}(hw:w.length=5)(h1:1<=ms.length)(hwt:∀ x∈w,x.length<=1000000000000)(hp:Pl K p)(hm:Ms K ms)(hK:K<=900000) :
  ae (wV (w,p,f,n,s,fa,fi,ms,bad)) fun y=>∃q ms' b,y=(q,f,n,s,fa,fi,ms',b)/\Pl (K+10) q/\Ms (K+10) ms':=by
 have hl:=hm.1;obtain⟨x1,e1⟩:∃x,w[1]? = U x:=⟨w[1],bt (by omega)⟩
 obtain⟨x2,e2⟩:∃x,w[2]? = U x:=⟨w[2],bt (by omega)⟩
 obtain⟨x3,e3⟩:∃x,w[3]? = U x:=⟨w[3],bt (by omega)⟩
 obtain⟨x4,e4⟩:∃x,w[4]? = U x:=⟨w[4],bt (by omega)⟩
 obtain⟨_,c1,i1,b1,rfl⟩:=nW (x:=x1) (p:=p) (f:=f) (n:=n) (s:=s) (fa:=fa) (fi:=fi) (ms:=ms) (bad:=bad) (hwt _ (cK e1));obtain⟨_,c2,i2,b2,rfl⟩:=nW (x:=x2) (p:=p) (f:=f) (n:=n) (s:=s) (fa:=fa) (fi:=fi) (ms:=ms) (bad:=b1) (hwt _ (cK e2));obtain⟨_,c3,i3,b3,rfl⟩:=nW (x:=x3) (p:=p) (f:=f) (n:=n) (s:=s) (fa:=fa) (fi:=fi) (ms:=ms) (bad:=b2) (hwt _ (cK e3));simp only[wV,gh e1,gh e2,gh e3,gh e4,c1,c2,c3,av,eq_self,ay,ck,aC,bQ,mA]
 refine ae.bindE (fun z=>∃a q b,z=((i1,i2,i3,a),q,f,n,s,fa,fi,ms,b)/\Pl (K+10) q) ?_ ?_
 ·refine aw (fun h=>?_) fun _=>ae.ret ⟨_,_,_,rfl,hp.mono (by omega)⟩
  refine ae.bind (um hp hK) ?_;rintro _ ⟨i,q,b,rfl,hq⟩;exact ae.ret ⟨_,_,_,rfl,hq.mono (by omega)⟩
 rintro _ ⟨a,q,b,rfl,hq⟩;obtain⟨m,em⟩:∃m,ms[ms.length-1]? = U m:=⟨ms[ms.length-1],bt (by omega)⟩
 have hmb:=hm.2 m (cK em);have hlt:aa (ms.length-1<ms.length)=ad:=by simp only[aI];omega
 have g:(aa (au m.2.2.2.2.2.2.1+1<=9223372036854775807)&&aa ((au m.2.2.2.2.2.2.1+1)*32<=140737488355328))=ad:=by
  have:=hmb.2.1;simp only[aG,aI];omega
 simp only[DV h1 (show ms.length<=1000000 by omega),DW h1 (show ms.length<=1000000 by omega),av,gh em,eq_self,ay,ck,Bool.true_and,beq_self_eq_true,hlt,aC,bQ,g,mA]
 refine ae.ret ⟨_,_,_,rfl,hq,(hm.mono (by omega)).set _ ?_⟩;obtain⟨k1,k2,k3,k4⟩:=hmb;exact⟨by simp only;omega,by simp only[aR,bD,cW];omega,by simp only;omega,k4⟩
end
section
open Go Go.AM Go.TM Go.Stow
set_option maxRecDepth 10000
def zdc {R S:Type}{g:Bool}{r:Option R}{P:S->Prop}{f:Option R->Option S}(hg:g=ad)(h:ae (f r) P):ae (f (af g r)) P:=by rw[hg];exact h
def zcJ {x:List UInt8}(h:Tok x)(h1:x≠[73]):3<=x.length:=by
 rcases h with rfl|⟨n,hn,rfl⟩
 ·exact absurd rfl h1
 ·have:=hn.1.1;simp only[bD,aR,cW];omega
def Lj {v:List UInt8}{p:List Cst}{f n s:Int}{fa:List Int}{fi:List (Int×Int×Int)}{ms:List Mth}{bad:Bool}{K:Nat}{ri:Nat}{r0 r1 r2 r3 r4:Int}{r5:List UInt8}{r6:List (Int×Int×Int×Int)}{fr:List Frm}(hri:ri<ms.length)(hv:v.length<=1000000)(hp:Pl K p)(hK:K<=800000) :
  ae (s5 (v,(p,f,n,s,fa,fi,bad),(ms,ri,r0,r1,r2,r3,r4,r5,r6),fr)) fun y=>∃l q b,y=(l,(q,f,n,s,fa,fi,b),(ms,ri,r0,r1,r2,r3,r4,r5,r6),fr)/\l.length<=16/\Pl (K+18) q:=by
 have gr:(aa (ri=ri)&&aa (ri<ms.length))=ad:=by simp;exact hri
 unfold s5;refine aw (fun _=>aA gr (ae.ret ⟨_,_,_,rfl,by simp,hp.mono (by omega)⟩)) fun _=>?_
 refine ae.bind (uh (by omega) (by omega)) ?_;rintro y ⟨-,-,hy2,hy3⟩
 refine ae.bindE (fun z=>∃l q b,z=(l,(q,f,n,s,fa,fi,b),(ms,ri,r0,r1,r2,r3,r4,r5,r6),fr)/\l.length<=16/\Pl (K+18) q)
  (aA gr (ae.loop (fun z=>∃l i q b,z=(l,y,i,(q,f,n,s,fa,fi,b),(ms,ri,r0,r1,r2,r3,r4,r5,r6),fr)/\0<=i/\i<=(y.length:Int)/\(l.length:Int)<=i/\Pl (K+2*i.toNat) q) (fun z=>y.length-z.2.2.1.toNat) ?_ ⟨[],0,p,bad,rfl,by simp,by simp,by simp,hp.mono (by omega)⟩)) ?_
 ·rintro _ ⟨l,i,q,b,rfl,i0,i1,hl,hq⟩;refine aw (fun h=>?_) fun h=>zdc gr (ae.ret ⟨_,_,_,rfl,by omega,hq.mono (by omega)⟩)
  simp only[aI]at h;obtain⟨x,ex⟩:∃x,y[i.toNat]? = U x:=⟨y[i.toNat],bt (by omega)⟩
  have hx:=hy3 x (cK ex);have gi:(aa ((0:Int)<=i)&&aa (i<(y.length:Int)))=ad:=by simp;omega
  have gl:(aa (au l+1<=9223372036854775807)&&aa ((au l+1)*16<=140737488355328))=ad:=by simp;omega
  refine ae.bindE (fun z=>∃l' q' b',z=(l',y,i,(q',f,n,s,fa,fi,b'),(ms,ri,r0,r1,r2,r3,r4,r5,r6),fr)/\(l'.length:Int)<=i+1/\Pl (K+2*i.toNat+2) q') ?_ ?_
  ·refine aA gi (cr ex (aw (fun _=>aA gl (aA gr (ae.ret ⟨_,_,_,rfl,by simp;omega,hq.mono (by omega)⟩))) fun h1=>?_));simp only[bN]at h1;refine aA gi (cr ex (aw (fun _=>aA gl (aA gr (ae.ret ⟨_,_,_,rfl,by simp;omega,hq.mono (by omega)⟩))) fun h2=>?_));refine aA gi (cr ex (aw (fun _=>aA gl (aA gr (ae.ret ⟨_,_,_,rfl,by simp;omega,hq.mono (by omega)⟩))) fun h3=>?_));refine aA gi (cr ex ?_);rw[qX x (by omega),av];refine aw (fun ht=>?_) fun _=>aA gr (ae.ret ⟨_,_,_,rfl,by omega,hq.mono (by omega)⟩)
   simp only[aI]at ht;have h3l:=zcJ ht h1;refine aA gi (cr ex (aA gi (cr ex (aA ?_ ?_))))
   ·rw[wrapI (by omega) (by omega)];simp;omega
   refine ae.bind (zUv hri hq (by omega)) ?_;rintro _ ⟨_,q',b',rfl,hq'⟩;exact aA gl (aA gr (ae.ret ⟨_,_,_,rfl,by simp;omega,hq'.mono (by omega)⟩))
  rintro _ ⟨l',q',b',rfl,hl',hq'⟩;have hw:IntKind.wrap .i64 (i+1)=i+1:=wrapI (by omega) (by omega);refine aA gr ?_;show ae (U (Sum.inl (l',y,IntKind.wrap .i64 (i+1),(q',f,n,s,fa,fi,b'),(ms,ri,r0,r1,r2,r3,r4,r5,r6),fr))) _;rw[hw];exact ae.ret ⟨⟨_,_,_,_,rfl,by omega,by omega,hl',hq'.mono (by omega)⟩,by show y.length-(i+1).toNat<y.length-i.toNat;omega⟩
 rintro _ ⟨l,q,b,rfl,hl,hq⟩;exact aA gr (ae.ret ⟨_,_,_,rfl,hl,hq⟩)
def Bu (K:Nat)(y:List Cst×Int×Int×Int×List Int×List (Int×Int×Int)×List Mth×Bool):Prop:=Pl K y.1/\y.2.2.2.2.1.length<=K/\y.2.2.2.2.2.1.length<=K/\Ms K y.2.2.2.2.2.2.1
def Bu.mono {K L:Nat}{y:List Cst×Int×Int×Int×List Int×List (Int×Int×Int)×List Mth×Bool}(h:Bu K y)(hc:K<=L):Bu L y:=⟨h.1.mono hc,Nat.le_trans h.2.1 hc,Nat.le_trans h.2.2.1 hc,h.2.2.2.mono hc⟩
def zcK {v:List UInt8}{p:List Cst}{f n s:Int}{fa:List Int}{fi:List (Int×Int×Int)}{ms:List Mth}{bad:Bool}{K:Nat}(hv:v.length<=1000000)(h:Bu K (p,f,n,s,fa,fi,ms,bad))(hK:K<=700000) :
  ae (w8 (v,p,f,n,s,fa,fi,ms,bad)) (Bu (K+60)):=by
 obtain⟨hp,hfa,hfi,hm⟩:=h;simp only at hp hfa hfi hm;have hl:=hm.1;unfold w8;refine ae.bindE (fun z=>∃b,z=(v,b,p,f,n,s,fa,fi,ms,bad)/\(b=ad->2<v.length)) ?_ ?_
 ·refine aw (fun h=>?_) fun _=>ae.ret ⟨_,rfl,by simp⟩
  simp only[aI]at h;exact aA (by simp;omega) (ae.ret ⟨_,rfl,fun _=>by omega⟩)
 rintro _ ⟨b,rfl,hb⟩;refine aw (fun h=>?_) fun _=>?_
 ·have:=hb h;refine aA (by simp;omega) (ae.bind (uh (by simp;omega) (by omega)) ?_);rintro y ⟨hy1,-,hy2,hy3⟩;refine ae.bind (zcF (by omega) (by omega) (fun x hx=>by have:=hy3 x hx;simp only[dF,cA]at this;omega) hp hm (by omega)) ?_;rintro _ ⟨q,ms',b,rfl,hq,hm'⟩;exact ae.ret ⟨hq.mono (by omega),by simp only;omega,by simp only;omega,hm'.mono (by omega)⟩
 refine ae.bind (uh (by omega) (by omega)) ?_;rintro w ⟨hw1,-,hw2,hw3⟩;have hwt:∀x∈w,x.length<=1000000:=fun x hx=>by have:=hw3 x hx;omega
 have hwt':∀x∈w,x.length<=1000000000000:=fun x hx=>by have:=hw3 x hx;omega
 have keep:∀{b:Bool},Bu (K+60) (p,f,n,s,fa,fi,ms,b):=⟨hp.mono (by omega),by simp only;omega,by simp only;omega,hm.mono (by omega)⟩
 refine ae.bindE (fun z=>z=(w,aa ((0:Int)<(ms.length:Int)),p,f,n,s,fa,fi,ms,bad)) (ae.ret rfl) ?_;rintro _ rfl;generalize hbo:aa ((0:Int)<(ms.length:Int))=body;refine ae.bindE (fun z=>Bu (K+60) z) ?_ ?_
 ·refine ae.bindE (fun z=>∃b,z=(w,body,b,p,f,n,s,fa,fi,ms,bad)/\(b=ad->w.length=4)) ?_ ?_
  ·refine aA (by simp;omega) (ae.at (by show 0<w.length;omega) fun x _=>aw (fun _=>aw (fun h=>?_) fun _=>ae.ret ⟨_,rfl,by simp⟩) fun _=>ae.ret ⟨_,rfl,by simp⟩);simp only[aI]at h;exact ae.ret ⟨_,rfl,fun _=>by omega⟩
  rintro _ ⟨b,rfl,hb⟩;refine aw (fun h=>?_) fun _=>?_
  ·have:=hb h;refine aA (by simp;omega) (ae.at (by show 1<w.length;omega) fun x1 _=>ae.bind (um hp (by omega)) ?_);rintro _ ⟨_,q,b,rfl,hq⟩;refine aA (by simp;omega) (ae.at (by show 2<w.length;omega) fun x2 _=>ae.bind (um hq (by omega)) ?_);rintro _ ⟨_,q,b,rfl,hq⟩;refine aA (by simp;omega) (ae.at (by show 3<w.length;omega) fun x3 hx3=>ae.bind (nW (hwt' _ (cK hx3))) ?_);rintro _ ⟨_,b,rfl⟩;exact ae.ret ⟨hq.mono (by omega),by simp only;omega,by simp only;omega,hm.mono (by omega)⟩
  refine ae.bindE (fun z=>∃b,z=(w,body,b,p,f,n,s,fa,fi,ms,bad)/\(b=ad->w.length=2)) ?_ ?_
  ·exact aA (by simp;omega) (ae.at (by show 0<w.length;omega) fun x _=>aw (fun _=>ae.ret ⟨_,rfl,fun h=>by simp only[aI]at h;omega⟩) fun _=>ae.ret ⟨_,rfl,by simp⟩)
  rintro _ ⟨b,rfl,hb⟩;refine aw (fun h=>?_) fun _=>?_
  ·have:=hb h;refine aA (by simp;omega) (ae.at (by show 1<w.length;omega) fun x1 _=>ae.bind (zcy hp (by omega)) ?_);rintro _ ⟨_,q,b,rfl,hq⟩;exact aA (by simp;omega) (ae.ret ⟨hq.mono (by omega),by simp;omega,by simp only;omega,hm.mono (by omega)⟩)
  refine ae.bindE (fun z=>∃b,z=(w,body,b,p,f,n,s,fa,fi,ms,bad)/\(b=ad->w.length=4)) ?_ ?_
  ·exact aA (by simp;omega) (ae.at (by show 0<w.length;omega) fun x _=>aw (fun _=>ae.ret ⟨_,rfl,fun h=>by simp only[aI]at h;omega⟩) fun _=>ae.ret ⟨_,rfl,by simp⟩)
  rintro _ ⟨b,rfl,hb⟩;refine aw (fun h=>?_) fun _=>?_
  ·have hw4:=hb h;obtain⟨x1,e1⟩:∃x,w[1]? = U x:=⟨w[1],bt (by omega)⟩
   obtain⟨x2,e2⟩:∃x,w[2]? = U x:=⟨w[2],bt (by omega)⟩
   obtain⟨x3,e3⟩:∃x,w[3]? = U x:=⟨w[3],bt (by omega)⟩
   have g1:aa (1<w.length)=ad:=by simp only[aI];omega
   have g2:aa (2<w.length)=ad:=by simp only[aI];omega
   have g3:aa (3<w.length)=ad:=by simp only[aI];omega
   have k1:aa ((1:Int)<(w.length:Int))=ad:=by simp only[aI];omega
   have k2:aa ((2:Int)<(w.length:Int))=ad:=by simp only[aI];omega
   have k3:aa ((3:Int)<(w.length:Int))=ad:=by simp only[aI];omega
   obtain⟨_,c1,i1,q1,b1,rfl,hq1⟩:=Lg (x:=x1) (f:=f) (n:=n) (s:=s) (fa:=fa) (fi:=fi) (ms:=ms) (bad:=bad) hp (by omega);obtain⟨_,c2,i2,q2,b2,rfl,hq2⟩:=Lg (x:=x2) (f:=f) (n:=n) (s:=s) (fa:=fa) (fi:=fi) (ms:=ms) (bad:=b1) hq1 (by omega);obtain⟨_,c3,i3,b3,rfl⟩:=zcA (x:=x3) (p:=q2) (f:=f) (n:=n) (s:=s) (fa:=fa) (fi:=fi) (ms:=ms) (bad:=b2) (hwt' _ (cK e3));have gl:(aa (au fi+1<=9223372036854775807)&&aa ((au fi+1)*24<=140737488355328))=ad:=by simp;omega
   simp only[k1,k2,k3,g1,g2,g3,gh e1,gh e2,gh e3,c1,c2,c3,av,eq_self,ay,aC,bQ,gl]
   exact ae.ret ⟨hq2.mono (by omega),by simp only;omega,by simp;omega,hm.mono (by omega)⟩
  refine ae.bindE (fun z=>∃b,z=(w,body,b,p,f,n,s,fa,fi,ms,bad)/\(b=ad->w.length=4\/w.length=6)) ?_ ?_
  ·refine aA (by simp;omega) (ae.at (by show 0<w.length;omega) fun x _=>aw (fun _=>aw (fun h=>?_) fun _=>ae.ret ⟨_,rfl,fun h=>by simp only[aI]at h;omega⟩) fun _=>ae.ret ⟨_,rfl,by simp⟩);simp only[aI]at h;exact ae.ret ⟨_,rfl,fun _=>by omega⟩
  rintro _ ⟨b,rfl,hb⟩;refine aw (fun h=>?_) fun _=>?_
  ·refine ae.bind (zcH (hb h) hwt' hp hm (by omega)) ?_;rintro _ ⟨q,ms',b,rfl,hq,hm'⟩;exact ae.ret ⟨hq.mono (by omega),by simp only;omega,by simp only;omega,hm'.mono (by omega)⟩
  refine ae.bindE (fun z=>∃b,z=(w,body,b,p,f,n,s,fa,fi,ms,bad)/\(b=ad->w.length=5/\body=ad)) ?_ ?_
  ·refine aA (by simp;omega) (ae.at (by show 0<w.length;omega) fun x _=>aw (fun _=>aw (fun h=>?_) fun _=>ae.ret ⟨_,rfl,by simp⟩) fun _=>ae.ret ⟨_,rfl,by simp⟩);simp only[aI]at h;exact ae.ret ⟨_,rfl,fun h=>⟨by omega,h⟩⟩
  rintro _ ⟨b,rfl,hb⟩;refine aw (fun h=>?_) fun _=>?_
  ·obtain⟨h5,h6⟩:=hb h;rw[<-hbo,aI]at h6;refine ae.bind (zcI h5 (by omega) hwt' hp hm (by omega)) ?_;rintro _ ⟨q,ms',b,rfl,hq,hm'⟩;exact ae.ret ⟨hq.mono (by omega),by simp only;omega,by simp only;omega,hm'.mono (by omega)⟩
  refine ae.bindE (fun z=>∃b,z=(w,b,p,f,n,s,fa,fi,ms,bad)/\(b=ad->w.length=4/\body=ad)) ?_ ?_
  ·refine aA (by simp;omega) (ae.at (by show 0<w.length;omega) fun x _=>aw (fun _=>aw (fun h=>?_) fun _=>ae.ret ⟨_,rfl,by simp⟩) fun _=>ae.ret ⟨_,rfl,by simp⟩);simp only[aI]at h;exact ae.ret ⟨_,rfl,fun h=>⟨by omega,h⟩⟩
  rintro _ ⟨b,rfl,hb⟩;refine aw (fun h=>?_) fun _=>ae.ret keep
  obtain⟨h5,h6⟩:=hb h;rw[<-hbo,aI]at h6;have h1:1<=ms.length:=by omega
  obtain⟨x1,e1⟩:∃x,w[1]? = U x:=⟨w[1],bt (by omega)⟩
  obtain⟨x2,e2⟩:∃x,w[2]? = U x:=⟨w[2],bt (by omega)⟩
  obtain⟨x3,e3⟩:∃x,w[3]? = U x:=⟨w[3],bt (by omega)⟩
  have g1:aa (1<w.length)=ad:=by simp only[aI];omega
  have g2:aa (2<w.length)=ad:=by simp only[aI];omega
  have g3:aa (3<w.length)=ad:=by simp only[aI];omega
  have j1:aa ((1:Int)<(w.length:Int))=ad:=by simp only[aI];omega
  have j2:aa ((2:Int)<(w.length:Int))=ad:=by simp only[aI];omega
  have j3:aa ((3:Int)<(w.length:Int))=ad:=by simp only[aI];omega
  obtain⟨m,em⟩:∃m,ms[ms.length-1]? = U m:=⟨ms[ms.length-1],bt (by omega)⟩
  have hmb:=hm.2 m (cK em);have hlt:aa (ms.length-1<ms.length)=ad:=by simp only[aI];omega
  obtain⟨m0,m1,m2,m3,m4,m5,m6,m7⟩:=m;obtain⟨k1,k2,k3,k4⟩:=hmb;simp only at k1 k2 k3 k4;obtain⟨_,c1,i1,b1,rfl⟩:=zUu (x:=x1) (p:=p) (f:=f) (n:=n) (s:=s) (fa:=fa) (fi:=fi) (ms:=ms) (bad:=bad) (ri:=ms.length-1) (r0:=m0) (r1:=m1) (r2:=m2) (r3:=m3) (r4:=m4) (r5:=m5) (r6:=m6) (fr:=m7) (by omega) (hwt' _ (cK e1));obtain⟨_,c2,i2,q2,b2,rfl,l2,hq2⟩:=Lj (v:=x2) (f:=f) (n:=n) (s:=s) (fa:=fa) (fi:=fi) (ms:=ms) (bad:=b1) (ri:=ms.length-1) (r0:=m0) (r1:=m1) (r2:=m2) (r3:=m3) (r4:=m4) (r5:=m5) (r6:=m6) (fr:=m7) (by omega) (hwt _ (cK e2)) hp (by omega);obtain⟨_,c3,i3,q3,b3,rfl,l3,hq3⟩:=Lj (v:=x3) (f:=f) (n:=n) (s:=s) (fa:=fa) (fi:=fi) (ms:=ms) (bad:=b2) (ri:=ms.length-1) (r0:=m0) (r1:=m1) (r2:=m2) (r3:=m3) (r4:=m4) (r5:=m5) (r6:=m6) (fr:=m7) (by omega) (hwt _ (cK e3)) hq2 (by omega);have gl:(aa (au m7+1<=9223372036854775807)&&aa ((au m7+1)*56<=140737488355328))=ad:=by simp;omega
  simp only[g1,g2,g3,j1,j2,j3,DV h1 (show ms.length<=1000000 by omega),DW h1 (show ms.length<=1000000 by omega),gh e1,gh e2,gh e3,gh em,c1,c2,c3,av,eq_self,ay,ck,Bool.true_and,beq_self_eq_true,hlt,aC,bQ,gl]
  refine ae.ret ⟨hq3.mono (by omega),by simp only;omega,by simp only;omega,(hm.mono (by omega)).set _ ?_⟩;refine⟨by simp only;omega,by simp only;omega,by simp only[aR,bD,cW];omega,fun f hf=>?_⟩;simp only[List.mem_append,List.mem_singleton]at hf;rcases hf with hf|rfl
  ·exact k4 f hf
  ·exact⟨l2,l3⟩
 ·rintro⟨p,f,n,s,fa,fi,ms,bad⟩ hz;exact ae.ret hz
def Bu.cls {K:Nat}{p:List Cst}{f n s:Int}{fa:List Int}{fi:List (Int×Int×Int)}{ms:List Mth}{bad:Bool}(h:Bu K (p,f,n,s,fa,fi,ms,bad))(hK:K<=1000000):fK (p,f,n,s,fa,fi,ms):=by
 obtain⟨⟨h1,h2⟩,h3,h4,h5,h6⟩:=h;simp only at h1 h2 h3 h4 h5 h6;refine⟨⟨by simp only;omega,fun x hx=>?_⟩,by simp only;omega,by simp only;omega,by simp only;omega,fun m hm=>?_⟩
 ·have:=h2 x hx;unfold mC;omega
 ·obtain⟨k1,k2,k3,k4⟩:=h6 m hm;refine⟨by omega,by omega,by omega,fun f hf=>?_⟩;have:=k4 f hf;exact⟨by unfold jK;omega,by unfold jK;omega⟩
def zcL {s:List UInt8}:ae (xx s) fun y=>y.1=ad->put y.2≠[]:=by
 unfold xx;refine ae.bindE (fun z=>z=(s,[],0,0,0,[],[],[])/\1<=s.length/\s.length<=2500) ?_ ?_
 ·refine aw (fun _=>ae.ret (by simp)) fun h=>aw (fun _=>ae.ret (by simp)) fun h1=>?_
  simp only[bN]at h h1;have hw:IntKind.wrap .i64 ((s.length:Int)-1)=(s.length:Int)-1:=wrapI (by omega) (by omega);simp only[hw]
  exact aA (by simp;omega) (ae.at (by omega) fun x _=>aw (fun _=>ae.ret (by simp)) fun _=>ae.ret ⟨rfl,by omega,by omega⟩)
 rintro _ ⟨rfl,h1,h2⟩;refine ae.bind (uh (by omega) (by omega)) ?_;rintro y ⟨hy1,hy2,-,hy3⟩;have hw:IntKind.wrap .i64 ((y.length:Int)-1)=(y.length:Int)-1:=wrapI (by omega) (by omega)
 refine ae.bindE (fun z=>∃b,z=(([],0,0,0,[],[],[]),b)/\Bu 200000 b)
  (ae.loop (fun z=>∃i b,z=(y,i,([],0,0,0,[],[],[]),b)/\0<=i/\i<=(y.length:Int)/\Bu (60*i.toNat) b) (fun z=>y.length-z.2.1.toNat) ?_ ⟨0,_,rfl,by simp,by simp,⟨by simp,by simp⟩,by simp,by simp,by simp,by simp⟩) ?_
 ·rintro _ ⟨i,⟨p,f,n,s',fa,fi,ms,bad⟩,rfl,i0,i1,hb⟩;refine ae.bindE (fun z=>z=(y,i,([],0,0,0,[],[],[]),p,f,n,s',fa,fi,ms,bad)/\i<(y.length:Int)) ?_ ?_
  ·refine aw (fun h=>aw (fun _=>?_) fun _=>ae.ret ⟨_,rfl,hb.mono (by omega)⟩) fun _=>ae.ret ⟨_,rfl,hb.mono (by omega)⟩
   simp only[hw,aI]at h;exact ae.ret ⟨rfl,by omega⟩
  rintro _ ⟨rfl,hi⟩;obtain⟨x,ex⟩:∃x,y[i.toNat]? = U x:=⟨y[i.toNat],bt (by omega)⟩
  have hx:=hy3 x (cK ex);refine aA (by simp;omega) (cr ex (ae.bind (zcK (by omega) hb (by omega)) ?_));rintro⟨p',f',n',s1,fa',fi',ms',bad'⟩ hb';have hw':IntKind.wrap .i64 (i+1)=i+1:=wrapI (by omega) (by omega);show ae (U (Sum.inl (y,IntKind.wrap .i64 (i+1),(([],0,0,0,[],[],[]):Cls),p',f',n',s1,fa',fi',ms',bad'))) _;rw[hw'];exact ae.ret ⟨⟨_,_,rfl,by omega,by omega,hb'.mono (by omega)⟩,by show y.length-(i+1).toNat<y.length-i.toNat;omega⟩
 rintro _ ⟨⟨p,f,n,s',fa,fi,ms,bad⟩,rfl,hb⟩;have hc:=hb.cls (by omega);refine ae.bindE (fun z=>z=(([],0,0,0,[],[],[]),p,f,n,s',fa,fi,ms,bad)/\put (p,f,n,s',fa,fi,ms)≠[]) ?_ ?_
 ·refine aw (fun _=>ae.ret (by simp)) fun _=>?_
  rw[JQ _ hc,av];refine aw (fun _=>ae.ret (by simp)) fun h=>?_
  simp only[bN]at h;rw[KT _ (jQ h),av];exact aw (fun _=>ae.ret (by simp)) fun _=>ae.ret ⟨rfl,h⟩
 rintro _ ⟨rfl,h⟩;exact ae.ret fun _=>h
end
section
open Go Go.AM Go.TM
set_option maxRecDepth 10000
def zcM {v1:Int}{g:List UInt8×List UInt8×List UInt8×Int×List UInt8}{r:List UInt8×Int}{K:Nat}{c:Nat}(hv11:(-9223372036854775808:Int)<=v1)(hv12:v1<=(9223372036854775807:Int))(hg:Gt K g)(hr:Rd c r)(hK:K<=800000)(hc:c<=800000):ae (wH (v1,g,r)) fun y=>Gt (K+1200) y.1/\Rd (c+3) y.2:=by
 obtain⟨o1,o2,o3,o4,o5⟩:=g;have ko1:au o1<=K+0:=hg.1;have ko2:au o2<=K+0:=hg.2.1;have ko3:au o3<=K+0:=hg.2.2.1;have ko5:au o5<=3:=hg.2.2.2.2;obtain⟨o0,o11⟩:=r;unfold wH;refine ae.bind (eE (m:=3) hr (by omega) (by simp) (by decide)) ?_;rintro⟨y,y1,y2⟩ ⟨(ky:au y<=3),hr1⟩;refine aA (by simp<;>omega) ?_;refine aA (by simp<;>omega) ?_;refine ae.bindE (fun y=>((-9223372036854775808:Int)<=y.1/\y.1<=(9223372036854775807:Int))/\au y.2.1<=5/\au y.2.2.1<=10/\Gt (K+0) y.2.2.2.1/\Rd (c+1) y.2.2.2.2) ?_ ?_
 ·refine aw (fun c2=>?_) (fun c2=>?_)
  ·exact ae.ret ⟨⟨hv11,hv12⟩,(by first|omega|simp<;>omega),(by first|omega|simp<;>omega),hg.mono (by omega),hr1.mono (by omega)⟩
  ·exact ae.ret ⟨⟨hv11,hv12⟩,(by first|omega|simp<;>omega),(by first|omega|simp<;>omega),hg.mono (by omega),hr1.mono (by omega)⟩
 rintro⟨v11,v4,v5,⟨o12,o21,o31,o41,o51⟩,o01,o13⟩ ⟨i3,(kv4:au v4<=5),(kv5:au v5<=10),hg4,hr5⟩;have ko12:au o12<=K+0:=hg4.1;have ko21:au o21<=K+0:=hg4.2.1;have ko31:au o31<=K+0:=hg4.2.2.1;have ko51:au o51<=3:=hg4.2.2.2.2;refine ae.bind (kY (ug _).1 (ug _).2) ?_;intro y3 (ky3:au y3<=25);refine aA (by simp<;>omega) ?_;refine ae.bind (bS (by first|omega|simp<;>omega) hg4 hr5 (by omega) (by omega)) ?_;rintro⟨⟨y4,y5,y6,y7,y8⟩,y9,x⟩ ⟨hg6,hr7⟩;have ky4:au y4<=K+110:=hg6.1;have ky5:au y5<=K+110:=hg6.2.1;have ky6:au y6<=K+110:=hg6.2.2.1;have ky8:au y8<=3:=hg6.2.2.2.2;refine ae.bind (kY i3.1 i3.2) ?_;intro y10 (ky10:au y10<=25);refine ae.seq (by repeat first|exact ae.ret trivial|refine ae.seq ?_ ?_|refine aA (by first|decide|simp<;>omega) ?_) ?_;refine aA (by simp<;>omega) ?_;refine aA (by simp<;>omega) ?_;refine ae.bind (kY hg4.2.2.2.1.1 hg4.2.2.2.1.2) ?_;intro y11 (ky11:au y11<=25);refine ae.seq (by repeat first|exact ae.ret trivial|refine ae.seq ?_ ?_|refine aA (by first|decide|simp<;>omega) ?_) ?_;refine aA (by simp<;>omega) ?_;refine aA (by simp<;>omega) ?_;refine ae.bind (kY hg6.2.2.2.1.1 hg6.2.2.2.1.2) ?_;intro y12 (ky12:au y12<=25);refine ae.seq (by repeat first|exact ae.ret trivial|refine ae.seq ?_ ?_|refine aA (by first|decide|simp<;>omega) ?_) ?_;refine aA (by simp<;>omega) ?_;refine aA (by simp<;>omega) ?_;refine aA (by simp<;>omega) ?_;refine aA (by simp<;>omega) ?_;refine ae.bind (DT (⟨(by show au _<=_;first|omega|simp<;>omega),(by show au _<=_;first|omega|simp<;>omega),(by show au _<=_;first|omega|simp<;>omega),⟨hg6.2.2.2.1.1,hg6.2.2.2.1.2⟩,(by show au _<=_;first|omega|simp<;>omega)⟩:Gt (K+310) (y4,[(116:UInt8),(114:UInt8),(97:UInt8),(112:UInt8),(32:UInt8)]++y10++[(32:UInt8)]++y11++[(32:UInt8)]++y12++[(32:UInt8)]++v4++[(10:UInt8)],y6,y7,y8)) hr7 (by omega) (by omega)) ?_;rintro⟨y13,⟨y14,y15,y16,y17,y18⟩,x1,x2⟩ ⟨(ky13:au y13<=20),hg8,hr9⟩;have ky14:au y14<=K+310:=hg8.1;have ky15:au y15<=K+310:=hg8.2.1;have ky16:au y16<=K+310:=hg8.2.2.1;have ky18:au y18<=3:=hg8.2.2.2.2;refine ae.bind (DU (by first|omega|simp<;>omega) (by first|omega|simp<;>omega) hg8 hr9 (by omega) (by omega)) ?_;rintro⟨⟨y19,y20,y21,y22,y23⟩,y24,x3⟩ ⟨hg10,hr11⟩;have ky19:au y19<=K+420:=hg10.1;have ky20:au y20<=K+420:=hg10.2.1;have ky21:au y21<=K+420:=hg10.2.2.1;have ky23:au y23<=3:=hg10.2.2.2.2;refine ae.bind (bS (by first|omega|simp<;>omega) hg10 hr11 (by omega) (by omega)) ?_;rintro⟨⟨y25,y26,y27,y28,y29⟩,y30,x4⟩ ⟨hg12,hr13⟩;have ky25:au y25<=K+530:=hg12.1;have ky26:au y26<=K+530:=hg12.2.1;have ky27:au y27<=K+530:=hg12.2.2.1;have ky29:au y29<=3:=hg12.2.2.2.2;refine ae.bind (bS (by first|omega|simp<;>omega) hg12 hr13 (by omega) (by omega)) ?_;rintro⟨⟨y31,y32,y33,y34,y35⟩,y36,x5⟩ ⟨hg14,hr15⟩;have ky31:au y31<=K+640:=hg14.1;have ky32:au y32<=K+640:=hg14.2.1;have ky33:au y33<=K+640:=hg14.2.2.1;have ky35:au y35<=3:=hg14.2.2.2.2;refine ae.bind (bS (by first|omega|simp<;>omega) hg14 hr15 (by omega) (by omega)) ?_;rintro⟨⟨y37,y38,y39,y40,y41⟩,y42,x6⟩ ⟨hg16,hr17⟩;have ky37:au y37<=K+750:=hg16.1;have ky38:au y38<=K+750:=hg16.2.1;have ky39:au y39<=K+750:=hg16.2.2.1;have ky41:au y41<=3:=hg16.2.2.2.2;refine ae.bind (DT hg16 hr17 (by omega) (by omega)) ?_;rintro⟨y43,⟨y44,y45,y46,y47,y48⟩,x7,x8⟩ ⟨(ky43:au y43<=20),hg18,hr19⟩;have ky44:au y44<=K+750:=hg18.1;have ky45:au y45<=K+750:=hg18.2.1;have ky46:au y46<=K+750:=hg18.2.2.1;have ky48:au y48<=3:=hg18.2.2.2.2;refine ae.bind (DU (by first|omega|simp<;>omega) (by first|omega|simp<;>omega) hg18 hr19 (by omega) (by omega)) ?_;rintro⟨⟨y49,y50,y51,y52,y53⟩,y54,x9⟩ ⟨hg20,hr21⟩;have ky49:au y49<=K+860:=hg20.1;have ky50:au y50<=K+860:=hg20.2.1;have ky51:au y51<=K+860:=hg20.2.2.1;have ky53:au y53<=3:=hg20.2.2.2.2;exact ae.ret ⟨hg20.mono (by omega),hr21.mono (by omega)⟩
def zcN {g:List UInt8×List UInt8×List UInt8×Int×List UInt8}{r:List UInt8×Int}{K:Nat}{c:Nat}(hg:Gt K g)(hr:Rd c r)(hK:K<=800000)(hc:c<=800000):ae (wG (g,r)) fun y=>Gt (K+2000) y.1/\Rd (c+40) y.2:=by
 obtain⟨o1,o2,o3,o4,o5⟩:=g;obtain⟨o0,o11⟩:=r;unfold wG;refine ae.bind (cR hr (by omega)) ?_;rintro⟨y,y1,y2⟩ ⟨(a2:(0:Int)<=y),(b3:(1:Int)<=(14:Int)->y<(14:Int)),-,hr1⟩;refine ae.bindE (fun y=>Gt (K+1200) y.1/\Rd (c+21) y.2) ?_ ?_
 ·refine ae.bindE (fun y=>Gt (K+0) y.2.2.1/\Rd (c+1) y.2.2.2) ?_ ?_
  ·refine aw (fun c4=>?_) (fun c4=>?_)
   ·exact ae.ret ⟨hg.mono (by omega),hr1.mono (by omega)⟩
   ·exact ae.ret ⟨hg.mono (by omega),hr1.mono (by omega)⟩
  rintro⟨v8,v11,⟨o12,o21,o31,o41,o51⟩,o01,o13⟩ ⟨hg5,hr6⟩;refine aw (fun c7=>?_) (fun c7=>?_)
  ·refine ae.bind (ze hg5 hr6 (by omega) (by omega)) ?_;rintro⟨⟨y3,y4,y5,y6,y7⟩,y8,x⟩ ⟨hg8,hr9⟩;refine ae.bind (bS (by first|omega|simp<;>omega) hg8 hr9 (by omega) (by omega)) ?_;rintro⟨⟨y9,y10,y11,y12,y13⟩,y14,x1⟩ ⟨hg10,hr11⟩;exact ae.ret ⟨hg10.mono (by omega),hr11.mono (by omega)⟩
  ·refine ae.bindE (fun y=>Gt (K+0) y.2.2.1/\Rd (c+1) y.2.2.2) ?_ ?_
   ·refine aw (fun c12=>?_) (fun c12=>?_)
    ·exact ae.ret ⟨hg5.mono (by omega),hr6.mono (by omega)⟩
    ·refine aw (fun c13=>?_) (fun c13=>?_)
     ·exact ae.ret ⟨hg5.mono (by omega),hr6.mono (by omega)⟩
     ·exact ae.ret ⟨hg5.mono (by omega),hr6.mono (by omega)⟩
   rintro⟨v81,v18,⟨o14,o22,o32,o42,o52⟩,o02,o15⟩ ⟨hg14,hr15⟩;refine aw (fun c16=>?_) (fun c16=>?_)
   ·refine ae.bind (Le hg14 hr15 (by omega) (by omega)) ?_;rintro⟨⟨y3,y4,y5,y6,y7⟩,y8,x⟩ ⟨hg17,hr18⟩;refine ae.bind (ie hg17 hr18 (by omega) (by omega)) ?_;rintro⟨y9,⟨y10,y11,y12,y13,y14⟩,x1,x2⟩ ⟨(ky9:au y9<=25),hg19,hr20⟩;refine aA (by simp<;>omega) ?_;refine ae.bind (bS (by first|omega|simp<;>omega) hg19 hr20 (by omega) (by omega)) ?_;rintro⟨⟨y15,y16,y17,y18,y19⟩,y20,x3⟩ ⟨hg21,hr22⟩;exact ae.ret ⟨hg21.mono (by omega),hr22.mono (by omega)⟩
   ·refine aw (fun c23=>?_) (fun c23=>?_)
    ·refine ae.bind (ie hg14 hr15 (by omega) (by omega)) ?_;rintro⟨y3,⟨y4,y5,y6,y7,y8⟩,x,x1⟩ ⟨(ky3:au y3<=25),hg24,hr25⟩;refine aA (by simp<;>omega) ?_;refine ae.bind (bS (by first|omega|simp<;>omega) hg24 hr25 (by omega) (by omega)) ?_;rintro⟨⟨y9,y10,y11,y12,y13⟩,y14,x2⟩ ⟨hg26,hr27⟩;refine ae.bind (ze hg26 hr27 (by omega) (by omega)) ?_;rintro⟨⟨y15,y16,y17,y18,y19⟩,y20,x3⟩ ⟨hg28,hr29⟩;refine ae.bind (bS (by first|omega|simp<;>omega) hg28 hr29 (by omega) (by omega)) ?_;rintro⟨⟨y21,y22,y23,y24,y25⟩,y26,x4⟩ ⟨hg30,hr31⟩;exact ae.ret ⟨hg30.mono (by omega),hr31.mono (by omega)⟩
    ·refine aw (fun c32=>?_) (fun c32=>?_)
     ·refine ae.bind (zcu hg14 hr15 (by omega) (by omega)) ?_;rintro⟨⟨y3,y4,y5,y6,y7⟩,y8,x⟩ ⟨hg33,hr34⟩;exact ae.ret ⟨hg33.mono (by omega),hr34.mono (by omega)⟩
     ·refine aw (fun c35=>?_) (fun c35=>?_)
      ·refine ae.bind (ze hg14 hr15 (by omega) (by omega)) ?_;rintro⟨⟨y3,y4,y5,y6,y7⟩,y8,x⟩ ⟨hg36,hr37⟩;refine ae.bind (bS (by first|omega|simp<;>omega) hg36 hr37 (by omega) (by omega)) ?_;rintro⟨⟨y9,y10,y11,y12,y13⟩,y14,x1⟩ ⟨hg38,hr39⟩;exact ae.ret ⟨hg38.mono (by omega),hr39.mono (by omega)⟩
      ·refine aw (fun c40=>?_) (fun c40=>?_)
       ·refine ae.bind (eE (m:=1) hr15 (by omega) (by simp) (by decide)) ?_;rintro⟨y3,y4,y5⟩ ⟨(ky3:au y3<=1),hr41⟩;refine aA (by simp<;>omega) ?_;refine ae.bind (bS (by first|omega|simp<;>omega) hg14 hr41 (by omega) (by omega)) ?_;rintro⟨⟨y6,y7,y8,y9,y10⟩,y11,x⟩ ⟨hg42,hr43⟩;refine ae.bind (bS (by first|omega|simp<;>omega) hg42 hr43 (by omega) (by omega)) ?_;rintro⟨⟨y12,y13,y14,y15,y16⟩,y17,x1⟩ ⟨hg44,hr45⟩;refine ae.bind (bS (by first|omega|simp<;>omega) hg44 hr45 (by omega) (by omega)) ?_;rintro⟨⟨y18,y19,y20,y21,y22⟩,y23,x2⟩ ⟨hg46,hr47⟩;exact ae.ret ⟨hg46.mono (by omega),hr47.mono (by omega)⟩
       ·refine aw (fun c48=>?_) (fun c48=>?_)
        ·refine ae.bind (ie hg14 hr15 (by omega) (by omega)) ?_;rintro⟨y3,⟨y4,y5,y6,y7,y8⟩,x,x1⟩ ⟨(ky3:au y3<=25),hg49,hr50⟩;refine aA (by simp<;>omega) ?_;refine ae.bind (bS (by first|omega|simp<;>omega) hg49 hr50 (by omega) (by omega)) ?_;rintro⟨⟨y9,y10,y11,y12,y13⟩,y14,x2⟩ ⟨hg51,hr52⟩;refine ae.bind (eE (m:=1) hr52 (by omega) (by simp) (by decide)) ?_;rintro⟨y15,y16,y17⟩ ⟨(ky15:au y15<=1),hr53⟩;refine aA (by simp<;>omega) ?_;refine ae.bind (bS (by first|omega|simp<;>omega) hg51 hr53 (by omega) (by omega)) ?_;rintro⟨⟨y18,y19,y20,y21,y22⟩,y23,x3⟩ ⟨hg54,hr55⟩;refine ae.bind (bS (by first|omega|simp<;>omega) hg54 hr55 (by omega) (by omega)) ?_;rintro⟨⟨y24,y25,y26,y27,y28⟩,y29,x4⟩ ⟨hg56,hr57⟩;exact ae.ret ⟨hg56.mono (by omega),hr57.mono (by omega)⟩
        ·refine aw (fun c58=>?_) (fun c58=>?_)
         ·refine ae.bind (ie hg14 hr15 (by omega) (by omega)) ?_;rintro⟨y3,⟨y4,y5,y6,y7,y8⟩,x,x1⟩ ⟨(ky3:au y3<=25),hg59,hr60⟩;refine aA (by simp<;>omega) ?_;refine ae.bind (bS (by first|omega|simp<;>omega) hg59 hr60 (by omega) (by omega)) ?_;rintro⟨⟨y9,y10,y11,y12,y13⟩,y14,x2⟩ ⟨hg61,hr62⟩;refine ae.bind (Le hg61 hr62 (by omega) (by omega)) ?_;rintro⟨⟨y15,y16,y17,y18,y19⟩,y20,x3⟩ ⟨hg63,hr64⟩;refine ae.bind (bS (by first|omega|simp<;>omega) hg63 hr64 (by omega) (by omega)) ?_;rintro⟨⟨y21,y22,y23,y24,y25⟩,y26,x4⟩ ⟨hg65,hr66⟩;exact ae.ret ⟨hg65.mono (by omega),hr66.mono (by omega)⟩
         ·refine aw (fun c67=>?_) (fun c67=>?_)
          ·refine ae.bind (eE (m:=17) hr15 (by omega) (by simp) (by decide)) ?_;rintro⟨y3,y4,y5⟩ ⟨(ky3:au y3<=17),hr68⟩;refine ae.bind (bS (by first|omega|simp<;>omega) hg14 hr68 (by omega) (by omega)) ?_;rintro⟨⟨y6,y7,y8,y9,y10⟩,y11,x⟩ ⟨hg69,hr70⟩;refine ae.bind (eE (m:=4) hr70 (by omega) (by simp) (by decide)) ?_;rintro⟨y12,y13,y14⟩ ⟨(ky12:au y12<=4),hr71⟩;refine ae.bind (bS (by first|omega|simp<;>omega) hg69 hr71 (by omega) (by omega)) ?_;rintro⟨⟨y15,y16,y17,y18,y19⟩,y20,x1⟩ ⟨hg72,hr73⟩;exact ae.ret ⟨hg72.mono (by omega),hr73.mono (by omega)⟩
          ·refine ae.bind (zcv hg14 hr15 (by omega) (by omega)) ?_;rintro⟨⟨y3,y4,y5,y6,y7⟩,y8,x⟩ ⟨hg74,hr75⟩;exact ae.ret ⟨hg74.mono (by omega),hr75.mono (by omega)⟩
 rintro⟨⟨o12,o21,o31,o41,o51⟩,o01,o13⟩ ⟨hg76,hr77⟩;exact ae.ret ⟨hg76.mono (by omega),hr77.mono (by omega)⟩
def zcO {v1:List UInt8}{r:List UInt8×Int}{c:Nat}(hv1:au v1<=10)(hr:Rd c r)(hc:c<=750000):ae (xz (v1,r)) fun y=>au y.1<=1000/\Rd (c+5) y.2:=by
 obtain⟨o0,o1⟩:=r;unfold xz;refine aw (fun c1=>?_) (fun c1=>?_)
 ·refine ae.bind (eE (m:=12) hr (by omega) (by simp) (by decide)) ?_;rintro⟨y,y1,y2⟩ ⟨(ky:au y<=12),hr2⟩;refine aA (by simp<;>omega) ?_;refine aA (by simp<;>omega) ?_;refine aA (by simp<;>omega) ?_;refine aA (by simp<;>omega) ?_;refine ae.bind (eE (m:=28) hr2 (by omega) (by simp) (by decide)) ?_;rintro⟨y3,y4,y5⟩ ⟨(ky3:au y3<=28),hr3⟩;refine aA (by simp<;>omega) ?_;refine ae.bind (eE (m:=72) hr3 (by omega) (by simp) (by decide)) ?_;rintro⟨y6,y7,y8⟩ ⟨(ky6:au y6<=72),hr4⟩;refine aA (by simp<;>omega) ?_;exact ae.ret ⟨(by first|omega|simp<;>omega),hr4.mono (by omega)⟩
 ·refine aw (fun c5=>?_) (fun c5=>?_)
  ·refine ae.bind (eE (m:=1) hr (by omega) (by simp) (by decide)) ?_;rintro⟨y,y1,y2⟩ ⟨(ky:au y<=1),hr6⟩;refine aA (by simp<;>omega) ?_;refine aA (by simp<;>omega) ?_;refine ae.bind (eE (m:=78) hr6 (by omega) (by simp) (by decide)) ?_;rintro⟨y3,y4,y5⟩ ⟨(ky3:au y3<=78),hr7⟩;refine aA (by simp<;>omega) ?_;exact ae.ret ⟨(by first|omega|simp<;>omega),hr7.mono (by omega)⟩
  ·refine aw (fun c8=>?_) (fun c8=>?_)
   ·refine ae.bind (eE (m:=40) hr (by omega) (by simp) (by decide)) ?_;rintro⟨y,y1,y2⟩ ⟨(ky:au y<=40),hr9⟩;refine aA (by simp<;>omega) ?_;refine aA (by simp<;>omega) ?_;refine ae.bind (eE (m:=17) hr9 (by omega) (by simp) (by decide)) ?_;rintro⟨y3,y4,y5⟩ ⟨(ky3:au y3<=17),hr10⟩;refine aA (by simp<;>omega) ?_;refine aA (by simp<;>omega) ?_;exact ae.ret ⟨(by first|omega|simp<;>omega),hr10.mono (by omega)⟩
   ·refine aw (fun tX=>?_) (fun tX=>?_)
    ·refine ae.bind (eE (m:=1) hr (by omega) (by simp) (by decide)) ?_;rintro⟨y,y1,y2⟩ ⟨(ky:au y<=1),hr12⟩;refine aA (by simp<;>omega) ?_;refine aA (by simp<;>omega) ?_;exact ae.ret ⟨(by first|omega|simp<;>omega),hr12.mono (by omega)⟩
    ·refine ae.bind (eE (m:=1) hr (by omega) (by simp) (by decide)) ?_;rintro⟨y,y1,y2⟩ ⟨(ky:au y<=1),hr13⟩;refine aA (by simp<;>omega) ?_;refine aA (by simp<;>omega) ?_;exact ae.ret ⟨(by first|omega|simp<;>omega),hr13.mono (by omega)⟩
def zcP {v1:List UInt8}{r:List UInt8×Int}{c:Nat}(hv1:au v1<=20)(hr:Rd c r)(hc:c<=750000):ae (wJ (v1,r)) fun y=>au y.1<=80000/\Rd (c+600) y.2:=by
 obtain⟨o0,o1⟩:=r;unfold wJ;refine ae.bindE (fun y=>au y.1<=20/\Gt (0+900) y.2.1/\Rd (c+3) y.2.2) (ae.loop (fun x=>au x.1<=20/\((0:Int)<=x.2.1/\x.2.1<=(3:Int))/\Gt (300*aH x.2.1) x.2.2.1/\Rd (c+aH x.2.1) x.2.2.2) (fun x=>3-aH x.2.1) ?_ ⟨hv1,⟨by simp,by simp⟩,⟨by simp,by simp,by simp,⟨by simp,by simp⟩,by simp⟩,(by exact hr)⟩) ?_
 ·rintro⟨v11,v6,⟨o11,o2,o3,o4,o5⟩,o01,o12⟩ ⟨(kv11:au v11<=20),⟨(i0:(0:Int)<=v6),(i1:v6<=(3:Int))⟩,(hga:Gt (300*aH v6) (o11,o2,o3,o4,o5)),(hra:Rd (c+aH v6) (o01,o12))⟩;obtain⟨n,hn⟩:∃n:Nat,aH v6=n:=⟨_,rfl⟩
  rw[hn]at hga hra;have ko11:au o11<=300*n+0:=hga.1;have ko2:au o2<=300*n+0:=hga.2.1;have ko3:au o3<=300*n+0:=hga.2.2.1;have ko5:au o5<=3:=hga.2.2.2.2;refine aw (fun c1=>?_) (fun c1=>?_)
  ·simp only[aI]at c1;refine ae.bind (eE (m:=5) hra (by omega) (by simp) (by decide)) ?_;rintro⟨y,y1,y2⟩ ⟨(ky:au y<=5),hr2⟩;refine ae.bind (bS (by first|omega|simp<;>omega) hga hr2 (by omega) (by omega)) ?_;rintro⟨⟨y3,y4,y5,y6,y7⟩,y8,x⟩ ⟨hg3,hr4⟩;have ky3:au y3<=300*n+110:=hg3.1;have ky4:au y4<=300*n+110:=hg3.2.1;have ky5:au y5<=300*n+110:=hg3.2.2.1;have ky7:au y7<=3:=hg3.2.2.2.2;refine ae.bind (kY (by omega) (by omega)) ?_;intro y9 (ky9:au y9<=25);refine aA (by simp<;>omega) ?_;refine ae.bind (bS (by first|omega|simp<;>omega) hg3 hr4 (by omega) (by omega)) ?_;rintro⟨⟨y10,y11,y12,y13,y14⟩,y15,x1⟩ ⟨hg5,hr6⟩;have ky10:au y10<=300*n+220:=hg5.1;have ky11:au y11<=300*n+220:=hg5.2.1;have ky12:au y12<=300*n+220:=hg5.2.2.1;have ky14:au y14<=3:=hg5.2.2.2.2;have hw:IntKind.wrap .i64 (v6+1)=v6+1:=wrapI (by omega) (by omega);rw[hw];exact ae.ret ⟨⟨kv11,⟨by show(0:Int)<=v6+1;omega,by show v6+1<=(3:Int);omega⟩,hg5.mono (by show _<=300*aH (v6+1);omega),hr6.mono (by show _<=c+aH (v6+1);omega)⟩,by show 3-aH (v6+1)<3-aH v6;omega⟩
  ·simp only[bN]at c1;exact ae.ret ⟨(by first|omega|simp<;>omega),hga.mono (by omega),hra.mono (by omega)⟩
 rintro⟨v11,⟨o11,o2,o3,o4,o5⟩,o01,o12⟩ ⟨(kv11:au v11<=20),hg7,hr8⟩;have ko11:au o11<=0+900:=hg7.1;have ko2:au o2<=0+900:=hg7.2.1;have ko3:au o3<=0+900:=hg7.2.2.1;have ko5:au o5<=3:=hg7.2.2.2.2;refine ae.bind (cR hr8 (by omega)) ?_;rintro⟨y,y1,y2⟩ ⟨(a10:(0:Int)<=y),(b11:(1:Int)<=(6:Int)->y<(6:Int)),-,hr9⟩;refine ae.bindE (fun y=>au y.1<=20/\((-9223372036854775808:Int)<=y.2.1/\y.2.1<=(9223372036854775807:Int))/\Gt (0+12900) y.2.2.1/\Rd (c+244) y.2.2.2) (ae.loop (fun x=>au x.1<=20/\((-9223372036854775808:Int)<=x.2.1/\x.2.1<=(9223372036854775807:Int))/\((0:Int)<=x.2.2.1/\x.2.2.1<=(6:Int))/\Gt (12900-2000*aH x.2.2.1) x.2.2.2.1/\Rd (c+244-40*aH x.2.2.1) x.2.2.2.2) (fun x=>aH x.2.2.1) ?_ (by rw[show IntKind.wrap .i64 (1+y)=1+y from wrapI (by omega) (by omega)];exact⟨kv11,⟨hg7.2.2.2.1.1,hg7.2.2.2.1.2⟩,⟨by show(0:Int)<=1+y;omega,by show 1+y<=(6:Int);omega⟩,hg7.mono (by show _<=12900-2000*aH (1+y);omega),hr9.mono (by show _<=c+244-40*aH (1+y);omega)⟩)) ?_
 ·rintro⟨v12,v7,v8,⟨o13,o21,o31,o41,o51⟩,o02,o14⟩ ⟨(kv12:au v12<=20),⟨(j0:(-9223372036854775808:Int)<=v7),(j1:v7<=(9223372036854775807:Int))⟩,⟨(i0:(0:Int)<=v8),(i1:v8<=(6:Int))⟩,(hga:Gt (12900-2000*aH v8) (o13,o21,o31,o41,o51)),(hra:Rd (c+244-40*aH v8) (o02,o14))⟩;obtain⟨n,hn⟩:∃n:Nat,aH v8=n:=⟨_,rfl⟩
  rw[hn]at hga hra;have ko13:au o13<=(12900-2000*n)+0:=hga.1;have ko21:au o21<=(12900-2000*n)+0:=hga.2.1;have ko31:au o31<=(12900-2000*n)+0:=hga.2.2.1;have ko51:au o51<=3:=hga.2.2.2.2;refine aw (fun c12=>?_) (fun c12=>?_)
  ·simp only[aI]at c12;refine aw (fun c13=>?_) (fun c13=>?_)
   ·simp only[aI]at c13;refine ae.bind (zcN hga hra (by omega) (by omega)) ?_;rintro⟨⟨y3,y4,y5,y6,y7⟩,y8,x⟩ ⟨hg14,hr15⟩;have ky3:au y3<=(12900-2000*n)+2000:=hg14.1;have ky4:au y4<=(12900-2000*n)+2000:=hg14.2.1;have ky5:au y5<=(12900-2000*n)+2000:=hg14.2.2.1;have ky7:au y7<=3:=hg14.2.2.2.2;have hw:IntKind.wrap .i64 (v8-1)=v8-1:=wrapI (by omega) (by omega);rw[hw];exact ae.ret ⟨⟨kv12,⟨j0,j1⟩,⟨by show(0:Int)<=v8-1;omega,by show v8-1<=(6:Int);omega⟩,hg14.mono (by show _<=12900-2000*aH (v8-1);omega),hr15.mono (by show _<=c+244-40*aH (v8-1);omega)⟩,by show aH (v8-1)<aH v8;omega⟩
   ·simp only[bN]at c13;exact ae.ret ⟨(by first|omega|simp<;>omega),⟨j0,j1⟩,hga.mono (by omega),hra.mono (by omega)⟩
  ·simp only[bN]at c12;exact ae.ret ⟨(by first|omega|simp<;>omega),⟨j0,j1⟩,hga.mono (by omega),hra.mono (by omega)⟩
 rintro⟨v12,v7,⟨o13,o21,o31,o41,o51⟩,o02,o14⟩ ⟨(kv12:au v12<=20),i16,hg17,hr18⟩;have ko13:au o13<=0+12900:=hg17.1;have ko21:au o21<=0+12900:=hg17.2.1;have ko31:au o31<=0+12900:=hg17.2.2.1;have ko51:au o51<=3:=hg17.2.2.2.2;refine ae.bindE (fun y=>au y.1<=20/\Gt (0+14100) y.2.1/\Rd (c+248) y.2.2) ?_ ?_
 ·refine ae.bind (cR hr18 (by omega)) ?_;rintro⟨y3,y4,y5⟩ ⟨(a20:(0:Int)<=y3),(b21:(1:Int)<=(3:Int)->y3<(3:Int)),-,hr19⟩;refine aw (fun c22=>?_) (fun c22=>?_)
  ·simp only[aI]at c22;refine ae.bind (zcM i16.1 i16.2 hg17 hr19 (by omega) (by omega)) ?_;rintro⟨⟨y6,y7,y8,y9,y10⟩,y11,x⟩ ⟨hg23,hr24⟩;have ky6:au y6<=0+14100:=hg23.1;have ky7:au y7<=0+14100:=hg23.2.1;have ky8:au y8<=0+14100:=hg23.2.2.1;have ky10:au y10<=3:=hg23.2.2.2.2;exact ae.ret ⟨(by first|omega|simp<;>omega),hg23.mono (by omega),hr24.mono (by omega)⟩
  ·simp only[bN]at c22;exact ae.ret ⟨(by first|omega|simp<;>omega),hg17.mono (by omega),hr19.mono (by omega)⟩
 rintro⟨v13,⟨o15,o22,o32,o42,o52⟩,o03,o16⟩ ⟨(kv13:au v13<=20),hg25,hr26⟩;have ko15:au o15<=0+14100:=hg25.1;have ko22:au o22<=0+14100:=hg25.2.1;have ko32:au o32<=0+14100:=hg25.2.2.1;have ko52:au o52<=3:=hg25.2.2.2.2;refine ae.bindE (fun y=>au y.1<=20/\Gt (0+14320) y.2.1/\Rd (c+250) y.2.2) ?_ ?_
 ·refine ae.bind (cR hr26 (by omega)) ?_;rintro⟨y3,y4,y5⟩ ⟨(a28:(0:Int)<=y3),(b29:(1:Int)<=(8:Int)->y3<(8:Int)),-,hr27⟩;refine aw (fun c30=>?_) (fun c30=>?_)
  ·simp only[aI]at c30;refine ae.bind (ie hg25 hr27 (by omega) (by omega)) ?_;rintro⟨y6,⟨y7,y8,y9,y10,y11⟩,x,x1⟩ ⟨(ky6:au y6<=25),hg31,hr32⟩;have ky7:au y7<=0+14100:=hg31.1;have ky8:au y8<=0+14100:=hg31.2.1;have ky9:au y9<=0+14100:=hg31.2.2.1;have ky11:au y11<=3:=hg31.2.2.2.2;refine aA (by simp<;>omega) ?_;refine ae.bind (bS (by first|omega|simp<;>omega) hg31 hr32 (by omega) (by omega)) ?_;rintro⟨⟨y12,y13,y14,y15,y16⟩,y17,x2⟩ ⟨hg33,hr34⟩;have ky12:au y12<=0+14210:=hg33.1;have ky13:au y13<=0+14210:=hg33.2.1;have ky14:au y14<=0+14210:=hg33.2.2.1;have ky16:au y16<=3:=hg33.2.2.2.2;refine ae.bind (bS (by first|omega|simp<;>omega) hg33 hr34 (by omega) (by omega)) ?_;rintro⟨⟨y18,y19,y20,y21,y22⟩,y23,x3⟩ ⟨hg35,hr36⟩;have ky18:au y18<=0+14320:=hg35.1;have ky19:au y19<=0+14320:=hg35.2.1;have ky20:au y20<=0+14320:=hg35.2.2.1;have ky22:au y22<=3:=hg35.2.2.2.2;exact ae.ret ⟨(by first|omega|simp<;>omega),hg35.mono (by omega),hr36.mono (by omega)⟩
  ·simp only[bN]at c30;refine ae.bind (bS (by first|omega|simp<;>omega) hg25 hr27 (by omega) (by omega)) ?_;rintro⟨⟨y6,y7,y8,y9,y10⟩,y11,x⟩ ⟨hg37,hr38⟩;have ky6:au y6<=0+14210:=hg37.1;have ky7:au y7<=0+14210:=hg37.2.1;have ky8:au y8<=0+14210:=hg37.2.2.1;have ky10:au y10<=3:=hg37.2.2.2.2;exact ae.ret ⟨(by first|omega|simp<;>omega),hg37.mono (by omega),hr38.mono (by omega)⟩
 rintro⟨v14,⟨o17,o23,o33,o43,o53⟩,o04,o18⟩ ⟨(kv14:au v14<=20),hg39,hr40⟩;have ko17:au o17<=0+14320:=hg39.1;have ko23:au o23<=0+14320:=hg39.2.1;have ko33:au o33<=0+14320:=hg39.2.2.1;have ko53:au o53<=3:=hg39.2.2.2.2;refine aA (by simp<;>omega) ?_;refine aA (by simp<;>omega) ?_;refine aA (by simp<;>omega) ?_;refine aA (by simp<;>omega) ?_;refine aA (by simp<;>omega) ?_;exact ae.ret ⟨(by first|omega|simp<;>omega),hr40.mono (by omega)⟩
end
section
open Go Go.AM Go.TM Go.Stow
set_option maxRecDepth 10000
def Lk:gd ([],0,0,0,[],[],[]):=by
 refine⟨⟨by simp,by simp,by simp,by simp⟩,by simp,⟨by simp,by simp⟩,⟨by simp,by simp⟩,⟨by simp,by simp⟩,by simp,by simp,by simp⟩
def zcQ {c:Cls}(h:put c≠[]):(cH tI dN c).length<=900:=by
 refine Classical.byContradiction fun hn=>h (kl fun hh=>hn hh.2.1)
def Ll (s:List UInt8):ae (tq s) fun y=>y.length<=900:=by
 unfold tq;refine ae.bind zcL ?_;rintro⟨b,c0,c1,c2,c3,c4,c5,c6⟩ hb;refine aw (fun _=>ae.ret (by simp)) fun h=>?_
 have hp:=hb (by simpa using h);simp only at hp;have hf:=jQ hp;rw[CT _ (qU hf) (JO hf),av];refine ae.ret ?_;rw[pg _ hf];exact zcQ hp
def zcR {r:List UInt8×Int}{c:Nat}(hr:Rd c r)(hc:c<=700000):ae (xy r) fun y=>y.1.2.length<=900/\Rd (c+601) y.2:=by
 obtain⟨o0,o1⟩:=r;unfold xy;refine ae.bind (eE (m:=3) hr (by omega) (by simp) (by decide)) ?_;rintro⟨y,y1,y2⟩ ⟨(hy:au y<=3),hr1⟩;refine aA (by simp;omega) (aA (by simp;omega) (ae.bind (zcP (by simp) hr1 (by omega)) ?_));rintro⟨y3,y4,y5⟩ ⟨(hy3:au y3<=80000),hr2⟩;refine aA (by simp;omega) (ae.bind (Ll _) ?_);intro y6 hy6;exact ae.ret ⟨hy6,hr2.mono (by omega)⟩
def zcS {l:List UInt8}{r:Bool×Cls}(h:ke l=U r):r=(ag,[],0,0,0,[],[],[])\/r.1=ad:=by
 unfold ke at h;cases c1:aa ((900:Int)<(l.length:Int))with
 |true=>rw[c1,aP]at h;exact .inl (Option.some.inj h).symm
 | false=>
   rw[c1,aQ]at h;cases c2:s8 (l,0,ag)with
   |none=>rw[c2]at h;cases h
   | some v=>
     obtain⟨⟨y,y1,y2,y3,y4,y5,x⟩,x1,x2,x3⟩:=v;rw[c2,av]at h;cases x3 with
     |true=>exact .inl (Option.some.inj h).symm
     | false=>
       simp only[aQ]at h;cases c3:(!aa (x2=(l.length:Int)))with
       |true=>rw[c3,aP]at h;exact .inl (Option.some.inj h).symm
       | false=>
         rw[c3,aQ]at h;cases c4:oY (y,y1,y2,y3,y4,y5,x)with
         |none=>rw[c4]at h;cases h
         | some w=>
           rw[c4,av]at h;cases c5:(!aa (w=l))with
           |true=>rw[c5,aP]at h;exact .inl (Option.some.inj h).symm
           |false=>rw[c5,aQ]at h;right;rw[<-Option.some.inj h]
def zcT {l:List UInt8}(h:¬ l.length<=900):ke l=U (ag,[],0,0,0,[],[],[]):=by
 have:(900:Int)<(l.length:Int):=by omega
 simp only[ke,this,ay,aP]
def zcU (l:List UInt8):∃b c,ke l=U (b,c)/\gd c/\(b=ad->l.length<=900/\hZ l=U (c,[])/\cH tS cI c=l)/\(∀c',l.length<=900->hZ l=U (c',[])->cH tS cI c'=l->b=ad)/\(b=ag->c=([],0,0,0,[],[],[])):=by
 by_cases hl:l.length<=900
 ·obtain⟨b,c,h1,h2,h3⟩:=JP l hl;have hg:=zcS h1;refine⟨b,c,h1,?_,fun hb=>⟨hl,h2 hb⟩,fun c' _=>h3 c',fun hb=>?_⟩
  ·rcases hg with hg|hg
   ·simp only[bH]at hg;have:c=([],0,0,0,[],[],[]):=by obtain⟨-,hg⟩:=hg;exact hg▸rfl
    rw[this];exact Lk
   ·exact yD _ _ _ (h2 hg).1
  ·rcases hg with hg|hg
   ·have:=congrArg Prod.snd hg;exact this
   ·simp only at hg;rw[hb]at hg;cases hg
 ·exact⟨ag,_,zcT hl,Lk,(fun h=>by cases h),fun c' h=>absurd h hl,fun _=>rfl⟩
def t63 (l:List UInt8):ae (ke l) fun y=>gd y.2/\(cH tS cI y.2).length<=900:=by
 obtain⟨b,c,h1,h2,h3,_,h5⟩:=zcU l;refine⟨_,h1,h2,?_⟩;cases b with
 |true=>obtain⟨k1,-,k3⟩:=h3 rfl;simp only;rw[k3];exact k1
 |false=>rw[h5 rfl];simp[cH,tS,w1]
def Lm {r:List UInt8×Int}{c:Nat}(hr:Rd c r)(hc:c<=600000):ae (tt r) fun y=>(gd y.1/\(cH tS cI y.1).length<=900)/\Rd (c+700) y.2:=by
 obtain⟨o0,o1⟩:=r;unfold tt;refine ae.bind (eE (m:=1) hr (by omega) (by simp) (by decide)) ?_;rintro⟨y,y1,y2⟩ ⟨(hy:au y<=1),hr1⟩;refine ae.bindE (fun z=>Rd (c+700) z.2.2) ?_ ?_
 ·refine aw (fun _=>ae.bind (zcR hr1 (by omega)) ?_) fun _=>ae.bind (zcO (by omega) hr1 (by omega)) ?_
  ·rintro⟨⟨y3,y4⟩,y5,y6⟩ ⟨-,hr2⟩;exact ae.ret (hr2.mono (by omega))
  ·rintro⟨y3,y4,y5⟩ ⟨-,hr2⟩;refine ae.bind (Ll _) ?_;intro y6 _;exact ae.ret (hr2.mono (by omega))
 rintro⟨t,⟨a1,a2,a3,a4,a5,a6,a7⟩,b1,b2⟩ hr2;refine ae.bind (t63 t) ?_;rintro⟨z,z1,z2,z3,z4,z5,z6,z7⟩ hz;exact ae.ret ⟨hz,hr2⟩
def t54 {s:List UInt8}{r:List UInt8×Int}{c:Nat}(hs:s.length<=1000000)(hr:Rd c r)(hc:c<=600000):ae (xA (s,r)) fun y=>y.1.length<=s.length+1/\Rd (c+3) y.2:=by
 obtain⟨o0,o1⟩:=r;have hw:IntKind.wrap .i64 ((s.length:Int)+1)=(s.length:Int)+1:=wrapI (by omega) (by omega);simp only[xA,hw]
 refine ae.bind (cR hr (by omega)) ?_;rintro⟨k,y1,y2⟩ ⟨(k0:0<=k),k1,-,hr1⟩;have k1:k<(s.length:Int)+1:=k1 (by omega);refine ae.bind (cR hr1 (by omega)) ?_;rintro⟨y3,y4,y5⟩ ⟨-,-,-,hr2⟩;refine ae.bindE (fun z=>z.1=s/\Rd (c+3) z.2) ?_ ?_
 ·refine ae.bindE (fun z=>∃b,z=(s,k,y3,b,y4,y5)) ?_ ?_
  ·exact aw (fun _=>ae.ret ⟨_,rfl⟩) fun _=>ae.ret ⟨_,rfl⟩
  rintro _ ⟨b,rfl⟩;refine aw (fun _=>aw (fun h=>?_) fun _=>ae.ret ⟨rfl,hr2.mono (by omega)⟩) fun _=>?_
  ·simp only[aI]at h;have hw:IntKind.wrap .i64 (k+1)=k+1:=wrapI (by omega) (by omega);simp only[hw]
   refine aA (by simp;omega) (aA (by simp;omega) (ae.bind (cR hr2 (by omega)) ?_));rintro⟨y6,y7,y8⟩ ⟨-,-,-,hr3⟩;refine ae.seq (by repeat first|exact ae.ret trivial|refine ae.seq ?_ ?_|refine aA (by first|decide|simp<;>omega) ?_) ?_;refine aA (nV _) ?_;refine ae.seq (by repeat first|exact ae.ret trivial|refine ae.seq ?_ ?_|refine aA (by first|decide|simp<;>omega) ?_) ?_;refine aA (by simp;omega) (aA (by simp;omega) (ae.ret ⟨?_,hr3⟩));simp only[aR,bD,cW,dF,cA];omega
  ·refine aw (fun _=>aA (by simp;omega) (ae.ret ⟨by simp only[dF,cA];omega,hr2.mono (by omega)⟩)) fun _=>aw (fun _=>?_) fun _=>ae.ret ⟨rfl,hr2.mono (by omega)⟩
   refine ae.bind (cR hr2 (by omega)) ?_;rintro⟨y6,y7,y8⟩ ⟨-,-,-,hr3⟩;exact aA (nV _) (aA (by simp;omega) (ae.ret ⟨by simp only[aR,bD,cW];omega,hr3⟩))
 rintro⟨s1,o1,o2⟩ ⟨hs1,hr3⟩;simp only at hs1;subst hs1;exact ae.ret ⟨by simp only;omega,hr3⟩
def Ms.at {K:Nat}{l:List Mth}(h:Ms K l){i:Nat}{m:Mth}(e:l[i]? = U m):Mb K m:=h.2 m (cK e)
def zcV {a b d:Int}{r:List UInt8×Int}{p:List Cst}{l2:List Int}{l3:List (Int×Int×Int)}{ms:List Mth}{c K:Nat}(hr:Rd c r)(hm:Ms K ms)(hK:K<=1000)(hc:c<=500000) :
  ae (xB ((a,b,d),r,p,l2,l3,ms)) fun y=>∃r' ms',y=((a,b,d),r',p,l2,l3,ms')/\Rd (c+10) r'/\Ms (K+1) ms':=by
 obtain⟨o0,o1⟩:=r;have hl:=hm.1;unfold xB;refine ae.bindE (fun z=>∃r',z=((a,b,d),([],0,0,0,[],[],[]),r',p,l2,l3,ms)/\Rd (c+1) r'/\1<=ms.length) ?_ ?_
 ·refine aw (fun _=>ae.ret ⟨_,_,rfl,hr.mono (by omega),hm.mono (by omega)⟩) fun h=>ae.bind (cR hr (by omega)) ?_
  simp only[bN]at h;rintro⟨y,y1,y2⟩ ⟨-,-,-,hr1⟩;exact aw (fun _=>ae.ret ⟨_,_,rfl,hr1.mono (by omega),hm.mono (by omega)⟩) fun _=>ae.ret ⟨_,rfl,hr1,by omega⟩
 rintro _ ⟨⟨o2,o3⟩,rfl,hr1,h1⟩;refine ae.bind (cR hr1 (by omega)) ?_;rintro⟨y,y1,y2⟩ ⟨(k0:0<=y),k1,-,hr2⟩;have k1:y<(ms.length:Int):=k1 (by omega);refine aA (by simp;omega) (ae.bind (cR hr2 (by omega)) ?_);rintro⟨y3,y4,y5⟩ ⟨-,-,-,hr3⟩;obtain⟨m,em⟩:∃m,ms[y.toNat]? = U m:=⟨ms[y.toNat],bt (by omega)⟩
 have hmb:=hm.at em;have hlt:aa (y.toNat<ms.length)=ad:=by simp only[aI];omega
 obtain⟨m0,m1,m2,m3,m4,m5,m6,m7⟩:=m;obtain⟨g1,g2,g3,g4⟩:=hmb;simp only at g1 g2 g3 g4;have keep:∀{q0 q1 q2 q3 q4:Int},Ms (K+1) (ms.set y.toNat (q0,q1,q2,q3,q4,m5,m6,m7)):=(hm.mono (by omega)).set _ ⟨by simp only;omega,by simp only;omega,by simp only;omega,g4⟩;refine ae.bindE (fun z=>∃r' ms',z=((a,b,d),([],0,0,0,[],[],[]),r',p,l2,l3,ms')/\Rd (c+10) r'/\Ms (K+1) ms') ?_ ?_
 ·refine aw (fun _=>?_) fun _=>aw (fun _=>?_) fun _=>aw (fun _=>?_) fun _=>aw (fun _=>?_) fun _=>aw (fun _=>?_) fun _=>aw (fun _=>?_) fun _=>?_
  ·refine cr em (ae.bind (t54 (s:=m5) (by omega) hr3 (by omega)) ?_);rintro⟨y6,y7,y8⟩ ⟨hy6,hr4⟩;have hy6:y6.length<=m5.length+1:=hy6;exact cr em (ae.ret ⟨_,_,rfl,hr4.mono (by omega),(hm.mono (by omega)).set _ ⟨by show y6.length<=K+1;omega,by simp only;omega,by simp only;omega,g4⟩⟩)
  ·refine ae.bind (ui (m:=1000) hr3 (by omega) (by simp) (by decide)) ?_;rintro⟨y6,y7,y8⟩ ⟨-,-,hr4⟩;exact cr em (ae.ret ⟨_,_,rfl,hr4.mono (by omega),keep⟩)
  ·refine ae.bind (ui (m:=1000) hr3 (by omega) (by simp) (by decide)) ?_;rintro⟨y6,y7,y8⟩ ⟨-,-,hr4⟩;exact cr em (ae.ret ⟨_,_,rfl,hr4.mono (by omega),keep⟩)
  ·have gl:(aa (au m7+1<=9223372036854775807)&&aa ((au m7+1)*56<=140737488355328))=ad:=by simp;omega
   obtain⟨⟨y6,y7,y8⟩,c1,-,-,-,hr4⟩:=cR (n:=8) hr3 (by omega);obtain⟨⟨y9,y10,y11⟩,c2,-,-,-,hr5⟩:=cR (n:=5) hr4 (by omega);obtain⟨⟨y12,y13,y14⟩,c3,-,-,-,hr6⟩:=cR (n:=3) hr5 (by omega);simp only at c2 c3;simp only[gh em,c1,c2,c3,av,eq_self,ay,ck,Bool.true_and,beq_self_eq_true,hlt,aC,bQ,gl]
   refine ae.ret ⟨_,_,rfl,hr6.mono (by omega),(hm.mono (by omega)).set _ ⟨by simp only;omega,by simp only;omega,by simp only[aR,bD,cW];omega,fun f hf=>?_⟩⟩;simp only[List.mem_append,List.mem_singleton]at hf;rcases hf with hf|rfl
   ·exact g4 f hf
   ·exact⟨by simp,by simp⟩
  ·have gl:(aa (au m6+1<=9223372036854775807)&&aa ((au m6+1)*32<=140737488355328))=ad:=by simp;omega
   obtain⟨⟨y6,y7,y8⟩,c1,-,-,-,hr4⟩:=cR (n:=4) hr3 (by omega);obtain⟨⟨y9,y10,y11⟩,c2,-,-,-,hr5⟩:=cR (n:=6) hr4 (by omega);obtain⟨⟨y12,y13,y14⟩,c3,-,-,-,hr6⟩:=cR (n:=6) hr5 (by omega);obtain⟨⟨y15,y16,y17⟩,c4,-,-,-,hr7⟩:=cR (n:=3) hr6 (by omega);simp only at c2 c3 c4;simp only[gh em,c1,c2,c3,c4,av,eq_self,ay,ck,Bool.true_and,beq_self_eq_true,hlt,aC,bQ,gl]
   exact ae.ret ⟨_,_,rfl,hr7.mono (by omega),(hm.mono (by omega)).set _ ⟨by simp only;omega,by simp only[aR,bD,cW];omega,by simp only;omega,g4⟩⟩
  ·refine ae.bind (cR hr3 (by omega)) ?_;rintro⟨y6,y7,y8⟩ ⟨-,-,-,hr4⟩;exact cr em (ae.ret ⟨_,_,rfl,hr4.mono (by omega),keep⟩)
  ·refine ae.bind (cR hr3 (by omega)) ?_;rintro⟨y6,y7,y8⟩ ⟨-,-,-,hr4⟩;exact cr em (ae.ret ⟨_,_,rfl,hr4.mono (by omega),keep⟩)
 rintro _ ⟨⟨r1,r2⟩,ms',rfl,hr4,hm'⟩;exact ae.ret ⟨_,_,rfl,hr4,hm'⟩
def Bt (K:Nat)(c:Cls):Prop:=(c.1.length<=60/\∀x∈c.1,x.2.1.length<=255)/\c.2.2.2.2.1.length<=100/\c.2.2.2.2.2.1.length<=100/\Ms K c.2.2.2.2.2.2
def Bt.cls {K:Nat}{c:Cls}(h:Bt K c)(hK:K<=1000000):fK c:=by
 obtain⟨⟨h1,h2⟩,h3,h4,h5,h6⟩:=h;refine⟨⟨by omega,fun x hx=>?_⟩,by omega,by omega,by omega,fun m hm=>?_⟩
 ·have:=h2 x hx;unfold mC;omega
 ·obtain⟨k1,k2,k3,k4⟩:=h6 m hm;refine⟨by omega,by omega,by omega,fun f hf=>?_⟩;have:=k4 f hf;exact⟨by unfold jK;omega,by unfold jK;omega⟩
def zcW {l:List Mth}(h:∀ x∈l,jm x)(hl:l.length<=6):Ms 200 l:=by
 refine⟨by omega,fun m hm=>?_⟩;obtain⟨_,_,_,_,_,h1,⟨h2,_⟩,h3,h4⟩:=h m hm;refine⟨by omega,by omega,by omega,fun f hf=>?_⟩;obtain⟨_,⟨h5,_⟩,⟨h6,_⟩⟩:=h4 f hf;omega
def DX {p:List Cst}(h:∀ x∈p,x.2.1.length<=255)(i:Nat){y:Cst}(hy:y.2.1.length<=255):∀x∈p.set i y,x.2.1.length<=255:=by
 intro x hx;rcases List.mem_or_eq_of_mem_set hx with hx|rfl
 ·exact h x hx
 ·exact hy
def t50 {r:List UInt8×Int}{c:Nat}(hr:Rd c r)(hc:c<=400000):ae (xC r) fun y=>Bt 210 y.1/\Rd (c+800) y.2:=by
 obtain⟨o0,o1⟩:=r;simp only[xC,mA,eq_self,ay,aC,bQ]
 refine ae.bind (Lm hr (by omega)) ?_;rintro⟨⟨y,y1,y2,y3,y4,y5,x⟩,x1,x2⟩ ⟨⟨⟨⟨f1,f2,f3,f4⟩,h1,_,_,_,_,_,h7⟩,-⟩,hr1⟩;simp only at f1 f2 f3 f4 h1 h7 hr1;have hms:=zcW h7 f4;have htx:∀x∈y,x.2.1.length<=255:=fun x hx=>(h1 x hx).2.1
 refine aw (fun _=>ae.ret ⟨⟨⟨f1,htx⟩,by simp only;omega,by simp only;omega,hms.mono (by omega)⟩,hr1.mono (by omega)⟩) fun h=>?_
 simp only[bN]at h;refine ae.bind (cR hr1 (by omega)) ?_;rintro⟨k,y7,y8⟩ ⟨(k0:0<=k),(k1:(1:Int)<=(y.length:Int)->k<(y.length:Int)),-,hr2⟩;have k1:k<(y.length:Int):=k1 (by omega);refine ae.bind (cR hr2 (by omega)) ?_;rintro⟨y9,y10,y11⟩ ⟨-,-,-,hr3⟩;obtain⟨e,ee⟩:∃e,y[k.toNat]? = U e:=⟨y[k.toNat],bt (by omega)⟩
 have het:=htx e (cK ee);have gk:(aa ((0:Int)<=k)&&aa (k<(y.length:Int)))=ad:=by simp;omega
 refine ae.bindE (fun z=>∃c' r',z=(([],0,0,0,[],[],[]),c',r')/\Bt 205 c'/\Rd (c+780) r') ?_ ?_
 ·refine aw (fun _=>?_) fun _=>aw (fun _=>?_) fun _=>aw (fun _=>?_) fun _=>aw (fun _=>?_) fun _=>aw (fun _=>?_) fun _=>aw (fun _=>?_) fun _=>aw (fun _=>?_) fun _=>aw (fun _=>?_) fun _=>?_
  ·refine ae.bind (pB hr3 (by omega) (by simp)) ?_;rintro⟨y12,y13,y14⟩ ⟨-,hr4⟩;exact aA gk (cr ee (ae.ret ⟨_,_,rfl,⟨⟨by simp only[List.length_set];omega,DX htx _ het⟩,by simp only;omega,by simp only;omega,hms.mono (by omega)⟩,hr4.mono (by omega)⟩))
  ·refine ae.bind (cR hr3 (by omega)) ?_;rintro⟨y12,y13,y14⟩ ⟨-,-,-,hr4⟩;exact aA gk (cr ee (ae.ret ⟨_,_,rfl,⟨⟨by simp only[List.length_set];omega,DX htx _ het⟩,by simp only;omega,by simp only;omega,hms.mono (by omega)⟩,hr4.mono (by omega)⟩))
  ·refine ae.bind (eE (m:=10) hr3 (by omega) (by simp) (by decide)) ?_;rintro⟨y12,y13,y14⟩ ⟨(hy:au y12<=10),hr4⟩;exact aA gk (cr ee (ae.ret ⟨_,_,rfl,⟨⟨by simp only[List.length_set];omega,DX htx _ (by simp only;omega)⟩,by simp only;omega,by simp only;omega,hms.mono (by omega)⟩,hr4.mono (by omega)⟩))
  ·refine ae.bind (cR hr3 (by omega)) ?_;rintro⟨y12,y13,y14⟩ ⟨-,-,-,hr4⟩;exact ae.ret ⟨_,_,rfl,⟨⟨f1,htx⟩,by simp only;omega,by simp only;omega,hms.mono (by omega)⟩,hr4.mono (by omega)⟩
  ·refine ae.bind (pB hr3 (by omega) (by simp)) ?_;rintro⟨y12,y13,y14⟩ ⟨-,hr4⟩;exact ae.ret ⟨_,_,rfl,⟨⟨f1,htx⟩,by simp only;omega,by simp only;omega,hms.mono (by omega)⟩,hr4.mono (by omega)⟩
  ·refine ae.bind (pB hr3 (by omega) (by simp)) ?_;rintro⟨y12,y13,y14⟩ ⟨-,hr4⟩;exact aA (by simp;omega) (ae.ret ⟨_,_,rfl,⟨⟨f1,htx⟩,by simp only[aR,bD,cW];omega,by simp only;omega,hms.mono (by omega)⟩,hr4.mono (by omega)⟩)
  ·refine ae.bind (cR hr3 (by omega)) ?_;rintro⟨y12,y13,y14⟩ ⟨-,-,-,hr4⟩;refine ae.bind (pB hr4 (by omega) (by simp)) ?_;rintro⟨y15,y16,y17⟩ ⟨-,hr5⟩;refine ae.bind (pB hr5 (by omega) (by simp)) ?_;rintro⟨y18,y19,y20⟩ ⟨-,hr6⟩;exact aA (by simp;omega) (ae.ret ⟨_,_,rfl,⟨⟨f1,htx⟩,by simp only;omega,by simp only[aR,bD,cW];omega,hms.mono (by omega)⟩,hr6.mono (by omega)⟩)
  ·refine ae.bind (cR hr3 (by omega)) ?_;rintro⟨y12,y13,y14⟩ ⟨-,-,-,hr4⟩;refine ae.bind (cR hr4 (by omega)) ?_;rintro⟨y15,y16,y17⟩ ⟨-,-,-,hr5⟩;refine ae.bind (eE (m:=10) hr5 (by omega) (by simp) (by decide)) ?_;rintro⟨y18,y19,y20⟩ ⟨(hy:au y18<=10),hr6⟩;refine ae.bind (cR hr6 (by omega)) ?_;rintro⟨y21,y22,y23⟩ ⟨-,-,-,hr7⟩;refine ae.bind (cR hr7 (by omega)) ?_;rintro⟨y24,y25,y26⟩ ⟨-,-,-,hr8⟩;exact aA (by simp;omega) (ae.ret ⟨_,_,rfl,⟨⟨f1,htx⟩,by simp only;omega,by simp only;omega,(hms.app ⟨by simp only;omega,by simp,by simp,by simp⟩).mono (by omega)⟩,hr8.mono (by omega)⟩)
  ·exact ae.ret ⟨_,_,rfl,⟨⟨f1,htx⟩,by simp only;omega,by simp only;omega,hms.mono (by omega)⟩,hr3.mono (by omega)⟩
 rintro _ ⟨⟨a1,a2,a3,a4,a5,a6,a7⟩,⟨b1,b2⟩,rfl,⟨⟨g1,g2⟩,g3,g4,g5⟩,hr4⟩;refine ae.bind (zcV hr4 g5 (by omega) (by omega)) ?_;rintro _ ⟨⟨r1,r2⟩,ms',rfl,hr5,hm'⟩;exact ae.ret ⟨⟨⟨g1,g2⟩,g3,g4,hm'.mono (by omega)⟩,hr5.mono (by omega)⟩
def t40 (code:List UInt8):ae (xD code) fun y=>fK y.2:=by
 unfold xD;refine ae.bind (t49 code) ?_;rintro⟨y,y1⟩ hr;refine ae.bind (Lm hr (by omega)) ?_;rintro⟨⟨y2,y3,y4,y5,y6,y7,x⟩,x1,x2⟩ ⟨⟨hf,-⟩,hr1⟩;refine ae.bindE (fun z=>∃(c0:List Cst) (c1 c2 c3:Int) (c4:List Int) (c5:List Fld) (c6:List Mth) (r:List UInt8×Int),z=(([],0,0,0,[],[],[]),(c0,c1,c2,c3,c4,c5,c6),r)/\fK (c0,c1,c2,c3,c4,c5,c6)/\Rd 10000 r) ?_ ?_
 ·refine ae.bind (cR hr1 (by omega)) ?_;rintro⟨y8,y9,y10⟩ ⟨-,-,-,hr2⟩;refine aw (fun _=>?_) fun _=>ae.ret ⟨_,_,_,_,_,_,_,_,rfl,qU hf,hr2.mono (by omega)⟩
  refine ae.bind (t50 hr2 (by omega)) ?_;rintro⟨⟨y11,y12,y13,y14,y15,y16,x3⟩,x4,x5⟩ ⟨h,hr3⟩;exact ae.ret ⟨_,_,_,_,_,_,_,_,rfl,h.cls (by omega),hr3.mono (by omega)⟩
 rintro _ ⟨c0,c1,c2,c3,c4,c5,c6,⟨r1,r2⟩,rfl,hb,hr⟩;refine ae.seq (by simp only[eq_self,ay,ck,aC,bQ];exact ae.ret trivial) ?_;refine ae.bind (pB hr (by omega) (by simp)) ?_;rintro⟨y8,y9,y10⟩ -;exact ae.seq (by simp only[eq_self,ay,ck,aC,bQ];exact ae.ret trivial) (ae.ret hb)
def Ln (a:List Int)(h:a.length<=1048576):ae (tU (a,a)) fun b=>b=ad:=by
 unfold tU;refine aw (fun h=>by simp at h) fun _=>?_
 refine ae.bindE (fun _=>True) (ae.loop (fun z=>∃i:Nat,z=(a,a,(i:Int))/\i<=a.length) (fun z=>a.length-z.2.2.toNat) ?_ ⟨0,rfl,Nat.zero_le _⟩) fun _ _=>ae.ret rfl
 rintro _ ⟨i,rfl,hi⟩;refine aw (fun h=>?_) fun _=>ae.ret trivial
 simp only[aI]at h;have hw:IntKind.wrap .i64 ((i:Int)+1)=((i+1:Nat):Int):=by rw[wI (by omega) (by omega)];rfl
 have e:a[((i:Int)).toNat]? = U (a.getD i (-1)):=lK (by omega);refine aA (by simp) (cr e (aA (by simp) (cr e (aw (fun h=>by simp at h) fun _=>ae.ret ⟨⟨i+1,by rw[hw],by omega⟩,?_⟩))));show a.length-(IntKind.wrap .i64 ((i:Int)+1)).toNat<a.length-((i:Int)).toNat;rw[hw];omega
def KD.len {c:Cls}{i:Int}{y:List Int}(h:KD c i y):y.length<=120/\(0<y.length->(put c≠[]/\cP c=0/\(0<=i/\i<=(c.2.2.2.2.2.2.length:Int)-1)/\¬aO (c.2.2.2.2.2.2.getD i.toNat aN).1 8) /\
  jv c.1 (bx (c.2.2.2.2.2.2.getD i.toNat aN).2.2.2.2.2.1).1 (c.2.2.2.2.2.2.getD i.toNat aN).2.2.2.2.2.2.1 (c.2.2.2.2.2.2.getD i.toNat aN).2.2.2.1 y):=by
 unfold KD at h;split at h
 ·rename_i hc;have hm:=(rl hc.2.2.1).2;have h1:=(jQ hc.1).2.2.2.2.2.2.2 _ hm;have h120:=h1.2.2.2.2.2.1;have:=pq (c.2.2.2.2.2.2.getD i.toNat aN).2.2.2.2.2.1;have:=h.len;exact⟨by omega,fun _=>⟨hc,h⟩⟩
 ·rw[h];exact⟨by simp,fun h=>by simp at h⟩
def zcX {c:Cls}(hput:put c≠[])(h0:cP c=0){m:Mth}(hm:m∈c.2.2.2.2.2.2)(hh:¬ aO m.1 8):(bx (dE m).2.2.2.2.2.1).1.length<=(bx m.2.2.2.2.2.1).1.length:=by
 have ho:=((pA h0).2.2.2.2 m hm hh).1;have h120:=((jQ hput).2.2.2.2.2.2.2 m hm).2.2.2.2.2.1;obtain⟨hne,hg,hp,hend⟩:=yV ho;rw[uf hh,show(dI m).2.2.2.2.2.1=enc (cq (bx m.2.2.2.2.2.1).1)from rfl];have hol:=pq m.2.2.2.2.2.1;generalize (bx m.2.2.2.2.2.1).1=l at *;obtain⟨t1,t2,t3⟩:=Dt l;have hK:=pv 0 0 l fun x hx=>(hg x hx).1
 have tg:=Dw hg (by omega);have tne:cq l≠[]:=fun h=>Dp 0 l hne (List.map_eq_nil_iff.1 h)
 rw[Dy tne tg t1]
 have:(cq l).length<=l.length:=by
  unfold cq;rw[dG]
  have:∀(a:Int) (l:List InsP),(cQ a l).length<=l.length:=by
   intro a l
   induction l generalizing a with
   |nil=>exact bI _
   | cons x l ih=>
     unfold cQ;split
     ·exact Nat.le_succ_of_le (ih _)
     ·rw[bD,bD];exact Nat.succ_le_succ (ih _)
  exact this _ _
 exact this
def zcY (code:List UInt8):mz code=U ad:=by
 have hgo:ae (mz code) fun b=>b=ad:=by
  unfold mz;refine aw (fun _=>ae.ret rfl) fun _=>ae.bind (t40 code) ?_
  rintro⟨i,c⟩ (hc:fK c);have e38:=q38 c hc;have k41:=La c i hc;have k43:=q43 c i hc;have hid:∀ns:List Mth,ns=c.2.2.2.2.2.2->True:=fun _ _=>trivial
  have ec:=za c;have htid:put c≠[]/\cP c=0->fK (mL c):=fun h=>qU (jQ (zcl h.1 h.2).1)
  have hlaw:put c≠[]->cP c=0->∀m∈c.2.2.2.2.2.2,¬aO m.1 8->(bx (dE m).2.2.2.2.2.1).1.length<=(bx m.2.2.2.2.2.1).1.length:=fun h1 h2 m hm hh=>zcX h1 h2 hm hh
  obtain⟨c0,c1,c2,c3,c4,c5,ms⟩:=c;refine ae.bind k41 ?_;intro y hy;obtain⟨hy1,hy2⟩:=hy.len;refine ae.bindE (fun z=>z=(i,y,aa (y.length=0),c0,c1,c2,c3,c4,c5,ms)) ?_ ?_
  ·refine ae.bind k43 ?_;intro z hz;obtain rfl:=hz.same hy;refine ae.bind (Ln z (by omega)) ?_;rintro _ rfl;refine aw (fun h=>by simp at h) fun _=>ae.ret ?_
   show _=_;have:aa ((z.length:Int)=0)=aa (z.length=0):=decide_eq_decide.2 (by omega);rw[this]
  rintro _ rfl;refine aw (fun _=>?_) fun hn=>?_
  ·refine ae.bind k43 ?_;intro z hz;obtain rfl:=hz.same hy;refine ae.bind (Ln z (by omega)) ?_;rintro _ rfl;exact ae.ret rfl
  have hpos:0<y.length:=by simp only[bN]at hn;omega
  obtain⟨hcond,hA⟩:=hy2 hpos;obtain⟨em,hm⟩:=rl hcond.2.2.1;have hdd:=(DP hcond.1 hcond.2.1 hm hcond.2.2.2).2;have hlen:y.length<=(bx (ms.getD i.toNat aN).2.2.2.2.2.1).1.length:=hA.len;have hi:=hcond.2.2.1;refine ae.bindE (fun z=>z=(i,y,c0,c1,c2,c3,c4,c5,ms)) (ae.loop (fun z=>∃k:Nat,z=(i,y,(k:Int),c0,c1,c2,c3,c4,c5,ms)/\k<=y.length) (fun z=>y.length-z.2.2.1.toNat) ?_ ⟨0,rfl,Nat.zero_le _⟩) ?_
  ·rintro _ ⟨k,rfl,hk⟩;refine aw (fun h=>?_) fun h=>?_
   ·simp only[aI]at h;obtain⟨ek,v1,v2,-⟩:=hA.val hdd (show k<y.length by omega);have ek:y[((k:Int)).toNat]? = _:=ek;have v2:y.getD k (-1)<=(ms.getD i.toNat aN).2.2.2.1:=v2;have gk:(aa ((0:Int)<=(k:Int))&&aa ((k:Int)<(y.length:Int)))=ad:=by simp;omega
    have hw:IntKind.wrap .i64 ((k:Int)+1)=((k+1:Nat):Int):=by rw[wI (by omega) (by omega)];rfl
    refine ae.bindE (fun z=>z=(i,y,(k:Int),c0,c1,c2,c3,c4,c5,ms)) (aA gk (cr ek (aw (fun h=>?_) fun _=>aA gk (cr ek (aA (by simpa using hi.1) (cr em (aw (fun h=>?_) fun _=>ae.ret rfl))))))) ?_
    ·simp only[aI]at h;omega
    ·simp only[aI]at h;omega
    rintro _ rfl;refine ae.ret ⟨⟨k+1,by rw[hw],by omega⟩,?_⟩;show y.length-(IntKind.wrap .i64 ((k:Int)+1)).toNat<y.length-((k:Int)).toNat;rw[hw];omega
   ·simp only[bN]at h;exact ae.ret rfl
  rintro _ rfl;obtain⟨ez,-,-,z0⟩:=hA.val hdd hpos;refine aA (by simp;omega) (cr ez (aw (fun _=>?_) fun h=>?_))
  ·rw[if_pos ⟨hcond.1,hcond.2.1⟩]at e38;have hb2:=htid ⟨hcond.1,hcond.2.1⟩;rw[ec]at e38 hb2;refine ae.bind (P:=fun v=>v=(c0,c1,c2,c3,c4,c5,ms.map dE)) ⟨_,e38,rfl⟩ ?_;rintro _ rfl;refine ae.bind (La (c0,c1,c2,c3,c4,c5,ms.map dE) i hb2) ?_;intro z hz;refine ae.ret (decide_eq_true ?_);obtain⟨hz1,hz2⟩:=hz.len;by_cases hzp:0<z.length
   ·obtain⟨hzc,hzA⟩:=hz2 hzp
    have e2:(ms.map dE).getD i.toNat aN=dE (ms.getD i.toNat aN):=by
     rw[List.getD_eq_getElem?_getD,List.getElem?_map,em];rfl
    have h1:z.length<=(bx ((ms.map dE).getD i.toNat aN).2.2.2.2.2.1).1.length:=hzA.len;rw[e2]at h1;have h2:(bx (dE (ms.getD i.toNat aN)).2.2.2.2.2.1).1.length<=(bx (ms.getD i.toNat aN).2.2.2.2.2.1).1.length:=hlaw hcond.1 hcond.2.1 _ hm hcond.2.2.2
    have h3:y.length=(bx (ms.getD i.toNat aN).2.2.2.2.2.1).1.length:=by
     rcases hA with⟨rfl,_⟩|⟨_,h⟩
     ·exact absurd hpos (Nat.lt_irrefl 0)
     ·exact h
    omega
   ·omega
  ·rw[z0]at h;simp at h
 obtain⟨_,e,rfl⟩:=hgo;exact e
end
section
theorem fnDeep : Rows.FnDeepSaid := fnDeep_of zcY
end
end Go.Proofs.YtdpapeledldifaaGreat
