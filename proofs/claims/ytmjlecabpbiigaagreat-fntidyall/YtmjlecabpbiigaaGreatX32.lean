/- Part 33 of the proof of FnTidyAll; no condition. -/
import Derived.Test.YtmjlecabpbiigaaGreatX31
open Option renaming some -> U
open Decidable renaming decide -> aa
open Bool renaming true -> ae
open Bool renaming false -> ag
open Option renaming none -> aj
open Sum renaming inr -> an
open Sum renaming inl -> ao
open List renaming length -> au
open Int renaming toNat -> aw
open List renaming drop -> cU
open List renaming take -> de
set_option autoImplicit true
set_option relaxedAutoImplicit true
set_option linter.all false
namespace Go.Proofs.YtmjlecabpbiigaaGreat
section
open Go Go.AM Go.TM Go.Stow
set_option maxRecDepth 10000
def Bu.cls {K:Nat}{p:List Cst}{f n s:Int}{fa:List Int}{fi:List (Int×Int×Int)}{ms:List Mth}{bad:Bool}(h:Bu K (p,f,n,s,fa,fi,ms,bad))(hK:K<=1000000):je (p,f,n,s,fa,fi,ms):=by
 obtain⟨⟨h1,h2⟩,h3,h4,h5,h6⟩:=h;simp only at h1 h2 h3 h4 h5 h6;refine⟨⟨by simp only;omega,fun x hx=>?_⟩,by simp only;omega,by simp only;omega,by simp only;omega,fun m hm=>?_⟩
 ·have:=h2 x hx;unfold nY;omega
 ·obtain⟨k1,k2,k3,k4⟩:=h6 m hm;refine⟨by omega,by omega,by omega,fun f hf=>?_⟩;have:=k4 f hf;exact⟨by unfold kx;omega,by unfold kx;omega⟩
def zdT {s:List UInt8}:ad (xM s) fun y=>y.1=ae->put y.2≠[]:=by
 unfold xM;refine ad.bindE (fun z=>z=(s,[],0,0,0,[],[],[])/\1<=s.length/\s.length<=2500) ?_ ?_
 ·refine aA (fun _=>ad.ret (by simp)) fun h=>aA (fun _=>ad.ret (by simp)) fun h1=>?_
  simp only[bS]at h h1;have hw:IntKind.wrap .i64 ((s.length:Int)-1)=(s.length:Int)-1:=wrapI (by omega) (by omega);simp only[hw]
  exact av (by simp;omega) (ad.at (by omega) fun x _=>aA (fun _=>ad.ret (by simp)) fun _=>ad.ret ⟨rfl,by omega,by omega⟩)
 rintro _ ⟨rfl,h1,h2⟩;refine ad.bind (uA (by omega) (by omega)) ?_;rintro y ⟨hy1,hy2,-,hy3⟩;have hw:IntKind.wrap .i64 ((y.length:Int)-1)=(y.length:Int)-1:=wrapI (by omega) (by omega)
 refine ad.bindE (fun z=>∃b,z=(([],0,0,0,[],[],[]),b)/\Bu 200000 b)
  (ad.loop (fun z=>∃i b,z=(y,i,([],0,0,0,[],[],[]),b)/\0<=i/\i<=(y.length:Int)/\Bu (60*i.toNat) b) (fun z=>y.length-z.2.1.toNat) ?_ ⟨0,_,rfl,by simp,by simp,⟨by simp,by simp⟩,by simp,by simp,by simp,by simp⟩) ?_
 ·rintro _ ⟨i,⟨p,f,n,s',fa,fi,ms,bad⟩,rfl,i0,i1,hb⟩;refine ad.bindE (fun z=>z=(y,i,([],0,0,0,[],[],[]),p,f,n,s',fa,fi,ms,bad)/\i<(y.length:Int)) ?_ ?_
  ·refine aA (fun h=>aA (fun _=>?_) fun _=>ad.ret ⟨_,rfl,hb.mono (by omega)⟩) fun _=>ad.ret ⟨_,rfl,hb.mono (by omega)⟩
   simp only[hw,aL]at h;exact ad.ret ⟨rfl,by omega⟩
  rintro _ ⟨rfl,hi⟩;obtain⟨x,ex⟩:∃x,y[i.toNat]? = U x:=⟨y[i.toNat],bI (by omega)⟩
  have hx:=hy3 x (dO ex);refine av (by simp;omega) (cg ex (ad.bind (zdS (by omega) hb (by omega)) ?_));rintro⟨p',f',n',s1,fa',fi',ms',bad'⟩ hb';have hw':IntKind.wrap .i64 (i+1)=i+1:=wrapI (by omega) (by omega);show ad (U (Sum.inl (y,IntKind.wrap .i64 (i+1),(([],0,0,0,[],[],[]):Cls),p',f',n',s1,fa',fi',ms',bad'))) _;rw[hw'];exact ad.ret ⟨⟨_,_,rfl,by omega,by omega,hb'.mono (by omega)⟩,by show y.length-(i+1).toNat<y.length-i.toNat;omega⟩
 rintro _ ⟨⟨p,f,n,s',fa,fi,ms,bad⟩,rfl,hb⟩;have hc:=hb.cls (by omega);refine ad.bindE (fun z=>z=(([],0,0,0,[],[],[]),p,f,n,s',fa,fi,ms,bad)/\put (p,f,n,s',fa,fi,ms)≠[]) ?_ ?_
 ·refine aA (fun _=>ad.ret (by simp)) fun _=>?_
  rw[KA _ hc,ax];refine aA (fun _=>ad.ret (by simp)) fun h=>?_
  simp only[bS]at h;rw[DX _ (pL h),ax];exact aA (fun _=>ad.ret (by simp)) fun _=>ad.ret ⟨rfl,h⟩
 rintro _ ⟨rfl,h⟩;exact ad.ret fun _=>h
end
section
open Go Go.AM Go.TM
set_option maxRecDepth 10000
def zdU {v1:Int}{g:List UInt8×List UInt8×List UInt8×Int×List UInt8}{r:List UInt8×Int}{K:Nat}{c:Nat}(hv11:(-9223372036854775808:Int)<=v1)(hv12:v1<=(9223372036854775807:Int))(hg:Gt K g)(hr:Rd c r)(hK:K<=800000)(hc:c<=800000):ad (xQ (v1,g,r)) fun y=>Gt (K+1200) y.1/\Rd (c+3) y.2:=by
 obtain⟨o1,o2,o3,o4,o5⟩:=g;have ko1:au o1<=K+0:=hg.1;have ko2:au o2<=K+0:=hg.2.1;have ko3:au o3<=K+0:=hg.2.2.1;have ko5:au o5<=3:=hg.2.2.2.2;obtain⟨o0,o11⟩:=r;unfold xQ;refine ad.bind (ew (m:=3) hr (by omega) (by simp) (by decide)) ?_;rintro⟨y,y1,y2⟩ ⟨(ky:au y<=3),hr1⟩;refine av (by simp<;>omega) ?_;refine av (by simp<;>omega) ?_;refine ad.bindE (fun y=>((-9223372036854775808:Int)<=y.1/\y.1<=(9223372036854775807:Int))/\au y.2.1<=5/\au y.2.2.1<=10/\Gt (K+0) y.2.2.2.1/\Rd (c+1) y.2.2.2.2) ?_ ?_
 ·refine aA (fun c2=>?_) (fun c2=>?_)
  ·exact ad.ret ⟨⟨hv11,hv12⟩,(by first|omega|simp<;>omega),(by first|omega|simp<;>omega),hg.mono (by omega),hr1.mono (by omega)⟩
  ·exact ad.ret ⟨⟨hv11,hv12⟩,(by first|omega|simp<;>omega),(by first|omega|simp<;>omega),hg.mono (by omega),hr1.mono (by omega)⟩
 rintro⟨v11,v4,v5,⟨o12,o21,o31,o41,o51⟩,o01,o13⟩ ⟨i3,(kv4:au v4<=5),(kv5:au v5<=10),hg4,hr5⟩;have ko12:au o12<=K+0:=hg4.1;have ko21:au o21<=K+0:=hg4.2.1;have ko31:au o31<=K+0:=hg4.2.2.1;have ko51:au o51<=3:=hg4.2.2.2.2;refine ad.bind (lu (uz _).1 (uz _).2) ?_;intro y3 (ky3:au y3<=25);refine av (by simp<;>omega) ?_;refine ad.bind (bQ (by first|omega|simp<;>omega) hg4 hr5 (by omega) (by omega)) ?_;rintro⟨⟨y4,y5,y6,y7,y8⟩,y9,x⟩ ⟨hg6,hr7⟩;have ky4:au y4<=K+110:=hg6.1;have ky5:au y5<=K+110:=hg6.2.1;have ky6:au y6<=K+110:=hg6.2.2.1;have ky8:au y8<=3:=hg6.2.2.2.2;refine ad.bind (lu i3.1 i3.2) ?_;intro y10 (ky10:au y10<=25);refine ad.seq (by repeat first|exact ad.ret trivial|refine ad.seq ?_ ?_|refine av (by first|decide|simp<;>omega) ?_) ?_;refine av (by simp<;>omega) ?_;refine av (by simp<;>omega) ?_;refine ad.bind (lu hg4.2.2.2.1.1 hg4.2.2.2.1.2) ?_;intro y11 (ky11:au y11<=25);refine ad.seq (by repeat first|exact ad.ret trivial|refine ad.seq ?_ ?_|refine av (by first|decide|simp<;>omega) ?_) ?_;refine av (by simp<;>omega) ?_;refine av (by simp<;>omega) ?_;refine ad.bind (lu hg6.2.2.2.1.1 hg6.2.2.2.1.2) ?_;intro cM (ky12:au cM<=25);refine ad.seq (by repeat first|exact ad.ret trivial|refine ad.seq ?_ ?_|refine av (by first|decide|simp<;>omega) ?_) ?_;refine av (by simp<;>omega) ?_;refine av (by simp<;>omega) ?_;refine av (by simp<;>omega) ?_;refine av (by simp<;>omega) ?_;refine ad.bind (Eo (⟨(by show au _<=_;first|omega|simp<;>omega),(by show au _<=_;first|omega|simp<;>omega),(by show au _<=_;first|omega|simp<;>omega),⟨hg6.2.2.2.1.1,hg6.2.2.2.1.2⟩,(by show au _<=_;first|omega|simp<;>omega)⟩:Gt (K+310) (y4,[(116:UInt8),(114:UInt8),(97:UInt8),(112:UInt8),(32:UInt8)]++y10++[(32:UInt8)]++y11++[(32:UInt8)]++cM++[(32:UInt8)]++v4++[(10:UInt8)],y6,y7,y8)) hr7 (by omega) (by omega)) ?_;rintro⟨dh,⟨y14,y15,cT,eE,dY⟩,x1,x2⟩ ⟨(ky13:au dh<=20),hg8,hr9⟩;have ky14:au y14<=K+310:=hg8.1;have ky15:au y15<=K+310:=hg8.2.1;have ky16:au cT<=K+310:=hg8.2.2.1;have ky18:au dY<=3:=hg8.2.2.2.2;refine ad.bind (Ep (by first|omega|simp<;>omega) (by first|omega|simp<;>omega) hg8 hr9 (by omega) (by omega)) ?_;rintro⟨⟨y19,y20,y21,y22,y23⟩,y24,x3⟩ ⟨hg10,hr11⟩;have ky19:au y19<=K+420:=hg10.1;have ky20:au y20<=K+420:=hg10.2.1;have ky21:au y21<=K+420:=hg10.2.2.1;have ky23:au y23<=3:=hg10.2.2.2.2;refine ad.bind (bQ (by first|omega|simp<;>omega) hg10 hr11 (by omega) (by omega)) ?_;rintro⟨⟨y25,y26,y27,y28,y29⟩,y30,x4⟩ ⟨hg12,hr13⟩;have ky25:au y25<=K+530:=hg12.1;have ky26:au y26<=K+530:=hg12.2.1;have ky27:au y27<=K+530:=hg12.2.2.1;have ky29:au y29<=3:=hg12.2.2.2.2;refine ad.bind (bQ (by first|omega|simp<;>omega) hg12 hr13 (by omega) (by omega)) ?_;rintro⟨⟨y31,y32,y33,y34,y35⟩,y36,x5⟩ ⟨hg14,hr15⟩;have ky31:au y31<=K+640:=hg14.1;have ky32:au y32<=K+640:=hg14.2.1;have ky33:au y33<=K+640:=hg14.2.2.1;have ky35:au y35<=3:=hg14.2.2.2.2;refine ad.bind (bQ (by first|omega|simp<;>omega) hg14 hr15 (by omega) (by omega)) ?_;rintro⟨⟨y37,y38,zp,Ev,y41⟩,Mh,x6⟩ ⟨hg16,hr17⟩;have ky37:au y37<=K+750:=hg16.1;have ky38:au y38<=K+750:=hg16.2.1;have ky39:au zp<=K+750:=hg16.2.2.1;have ky41:au y41<=3:=hg16.2.2.2.2;refine ad.bind (Eo hg16 hr17 (by omega) (by omega)) ?_;rintro⟨y43,⟨y44,y45,jL,y47,Eu⟩,x7,x8⟩ ⟨(ky43:au y43<=20),hg18,hr19⟩;have ky44:au y44<=K+750:=hg18.1;have ky45:au y45<=K+750:=hg18.2.1;have ky46:au jL<=K+750:=hg18.2.2.1;have ky48:au Eu<=3:=hg18.2.2.2.2;refine ad.bind (Ep (by first|omega|simp<;>omega) (by first|omega|simp<;>omega) hg18 hr19 (by omega) (by omega)) ?_;rintro⟨⟨y49,y50,y51,y52,y53⟩,y54,x9⟩ ⟨hg20,hr21⟩;have ky49:au y49<=K+860:=hg20.1;have ky50:au y50<=K+860:=hg20.2.1;have ky51:au y51<=K+860:=hg20.2.2.1;have ky53:au y53<=3:=hg20.2.2.2.2;exact ad.ret ⟨hg20.mono (by omega),hr21.mono (by omega)⟩
def zdV {g:List UInt8×List UInt8×List UInt8×Int×List UInt8}{r:List UInt8×Int}{K:Nat}{c:Nat}(hg:Gt K g)(hr:Rd c r)(hK:K<=800000)(hc:c<=800000):ad (xP (g,r)) fun y=>Gt (K+2000) y.1/\Rd (c+40) y.2:=by
 obtain⟨o1,o2,o3,o4,o5⟩:=g;obtain⟨o0,o11⟩:=r;unfold xP;refine ad.bind (eN hr (by omega)) ?_;rintro⟨y,y1,y2⟩ ⟨(a2:(0:Int)<=y),(b3:(1:Int)<=(14:Int)->y<(14:Int)),-,hr1⟩;refine ad.bindE (fun y=>Gt (K+1200) y.1/\Rd (c+21) y.2) ?_ ?_
 ·refine ad.bindE (fun y=>Gt (K+0) y.2.2.1/\Rd (c+1) y.2.2.2) ?_ ?_
  ·refine aA (fun c4=>?_) (fun c4=>?_)
   ·exact ad.ret ⟨hg.mono (by omega),hr1.mono (by omega)⟩
   ·exact ad.ret ⟨hg.mono (by omega),hr1.mono (by omega)⟩
  rintro⟨v8,v11,⟨o12,o21,o31,o41,o51⟩,o01,o13⟩ ⟨hg5,hr6⟩;refine aA (fun c7=>?_) (fun c7=>?_)
  ·refine ad.bind (zJ hg5 hr6 (by omega) (by omega)) ?_;rintro⟨⟨y3,y4,y5,y6,y7⟩,y8,x⟩ ⟨hg8,hr9⟩;refine ad.bind (bQ (by first|omega|simp<;>omega) hg8 hr9 (by omega) (by omega)) ?_;rintro⟨⟨y9,y10,y11,cM,dh⟩,y14,x1⟩ ⟨hg10,hr11⟩;exact ad.ret ⟨hg10.mono (by omega),hr11.mono (by omega)⟩
  ·refine ad.bindE (fun y=>Gt (K+0) y.2.2.1/\Rd (c+1) y.2.2.2) ?_ ?_
   ·refine aA (fun c12=>?_) (fun c12=>?_)
    ·exact ad.ret ⟨hg5.mono (by omega),hr6.mono (by omega)⟩
    ·refine aA (fun c13=>?_) (fun c13=>?_)
     ·exact ad.ret ⟨hg5.mono (by omega),hr6.mono (by omega)⟩
     ·exact ad.ret ⟨hg5.mono (by omega),hr6.mono (by omega)⟩
   rintro⟨v81,v18,⟨o14,o22,o32,o42,o52⟩,o02,o15⟩ ⟨hg14,hr15⟩;refine aA (fun c16=>?_) (fun c16=>?_)
   ·refine ad.bind (L7 hg14 hr15 (by omega) (by omega)) ?_;rintro⟨⟨y3,y4,y5,y6,y7⟩,y8,x⟩ ⟨hg17,hr18⟩;refine ad.bind (iu hg17 hr18 (by omega) (by omega)) ?_;rintro⟨y9,⟨y10,y11,cM,dh,y14⟩,x1,x2⟩ ⟨(ky9:au y9<=25),hg19,hr20⟩;refine av (by simp<;>omega) ?_;refine ad.bind (bQ (by first|omega|simp<;>omega) hg19 hr20 (by omega) (by omega)) ?_;rintro⟨⟨y15,cT,eE,dY,y19⟩,y20,x3⟩ ⟨hg21,hr22⟩;exact ad.ret ⟨hg21.mono (by omega),hr22.mono (by omega)⟩
   ·refine aA (fun c23=>?_) (fun c23=>?_)
    ·refine ad.bind (iu hg14 hr15 (by omega) (by omega)) ?_;rintro⟨y3,⟨y4,y5,y6,y7,y8⟩,x,x1⟩ ⟨(ky3:au y3<=25),hg24,hr25⟩;refine av (by simp<;>omega) ?_;refine ad.bind (bQ (by first|omega|simp<;>omega) hg24 hr25 (by omega) (by omega)) ?_;rintro⟨⟨y9,y10,y11,cM,dh⟩,y14,x2⟩ ⟨hg26,hr27⟩;refine ad.bind (zJ hg26 hr27 (by omega) (by omega)) ?_;rintro⟨⟨y15,cT,eE,dY,y19⟩,y20,x3⟩ ⟨hg28,hr29⟩;refine ad.bind (bQ (by first|omega|simp<;>omega) hg28 hr29 (by omega) (by omega)) ?_;rintro⟨⟨y21,y22,y23,y24,y25⟩,y26,x4⟩ ⟨hg30,hr31⟩;exact ad.ret ⟨hg30.mono (by omega),hr31.mono (by omega)⟩
    ·refine aA (fun c32=>?_) (fun c32=>?_)
     ·refine ad.bind (zdC hg14 hr15 (by omega) (by omega)) ?_;rintro⟨⟨y3,y4,y5,y6,y7⟩,y8,x⟩ ⟨hg33,hr34⟩;exact ad.ret ⟨hg33.mono (by omega),hr34.mono (by omega)⟩
     ·refine aA (fun c35=>?_) (fun c35=>?_)
      ·refine ad.bind (zJ hg14 hr15 (by omega) (by omega)) ?_;rintro⟨⟨y3,y4,y5,y6,y7⟩,y8,x⟩ ⟨hg36,hr37⟩;refine ad.bind (bQ (by first|omega|simp<;>omega) hg36 hr37 (by omega) (by omega)) ?_;rintro⟨⟨y9,y10,y11,cM,dh⟩,y14,x1⟩ ⟨hg38,hr39⟩;exact ad.ret ⟨hg38.mono (by omega),hr39.mono (by omega)⟩
      ·refine aA (fun c40=>?_) (fun c40=>?_)
       ·refine ad.bind (ew (m:=1) hr15 (by omega) (by simp) (by decide)) ?_;rintro⟨y3,y4,y5⟩ ⟨(ky3:au y3<=1),hr41⟩;refine av (by simp<;>omega) ?_;refine ad.bind (bQ (by first|omega|simp<;>omega) hg14 hr41 (by omega) (by omega)) ?_;rintro⟨⟨y6,y7,y8,y9,y10⟩,y11,x⟩ ⟨hg42,hr43⟩;refine ad.bind (bQ (by first|omega|simp<;>omega) hg42 hr43 (by omega) (by omega)) ?_;rintro⟨⟨cM,dh,y14,y15,cT⟩,eE,x1⟩ ⟨hg44,hr45⟩;refine ad.bind (bQ (by first|omega|simp<;>omega) hg44 hr45 (by omega) (by omega)) ?_;rintro⟨⟨dY,y19,y20,y21,y22⟩,y23,x2⟩ ⟨hg46,hr47⟩;exact ad.ret ⟨hg46.mono (by omega),hr47.mono (by omega)⟩
       ·refine aA (fun c48=>?_) (fun c48=>?_)
        ·refine ad.bind (iu hg14 hr15 (by omega) (by omega)) ?_;rintro⟨y3,⟨y4,y5,y6,y7,y8⟩,x,x1⟩ ⟨(ky3:au y3<=25),hg49,hr50⟩;refine av (by simp<;>omega) ?_;refine ad.bind (bQ (by first|omega|simp<;>omega) hg49 hr50 (by omega) (by omega)) ?_;rintro⟨⟨y9,y10,y11,cM,dh⟩,y14,x2⟩ ⟨hg51,hr52⟩;refine ad.bind (ew (m:=1) hr52 (by omega) (by simp) (by decide)) ?_;rintro⟨y15,cT,eE⟩ ⟨(ky15:au y15<=1),hr53⟩;refine av (by simp<;>omega) ?_;refine ad.bind (bQ (by first|omega|simp<;>omega) hg51 hr53 (by omega) (by omega)) ?_;rintro⟨⟨dY,y19,y20,y21,y22⟩,y23,x3⟩ ⟨hg54,hr55⟩;refine ad.bind (bQ (by first|omega|simp<;>omega) hg54 hr55 (by omega) (by omega)) ?_;rintro⟨⟨y24,y25,y26,y27,y28⟩,y29,x4⟩ ⟨hg56,hr57⟩;exact ad.ret ⟨hg56.mono (by omega),hr57.mono (by omega)⟩
        ·refine aA (fun c58=>?_) (fun c58=>?_)
         ·refine ad.bind (iu hg14 hr15 (by omega) (by omega)) ?_;rintro⟨y3,⟨y4,y5,y6,y7,y8⟩,x,x1⟩ ⟨(ky3:au y3<=25),hg59,hr60⟩;refine av (by simp<;>omega) ?_;refine ad.bind (bQ (by first|omega|simp<;>omega) hg59 hr60 (by omega) (by omega)) ?_;rintro⟨⟨y9,y10,y11,cM,dh⟩,y14,x2⟩ ⟨hg61,hr62⟩;refine ad.bind (L7 hg61 hr62 (by omega) (by omega)) ?_;rintro⟨⟨y15,cT,eE,dY,y19⟩,y20,x3⟩ ⟨hg63,hr64⟩;refine ad.bind (bQ (by first|omega|simp<;>omega) hg63 hr64 (by omega) (by omega)) ?_;rintro⟨⟨y21,y22,y23,y24,y25⟩,y26,x4⟩ ⟨hg65,hr66⟩;exact ad.ret ⟨hg65.mono (by omega),hr66.mono (by omega)⟩
         ·refine aA (fun c67=>?_) (fun c67=>?_)
          ·refine ad.bind (ew (m:=17) hr15 (by omega) (by simp) (by decide)) ?_;rintro⟨y3,y4,y5⟩ ⟨(ky3:au y3<=17),hr68⟩;refine ad.bind (bQ (by first|omega|simp<;>omega) hg14 hr68 (by omega) (by omega)) ?_;rintro⟨⟨y6,y7,y8,y9,y10⟩,y11,x⟩ ⟨hg69,hr70⟩;refine ad.bind (ew (m:=4) hr70 (by omega) (by simp) (by decide)) ?_;rintro⟨cM,dh,y14⟩ ⟨(ky12:au cM<=4),hr71⟩;refine ad.bind (bQ (by first|omega|simp<;>omega) hg69 hr71 (by omega) (by omega)) ?_;rintro⟨⟨y15,cT,eE,dY,y19⟩,y20,x1⟩ ⟨hg72,hr73⟩;exact ad.ret ⟨hg72.mono (by omega),hr73.mono (by omega)⟩
          ·refine ad.bind (zdD hg14 hr15 (by omega) (by omega)) ?_;rintro⟨⟨y3,y4,y5,y6,y7⟩,y8,x⟩ ⟨hg74,hr75⟩;exact ad.ret ⟨hg74.mono (by omega),hr75.mono (by omega)⟩
 rintro⟨⟨o12,o21,o31,o41,o51⟩,o01,o13⟩ ⟨hg76,hr77⟩;exact ad.ret ⟨hg76.mono (by omega),hr77.mono (by omega)⟩
def zdW {v1:List UInt8}{r:List UInt8×Int}{c:Nat}(hv1:au v1<=10)(hr:Rd c r)(hc:c<=750000):ad (wU (v1,r)) fun y=>au y.1<=1000/\Rd (c+5) y.2:=by
 obtain⟨o0,o1⟩:=r;unfold wU;refine aA (fun c1=>?_) (fun c1=>?_)
 ·refine ad.bind (ew (m:=12) hr (by omega) (by simp) (by decide)) ?_;rintro⟨y,y1,y2⟩ ⟨(ky:au y<=12),hr2⟩;refine av (by simp<;>omega) ?_;refine av (by simp<;>omega) ?_;refine av (by simp<;>omega) ?_;refine av (by simp<;>omega) ?_;refine ad.bind (ew (m:=28) hr2 (by omega) (by simp) (by decide)) ?_;rintro⟨y3,y4,y5⟩ ⟨(ky3:au y3<=28),hr3⟩;refine av (by simp<;>omega) ?_;refine ad.bind (ew (m:=72) hr3 (by omega) (by simp) (by decide)) ?_;rintro⟨y6,y7,y8⟩ ⟨(ky6:au y6<=72),hr4⟩;refine av (by simp<;>omega) ?_;exact ad.ret ⟨(by first|omega|simp<;>omega),hr4.mono (by omega)⟩
 ·refine aA (fun c5=>?_) (fun c5=>?_)
  ·refine ad.bind (ew (m:=1) hr (by omega) (by simp) (by decide)) ?_;rintro⟨y,y1,y2⟩ ⟨(ky:au y<=1),hr6⟩;refine av (by simp<;>omega) ?_;refine av (by simp<;>omega) ?_;refine ad.bind (ew (m:=78) hr6 (by omega) (by simp) (by decide)) ?_;rintro⟨y3,y4,y5⟩ ⟨(ky3:au y3<=78),hr7⟩;refine av (by simp<;>omega) ?_;exact ad.ret ⟨(by first|omega|simp<;>omega),hr7.mono (by omega)⟩
  ·refine aA (fun c8=>?_) (fun c8=>?_)
   ·refine ad.bind (ew (m:=40) hr (by omega) (by simp) (by decide)) ?_;rintro⟨y,y1,y2⟩ ⟨(ky:au y<=40),hr9⟩;refine av (by simp<;>omega) ?_;refine av (by simp<;>omega) ?_;refine ad.bind (ew (m:=17) hr9 (by omega) (by simp) (by decide)) ?_;rintro⟨y3,y4,y5⟩ ⟨(ky3:au y3<=17),hr10⟩;refine av (by simp<;>omega) ?_;refine av (by simp<;>omega) ?_;exact ad.ret ⟨(by first|omega|simp<;>omega),hr10.mono (by omega)⟩
   ·refine aA (fun c11=>?_) (fun c11=>?_)
    ·refine ad.bind (ew (m:=1) hr (by omega) (by simp) (by decide)) ?_;rintro⟨y,y1,y2⟩ ⟨(ky:au y<=1),hr12⟩;refine av (by simp<;>omega) ?_;refine av (by simp<;>omega) ?_;exact ad.ret ⟨(by first|omega|simp<;>omega),hr12.mono (by omega)⟩
    ·refine ad.bind (ew (m:=1) hr (by omega) (by simp) (by decide)) ?_;rintro⟨y,y1,y2⟩ ⟨(ky:au y<=1),hr13⟩;refine av (by simp<;>omega) ?_;refine av (by simp<;>omega) ?_;exact ad.ret ⟨(by first|omega|simp<;>omega),hr13.mono (by omega)⟩
def zdX {v1:List UInt8}{r:List UInt8×Int}{c:Nat}(hv1:au v1<=20)(hr:Rd c r)(hc:c<=750000):ad (xR (v1,r)) fun y=>au y.1<=80000/\Rd (c+600) y.2:=by
 obtain⟨o0,o1⟩:=r;unfold xR;refine ad.bindE (fun y=>au y.1<=20/\Gt (0+900) y.2.1/\Rd (c+3) y.2.2) (ad.loop (fun x=>au x.1<=20/\((0:Int)<=x.2.1/\x.2.1<=(3:Int))/\Gt (300*aw x.2.1) x.2.2.1/\Rd (c+aw x.2.1) x.2.2.2) (fun x=>3-aw x.2.1) ?_ ⟨hv1,⟨by simp,by simp⟩,⟨by simp,by simp,by simp,⟨by simp,by simp⟩,by simp⟩,(by exact hr)⟩) ?_
 ·rintro⟨v11,v6,⟨o11,o2,o3,o4,o5⟩,o01,o12⟩ ⟨(kv11:au v11<=20),⟨(i0:(0:Int)<=v6),(i1:v6<=(3:Int))⟩,(hga:Gt (300*aw v6) (o11,o2,o3,o4,o5)),(hra:Rd (c+aw v6) (o01,o12))⟩;obtain⟨n,hn⟩:∃n:Nat,aw v6=n:=⟨_,rfl⟩
  rw[hn]at hga hra;have ko11:au o11<=300*n+0:=hga.1;have ko2:au o2<=300*n+0:=hga.2.1;have ko3:au o3<=300*n+0:=hga.2.2.1;have ko5:au o5<=3:=hga.2.2.2.2;refine aA (fun c1=>?_) (fun c1=>?_)
  ·simp only[aL]at c1;refine ad.bind (ew (m:=5) hra (by omega) (by simp) (by decide)) ?_;rintro⟨y,y1,y2⟩ ⟨(ky:au y<=5),hr2⟩;refine ad.bind (bQ (by first|omega|simp<;>omega) hga hr2 (by omega) (by omega)) ?_;rintro⟨⟨y3,y4,y5,y6,y7⟩,y8,x⟩ ⟨hg3,hr4⟩;have ky3:au y3<=300*n+110:=hg3.1;have ky4:au y4<=300*n+110:=hg3.2.1;have ky5:au y5<=300*n+110:=hg3.2.2.1;have ky7:au y7<=3:=hg3.2.2.2.2;refine ad.bind (lu (by omega) (by omega)) ?_;intro y9 (ky9:au y9<=25);refine av (by simp<;>omega) ?_;refine ad.bind (bQ (by first|omega|simp<;>omega) hg3 hr4 (by omega) (by omega)) ?_;rintro⟨⟨y10,y11,cM,dh,y14⟩,y15,x1⟩ ⟨hg5,hr6⟩;have ky10:au y10<=300*n+220:=hg5.1;have ky11:au y11<=300*n+220:=hg5.2.1;have ky12:au cM<=300*n+220:=hg5.2.2.1;have ky14:au y14<=3:=hg5.2.2.2.2;have hw:IntKind.wrap .i64 (v6+1)=v6+1:=wrapI (by omega) (by omega);rw[hw];exact ad.ret ⟨⟨kv11,⟨by show(0:Int)<=v6+1;omega,by show v6+1<=(3:Int);omega⟩,hg5.mono (by show _<=300*aw (v6+1);omega),hr6.mono (by show _<=c+aw (v6+1);omega)⟩,by show 3-aw (v6+1)<3-aw v6;omega⟩
  ·simp only[bS]at c1;exact ad.ret ⟨(by first|omega|simp<;>omega),hga.mono (by omega),hra.mono (by omega)⟩
 rintro⟨v11,⟨o11,o2,o3,o4,o5⟩,o01,o12⟩ ⟨(kv11:au v11<=20),hg7,hr8⟩;have ko11:au o11<=0+900:=hg7.1;have ko2:au o2<=0+900:=hg7.2.1;have ko3:au o3<=0+900:=hg7.2.2.1;have ko5:au o5<=3:=hg7.2.2.2.2;refine ad.bind (eN hr8 (by omega)) ?_;rintro⟨y,y1,y2⟩ ⟨(a10:(0:Int)<=y),(b11:(1:Int)<=(6:Int)->y<(6:Int)),-,hr9⟩;refine ad.bindE (fun y=>au y.1<=20/\((-9223372036854775808:Int)<=y.2.1/\y.2.1<=(9223372036854775807:Int))/\Gt (0+12900) y.2.2.1/\Rd (c+244) y.2.2.2) (ad.loop (fun x=>au x.1<=20/\((-9223372036854775808:Int)<=x.2.1/\x.2.1<=(9223372036854775807:Int))/\((0:Int)<=x.2.2.1/\x.2.2.1<=(6:Int))/\Gt (12900-2000*aw x.2.2.1) x.2.2.2.1/\Rd (c+244-40*aw x.2.2.1) x.2.2.2.2) (fun x=>aw x.2.2.1) ?_ (by rw[show IntKind.wrap .i64 (1+y)=1+y from wrapI (by omega) (by omega)];exact⟨kv11,⟨hg7.2.2.2.1.1,hg7.2.2.2.1.2⟩,⟨by show(0:Int)<=1+y;omega,by show 1+y<=(6:Int);omega⟩,hg7.mono (by show _<=12900-2000*aw (1+y);omega),hr9.mono (by show _<=c+244-40*aw (1+y);omega)⟩)) ?_
 ·rintro⟨v12,v7,v8,⟨o13,o21,o31,o41,o51⟩,o02,o14⟩ ⟨(kv12:au v12<=20),⟨(j0:(-9223372036854775808:Int)<=v7),(j1:v7<=(9223372036854775807:Int))⟩,⟨(i0:(0:Int)<=v8),(i1:v8<=(6:Int))⟩,(hga:Gt (12900-2000*aw v8) (o13,o21,o31,o41,o51)),(hra:Rd (c+244-40*aw v8) (o02,o14))⟩;obtain⟨n,hn⟩:∃n:Nat,aw v8=n:=⟨_,rfl⟩
  rw[hn]at hga hra;have ko13:au o13<=(12900-2000*n)+0:=hga.1;have ko21:au o21<=(12900-2000*n)+0:=hga.2.1;have ko31:au o31<=(12900-2000*n)+0:=hga.2.2.1;have ko51:au o51<=3:=hga.2.2.2.2;refine aA (fun c12=>?_) (fun c12=>?_)
  ·simp only[aL]at c12;refine aA (fun c13=>?_) (fun c13=>?_)
   ·simp only[aL]at c13;refine ad.bind (zdV hga hra (by omega) (by omega)) ?_;rintro⟨⟨y3,y4,y5,y6,y7⟩,y8,x⟩ ⟨hg14,hr15⟩;have ky3:au y3<=(12900-2000*n)+2000:=hg14.1;have ky4:au y4<=(12900-2000*n)+2000:=hg14.2.1;have ky5:au y5<=(12900-2000*n)+2000:=hg14.2.2.1;have ky7:au y7<=3:=hg14.2.2.2.2;have hw:IntKind.wrap .i64 (v8-1)=v8-1:=wrapI (by omega) (by omega);rw[hw];exact ad.ret ⟨⟨kv12,⟨j0,j1⟩,⟨by show(0:Int)<=v8-1;omega,by show v8-1<=(6:Int);omega⟩,hg14.mono (by show _<=12900-2000*aw (v8-1);omega),hr15.mono (by show _<=c+244-40*aw (v8-1);omega)⟩,by show aw (v8-1)<aw v8;omega⟩
   ·simp only[bS]at c13;exact ad.ret ⟨(by first|omega|simp<;>omega),⟨j0,j1⟩,hga.mono (by omega),hra.mono (by omega)⟩
  ·simp only[bS]at c12;exact ad.ret ⟨(by first|omega|simp<;>omega),⟨j0,j1⟩,hga.mono (by omega),hra.mono (by omega)⟩
 rintro⟨v12,v7,⟨o13,o21,o31,o41,o51⟩,o02,o14⟩ ⟨(kv12:au v12<=20),i16,hg17,hr18⟩;have ko13:au o13<=0+12900:=hg17.1;have ko21:au o21<=0+12900:=hg17.2.1;have ko31:au o31<=0+12900:=hg17.2.2.1;have ko51:au o51<=3:=hg17.2.2.2.2;refine ad.bindE (fun y=>au y.1<=20/\Gt (0+14100) y.2.1/\Rd (c+248) y.2.2) ?_ ?_
 ·refine ad.bind (eN hr18 (by omega)) ?_;rintro⟨y3,y4,y5⟩ ⟨(a20:(0:Int)<=y3),(b21:(1:Int)<=(3:Int)->y3<(3:Int)),-,hr19⟩;refine aA (fun c22=>?_) (fun c22=>?_)
  ·simp only[aL]at c22;refine ad.bind (zdU i16.1 i16.2 hg17 hr19 (by omega) (by omega)) ?_;rintro⟨⟨y6,y7,y8,y9,y10⟩,y11,x⟩ ⟨hg23,hr24⟩;have ky6:au y6<=0+14100:=hg23.1;have ky7:au y7<=0+14100:=hg23.2.1;have ky8:au y8<=0+14100:=hg23.2.2.1;have ky10:au y10<=3:=hg23.2.2.2.2;exact ad.ret ⟨(by first|omega|simp<;>omega),hg23.mono (by omega),hr24.mono (by omega)⟩
  ·simp only[bS]at c22;exact ad.ret ⟨(by first|omega|simp<;>omega),hg17.mono (by omega),hr19.mono (by omega)⟩
 rintro⟨v13,⟨o15,o22,o32,o42,o52⟩,o03,o16⟩ ⟨(kv13:au v13<=20),hg25,hr26⟩;have ko15:au o15<=0+14100:=hg25.1;have ko22:au o22<=0+14100:=hg25.2.1;have ko32:au o32<=0+14100:=hg25.2.2.1;have ko52:au o52<=3:=hg25.2.2.2.2;refine ad.bindE (fun y=>au y.1<=20/\Gt (0+14320) y.2.1/\Rd (c+250) y.2.2) ?_ ?_
 ·refine ad.bind (eN hr26 (by omega)) ?_;rintro⟨y3,y4,y5⟩ ⟨(a28:(0:Int)<=y3),(b29:(1:Int)<=(8:Int)->y3<(8:Int)),-,hr27⟩;refine aA (fun c30=>?_) (fun c30=>?_)
  ·simp only[aL]at c30;refine ad.bind (iu hg25 hr27 (by omega) (by omega)) ?_;rintro⟨y6,⟨y7,y8,y9,y10,y11⟩,x,x1⟩ ⟨(ky6:au y6<=25),hg31,hr32⟩;have ky7:au y7<=0+14100:=hg31.1;have ky8:au y8<=0+14100:=hg31.2.1;have ky9:au y9<=0+14100:=hg31.2.2.1;have ky11:au y11<=3:=hg31.2.2.2.2;refine av (by simp<;>omega) ?_;refine ad.bind (bQ (by first|omega|simp<;>omega) hg31 hr32 (by omega) (by omega)) ?_;rintro⟨⟨cM,dh,y14,y15,cT⟩,eE,x2⟩ ⟨hg33,hr34⟩;have ky12:au cM<=0+14210:=hg33.1;have ky13:au dh<=0+14210:=hg33.2.1;have ky14:au y14<=0+14210:=hg33.2.2.1;have ky16:au cT<=3:=hg33.2.2.2.2;refine ad.bind (bQ (by first|omega|simp<;>omega) hg33 hr34 (by omega) (by omega)) ?_;rintro⟨⟨dY,y19,y20,y21,y22⟩,y23,x3⟩ ⟨hg35,hr36⟩;have ky18:au dY<=0+14320:=hg35.1;have ky19:au y19<=0+14320:=hg35.2.1;have ky20:au y20<=0+14320:=hg35.2.2.1;have ky22:au y22<=3:=hg35.2.2.2.2;exact ad.ret ⟨(by first|omega|simp<;>omega),hg35.mono (by omega),hr36.mono (by omega)⟩
  ·simp only[bS]at c30;refine ad.bind (bQ (by first|omega|simp<;>omega) hg25 hr27 (by omega) (by omega)) ?_;rintro⟨⟨y6,y7,y8,y9,y10⟩,y11,x⟩ ⟨hg37,hr38⟩;have ky6:au y6<=0+14210:=hg37.1;have ky7:au y7<=0+14210:=hg37.2.1;have ky8:au y8<=0+14210:=hg37.2.2.1;have ky10:au y10<=3:=hg37.2.2.2.2;exact ad.ret ⟨(by first|omega|simp<;>omega),hg37.mono (by omega),hr38.mono (by omega)⟩
 rintro⟨v14,⟨o17,o23,o33,o43,o53⟩,o04,o18⟩ ⟨(kv14:au v14<=20),hg39,hr40⟩;have ko17:au o17<=0+14320:=hg39.1;have ko23:au o23<=0+14320:=hg39.2.1;have ko33:au o33<=0+14320:=hg39.2.2.1;have ko53:au o53<=3:=hg39.2.2.2.2;refine av (by simp<;>omega) ?_;refine av (by simp<;>omega) ?_;refine av (by simp<;>omega) ?_;refine av (by simp<;>omega) ?_;refine av (by simp<;>omega) ?_;exact ad.ret ⟨(by first|omega|simp<;>omega),hr40.mono (by omega)⟩
end
section
open Go Go.AM Go.TM Go.Stow
set_option maxRecDepth 10000
def Md:gS ([],0,0,0,[],[],[]):=by
 refine⟨⟨by simp,by simp,by simp,by simp⟩,by simp,⟨by simp,by simp⟩,⟨by simp,by simp⟩,⟨by simp,by simp⟩,by simp,by simp,by simp⟩
def zdY {c:Cls}(h:put c≠[]):(cJ tI dQ c).length<=900:=by
 refine Classical.byContradiction fun hn=>h (kE fun hh=>hn hh.2.1)
def Me (s:List UInt8):ad (tG s) fun y=>y.length<=900:=by
 unfold tG;refine ad.bind zdT ?_;rintro⟨b,c0,c1,c2,c3,c4,c5,c6⟩ hb;refine aA (fun _=>ad.ret (by simp)) fun h=>?_
 have hp:=hb (by simpa using h);simp only at hp;have hf:=pL hp;rw[zb _ (n6 hf) (Dz hf),ax];refine ad.ret ?_;rw[mQ _ hf];exact zdY hp
def zdZ {l:List UInt8}{r:Bool×Cls}(h:kt l=U r):r=(ag,[],0,0,0,[],[],[])\/r.1=ae:=by
 unfold kt at h;cases c1:aa ((900:Int)<(l.length:Int))with
 |true=>rw[c1,aN]at h;exact .inl (Option.some.inj h).symm
 | false=>
   rw[c1,aM]at h;cases c2:tu (l,0,ag)with
   |none=>rw[c2]at h;cases h
   | some v=>
     obtain⟨⟨y,y1,y2,y3,y4,y5,x⟩,x1,x2,x3⟩:=v;rw[c2,ax]at h;cases x3 with
     |true=>exact .inl (Option.some.inj h).symm
     | false=>
       simp only[aM]at h;cases c3:(!aa (x2=(l.length:Int)))with
       |true=>rw[c3,aN]at h;exact .inl (Option.some.inj h).symm
       | false=>
         rw[c3,aM]at h;cases c4:mF (y,y1,y2,y3,y4,y5,x)with
         |none=>rw[c4]at h;cases h
         | some w=>
           rw[c4,ax]at h;cases c5:(!aa (w=l))with
           |true=>rw[c5,aN]at h;exact .inl (Option.some.inj h).symm
           |false=>rw[c5,aM]at h;right;rw[<-Option.some.inj h]
def zd0 {l:List UInt8}(h:¬ l.length<=900):kt l=U (ag,[],0,0,0,[],[],[]):=by
 have:(900:Int)<(l.length:Int):=by omega
 simp only[kt,this,ay,aN]
def zd1 (l:List UInt8):∃b c,kt l=U (b,c)/\gS c/\(b=ae->l.length<=900/\fh l=U (c,[])/\cJ tS cH c=l)/\(∀c',l.length<=900->fh l=U (c',[])->cJ tS cH c'=l->b=ae)/\(b=ag->c=([],0,0,0,[],[],[])):=by
 by_cases hl:l.length<=900
 ·obtain⟨b,c,h1,h2,h3⟩:=Kz l hl;have hg:=zdZ h1;refine⟨b,c,h1,?_,fun hb=>⟨hl,h2 hb⟩,fun c' _=>h3 c',fun hb=>?_⟩
  ·rcases hg with hg|hg
   ·simp only[bm]at hg;have:c=([],0,0,0,[],[],[]):=by obtain⟨-,hg⟩:=hg;exact hg▸rfl
    rw[this];exact Md
   ·exact uf _ _ _ (h2 hg).1
  ·rcases hg with hg|hg
   ·have:=congrArg Prod.snd hg;exact this
   ·simp only at hg;rw[hb]at hg;cases hg
 ·exact⟨ag,_,zd0 hl,Md,(fun h=>by cases h),fun c' h=>absurd h hl,fun _=>rfl⟩
def t54 {s:List UInt8}{r:List UInt8×Int}{c:Nat}(hs:s.length<=1000000)(hr:Rd c r)(hc:c<=600000):ad (xT (s,r)) fun y=>y.1.length<=s.length+1/\Rd (c+3) y.2:=by
 obtain⟨o0,o1⟩:=r;have hw:IntKind.wrap .i64 ((s.length:Int)+1)=(s.length:Int)+1:=wrapI (by omega) (by omega);simp only[xT,hw]
 refine ad.bind (eN hr (by omega)) ?_;rintro⟨k,y1,y2⟩ ⟨(k0:0<=k),k1,-,hr1⟩;have k1:k<(s.length:Int)+1:=k1 (by omega);refine ad.bind (eN hr1 (by omega)) ?_;rintro⟨y3,y4,y5⟩ ⟨-,-,-,hr2⟩;refine ad.bindE (fun z=>z.1=s/\Rd (c+3) z.2) ?_ ?_
 ·refine ad.bindE (fun z=>∃b,z=(s,k,y3,b,y4,y5)) ?_ ?_
  ·exact aA (fun _=>ad.ret ⟨_,rfl⟩) fun _=>ad.ret ⟨_,rfl⟩
  rintro _ ⟨b,rfl⟩;refine aA (fun _=>aA (fun h=>?_) fun _=>ad.ret ⟨rfl,hr2.mono (by omega)⟩) fun _=>?_
  ·simp only[aL]at h;have hw:IntKind.wrap .i64 (k+1)=k+1:=wrapI (by omega) (by omega);simp only[hw]
   refine av (by simp;omega) (av (by simp;omega) (ad.bind (eN hr2 (by omega)) ?_));rintro⟨y6,y7,y8⟩ ⟨-,-,-,hr3⟩;refine ad.seq (by repeat first|exact ad.ret trivial|refine ad.seq ?_ ?_|refine av (by first|decide|simp<;>omega) ?_) ?_;refine av (oi _) ?_;refine ad.seq (by repeat first|exact ad.ret trivial|refine ad.seq ?_ ?_|refine av (by first|decide|simp<;>omega) ?_) ?_;refine av (by simp;omega) (av (by simp;omega) (ad.ret ⟨?_,hr3⟩));simp only[aP,bL,cX,dx,bT];omega
  ·refine aA (fun _=>av (by simp;omega) (ad.ret ⟨by simp only[dx,bT];omega,hr2.mono (by omega)⟩)) fun _=>aA (fun _=>?_) fun _=>ad.ret ⟨rfl,hr2.mono (by omega)⟩
   refine ad.bind (eN hr2 (by omega)) ?_;rintro⟨y6,y7,y8⟩ ⟨-,-,-,hr3⟩;exact av (oi _) (av (by simp;omega) (ad.ret ⟨by simp only[aP,bL,cX];omega,hr3⟩))
 rintro⟨s1,o1,o2⟩ ⟨hs1,hr3⟩;simp only at hs1;subst hs1;exact ad.ret ⟨by simp only;omega,hr3⟩
end
end Go.Proofs.YtmjlecabpbiigaaGreat
section
namespace Go.Stow
def cA {α:Type}(g:α->α)(l:List α)(i:Nat):List α:=(l.take i).map g++l.drop i
section
variable {α:Type}{g:α->α}{l:List α}
def zL:cA g l 0=l:=by simp[cA]
def zM:cA g l l.length=l.map g:=by simp[cA]
def rF (i:Nat):(cA g l i).length=l.length:=by
 unfold cA;rw[aP,cG,bT,dx];omega
def zN {i:Nat}(h:i<l.length):(cA g l i)[i]? = l[i]?:=by
 unfold cA;rw[List.getElem?_append_right (by rw[cG,bT];omega),cG,bT,List.getElem?_drop];congr 1;omega
def zO {i:Nat}{x:α}(e:l[i]? = U x):(cA g l i).set i (g x)=cA g l (i+1):=by
 obtain⟨h,e⟩:=List.getElem?_eq_some_iff.1 e;unfold cA;rw[List.set_append_right _ _ (by rw[cG,bT];omega),cG,bT,show i-min i l.length=0 by omega,List.drop_eq_getElem_cons h,List.set_cons_zero,List.take_succ_eq_append_getElem h,List.map_append,bD,e];rfl
end
end Go.Stow
namespace Go.Proofs.YtmjlecabpbiigaaGreat
open Go Go.AM Go.TM Go.Stow
set_option maxRecDepth 10000
def Mf {c:Cls}(h:put c≠[]):fh (put c)=U (c,[])/\(put c).length<=900:=by
 obtain⟨h1,h2,h3⟩:=Ee h;rw[rp ⟨h1,h2,h3⟩];exact⟨h3,h2⟩
def zP {l:List UInt8}{c:Cls}(h:fh l=U (c,[]))(hl:l.length<=900):put c=l/\put c≠[]/\gS c:=by
 have hf:=uf _ _ _ h;have hi:=KQ h;rw[cB]at hi;have e:cJ tI dQ c=l:=by rw[<-mQ _ hf];exact hi.symm
 have hp:put c=l:=by rw[rp ⟨hf,by rw[e];exact hl,by rw[e];exact h⟩,e]
 refine⟨hp,fun h0=>?_,hf⟩;rw[hp]at h0;rw[h0]at hi;simp[cJ]at hi
def gW (s:List UInt8)(c:Cls):Prop:=fh s=U (c,[])/\s.length<=900/\dR c=0
noncomputable def tf (s:List UInt8):List UInt8:=by
 classical
 exact if h:∃c,gW s c then put (gF h.choose)else s
def gW.one {s:List UInt8}{c d:Cls}(h:gW s c)(g:gW s d):c=d:=by
 have:=h.1.symm.trans g.1;exact(Prod.mk.inj (Option.some.inj this)).1
def uE {s:List UInt8}{c:Cls}(h:gW s c):tf s=put (gF c):=by
 have he:∃c,gW s c:=⟨c,h⟩
 unfold tf;rw[dif_pos he,he.choose_spec.one h]
def uF {s:List UInt8}(h:¬ ∃ c,gW s c):tf s=s:=by unfold tf;rw[dif_neg h]
def Mg (s:List UInt8):(tf s).length<=900\/tf s=s:=by
 by_cases h:∃c,gW s c
 ·obtain⟨c,h⟩:=h;rw[uE h];have hp:=(zP h.1 h.2.1).2.1;exact .inl (Mf (Ek hp h.2.2).1).2
 ·exact .inr (uF h)
def zd2 (s:List UInt8):tf (tf s)=tf s:=by
 by_cases h:∃c,gW s c
 ·obtain⟨c,h⟩:=h;have hp:=(zP h.1 h.2.1).2.1;obtain⟨x1,x2,x3⟩:=Ek hp h.2.2;obtain⟨g1,g2⟩:=Mf x1;rw[uE h,uE (c:=gF c) ⟨g1,g2,x2⟩,x3]
 ·rw[uF h,uF h]
def zQ (s:List UInt8)(y:Bool×Cls):Prop:=(y.1=ae/\fh s=U (y.2,[])/\s.length<=900)\/(y.1=ag/\¬ ∃c,gW s c)
def y8 (s:List UInt8):ad (F8 s) (zQ s):=by
 by_cases hl:s.length<=900
 ·have h:=Kk s hl;unfold ga at h;rw[h];refine ad.ret ?_;cases e:fh s with
  |none=>exact .inr ⟨rfl,fun⟨c,h⟩=>by have:=h.1;rw[e]at this;cases this⟩
  | some p=>
    obtain⟨c,r⟩:=p;cases r with
    |nil=>exact .inl ⟨rfl,e,hl⟩
    |cons x r=>exact .inr ⟨rfl,fun⟨c,h⟩=>by have:=h.1;rw[e]at this;simp at this⟩
 ·have:(900:Int)<(s.length:Int):=by omega
  simp only[F8,this,ay,aN]
  exact ad.ret (.inr ⟨rfl,fun⟨c,h⟩=>hl h.2.1⟩)
def dY (s:List UInt8):ad (kt s) (zQ s):=by
 obtain⟨b,c,e,hf,h1,h2,h3⟩:=zd1 s;rw[e];refine ad.ret ?_;cases b with
 |true=>exact .inl ⟨rfl,(h1 rfl).2.1,(h1 rfl).1⟩
 | false=>
   refine .inr ⟨rfl,fun⟨c',h⟩=>?_⟩;have hi:=KQ h.1;rw[cB]at hi;have:=h2 c' h.2.1 h.1 hi.symm;cases this
def zQ.chk {s:List UInt8}{c:Cls}(h:zQ s (ae,c)):F9 c=U (dR c)/\pq c=U (dR c)/\(dR c=0->gW s c)/\(dR c≠0->¬ ∃c,gW s c):=by
 rcases h with⟨_,h1,h2⟩|⟨h,_⟩
 ·obtain⟨p1,p2,p3⟩:=zP h1 h2;refine⟨?_,DX c p3,fun h0=>⟨h1,h2,h0⟩,fun h0 ⟨d,hd⟩=>?_⟩
  ·have:=Lm c (n6 p3);rw[if_neg p2]at this;exact this
  ·have:=h1.symm.trans hd.1;have e:c=d:=(Prod.mk.inj (Option.some.inj this)).1;exact h0 (e▸hd.2.2)
 ·cases h
def gW.tid {s:List UInt8}{c:Cls}(h:gW s c):nW c=U (gF c)/\pD c=U (gF c)/\px (gF c)=U (tf s)/\mF (gF c)=U (tf s):=by
 obtain⟨_,p2,p3⟩:=zP h.1 h.2.1;have hb:=n6 p3;obtain⟨x1,x2,_⟩:=Ek p2 h.2.2;have xf:=pL x1;refine⟨(q38 c hb).trans (by rw[if_pos ⟨p2,h.2.2⟩]),(q39 c hb).trans (by rw[if_pos ⟨p2,h.2.2⟩]),?_,?_⟩
 ·rw[uE h];exact Ky _ (n6 xf)
 ·rw[uE h,rp (Ee x1),<-mQ _ xf];exact zb _ (n6 xf) (Dz xf)
noncomputable def tidF (f:Fil):Fil:=(f.1,tf f.2)
noncomputable def tidR (l:Ldr):Ldr:=(l.1.map tidF,l.2.1,l.2.2)
def zd3 {f:Fil}(h:f.1.length<=1000/\f.2.length<=100000):(tidF f).1.length<=1000/\(tidF f).2.length<=100000:=by
 refine⟨h.1,?_⟩;show(tf f.2).length<=100000;rcases Mg f.2 with h1|h1
 ·omega
 ·rw[h1];exact h.2
def zd4 {l:Ldr}(h:oc l):oc (tidR l):=by
 refine⟨by show(l.1.map tidF).length<=1000;rw[cG];exact h.1,fun f hf=>?_,h.2.2.1,h.2.2.2⟩;obtain⟨g,hg,rfl⟩:=List.mem_map.1 hf;exact zd3 (h.2.1 g hg)
def zd5 {ls:List Ldr}(h:bLs ls):bLs (ls.map tidR):=by
 refine⟨by rw[cG];exact h.1,fun l hl=>?_⟩;obtain⟨g,hg,rfl⟩:=List.mem_map.1 hl;exact zd4 (h.2 g hg)
def ux {α β:Type}{g:α->β}{l:List α}{i:Nat}(d:α)(e:β)(h:i<l.length):(l.map g).getD i e=g (l.getD i d):=by
 rw[List.getD_eq_getElem?_getD,List.getElem?_map,dq d h];rfl
def zd6 {l:Ldr}{n:Int}(h:dS l n):dS (tidR l) n:=by
 obtain⟨h1,h2,h3,h4,h5⟩:=h;refine⟨by show(l.1.map tidF).length<=5;rw[cG];exact h1,h2,h3,fun i hi=>?_,h5⟩;have hi:i<l.1.length:=by have:i<(l.1.map tidF).length:=hi;rwa[cG]at this
 obtain⟨a1,a2,a3,a4⟩:=h4 i hi;have e:(tidR l).1.getD i ([],[])=tidF (l.1.getD i ([],[])):=ux _ _ hi;unfold lW;rw[e];refine⟨a1,a2,?_,fun k hk=>?_⟩
 ·show(tf _).length<=900;rcases Mg (l.1.getD i ([],[])).2 with h1|h1
  ·exact h1
  ·rw[h1];exact a3
 ·have e2:(tidR l).1.getD k ([],[])=tidF (l.1.getD k ([],[])):=ux _ _ (by omega);rw[e2];exact a4 k hk
def zd7 {ls:List Ldr}(h:gU ls):gU (ls.map tidR):=by
 obtain⟨h1,h2⟩:=h;unfold gU;rw[cG];refine⟨h1,fun i hi=>?_⟩;rw[ux (([],[],0):Ldr) _ hi];exact zd6 (h2 i hi)
def zWM (ls:List Ldr):(ls.map tidR).map tidR=ls.map tidR:=by
 rw[List.map_map];refine List.map_congr_left fun l _=>?_
 show((l.1.map tidF).map tidF,l.2.1,l.2.2)=(l.1.map tidF,l.2.1,l.2.2)
 rw[List.map_map];congr 1;refine List.map_congr_left fun f _=>?_
 show(f.1,tf (tf f.2))=(f.1,tf f.2)
 rw[zd2]
end Go.Proofs.YtmjlecabpbiigaaGreat
end
namespace Go.Proofs.YtmjlecabpbiigaaGreat
section
open Go Go.AM Go.TM Go.Stow
set_option maxRecDepth 10000
def Et:∀(a b:List UInt8),Op.bytesLess a b = !(Op.bytesLess b a||aa (b=a))
 |[],[]=>by simp[Op.bytesLess]
 |_::_,[]=>by simp[Op.bytesLess]
 |[],_::_=>by simp[Op.bytesLess]
 | x::a,y::b=>by
   rw[Op.bytesLess,Op.bytesLess,Et a b,Bool.eq_iff_iff];rcases Nat.lt_trichotomy x.toNat y.toNat with h|h|h
   ·have h1:x<y:=UInt8.lt_iff_toNat_lt.2 h;have h2:¬y<x:=fun h'=>by have:=UInt8.lt_iff_toNat_lt.1 h';omega
    have h3:¬y=x:=fun e=>by rw[e]at h;omega
    have h4:¬x=y:=fun e=>h3 e.symm
    simp[h1,h2,h3,h4]
   ·have e:x=y:=UInt8.toNat_inj.1 h;subst e;have h1:¬x<x:=fun h'=>by have:=UInt8.lt_iff_toNat_lt.1 h';omega
    simp[h1]
   ·have h1:y<x:=UInt8.lt_iff_toNat_lt.2 h;have h2:¬x<y:=fun h'=>by have:=UInt8.lt_iff_toNat_lt.1 h';omega
    have h4:¬x=y:=fun e=>by rw[e]at h;omega
    simp[h1,h2,h4]
def zd8 (n:List UInt8):yO n=U (if n_ n then(if n=[79,98,106]then 0 else 1)else -1):=by
 simp only[yO,aG]
 unfold n_;by_cases h1:n=[79,98,106]
 ·simp[h1]
 ·by_cases h2:n=[69,114,114]
  ·simp[h2]
  ·simp[h1,h2]
def Eu (ls:List Ldr)(l:Ldr)(hn:ls.length<=1000)(hb:oc l):ad (yP ((ls,[],[],[]),l)) fun y=>y=aa (dS l ls.length):=by
 obtain⟨fs,ws,p⟩:=l;obtain⟨b1,b2,b3,b4⟩:=hb;simp only at b1 b2 b3 b4;have no:¬dS (fs,ws,p) ls.length->ag=aa (dS (fs,ws,p) ls.length):=fun h=>(decide_eq_false h).symm
 have hw:IntKind.wrap .i64 ((ls.length:Int)-1)=(ls.length:Int)-1:=wI (by omega) (by omega);unfold yP;refine ad.bindE (fun z=>z=((ls,[],[],[]),fs,ws,p)/\∀i,i<fs.length->lW fs i) (ad.loop (fun z=>∃i:Nat,z=((i:Int),(ls,[],[],[]),fs,ws,p)/\i<=fs.length/\∀j,j<i->lW fs j) (fun z=>fs.length-z.1.toNat) ?_ ⟨0,rfl,Nat.zero_le _,fun j hj=>absurd hj (Nat.not_lt_zero _)⟩) ?_
 ·rintro _ ⟨i,rfl,hi,hA⟩;refine aA (fun h=>?_) fun h=>?_
  ·simp only[aL]at h;have hil:i<fs.length:=by omega
   have e:=dq (([],[]):Fil) hil;have hf:=b2 _ (gD (([],[]):Fil) hil);have nf:¬lW fs i->ag=aa (dS (fs,ws,p) ls.length):=fun h=>no fun hh=>h (hh.2.2.2.1 i hil)
   refine ad.bindE (fun z=>z=((i:Int),(ls,[],[],[]),fs,ws,p)/\lW fs i) (av (by simp) (cg (show fs[((i:Int)).toNat]? = _ from e) ?_)) ?_
   ·generalize hx:fs.getD i ([],[])=x at hf;refine ad.bindE (fun z=>z=((i:Int),(ls,[],[],[]),(fs,ws,p),x.1,x.2)/\Nm x.1/\¬n_ x.1/\x.2.length<=900) (ad.bind (P:=fun y=>y=aa (Nm x.1)) ⟨_,n9 _ (by omega),rfl⟩ ?_) ?_
    ·rintro _ rfl;refine aA (fun c1=>?_) fun c1=>ad.bind (P:=fun y=>y=_) ⟨_,zd8 _,rfl⟩ ?_
     ·have c1:¬Nm x.1:=of_decide_eq_false (by simpa only[Bool.not_eq_true']using c1);exact ad.ret (nf fun hh=>c1 (hx▸hh.1))
     have c1:Nm x.1:=of_decide_eq_true (by simpa only[Bool.not_eq_false']using c1);rintro _ rfl;refine aA (fun c2=>?_) fun c2=>aA (fun c3=>?_) fun c3=>?_
     ·have c2:=of_decide_eq_true c2;refine ad.ret (nf fun hh=>?_);have h2:=hh.2.1;rw[hx]at h2;rw[if_neg h2]at c2;exact absurd c2 (by decide)
     ·simp only[aL]at c3;refine ad.ret (nf fun hh=>?_);have h2:=hh.2.2.1;rw[hx]at h2;omega
     ·have c2:=of_decide_eq_false c2;simp only[bS]at c3;refine ad.ret ⟨rfl,c1,fun hf=>c2 ?_,by omega⟩;rw[if_pos hf];split<;>decide
    rintro _ ⟨rfl,d1,d2,d3⟩;refine ad.bindE (fun z=>z=((i:Int),(ls,[],[],[]),fs,ws,p)/\∀k,k<i->(fs.getD k ([],[])).1≠x.1) (ad.loop (fun z=>∃k:Nat,z=((i:Int),(k:Int),(ls,[],[],[]),(fs,ws,p),x.1,x.2)/\k<=i/\∀j,j<k->(fs.getD j ([],[])).1≠x.1) (fun z=>i-z.2.1.toNat) ?_ ⟨0,rfl,Nat.zero_le _,fun j hj=>absurd hj (Nat.not_lt_zero _)⟩) ?_
    ·rintro _ ⟨k,rfl,hk,hB⟩;refine aA (fun h=>?_) fun h=>?_
     ·simp only[aL]at h;have hki:k<i:=by omega
      refine av (by simp) (cg (show fs[((k:Int)).toNat]? = _ from dq (([],[]):Fil) (by omega)) (aA (fun c=>?_) fun c=>?_))
      ·have c:=of_decide_eq_true c;exact ad.ret (nf fun hh=>hh.2.2.2 k hki (by rw[hx];exact c))
      ·have c:=of_decide_eq_false c;refine ad.ret ⟨⟨k+1,by rw[wN (by omega)],by omega,fun j hj=>?_⟩,by show i-(IntKind.wrap .i64 ((k:Int)+1)).toNat<i-((k:Int)).toNat;rw[wN (by omega)];omega⟩;by_cases hjk:j<k
       ·exact hB j hjk
       ·obtain rfl:j=k:=by omega
        exact c
     ·simp only[bS]at h;obtain rfl:k=i:=by omega
      exact ad.ret ⟨rfl,hB⟩
    ·rintro _ ⟨rfl,hB⟩;exact ad.ret ⟨rfl,by rw[hx];exact d1,by rw[hx];exact d2,by rw[hx];exact d3,fun k hk=>by rw[hx];exact hB k hk⟩
   ·rintro _ ⟨rfl,hF⟩;refine ad.ret ⟨⟨i+1,by rw[wN (by omega)],by omega,fun j hj=>?_⟩,by show fs.length-(IntKind.wrap .i64 ((i:Int)+1)).toNat<fs.length-((i:Int)).toNat;rw[wN (by omega)];omega⟩;by_cases hji:j<i
    ·exact hA j hji
    ·obtain rfl:j=i:=by omega
     exact hF
  ·simp only[bS]at h;obtain rfl:i=fs.length:=by omega
   exact ad.ret ⟨rfl,hA⟩
 rintro _ ⟨rfl,hF⟩;refine ad.bindE (fun z=>z=((ls,[],[],[]),fs,ws,p)/\∀i,i<ws.length->mS ws ls.length i) (ad.loop (fun z=>∃i:Nat,z=((i:Int),(ls,[],[],[]),fs,ws,p)/\i<=ws.length/\∀j,j<i->mS ws ls.length j) (fun z=>ws.length-z.1.toNat) ?_ ⟨0,rfl,Nat.zero_le _,fun j hj=>absurd hj (Nat.not_lt_zero _)⟩) ?_
 ·rintro _ ⟨i,rfl,hi,hA⟩;refine aA (fun h=>?_) fun h=>?_
  ·simp only[aL]at h;have hil:i<ws.length:=by omega
   have e:ws[((i:Int)).toNat]? = U (ws.getD i ([],0)):=dq (([],0):Wy) hil;have hf:=b4 _ (gD (([],0):Wy) hil);have nf:¬mS ws ls.length i->ag=aa (dS (fs,ws,p) ls.length):=fun h=>no fun hh=>h (hh.2.2.2.2 i hil)
   rw[hw];refine ad.bindE (fun z=>z=((i:Int),(ls,[],[],[]),fs,ws,p)/\mS ws ls.length i) (av (by simp) (cg e (ad.bind (P:=fun y=>y=aa (Nm (ws.getD i ([],0)).1)) ⟨_,n9 _ (by omega),rfl⟩ ?_))) ?_
   ·rintro _ rfl;refine aA (fun c1=>?_) fun c1=>av (by simp) (cg e (ad.bind (P:=fun y=>y=aa (0<=(ws.getD i ([],0)).2/\(ws.getD i ([],0)).2<=(ls.length:Int)-1)) ⟨_,jh _ _ _,rfl⟩ ?_))
    ·have c1:¬Nm (ws.getD i ([],0)).1:=of_decide_eq_false (by simpa only[Bool.not_eq_true']using c1);exact ad.ret (nf fun hh=>c1 hh.1)
    have c1:Nm (ws.getD i ([],0)).1:=of_decide_eq_true (by simpa only[Bool.not_eq_false']using c1);rintro _ rfl;refine aA (fun c2=>?_) fun c2=>aA (fun c3=>?_) fun c3=>?_
    ·have c2:¬(0<=(ws.getD i ([],0)).2/\(ws.getD i ([],0)).2<=(ls.length:Int)-1):=of_decide_eq_false (by simpa only[Bool.not_eq_true']using c2);exact ad.ret (nf fun hh=>c2 hh.2.1)
    ·have c2:0<=(ws.getD i ([],0)).2/\(ws.getD i ([],0)).2<=(ls.length:Int)-1:=of_decide_eq_true (by simpa only[Bool.not_eq_false']using c2);simp only[aL]at c3;have hw2:IntKind.wrap .i64 ((i:Int)-1)=((i-1:Nat):Int):=by rw[wI (by omega) (by omega)];omega
     rw[hw2];refine av (by simp) (cg e (av (by simp) (cg (show ws[(((i-1:Nat):Int)).toNat]? = U (ws.getD (i-1) ([],0))from dq (([],0):Wy) (by omega)) (aA (fun c4=>?_) fun c4=>?_))))
     ·exact ad.ret (nf fun hh=>by have:=hh.2.2 (by omega);rw[Et,c4]at this;cases this)
     ·exact ad.ret ⟨rfl,c1,c2,fun _=>by rw[Et,c4];rfl⟩
    ·have c2:0<=(ws.getD i ([],0)).2/\(ws.getD i ([],0)).2<=(ls.length:Int)-1:=of_decide_eq_true (by simpa only[Bool.not_eq_false']using c2);simp only[bS]at c3;exact ad.ret ⟨rfl,c1,c2,fun h0=>by omega⟩
   ·rintro _ ⟨rfl,hF⟩;refine ad.ret ⟨⟨i+1,by rw[wN (by omega)],by omega,fun j hj=>?_⟩,by show ws.length-(IntKind.wrap .i64 ((i:Int)+1)).toNat<ws.length-((i:Int)).toNat;rw[wN (by omega)];omega⟩;by_cases hji:j<i
    ·exact hA j hji
    ·obtain rfl:j=i:=by omega
     exact hF
  ·simp only[bS]at h;obtain rfl:i=ws.length:=by omega
   exact ad.ret ⟨rfl,hA⟩
 rintro _ ⟨rfl,hW⟩;refine aA (fun h1=>aA (fun h2=>?_) fun h2=>?_) fun h1=>?_
 ·rw[hw];refine ad.bind (P:=fun y=>y=aa (-1<=p/\p<=(ls.length:Int)-1)) ⟨_,jh _ _ _,rfl⟩ ?_;rintro _ rfl;simp only[aL]at h1 h2;exact ad.ret (decide_eq_decide.2 ⟨fun h3=>⟨show fs.length<=5 by omega,show ws.length<=4 by omega,h3,hF,hW⟩,fun hh=>hh.2.2.1⟩)
 ·simp only[bS]at h2;exact ad.ret (no fun hh=>by have:ws.length<=4:=hh.2.1;omega)
 ·simp only[bS]at h1;exact ad.ret (no fun hh=>by have:fs.length<=5:=hh.1;omega)
def cT (ls:List Ldr)(hb:bLs ls):ad (yQ ls) fun y=>y=aa (gU ls):=by
 obtain⟨b1,b2⟩:=hb;unfold yQ;refine ad.bindE (fun z=>z=ls/\∀i,i<ls.length->dS (ls.getD i ([],[],0)) ls.length) (ad.loop (fun z=>∃i:Nat,z=(ls,(i:Int))/\i<=ls.length/\∀j,j<i->dS (ls.getD j ([],[],0)) ls.length) (fun z=>ls.length-z.2.toNat) ?_ ⟨0,rfl,Nat.zero_le _,fun j hj=>absurd hj (Nat.not_lt_zero _)⟩) ?_
 ·rintro _ ⟨i,rfl,hi,hA⟩;refine aA (fun h=>?_) fun h=>?_
  ·simp only[aL]at h;have hil:i<ls.length:=by omega
   refine av (by simp) (cg (show ls[((i:Int)).toNat]? = U (ls.getD i ([],[],0))from dq (([],[],0):Ldr) hil) (ad.bind (Eu ls _ b1 (b2 _ (gD (([],[],0):Ldr) hil))) ?_));rintro _ rfl;refine aA (fun hc=>?_) fun hc=>?_
   ·have hc:(!aa (dS (ls.getD i ([],[],0)) ls.length))=ae:=hc;have hc:¬dS (ls.getD i ([],[],0)) ls.length:=of_decide_eq_false (by simpa only[Bool.not_eq_true']using hc);exact ad.ret (decide_eq_false fun hh:gU ls=>hc (hh.2 i hil)).symm
   ·have hc:(!aa (dS (ls.getD i ([],[],0)) ls.length))=ag:=hc;have hc:dS (ls.getD i ([],[],0)) ls.length:=of_decide_eq_true (by simpa only[Bool.not_eq_false']using hc);refine ad.ret ⟨⟨i+1,by rw[wN (by omega)],by omega,fun j hj=>?_⟩,by show ls.length-(IntKind.wrap .i64 ((i:Int)+1)).toNat<ls.length-((i:Int)).toNat;rw[wN (by omega)];omega⟩;by_cases hji:j<i
    ·exact hA j hji
    ·obtain rfl:j=i:=by omega
     exact hc
  ·simp only[bS]at h;obtain rfl:i=ls.length:=by omega
   exact ad.ret ⟨rfl,hA⟩
 rintro z ⟨hz,hA⟩;rw[hz];refine ad.bind (P:=fun y=>y=aa ((1:Int)<=ls.length/\(ls.length:Int)<=3)) ⟨_,jh _ _ _,rfl⟩ ?_;rintro _ rfl;exact ad.ret (decide_eq_decide.2 ⟨fun h=>⟨by omega,hA⟩,fun hh=>by have:=hh.1;omega⟩)
def zd9 (l:List Fil)(h:l.length<=1000):yb l=U l:=by
 have gd:(aa (l.length<=9223372036854775807)&&aa (l.length*32<=140737488355328))=ae:=by simp;omega
 simp only[yb,gd,aD,aG]
 by_cases h0:l.length=0
 ·have:l=[]:=List.eq_nil_of_length_eq_zero h0;subst this;simp[jd]
 ·rw[if_neg h0]
def zea (l:List Wy)(h:l.length<=1000):yc l=U l:=by
 have gd:(aa (l.length<=9223372036854775807)&&aa (l.length*24<=140737488355328))=ae:=by simp;omega
 simp only[yc,gd,aD,aG]
 by_cases h0:l.length=0
 ·have:l=[]:=List.eq_nil_of_length_eq_zero h0;subst this;simp[jd]
 ·rw[if_neg h0]
def zeb (l:List Ldr)(h:l.length<=1000):ya l=U l:=by
 have gd:(aa (l.length<=9223372036854775807)&&aa (l.length*56<=140737488355328))=ae:=by simp;omega
 simp only[ya,gd,aD,aG]
 by_cases h0:l.length=0
 ·have:l=[]:=List.eq_nil_of_length_eq_zero h0;subst this;simp[jd]
 ·rw[if_neg h0]
def zR {α:Type}{l:List α}{i:Nat}{x:α}(e:l[i]? = U x):l.set i x=l:=by
 obtain⟨h,e⟩:=List.getElem?_eq_some_iff.1 e;subst e;exact List.set_getElem_self h
def Ev (ls:List Ldr)(hb:bLs ls):ad (tL ls) fun y=>y=ls:=by
 obtain⟨b1,b2⟩:=hb;unfold tL;refine ad.bind (P:=fun y=>y=ls) ⟨_,zeb ls b1,rfl⟩ ?_;intro y hy;rw[hy];refine ad.bindE (fun z=>z=ls) (ad.loop (fun z=>∃i:Nat,z=((ls.length:Int),(i:Int),ls,i)/\i<=ls.length) (fun z=>ls.length-z.2.1.toNat) ?_ ⟨0,rfl,Nat.zero_le _⟩) ?_
 ·rintro _ ⟨i,rfl,hi⟩;refine aA (fun h=>?_) fun h=>?_
  ·simp only[aL]at h;have hil:i<ls.length:=by omega
   have e0:=dq (([],[],0):Ldr) hil;have hm:=b2 _ (gD (([],[],0):Ldr) hil);generalize ls.getD i ([],[],0)=x at e0 hm;obtain⟨fs,ws,p⟩:=x;have e:ls[((i:Int)).toNat]? = U (fs,ws,p):=e0;have g0:(aa ((0:Int)<=(i:Int))&&aa ((i:Int)<(ls.length:Int)))=ae:=by simp;omega
   have g1:(aa (((i:Int)).toNat=((i:Int)).toNat)&&aa (((i:Int)).toNat<ls.length))=ae:=by simp;omega
   refine av g0 (av (by simp) (cg e (ad.bind (P:=fun y=>y=fs) ⟨_,zd9 fs hm.1,rfl⟩ ?_)));intro y1 hy1;rw[hy1];refine ad.seq (by simp only[eq_self,ay,aD,bE];exact ad.ret trivial) (ad.bind (P:=fun y=>y=ws) ⟨_,zea ws hm.2.2.1,rfl⟩ ?_);intro y2 hy2;rw[hy2];refine ad.seq (by simp only[eq_self,ay,aD,bE];exact ad.ret trivial) (av g0 (av (by simp) (cg e (av g1 (ad.seq (by simp only[eq_self,ay,aD,bE];exact ad.ret trivial) (av g0 (av g1 (av (by simp;omega) (ad.ret ⟨⟨i+1,?_,by omega⟩,?_⟩)))))))))
   ·rw[wN (by omega),aS,zR e0]
   ·show ls.length-(IntKind.wrap .i64 ((i:Int)+1)).toNat<ls.length-((i:Int)).toNat;rw[wN (by omega)];omega
  ·simp only[bS]at h;obtain rfl:i=ls.length:=by omega
   refine⟨.inr (.inl ls),?_,rfl⟩;simp only[ay,aD];rfl
 intro z hz;exact ad.ret hz
def eE (ls:List Ldr)(hb:bLs ls):ad (yR ls) fun y=>y=ls:=by
 obtain⟨b1,b2⟩:=hb;unfold yR;refine ad.bindE (fun z=>z=ls) (ad.loop (fun z=>∃i:Nat,z=(ls,ls.take i,(i:Int))/\i<=ls.length) (fun z=>ls.length-z.2.2.toNat) ?_ ⟨0,rfl,Nat.zero_le _⟩) ?_
 ·rintro _ ⟨i,rfl,hi⟩;refine aA (fun h=>?_) fun h=>?_
  ·simp only[aL]at h;have hil:i<ls.length:=by omega
   have e0:=dq (([],[],0):Ldr) hil;have hm:=b2 _ (gD (([],[],0):Ldr) hil);have eg:ls[i]=ls.getD i ([],[],0):=by rw[bI hil]at e0;exact Option.some.inj e0
   generalize ls.getD i ([],[],0)=x at e0 hm eg;obtain⟨fs,ws,p⟩:=x;have e:ls[((i:Int)).toNat]? = U (fs,ws,p):=e0;have m1:=hm.1;have m2:=hm.2.2.1;refine av (by simp) (cg e (av (by simp;simp only at m1;omega) (av (by simp;simp only at m2;omega) (av (by simp;omega) (ad.ret ⟨⟨i+1,?_,by omega⟩,?_⟩)))))
   ·rw[wN (by omega),List.take_succ_eq_append_getElem hil,eg]
   ·show ls.length-(IntKind.wrap .i64 ((i:Int)+1)).toNat<ls.length-((i:Int)).toNat;rw[wN (by omega)];omega
  ·simp only[bS]at h;obtain rfl:i=ls.length:=by omega
   refine ad.ret ?_;show de ls.length ls=ls;exact List.take_length
 intro z hz;exact ad.ret hz
def gI {α:Type}{l:List α}{i:Nat}(h:i<l.length):(aa ((0:Int)<=(i:Int))&&aa ((i:Int)<(l.length:Int)))=ae:=by simp;omega
def gN {n i:Nat}(h:i<n):(aa (i=i)&&aa (i<n))=ae:=by simp;omega
def y5 (ls:List Ldr)(hb:bLs ls):ad (yN ls) fun y=>y=if gU ls then ls.map tidR else []:=by
 obtain⟨b1,b2⟩:=hb;unfold yN;refine ad.bind (zp ls ⟨b1,b2⟩) ?_;rintro _ rfl;refine aA (fun h=>?_) fun h=>?_
 ·have h:¬gU ls:=of_decide_eq_false (by simpa only[Bool.not_eq_true']using h);exact ad.ret (by rw[if_neg h])
 have h:gU ls:=of_decide_eq_true (by simpa only[Bool.not_eq_false']using h);rw[if_pos h];refine ad.bind (Ev ls ⟨b1,b2⟩) ?_;intro y hy;rw[hy];refine ad.bindE (fun z=>z=ls.map tidR) (ad.loop (fun z=>∃i:Nat,z=((ls.length:Int),(i:Int),cA tidR ls i)/\i<=ls.length) (fun z=>ls.length-z.2.1.toNat) ?_ ⟨0,by rw[zL];rfl,Nat.zero_le _⟩) ?_
 ·rintro _ ⟨i,rfl,hi⟩;refine aA (fun h=>?_) fun h=>?_
  ·simp only[aL]at h;have hil:i<ls.length:=by omega
   have e0:=dq (([],[],0):Ldr) hil;have hm:=b2 _ (gD (([],[],0):Ldr) hil);generalize ls.getD i ([],[],0)=x at e0 hm;obtain⟨fs,ws,p⟩:=x;have hset:=zO (g:=tidR) e0;have e1:(cA tidR ls i)[i]? = U (fs,ws,p):=(zN hil).trans e0;have hml:(cA tidR ls i).length=ls.length:=rF i;generalize cA tidR ls i=ms at e1 hml hset;have e:ms[((i:Int)).toNat]? = U (fs,ws,p):=e1;have him:i<ms.length:=by omega
   have g1:(aa (((i:Int)).toNat=((i:Int)).toNat)&&aa (((i:Int)).toNat<ms.length))=ae:=gN him;have g2:(aa (i=i)&&aa (i<ms.length))=ae:=gN him;have g3:aa (i<ms.length)=ae:=decide_eq_true him;have hfl:fs.length<=1000:=hm.1;refine ad.bindE (fun z=>z=((ls.length:Int),(i:Int),cA tidR ls (i+1))) (av (gI him) (cg e ?_)) ?_
   ·iterate 6 refine av g1 ?_
    refine ad.bindE (fun z=>z=((ls.length:Int),(i:Int),ms,i,fs.map tidF,ws,p)) (av g1 (av g1 ?_)) ?_
    ·refine ad.loop (fun z=>∃k:Nat,z=((ls.length:Int),(i:Int),(fs.length:Int),(k:Int),(ms,i,p),p,cA tidF fs k,ws)/\k<=fs.length) (fun z=>fs.length-z.2.2.2.1.toNat) ?_ ⟨0,by rw[zL];rfl,Nat.zero_le _⟩;rintro _ ⟨k,rfl,hk⟩;refine aA (fun h=>?_) fun h=>?_
     ·simp only[aL]at h;have hkl:k<fs.length:=by omega
      have f0:=dq (([],[]):Fil) hkl;generalize fs.getD k ([],[])=f at f0;obtain⟨fn,ft⟩:=f;have hset2:=zO (g:=tidF) f0;have f1:(cA tidF fs k)[k]? = U (fn,ft):=(zN hkl).trans f0;have hfm:(cA tidF fs k).length=fs.length:=rF k;generalize cA tidF fs k=gs at f1 hfm hset2;have f2:gs[((k:Int)).toNat]? = U (fn,ft):=f1;have hkg:k<gs.length:=by omega
      refine ad.bindE (fun z=>z=((ls.length:Int),(i:Int),(fs.length:Int),(k:Int),(ms,i,p),p,cA tidF fs (k+1),ws)) (av (gI hkg) (cg f2 (ad.bind (y8 ft) ?_))) ?_
      ·rintro⟨b,c0,c1,c2,c3,c4,c5,c6⟩ hg;refine ad.bindE (fun z=>∃b2:Bool,z=((k:Int),(ls.length:Int),(i:Int),(fs.length:Int),(k:Int),b2,(ms,i,p),p,(c0,c1,c2,c3,c4,c5,c6),gs,ws)/\(b2=ae->gW ft (c0,c1,c2,c3,c4,c5,c6))/\(b2=ag->¬ ∃c,gW ft c)) (aA (fun hb=>?_) fun hb=>?_) ?_
       ·have hb:b=ae:=hb;subst hb;obtain⟨z1,-,z3,z4⟩:=hg.chk;refine ad.bind (P:=fun y=>y=_) ⟨_,z1,rfl⟩ ?_;rintro _ rfl;exact av g2 (av g2 (ad.ret ⟨_,rfl,fun h=>z3 (of_decide_eq_true h),fun h=>z4 (of_decide_eq_false h)⟩))
       ·have hb:b=ag:=hb;subst hb;refine av g2 (av g2 (ad.ret ⟨_,rfl,fun h=>(by cases h),fun _=>?_⟩));rcases hg with⟨h,_⟩|⟨_,h⟩
        ·cases h
        ·exact h
       rintro _ ⟨b2,rfl,hy,hn⟩;refine aA (fun hb=>?_) fun hb=>?_
       ·obtain⟨z1,-,z3,-⟩:=(hy hb).tid;generalize gF (c0,c1,c2,c3,c4,c5,c6)=d at z1 z3;obtain⟨d0,d1,d2,d3,d4,d5,d6⟩:=d;refine ad.bind (P:=fun y=>y=_) ⟨_,z1,rfl⟩ ?_;rintro _ rfl;refine ad.seq (by simp only[eq_self,ay,aD,bE];exact ad.ret trivial) (ad.bind (P:=fun y=>y=_) ⟨_,z3,rfl⟩ ?_);rintro _ rfl;refine ad.seq (by simp only[eq_self,ay,aD,bE];exact ad.ret trivial) (av (gI hkg) (cg f2 (av g2 (av g2 (ad.ret ?_)))));show _=_;rw[<-hset2];rfl
       ·refine av g2 (av g2 (ad.ret ?_));show _=_;rw[<-hset2,show tidF (fn,ft)=(fn,ft)by unfold tidF;rw[uF (hn hb)],zR f1]
      ·rintro _ rfl;refine av g2 (av g2 (ad.ret ⟨⟨k+1,by rw[wN (by omega)],by omega⟩,?_⟩));show fs.length-(IntKind.wrap .i64 ((k:Int)+1)).toNat<fs.length-((k:Int)).toNat;rw[wN (by omega)];omega
     ·simp only[bS]at h;obtain rfl:k=fs.length:=by omega
      refine⟨.inr (.inl ((ls.length:Int),(i:Int),ms,i,fs.map tidF,ws,p)),?_,rfl⟩;rw[g2,g3,zM];rfl
    ·rintro _ rfl;refine av g3 (ad.ret ?_);show _=_;rw[<-hset];rfl
   ·rintro _ rfl;refine ad.ret ⟨⟨i+1,by rw[wN (by omega)],by omega⟩,?_⟩;show ls.length-(IntKind.wrap .i64 ((i:Int)+1)).toNat<ls.length-((i:Int)).toNat;rw[wN (by omega)];omega
  ·simp only[bS]at h;obtain rfl:i=ls.length:=by omega
   refine ad.ret ?_;show cA tidR ls ls.length=_;rw[zM]
 rintro _ rfl;exact ad.ret rfl
def y6 (ls:List Ldr)(hb:bLs ls):ad (F6 ls) fun y=>y=if gU ls then ls.map tidR else []:=by
 obtain⟨b1,b2⟩:=hb;unfold F6;refine ad.bind (cT ls ⟨b1,b2⟩) ?_;rintro _ rfl;refine aA (fun h=>?_) fun h=>?_
 ·have h:¬gU ls:=of_decide_eq_false (by simpa only[Bool.not_eq_true']using h);exact ad.ret (by rw[if_neg h])
 have h:gU ls:=of_decide_eq_true (by simpa only[Bool.not_eq_false']using h);rw[if_pos h];refine ad.bind (eE ls ⟨b1,b2⟩) ?_;intro y hy;rw[hy];refine ad.bindE (fun z=>z=ls.map tidR) (ad.loop (fun z=>∃i:Nat,z=(cA tidR ls i,(i:Int))/\i<=ls.length) (fun z=>ls.length-z.2.toNat) ?_ ⟨0,by rw[zL];rfl,Nat.zero_le _⟩) ?_
 ·rintro _ ⟨i,rfl,hi⟩;refine aA (fun h=>?_) fun h=>?_
  ·simp only[aL,rF]at h;have hil:i<ls.length:=by omega
   have e0:=dq (([],[],0):Ldr) hil;have hm:=b2 _ (gD (([],[],0):Ldr) hil);generalize ls.getD i ([],[],0)=x at e0 hm;obtain⟨fs,ws,p⟩:=x;have hset:=zO (g:=tidR) e0;have e1:(cA tidR ls i)[i]? = U (fs,ws,p):=(zN hil).trans e0;have hml:(cA tidR ls i).length=ls.length:=rF i;generalize cA tidR ls i=ms at e1 hml hset;have him:i<ms.length:=by omega
   have hfl:fs.length<=1000:=hm.1;refine ad.bindE (fun z=>z=(cA tidR ls (i+1),(i:Int))) (ad.bindE (fun z=>z=(cA tidR ls (i+1),(i:Int))) (ad.loop (fun z=>∃k:Nat,z=(ms.set i (cA tidF fs k,ws,p),(i:Int),(k:Int))/\k<=fs.length) (fun z=>fs.length-z.2.2.toNat) ?_ ⟨0,by rw[zL,zR e1];rfl,Nat.zero_le _⟩) ?_) ?_
   ·rintro _ ⟨k,rfl,hk⟩;have hfm:(cA tidF fs k).length=fs.length:=rF k;have er:(ms.set i (cA tidF fs k,ws,p))[i]? = U (cA tidF fs k,ws,p):=by rw[List.getElem?_set_self him]
    have hms:(ms.set i (cA tidF fs k,ws,p)).length=ms.length:=List.length_set;have hss:∀r:Ldr,(ms.set i (cA tidF fs k,ws,p)).set i r=ms.set i r:=fun r=>List.set_set _
    have hmx:k<fs.length->∀x,fs[k]? = U x->(cA tidF fs k).set k (tidF x)=cA tidF fs (k+1):=fun _ x hx=>zO hx
    have hma:∀hk:k<fs.length,(cA tidF fs k)[k]? = fs[k]?:=fun hk=>zN hk
    have hall:k=fs.length->cA tidF fs k=fs.map tidF:=fun h=>by rw[h,zM]
    generalize cA tidF fs k=gs at *;generalize ms.set i (gs,ws,p)=ns at *;have hin:i<ns.length:=by omega
    have en:ns[((i:Int)).toNat]? = U (gs,ws,p):=er;have g1:(aa (((i:Int)).toNat=((i:Int)).toNat)&&aa (((i:Int)).toNat<ns.length))=ae:=gN hin;have g2:(aa (i=i)&&aa (i<ns.length))=ae:=gN hin;have g3:aa (i<ns.length)=ae:=decide_eq_true hin;have g4:aa (((i:Int)).toNat<ns.length)=ae:=decide_eq_true hin;have g5:(aa (((i:Int)).toNat=i)&&aa (i<ns.length))=ae:=gN hin;refine av (gI hin) (cg en (av g1 (av g1 (av g1 (aA (fun h=>?_) fun h=>?_)))))
    ·simp only[aL]at h;have hkl:k<fs.length:=by omega
     have f0:=dq (([],[]):Fil) hkl;generalize fs.getD k ([],[])=f at f0;obtain⟨fn,ft⟩:=f;have hset2:=hmx hkl _ f0;have f1:gs[k]? = U (fn,ft):=(hma hkl).trans f0;have f2:gs[((k:Int)).toNat]? = U (fn,ft):=f1;have hkg:k<gs.length:=by omega
     refine ad.bindE (fun z=>z=(ms.set i (cA tidF fs (k+1),ws,p),(i:Int),(k:Int))) (av (gI hin) (av g1 (av g1 (av (gI hkg) (cg f2 (ad.bind (dY ft) ?_)))))) ?_
     ·rintro⟨b,c0,c1,c2,c3,c4,c5,c6⟩ hg;refine ad.bindE (fun z=>∃b2:Bool,z=((i:Int),(k:Int),b2,(ns,i,gs,ws,p),c0,c1,c2,c3,c4,c5,c6)/\(b2=ae->gW ft (c0,c1,c2,c3,c4,c5,c6))/\(b2=ag->¬ ∃c,gW ft c)) (aA (fun hb=>?_) fun hb=>?_) ?_
      ·have hb:b=ae:=hb;subst hb;obtain⟨-,z1,z3,z4⟩:=hg.chk;refine ad.bind (P:=fun y=>y=_) ⟨_,z1,rfl⟩ ?_;rintro _ rfl;exact av g4 (av g1 (ad.ret ⟨_,rfl,fun h=>z3 (of_decide_eq_true h),fun h=>z4 (of_decide_eq_false h)⟩))
      ·have hb:b=ag:=hb;subst hb;refine av g4 (av g1 (ad.ret ⟨_,rfl,fun h=>(by cases h),fun _=>?_⟩));rcases hg with⟨h,_⟩|⟨_,h⟩
       ·cases h
       ·exact h
      rintro _ ⟨b2,rfl,hy,hn⟩;refine aA (fun hb=>?_) fun hb=>?_
      ·obtain⟨-,z1,-,z3⟩:=(hy hb).tid;generalize gF (c0,c1,c2,c3,c4,c5,c6)=d at z1 z3;obtain⟨d0,d1,d2,d3,d4,d5,d6⟩:=d
       have us:ad (ak (af (aa ((i:Int)=(i:Int))) (U ())) (ak (af (aa ((0:Int)<=(i:Int))&&aa ((i:Int)<(ns.length:Int))) (af (((i:Int)).toNat==((i:Int)).toNat&&ae) (U ()))) (ak (af (((i:Int)).toNat==((i:Int)).toNat&&ae) (U ())) (ak (af (aa (((i:Int)).toNat=i)&&aa (i<ns.length)) (af (aa (((i:Int)).toNat=i)&&aa (i<ns.length)) (af (aa (((i:Int)).toNat=i)&&aa (i<ns.length)) (U ())))) (ak (af (aa ((k:Int)=(k:Int))) (U ())) (U ())))))) fun _=>True:=by
        rw[gI hin,g5];simp only[eq_self,ay,aD,bE,BEq.rfl,ba];exact ad.ret trivial
       refine av (gI hin) (av g5 (av g5 (av g5 (ad.bind (P:=fun y=>y=_) ⟨_,z1,rfl⟩ ?_))));rintro _ rfl;refine ad.seq us (ad.bind (P:=fun y=>y=_) ⟨_,z3,rfl⟩ ?_);rintro _ rfl;refine ad.seq us (av (gI hkg) (cg f2 (av g3 (av g2 (av g3 (ad.ret ?_))))));show _=_;rw[<-hset2,hss];rfl
      ·refine av g3 (ad.ret ?_);show _=_;rw[<-hset2,show tidF (fn,ft)=(fn,ft)by unfold tidF;rw[uF (hn hb)],zR f1,hss]
     ·rintro _ rfl;refine ad.ret ⟨⟨k+1,by rw[wN (by omega)],by omega⟩,?_⟩;show fs.length-(IntKind.wrap .i64 ((k:Int)+1)).toNat<fs.length-((k:Int)).toNat;rw[wN (by omega)];omega
    ·simp only[bS]at h;have hka:k=fs.length:=by omega
     refine⟨.inr (.inl (cA tidR ls (i+1),(i:Int))),?_,rfl⟩;rw[g1,g4,<-hset,aS,hss,hall hka];rfl
   ·rintro _ rfl;exact ad.ret rfl
   ·rintro _ rfl;refine ad.ret ⟨⟨i+1,by rw[wN (by omega)],by omega⟩,?_⟩;show ls.length-(IntKind.wrap .i64 ((i:Int)+1)).toNat<ls.length-((i:Int)).toNat;rw[wN (by omega)];omega
  ·simp only[bS,rF]at h;obtain rfl:i=ls.length:=by omega
   refine ad.ret ?_;show cA tidR ls ls.length=_;rw[zM]
 rintro _ rfl;exact ad.ret rfl
def gL (k:Nat)(l:Ldr):Prop:=1<=l.1.length/\l.1.length<=k/\(∀f∈l.1,f.1.length<=10/\f.2.length<=1000)/\l.2.1.length<=k/\∀w∈l.2.1,w.1.length<=10
def jL {aQ:List (List UInt8)}{p:Int}{r:List UInt8×Int}{c:Nat}(hn:aQ.length<=10)(hs:∀ x∈aQ,x.length<=10)(hr:Rd c r)(hc:c<=600000) :
  ad (iH (aQ,p,r)) fun y=>(y.1.1.length=aQ.length/\(∀f∈y.1.1,f.1.length<=10/\f.2.length<=1000)/\y.1.2.1=[]/\y.1.2.2=p)/\Rd (c+50) y.2:=by
 obtain⟨o0,o1⟩:=r;unfold iH
 refine ad.bindE (fun z=>∃(fs:List Fil) (r:List UInt8×Int),z=(([],[],0),(fs,[],p),r)/\fs.length=aQ.length/\(∀f∈fs,f.1.length<=10/\f.2.length<=1000)/\Rd (c+50) r)
  (ad.loop (fun z=>∃(i:Nat) (fs:List Fil) (r:List UInt8×Int),z=(aQ,(i:Int),([],[],0),(fs,[],p),r)/\i<=aQ.length/\fs.length=i/\(∀f∈fs,f.1.length<=10/\f.2.length<=1000)/\Rd (c+5*i) r) (fun z=>aQ.length-z.2.1.toNat) ?_ ⟨0,[],(o0,o1),rfl,Nat.zero_le _,rfl,by simp,hr⟩) ?_
 ·rintro _ ⟨i,fs,⟨r0,r1⟩,rfl,hi,hl,hf,hr⟩;refine aA (fun h=>?_) fun h=>?_
  ·simp only[aL]at h;have hil:i<aQ.length:=by omega
   have e:aQ[((i:Int)).toNat]? = _:=dq ([]:List UInt8) hil;have hx:=hs _ (gD ([]:List UInt8) hil);refine av (by simp) (cg e (av (by simp) (cg e (ad.bind (zdW hx hr (by omega)) ?_))));rintro⟨y,y1,y2⟩ ⟨hy,hr2⟩;refine ad.seq ?_ (ad.bind (Me y) ?_)
   ·exact ad.seq (av (by simp) (ad.ret trivial)) (ad.seq (av (by simp) (ad.ret trivial)) (ad.seq (av (by simp) (cg e (av (by simp) (ad.ret trivial)))) (ad.seq (av (by simp) (ad.ret trivial)) (ad.ret trivial))))
   intro y3 hy3;refine ad.seq ?_ (av (by simp;omega) (ad.ret ⟨⟨i+1,_,_,by rw[wN (by omega)],by omega,by simp[hl],fun f hf'=>?_,hr2.mono (by omega)⟩,by show aQ.length-(IntKind.wrap .i64 ((i:Int)+1)).toNat<aQ.length-((i:Int)).toNat;rw[wN (by omega)];omega⟩))
   ·exact ad.seq (av (by simp) (ad.ret trivial)) (ad.seq (av (by simp) (ad.ret trivial)) (ad.seq (av (by simp) (cg e (av (by simp) (ad.ret trivial)))) (ad.seq (av (by simp) (ad.ret trivial)) (ad.ret trivial))))
   ·rcases List.mem_append.1 hf' with hf'|hf'
    ·exact hf f hf'
    ·simp only[List.mem_singleton]at hf';subst hf';exact⟨hx,by simp only;omega⟩
  ·simp only[bS]at h;exact ad.ret ⟨fs,_,rfl,by omega,hf,hr.mono (by omega)⟩
 rintro _ ⟨fs,r,rfl,h1,h2,h3⟩;exact ad.ret ⟨⟨h1,h2,rfl,rfl⟩,h3⟩
def uG {r:List UInt8×Int}{c:Nat}(hr:Rd c r)(hc:c<=700000):ad (nS r) fun y=>(y.1.1.length<=10/\y.1.2.length<=1000)/\Rd (c+601) y.2:=by
 obtain⟨o0,o1⟩:=r;unfold nS;refine ad.bind (ew (m:=3) hr (by omega) (by simp) (by decide)) ?_;rintro⟨y,y1,y2⟩ ⟨(hy:au y<=3),hr1⟩;refine av (by simp;omega) (av (by simp;omega) (ad.bind (zdX (by simp) hr1 (by omega)) ?_));rintro⟨y3,y4,y5⟩ ⟨(hy3:au y3<=80000),hr2⟩;refine av (by simp;omega) (ad.bind (Me _) ?_);intro y6 hy6;exact ad.ret ⟨⟨by simp,by simp only;omega⟩,hr2.mono (by omega)⟩
def rG {fs:List Fil}{ws:List Wy}{p:Int}{f:Fil}{k:Nat}(h:∀ f∈fs,f.1.length<=10/\f.2.length<=1000)(hf:f.1.length<=10/\f.2.length<=1000)(hl:fs.length<k)(hw:ws.length<=k)(hw2:∀ w∈ws,w.1.length<=10):gL k (fs++[f],ws,p):=by
 refine⟨by simp,by simp;omega,fun g hg=>?_,hw,hw2⟩;rcases List.mem_append.1 hg with hg|hg
 ·exact h g hg
 ·simp only[List.mem_singleton]at hg;subst hg;exact hf
def i9 (l:List (List UInt8))(h:l.all (fun x=>aa (x.length<=10))=ae):∀x∈l,x.length<=10:=fun x hx=>by
 have:=List.all_eq_true.1 h x hx;simpa using this
def Mh {r:List UInt8×Int}{c:Nat}(hr:Rd c r)(hc:c<=500000):ad (xS r) fun y=>(1<=y.1.length/\y.1.length<=3/\∀l∈y.1,gL 10 l)/\Rd (c+2000) y.2:=by
 obtain⟨o0,o1⟩:=r;unfold xS;refine ad.bind (eN hr (by omega)) ?_;rintro⟨y,y1,y2⟩ ⟨-,-,-,hr⟩;refine aA (fun _=>?_) fun _=>?_
 ·refine ad.bind (jL (by simp) (i9 _ (by decide)) hr (by omega)) ?_;rintro⟨⟨y3,y4,y5⟩,y6,y7⟩ ⟨⟨(g1:y3.length=4),g2,(rfl:y4=[]),-⟩,hr⟩;refine ad.bind (uG hr (by omega)) ?_;rintro⟨⟨y8,y9⟩,y10,y11⟩ ⟨g3,hr⟩;refine av (by simp;omega) (ad.ret ⟨⟨by simp,by simp,fun l hl=>?_⟩,hr.mono (by omega)⟩);simp only[List.mem_singleton]at hl;subst hl;exact rG g2 g3 (by omega) (by simp) (by simp)
 refine ad.bindE (fun z=>∃(b:Bool) (v:Int) (r:List UInt8×Int),z=([[65],[66],[67],[70]],v,b,r)/\Rd (c+1) r) ?_ ?_
 ·exact aA (fun _=>ad.ret ⟨_,_,_,rfl,hr⟩) fun _=>ad.ret ⟨_,_,_,rfl,hr⟩
 rintro _ ⟨b,v,⟨r0,r1⟩,rfl,hr⟩
 have two:∀(l1 l2:Ldr),gL 10 l1->gL 10 l2->∀l∈[l1,l2],gL 10 l:=fun l1 l2 h1 h2 l hl=>by
  simp only[List.mem_cons,List.not_mem_nil,or_false]at hl;rcases hl with rfl|rfl
  ·exact h1
  ·exact h2
 refine aA (fun _=>?_) fun _=>aA (fun _=>?_) fun _=>aA (fun _=>?_) fun _=>?_
 ·refine ad.bind (jL (by simp) (i9 _ (by decide)) hr (by omega)) ?_;rintro⟨⟨y3,y4,y5⟩,y6,y7⟩ ⟨⟨(g1:y3.length=5),g2,(rfl:y4=[]),-⟩,hr⟩;refine ad.bind (eN hr (by omega)) ?_;rintro⟨y8,y9,y10⟩ ⟨(k0:0<=y8),k1,-,hr⟩;have k1:y8<4:=k1 (by omega);have hx:([[],[[65]],[[66]],[[65],[67]]]:List (List (List UInt8)))[y8.toNat]? = U (([[],[[65]],[[66]],[[65],[67]]]:List (List (List UInt8))).getD y8.toNat []):=dq [] (by simp;omega)
  have hx2:(([[],[[65]],[[66]],[[65],[67]]]:List (List (List UInt8))).getD y8.toNat []).length<=2/\∀x∈(([[],[[65]],[[66]],[[65],[67]]]:List (List (List UInt8))).getD y8.toNat []),x.length<=10:=by
   have:=gD ([]:List (List UInt8)) (l:=[[],[[65]],[[66]],[[65],[67]]]) (i:=y8.toNat) (by simp;omega);revert this;generalize (([[],[[65]],[[66]],[[65],[67]]]:List (List (List UInt8))).getD y8.toNat [])=q;intro hq;simp only[List.mem_cons,List.not_mem_nil,or_false]at hq;rcases hq with rfl|rfl|rfl|rfl<;>exact⟨by decide,i9 _ (by decide)⟩
  refine av (by simpa using k0) (cg hx (ad.bind (jL (by omega) hx2.2 hr (by omega)) ?_));rintro⟨⟨y11,cM,dh⟩,y14,y15⟩ ⟨⟨g3,g4,(rfl:cM=[]),-⟩,hr⟩;have g3:y11.length<=2:=by simp only at g3;omega
  refine ad.bind (uG hr (by omega)) ?_;rintro⟨⟨cT,eE⟩,dY,y19⟩ ⟨g5,hr⟩;refine av (by simp;omega) (ad.ret ⟨⟨by simp,by simp,two _ _ ⟨by simp only;omega,by simp only;omega,g2,by simp,by simp⟩ (rG g4 g5 (by omega) (by simp) (by simp))⟩,hr.mono (by omega)⟩)
 ·refine ad.bind (jL (by simp) (i9 _ (by decide)) hr (by omega)) ?_;rintro⟨⟨y3,y4,y5⟩,y6,y7⟩ ⟨⟨(g1:y3.length=3),g2,(rfl:y4=[]),-⟩,hr⟩;refine ad.bind (eN hr (by omega)) ?_;rintro⟨y8,y9,y10⟩ ⟨(k0:0<=y8),k1,-,hr⟩;have k1:y8<3:=k1 (by omega);have hx:([[[66],[67]],[[65],[66],[67]],[[65],[67],[70]]]:List (List (List UInt8)))[y8.toNat]? = U (([[[66],[67]],[[65],[66],[67]],[[65],[67],[70]]]:List (List (List UInt8))).getD y8.toNat []):=dq [] (by simp;omega)
  have hx2:1<=(([[[66],[67]],[[65],[66],[67]],[[65],[67],[70]]]:List (List (List UInt8))).getD y8.toNat []).length/\(([[[66],[67]],[[65],[66],[67]],[[65],[67],[70]]]:List (List (List UInt8))).getD y8.toNat []).length<=3/\∀x∈(([[[66],[67]],[[65],[66],[67]],[[65],[67],[70]]]:List (List (List UInt8))).getD y8.toNat []),x.length<=10:=by
   have:=gD ([]:List (List UInt8)) (l:=[[[66],[67]],[[65],[66],[67]],[[65],[67],[70]]]) (i:=y8.toNat) (by simp;omega);revert this;generalize (([[[66],[67]],[[65],[66],[67]],[[65],[67],[70]]]:List (List (List UInt8))).getD y8.toNat [])=q;intro hq;simp only[List.mem_cons,List.not_mem_nil,or_false]at hq;rcases hq with rfl|rfl|rfl<;>exact⟨by decide,by decide,i9 _ (by decide)⟩
  refine av (by simpa using k0) (cg hx (ad.bind (jL (by omega) hx2.2.2 hr (by omega)) ?_));rintro⟨⟨y11,cM,dh⟩,y14,y15⟩ ⟨⟨g3,g4,(rfl:cM=[]),-⟩,hr⟩;have g3:1<=y11.length/\y11.length<=3:=by simp only at g3;omega
  refine ad.bind (eN hr (by omega)) ?_;rintro⟨cT,eE,dY⟩ ⟨(k2:0<=cT),k3,-,hr⟩;have k3:cT<3:=k3 (by omega);have hz:([[],[[65]],[[66]]]:List (List (List UInt8)))[cT.toNat]? = U (([[],[[65]],[[66]]]:List (List (List UInt8))).getD cT.toNat []):=dq [] (by simp;omega)
  have hz2:(([[],[[65]],[[66]]]:List (List (List UInt8))).getD cT.toNat []).length<=2/\∀x∈(([[],[[65]],[[66]]]:List (List (List UInt8))).getD cT.toNat []),x.length<=10:=by
   have:=gD ([]:List (List UInt8)) (l:=[[],[[65]],[[66]]]) (i:=cT.toNat) (by simp;omega);revert this;generalize (([[],[[65]],[[66]]]:List (List (List UInt8))).getD cT.toNat [])=q;intro hq;simp only[List.mem_cons,List.not_mem_nil,or_false]at hq;rcases hq with rfl|rfl|rfl<;>exact⟨by decide,i9 _ (by decide)⟩
  refine av (by simpa using k2) (cg hz (ad.bind (jL (by omega) hz2.2 hr (by omega)) ?_));rintro⟨⟨y19,y20,y21⟩,y22,y23⟩ ⟨⟨g5,g6,(rfl:y20=[]),-⟩,hr⟩;have g5:y19.length<=2:=by simp only at g5;omega
  refine ad.bind (uG hr (by omega)) ?_;rintro⟨⟨y24,y25⟩,y26,y27⟩ ⟨g7,hr⟩;refine av (by simp;omega) (ad.bind (eN hr (by omega)) ?_);rintro⟨y28,y29,y30⟩ ⟨(k4:0<=y28),k5,-,hr⟩;have k5:y28<4:=k5 (by omega);have hw:([[],[([65],0)],[([85],0)],[([67],1),([85],0)]]:List (List Wy))[y28.toNat]? = U (([[],[([65],0)],[([85],0)],[([67],1),([85],0)]]:List (List Wy)).getD y28.toNat []):=dq [] (by simp;omega)
  have hw2:(([[],[([65],0)],[([85],0)],[([67],1),([85],0)]]:List (List Wy)).getD y28.toNat []).length<=2/\∀x∈(([[],[([65],0)],[([85],0)],[([67],1),([85],0)]]:List (List Wy)).getD y28.toNat []),x.1.length<=10:=by
   have:=gD ([]:List Wy) (l:=[[],[([65],0)],[([85],0)],[([67],1),([85],0)]]) (i:=y28.toNat) (by simp;omega);revert this;generalize (([[],[([65],0)],[([85],0)],[([67],1),([85],0)]]:List (List Wy)).getD y28.toNat [])=q;intro hq;simp only[List.mem_cons,List.not_mem_nil,or_false]at hq;rcases hq with rfl|rfl|rfl|rfl<;>simp
  refine av (by simp;omega) (cg hw ?_)
  iterate 3 refine av (by simp;omega) ?_
  refine ad.ret ⟨⟨by simp,by simp,fun l hl=>?_⟩,hr.mono (by omega)⟩;simp only[List.mem_cons,List.not_mem_nil,or_false]at hl;rcases hl with rfl|rfl|rfl
  ·exact⟨by simp only;omega,by simp only;omega,g2,by simp,by simp⟩
  ·exact⟨by simp only;omega,by simp only;omega,g4,by simp,by simp⟩
  ·exact rG g6 g7 (by omega) (by omega) hw2.2
 ·refine ad.bind (jL (by simp) (i9 _ (by decide)) hr (by omega)) ?_;rintro⟨⟨y3,y4,y5⟩,y6,y7⟩ ⟨⟨(g1:y3.length=3),g2,(rfl:y4=[]),-⟩,hr⟩;refine ad.bind (eN hr (by omega)) ?_;rintro⟨y8,y9,y10⟩ ⟨(k0:0<=y8),k1,-,hr⟩;have k1:y8<2:=k1 (by omega);have hx:([[[67],[70]],[[65],[67],[70]]]:List (List (List UInt8)))[y8.toNat]? = U (([[[67],[70]],[[65],[67],[70]]]:List (List (List UInt8))).getD y8.toNat []):=dq [] (by simp;omega)
  have hx2:(([[[67],[70]],[[65],[67],[70]]]:List (List (List UInt8))).getD y8.toNat []).length<=3/\∀x∈(([[[67],[70]],[[65],[67],[70]]]:List (List (List UInt8))).getD y8.toNat []),x.length<=10:=by
   have:=gD ([]:List (List UInt8)) (l:=[[[67],[70]],[[65],[67],[70]]]) (i:=y8.toNat) (by simp;omega);revert this;generalize (([[[67],[70]],[[65],[67],[70]]]:List (List (List UInt8))).getD y8.toNat [])=q;intro hq;simp only[List.mem_cons,List.not_mem_nil,or_false]at hq;rcases hq with rfl|rfl<;>exact⟨by decide,i9 _ (by decide)⟩
  refine av (by simpa using k0) (cg hx (ad.bind (jL (by omega) hx2.2 hr (by omega)) ?_));rintro⟨⟨y11,cM,dh⟩,y14,y15⟩ ⟨⟨g3,g4,(rfl:cM=[]),-⟩,hr⟩;have g3:y11.length<=3:=by simp only at g3;omega
  refine ad.bind (uG hr (by omega)) ?_;rintro⟨⟨cT,eE⟩,dY,y19⟩ ⟨g5,hr⟩;refine av (by simp;omega) (ad.bind (ew (m:=10) hr (by omega) (by simp) (by decide)) ?_);rintro⟨y20,y21,y22⟩ ⟨(g6:au y20<=10),hr⟩;exact ad.ret ⟨⟨by simp,by simp,two _ _ ⟨by simp only;omega,by simp only;omega,g2,by simp,by simp⟩ (rG g4 g5 (by omega) (by simp) (by simpa using g6))⟩,hr.mono (by omega)⟩
 ·obtain⟨⟨y3,y4,y5⟩,e1,(k0:0<=y3),k1,-,hr⟩:=eN (n:=5) hr (by omega);have k1:y3<5:=k1 (by omega);obtain⟨⟨y6,y7,y8⟩,e2,-,hr⟩:=zG (l:=[-1,-1,0]) hr (by omega) (by simp);have hn:(cU 0 (de y3.toNat ([[65],[66],[67],[70]]:List (List UInt8)))).length<=4:=by simp only[List.drop_zero,bT,bL,cX];omega
  have hn2:∀x∈cU 0 (de y3.toNat ([[65],[66],[67],[70]]:List (List UInt8))),x.length<=10:=fun x hx=>i9 [[65],[66],[67],[70]] (by decide) x (List.mem_of_mem_take (by simpa using hx))
  obtain⟨⟨⟨y9,y10,y11⟩,cM,dh⟩,e3,⟨g1,g2,(rfl:y10=[]),-⟩,hr⟩:=jL (p:=y6) (by omega) hn2 hr (by omega);have g1:y9.length<=4:=by simp only at g1;omega
  obtain⟨⟨⟨y14,y15⟩,cT,eE⟩,e4,g3,hr⟩:=uG hr (by omega);obtain⟨⟨dY,y19,y20⟩,e5,-,-,-,hr⟩:=eN (n:=3) hr (by omega);obtain⟨⟨y21,y22,y23⟩,e6,(g4:au y21<=10),hr6⟩:=ew (m:=10) (l:=[[65],[66],[81]]) hr (by omega) (by simp) (by decide);have gd:(aa (0<=y3)&&aa (y3<=((([[65],[66],[67],[70]]:List (List UInt8)).length:Nat):Int)))=ae:=by simp;omega
  have gd2:(aa (y9.length+1<=9223372036854775807)&&aa ((y9.length+1)*32<=140737488355328))=ae:=by simp;omega
  simp only[e1,e2,e3,e4,e5,e6,gd,gd2,ax,jd,eq_self,ay,ck,aD,bE]
  refine aA (fun _=>?_) fun _=>?_
  ·refine ad.ret ⟨⟨by simp,by simp,fun l hl=>?_⟩,hr6.mono (by omega)⟩;simp only[List.mem_singleton]at hl;subst hl;exact rG g2 g3 (by omega) (by simp) (by simpa using g4)
  ·refine ad.ret ⟨⟨by simp,by simp,fun l hl=>?_⟩,hr.mono (by omega)⟩;simp only[List.mem_singleton]at hl;subst hl;exact rG g2 g3 (by omega) (by simp) (by simp)
def zec {l:Ldr}(h:gL 10 l):oc l:=by
 obtain⟨h1,h2,h3,h4,h5⟩:=h;exact⟨by omega,fun f hf=>by have:=h3 f hf;omega,by omega,fun w hw=>by have:=h5 w hw;omega⟩
def zS {ls:List Ldr}{l:Ldr}(k:Nat)(h:bLs ls)(hl:oc l):bLs (ls.set k l):=by
 refine⟨by rw[List.length_set];exact h.1,fun x hx=>?_⟩;rcases List.mem_or_eq_of_mem_set hx with hx|rfl
 ·exact h.2 x hx
 ·exact hl
def dh {r:List UInt8×Int}(hr:Rd 0 r):ad (xU r) fun y=>bLs y.1:=by
 obtain⟨o0,o1⟩:=r;unfold xU;refine ad.bind (Mh hr (by omega)) ?_;rintro⟨y,y1,y2⟩ ⟨⟨(l1:1<=y.length),(l2:y.length<=3),(hg:∀l∈y,gL 10 l)⟩,hr⟩;have hb:bLs y:=⟨by omega,fun l hl=>zec (hg l hl)⟩
 refine ad.bind (eN hr (by omega)) ?_;rintro⟨k,y4,y5⟩ ⟨(k0:0<=k),k1,-,hr⟩;have k1:k<y.length:=k1 (by omega);obtain⟨n,rfl⟩:∃n:Nat,k=n:=⟨k.toNat,by omega⟩
 have hn:n<y.length:=by omega
 refine ad.bind (eN hr (by omega)) ?_;rintro⟨y6,y7,y8⟩ ⟨-,-,-,hr⟩;have ex:=dq (([],[],0):Ldr) hn;have hx:=hg _ (gD (([],[],0):Ldr) hn);generalize y.getD n ([],[],0)=x at ex hx;obtain⟨fs,ws,p⟩:=x;obtain⟨x1,x2,x3,x4,x5⟩:=hx;simp only at x1 x2 x3 x4 x5;have g1:(aa ((0:Int)<=(n:Int))&&aa ((n:Int)<(y.length:Int)))=ae:=gI hn;have g4:aa (n<y.length)=ae:=decide_eq_true hn;refine ad.bindE (fun z=>bLs z.1) ?_ ?_
 ·refine aA (fun _=>?_) fun _=>aA (fun _=>?_) fun _=>aA (fun _=>?_) fun _=>aA (fun _=>?_) fun _=>aA (fun _=>?_) fun _=>aA (fun _=>?_) fun _=>?_
  ·refine ad.bind (zG hr (by omega) (by simp)) ?_;rintro⟨y9,y10,y11⟩ -;exact av g1 (cg (show y[((n:Int)).toNat]? = _ from ex) (ad.ret (zS _ hb ⟨by simp only;omega,fun f hf=>by have:=x3 f hf;omega,by simp only;omega,fun w hw=>by have:=x5 w hw;omega⟩)))
  ·obtain⟨⟨a,r0,r1⟩,e1,(ha:au a<=10),hr⟩:=ew (m:=10) (l:=[[65],[79,98,106],[81],[49]]) hr (by omega) (by simp) (by decide);obtain⟨⟨b,r2,r3⟩,e2,(hb2:au b<=10),-⟩:=ew (m:=10) (l:=[[],[83,84,79,87]]) hr (by omega) (by simp) (by decide);have g5:(aa (fs.length+1<=9223372036854775807)&&aa ((fs.length+1)*32<=140737488355328))=ae:=by simp;omega
   simp only[e1,e2,g1,g4,g5,aS,fq ex,ax,jd,eq_self,ay,ck,Bool.true_and,ba,BEq.rfl,aD,bE]
   refine ad.ret (zS _ hb ⟨by simp only[aP,bL,cX];omega,fun f hf=>?_,by simp only;omega,fun w hw=>by have:=x5 w hw;omega⟩);rcases List.mem_append.1 hf with hf|hf
   ·have:=x3 f hf;omega
   ·simp only[List.mem_singleton]at hf;subst hf;simp only;omega
  ·obtain⟨⟨a,r0,r1⟩,e1,(ha:au a<=10),hr⟩:=ew (m:=10) (l:=[[65],[90]]) hr (by omega) (by simp) (by decide);obtain⟨⟨b,r2,r3⟩,e2,-⟩:=zG (l:=[0,-1,3]) hr (by omega) (by simp);have g5:(aa (ws.length+1<=9223372036854775807)&&aa ((ws.length+1)*24<=140737488355328))=ae:=by simp;omega
   simp only[e1,e2,g1,g4,g5,aS,fq ex,ax,jd,eq_self,ay,ck,Bool.true_and,ba,BEq.rfl,aD,bE]
   refine ad.ret (zS _ hb ⟨by simp only;omega,fun f hf=>by have:=x3 f hf;omega,by simp only[aP,bL,cX];omega,fun w hw=>?_⟩);rcases List.mem_append.1 hw with hw|hw
   ·have:=x5 w hw;omega
   ·simp only[List.mem_singleton]at hw;subst hw;simp only;omega
  ·refine ad.bind (jL (by simp) (by simp) hr (by omega)) ?_;rintro⟨⟨f1,w1,p1⟩,r0,r1⟩ ⟨⟨(g1:f1.length=0),-,(rfl:w1=[]),-⟩,hr⟩;refine ad.bind (jL (by simp) (by simp) hr (by omega)) ?_;rintro⟨⟨f2,w2,p2⟩,r2,r3⟩ ⟨⟨(g2:f2.length=0),-,(rfl:w2=[]),-⟩,hr⟩;refine ad.bind (jL (by simp) (by simp) hr (by omega)) ?_;rintro⟨⟨f3,w3,p3⟩,r4,r5⟩ ⟨⟨(g3:f3.length=0),-,(rfl:w3=[]),-⟩,hr⟩;obtain rfl:=List.eq_nil_of_length_eq_zero g1;obtain rfl:=List.eq_nil_of_length_eq_zero g2;obtain rfl:=List.eq_nil_of_length_eq_zero g3;refine av (by simp;omega) (ad.ret ⟨by simp only[aP,bL,cX];omega,fun l hl=>?_⟩);rcases List.mem_append.1 hl with hl|hl
   ·exact hb.2 l hl
   ·simp only[List.mem_cons,List.not_mem_nil,or_false]at hl;rcases hl with rfl|rfl|rfl<;>exact⟨by simp,by simp,by simp,by simp⟩
  ·obtain⟨⟨q,r0,r1⟩,e1,(q0:0<=q),q1,-,hr⟩:=eN (n:=(fs.length:Int)) hr (by omega);have q1:q<fs.length:=q1 (by omega);obtain⟨j,rfl⟩:∃j:Nat,q=j:=⟨q.toNat,by omega⟩
   have hj:j<fs.length:=by omega
   have ef:=dq (([],[]):Fil) hj;have hf:=x3 _ (gD (([],[]):Fil) hj);generalize fs.getD j ([],[])=f at ef hf;obtain⟨fn,ft⟩:=f;simp only at hf;obtain⟨⟨b,r2,r3⟩,e2,(hb2:au b<=ft.length+1),-⟩:=t54 (s:=ft) (by omega) hr (by omega);have g6:(aa ((0:Int)<=(j:Int))&&aa ((j:Int)<(fs.length:Int)))=ae:=gI hj;simp only[e1,e2,g1,g4,g6,aS,fq ex,fq ef,ax,jd,eq_self,ay,ck,Bool.true_and,ba,BEq.rfl,aD,bE]
   refine ad.ret (zS _ hb ⟨by simp only[List.length_set];omega,fun g hg'=>?_,by simp only;omega,fun w hw=>by have:=x5 w hw;omega⟩);rcases List.mem_or_eq_of_mem_set hg' with hg'|rfl
   ·have:=x3 g hg';omega
   ·simp only;omega
  ·exact ad.ret ⟨by simp,by simp⟩
  ·exact ad.ret hb
 rintro⟨y9,y10,y11⟩ h;exact ad.ret h
def y4 (code:List UInt8):ad (F4 code) bLs:=by
 unfold F4;refine ad.bind (t49 code) ?_;rintro⟨y,y1⟩ hr;refine ad.bind (dh hr) ?_;rintro⟨y2,y3,y4⟩ h;exact ad.ret h
def y7 (l:Ldr)(h:oc l):ad (F7 (l,l)) fun y=>y=ae:=by
 obtain⟨fs,ws,p⟩:=l;obtain⟨h1,h2,h3,h4⟩:=h;simp only at h1 h3;unfold F7;refine ad.bindE (fun z=>z=((fs,ws,p),fs,ws,p)) ?_ ?_
 ·exact aA (fun h=>by simp at h) fun _=>aA (fun h=>by simp at h) fun _=>aA (fun h=>by simp at h) fun _=>ad.ret rfl
 rintro _ rfl;refine ad.bindE (fun z=>z=((fs,ws,p),fs,ws,p)) (ad.loop (fun z=>∃i:Nat,z=((i:Int),(fs,ws,p),fs,ws,p)/\i<=fs.length) (fun z=>fs.length-z.1.toNat) ?_ ⟨0,rfl,Nat.zero_le _⟩) ?_
 ·rintro _ ⟨i,rfl,hi⟩;refine aA (fun h=>?_) fun _=>ad.ret rfl
  simp only[aL]at h;have e:fs[((i:Int)).toNat]? = U (fs.getD i ([],[])):=dq _ (by omega);refine av (by simp) (cg e (av (by simp) (cg e (aA (fun h=>by simp at h) fun _=>ad.ret ⟨⟨i+1,by rw[wN (by omega)],by omega⟩,?_⟩))));show fs.length-(IntKind.wrap .i64 ((i:Int)+1)).toNat<fs.length-((i:Int)).toNat;rw[wN (by omega)];omega
 rintro _ rfl;refine ad.bindE (fun _=>True) (ad.loop (fun z=>∃i:Nat,z=((i:Int),(fs,ws,p),fs,ws,p)/\i<=ws.length) (fun z=>ws.length-z.1.toNat) ?_ ⟨0,rfl,Nat.zero_le _⟩) ?_
 ·rintro _ ⟨i,rfl,hi⟩;refine aA (fun h=>?_) fun _=>ad.ret trivial
  simp only[aL]at h;have e:ws[((i:Int)).toNat]? = U (ws.getD i ([],0)):=dq _ (by omega);refine av (by simp) (cg e (av (by simp) (cg e (aA (fun h=>by simp at h) fun _=>ad.ret ⟨⟨i+1,by rw[wN (by omega)],by omega⟩,?_⟩))));show ws.length-(IntKind.wrap .i64 ((i:Int)+1)).toNat<ws.length-((i:Int)).toNat;rw[wN (by omega)];omega
 intro _ _;exact ad.ret rfl
def Mi (ls:List Ldr)(hb:bLs ls):ad (F5 ls) fun y=>y=if gU ls then ls.map tidR else []:=by
 unfold F5;refine ad.bind (y5 ls hb) ?_;rintro _ rfl;exact ad.ret rfl
def cM (ls:List Ldr)(hb:bLs ls)(h:gU ls):ad (yW ls) fun y=>y.2.1.length=2:=by
 unfold yW;refine ad.bind (zp ls hb) ?_;rintro _ rfl;refine aA (fun hc=>by rw[decide_eq_true h]at hc;cases hc) fun _=>ad.bind (Ev ls hb) fun y _=>?_
 unfold Dj;exact ad.ret rfl
def zed (code:List UInt8):F3 code=U ae:=by
 have hgo:ad (F3 code) fun b=>b=ae:=by
  unfold F3;refine aA (fun _=>ad.ret rfl) fun _=>ad.bind (y4 code) ?_
  intro ls hb;refine ad.bind (Mi ls hb) ?_;intro y1 hy1;refine ad.bind (y6 ls hb) ?_;intro y2 hy2;have e12:y2=y1:=hy2.trans hy1.symm;subst e12;refine ad.bindE (fun z=>z=(ls,y2,y2,aa (y2.length=0))) ?_ ?_
  ·refine aA (fun h=>by simp at h) fun _=>ad.ret ?_
   show _=_;have:aa ((y2.length:Int)=0)=aa (y2.length=0):=decide_eq_decide.2 (by omega);rw[this]
  rintro _ rfl;refine aA (fun _=>ad.ret (by simp)) fun hn=>?_
  have hn:¬y2.length=0:=of_decide_eq_false hn;by_cases hok:gU ls
  ·rw[if_pos hok]at hy1;subst hy1;have hb2:=zd5 hb;have hok2:=zd7 hok;have hlen:(ls.map tidR).length=ls.length:=List.length_map _;have hl3:=hok.1.2;refine ad.bind (Mi _ hb2) ?_;intro y3 hy3;rw[if_pos hok2,zWM]at hy3;subst hy3;have hget:∀i,i<ls.length->(ls.map tidR)[i]? = U (tidR (ls.getD i ([],[],0))):=fun i hi=>by rw[List.getElem?_map,dq (([],[],0):Ldr) hi];rfl
   generalize ls.map tidR=ms at *;refine ad.bindE (fun z=>z=ms) (ad.loop (fun z=>∃i:Nat,z=(ls,ms,ms,ms,(i:Int))/\i<=ms.length) (fun z=>ms.length-z.2.2.2.2.toNat) ?_ ⟨0,rfl,Nat.zero_le _⟩) ?_
   ·rintro _ ⟨i,rfl,hi⟩;refine aA (fun h=>?_) fun _=>ad.ret rfl
    simp only[aL]at h;have hil:i<ls.length:=by omega
    have el:=dq (([],[],0):Ldr) hil;have em:=hget i hil;have hbl:=hb.2 _ (dO el);generalize ls.getD i ([],[],0)=l at el em hbl;have hbm:=hb2.2 _ (dO em);have em2:ms[((i:Int)).toNat]? = U (tidR l):=em;have el2:ls[((i:Int)).toNat]? = U l:=el;refine ad.bindE (fun z=>z=(ls,ms,ms,ms,(i:Int))) ?_ ?_
    ·refine ad.bindE (fun z=>z=(ls,ms,ms,ms,(i:Int))) (av (by simp) (cg em2 (av (by simp) (cg em2 (ad.bind (y7 _ hbm) ?_))))) ?_
     ·rintro _ rfl;refine aA (fun h=>by cases h) fun _=>av (by simp) (cg em2 (av (by simp) (cg em2 (ad.bind (y7 _ hbm) ?_))))
      rintro _ rfl;exact aA (fun h=>by cases h) fun _=>ad.ret rfl
     rintro _ rfl;refine ad.bindE (fun z=>z=(ls,ms,ms,ms,(i:Int))) (ad.loop (fun z=>∃k:Nat,z=(ls,ms,ms,ms,(i:Int),(k:Int))/\k<=l.1.length) (fun z=>l.1.length-z.2.2.2.2.2.toNat) ?_ ⟨0,rfl,Nat.zero_le _⟩) ?_
     ·rintro _ ⟨k,rfl,hk⟩;have hll:(tidR l).1.length=l.1.length:=List.length_map _;have hfl:=hbl.1;refine av (by simp) (cg em2 (aA (fun h=>?_) fun _=>ad.ret rfl));simp only[aL]at h;have hkl:k<l.1.length:=by omega
      have ef:=dq (([],[]):Fil) hkl
      have eg:(tidR l).1[k]? = U (tidF (l.1.getD k ([],[]))):=by
       show(l.1.map tidF)[k]? = _;rw[List.getElem?_map,ef];rfl
      generalize l.1.getD k ([],[])=f at ef eg;have ef2:l.1[((k:Int)).toNat]? = U f:=ef;have eg2:(tidR l).1[((k:Int)).toNat]? = U (tidF f):=eg;refine ad.bindE (fun z=>z=(ls,ms,ms,ms,(i:Int),(k:Int))) (av (by simp) (cg el2 (av (by simp) (cg ef2 (ad.bind (y8 f.2) ?_))))) ?_
      ·rintro⟨b,c0,c1,c2,c3,c4,c5,c6⟩ hg;refine aA (fun hb=>?_) fun _=>ad.ret rfl
       have hb:b=ae:=hb;subst hb;obtain⟨z1,-,z3,z4⟩:=hg.chk;refine ad.bind (P:=fun y=>y=_) ⟨_,z1,rfl⟩ ?_;rintro _ rfl;refine aA (fun h0=>?_) fun _=>ad.ret rfl
       obtain⟨w1,-,w3,-⟩:=(z3 (of_decide_eq_true h0)).tid;generalize gF (c0,c1,c2,c3,c4,c5,c6)=d at w1 w3;obtain⟨d0,d1,d2,d3,d4,d5,d6⟩:=d
       have us:∀(r:Ldr) (g:Fil),ms[((i:Int)).toNat]? = U r->r.1[((k:Int)).toNat]? = U g->ad (ak (af (aa (ms=ms)) (U ())) (ak (af (aa ((i:Int)=(i:Int))) (U ())) (ak (af (aa ((0:Int)<=(i:Int))) (aq ms ((i:Int)).toNat fun x8=>af (aa (x8.1=r.1)&&(aa (x8.2.1=r.2.1)&&(aa (x8.2.2=r.2.2)&&ae))) (U ()))) (ak (af (aa (r.1=r.1)&&(aa (r.2.1=r.2.1)&&(aa (r.2.2=r.2.2)&&ae))) (U ())) (ak (af (aa (r.1=r.1)) (U ())) (ak (af (aa ((k:Int)=(k:Int))) (U ())) (ak (af (aa ((0:Int)<=(k:Int))) (aq r.1 ((k:Int)).toNat fun x8=>af (aa (x8.1=g.1)&&(aa (x8.2=g.2)&&ae)) (U ()))) (ak (af (aa (g.2=g.2)&&ae) (U ())) (ak (af (aa (g.2=g.2)) (U ())) (U ())))))))))) fun _=>True:=fun r g h1 h2=>by
        have p1:aa ((0:Int)<=(i:Int))=ae:=by simp
        have p2:aa ((0:Int)<=(k:Int))=ae:=by simp
        simp only[p1,p2,fq h1,fq h2,eq_self,ay,ck,aD,bE];exact ad.ret trivial
       refine av (by simp) (cg em2 (av (by simp) (cg eg2 (ad.bind (P:=fun y=>y=_) ⟨_,w1,rfl⟩ ?_))));rintro _ rfl;refine ad.seq (us _ _ em2 eg2) (ad.bind (P:=fun y=>y=_) ⟨_,w3,rfl⟩ ?_);rintro _ rfl;refine ad.seq (us _ _ em2 eg2) (aA (fun h=>?_) fun _=>ad.ret rfl);exfalso;have:(!aa (tf f.2=tf f.2))=ae:=h;simp at this
      ·rintro _ rfl;refine ad.ret ⟨⟨k+1,by rw[wN (by omega)],by omega⟩,?_⟩;show l.1.length-(IntKind.wrap .i64 ((k:Int)+1)).toNat<l.1.length-((k:Int)).toNat;rw[wN (by omega)];omega
     ·rintro _ rfl;exact ad.ret rfl
    ·rintro _ rfl;refine ad.ret ⟨⟨i+1,by rw[wN (by omega)],by omega⟩,?_⟩;show ms.length-(IntKind.wrap .i64 ((i:Int)+1)).toNat<ms.length-((i:Int)).toNat;rw[wN (by omega)];omega
   ·rintro z hz;rw[hz];refine ad.bind (cM ms hb2 hok2) ?_;rintro⟨y4,y5,y6,y7⟩ (h:y5.length=2);refine ad.ret (decide_eq_true ?_);omega
  ·rw[if_neg hok]at hy1;rw[hy1]at hn;exact absurd rfl hn
 obtain⟨_,e,rfl⟩:=hgo;exact e
end
section
theorem fnTidyAll : Rows.FnTidyAllSaid := fnTidyAll_of zed
end
end Go.Proofs.YtmjlecabpbiigaaGreat
