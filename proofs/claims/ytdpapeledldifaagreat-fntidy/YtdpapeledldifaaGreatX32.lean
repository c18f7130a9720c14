/- Part 33 of the proof of FnTidy; no condition. -/
import Derived.Test.YtdpapeledldifaaGreatX31
set_option autoImplicit true
set_option relaxedAutoImplicit true
set_option linter.all false
namespace Go.Proofs.YtdpapeledldifaaGreat
section
open Go Go.AM Go.TM
set_option maxRecDepth 10000
def t276 {v1:Int}{g:List UInt8×List UInt8×List UInt8×Int×List UInt8}{r:List UInt8×Int}{K:Nat}{c:Nat}(hv11:(-9223372036854775808:Int)≤v1)(hv12:v1≤(9223372036854775807:Int))(hg:Gt K g)(hr:Rd c r)(hK:K≤800000)(hc:c≤800000):Tot (F276 (v1,g,r)) fun y=>Gt (K+1200) y.1∧Rd (c+3) y.2:=by
 obtain⟨o1,o2,o3,o4,o5⟩:=g;have ko1:List.length o1≤K+0:=hg.1;have ko2:List.length o2≤K+0:=hg.2.1;have ko3:List.length o3≤K+0:=hg.2.2.1;have ko5:List.length o5≤3:=hg.2.2.2.2;obtain⟨o0,o11⟩:=r;unfold F276;refine Tot.bind (zDL (m:=3) hr (by omega) (by simp) (by decide)) ?_;rintro⟨y,y1,y2⟩ ⟨(ky:List.length y≤3),hr1⟩;refine Tot.grd (by simp<;>omega) ?_;refine Tot.grd (by simp<;>omega) ?_;refine Tot.bindE (fun y=>((-9223372036854775808:Int)≤y.1∧y.1≤(9223372036854775807:Int))∧List.length y.2.1≤5∧List.length y.2.2.1≤10∧Gt (K+0) y.2.2.2.1∧Rd (c+1) y.2.2.2.2) ?_ ?_
 ·refine Tot.cnd (fun c2=>?_) (fun c2=>?_)
  ·exact Tot.ret ⟨⟨hv11,hv12⟩,(by first|omega|simp<;>omega),(by first|omega|simp<;>omega),hg.mono (by omega),hr1.mono (by omega)⟩
  ·exact Tot.ret ⟨⟨hv11,hv12⟩,(by first|omega|simp<;>omega),(by first|omega|simp<;>omega),hg.mono (by omega),hr1.mono (by omega)⟩
 rintro⟨v11,v4,v5,⟨o12,o21,o31,o41,o51⟩,o01,o13⟩ ⟨i3,(kv4:List.length v4≤5),(kv5:List.length v5≤10),hg4,hr5⟩;have ko12:List.length o12≤K+0:=hg4.1;have ko21:List.length o21≤K+0:=hg4.2.1;have ko31:List.length o31≤K+0:=hg4.2.2.1;have ko51:List.length o51≤3:=hg4.2.2.2.2;refine Tot.bind (t274 (zGl _).1 (zGl _).2) ?_;intro y3 (ky3:List.length y3≤25);refine Tot.grd (by simp<;>omega) ?_;refine Tot.bind (t273 (by first|omega|simp<;>omega) hg4 hr5 (by omega) (by omega)) ?_;rintro⟨⟨y4,y5,y6,y7,y8⟩,y9,x⟩ ⟨hg6,hr7⟩;have ky4:List.length y4≤K+110:=hg6.1;have ky5:List.length y5≤K+110:=hg6.2.1;have ky6:List.length y6≤K+110:=hg6.2.2.1;have ky8:List.length y8≤3:=hg6.2.2.2.2;refine Tot.bind (t274 i3.1 i3.2) ?_;intro y10 (ky10:List.length y10≤25);refine Tot.seq (by repeat first|exact Tot.ret trivial|refine Tot.seq ?_ ?_|refine Tot.grd (by first|decide|simp<;>omega) ?_) ?_;refine Tot.grd (by simp<;>omega) ?_;refine Tot.grd (by simp<;>omega) ?_;refine Tot.bind (t274 hg4.2.2.2.1.1 hg4.2.2.2.1.2) ?_;intro y11 (ky11:List.length y11≤25);refine Tot.seq (by repeat first|exact Tot.ret trivial|refine Tot.seq ?_ ?_|refine Tot.grd (by first|decide|simp<;>omega) ?_) ?_;refine Tot.grd (by simp<;>omega) ?_;refine Tot.grd (by simp<;>omega) ?_;refine Tot.bind (t274 hg6.2.2.2.1.1 hg6.2.2.2.1.2) ?_;intro y12 (ky12:List.length y12≤25);refine Tot.seq (by repeat first|exact Tot.ret trivial|refine Tot.seq ?_ ?_|refine Tot.grd (by first|decide|simp<;>omega) ?_) ?_;refine Tot.grd (by simp<;>omega) ?_;refine Tot.grd (by simp<;>omega) ?_;refine Tot.grd (by simp<;>omega) ?_;refine Tot.grd (by simp<;>omega) ?_;refine Tot.bind (t308 (⟨(by show List.length _≤_;first|omega|simp<;>omega),(by show List.length _≤_;first|omega|simp<;>omega),(by show List.length _≤_;first|omega|simp<;>omega),⟨hg6.2.2.2.1.1,hg6.2.2.2.1.2⟩,(by show List.length _≤_;first|omega|simp<;>omega)⟩:Gt (K+310) (y4,[(116:UInt8),(114:UInt8),(97:UInt8),(112:UInt8),(32:UInt8)]++y10++[(32:UInt8)]++y11++[(32:UInt8)]++y12++[(32:UInt8)]++v4++[(10:UInt8)],y6,y7,y8)) hr7 (by omega) (by omega)) ?_;rintro⟨y13,⟨y14,y15,y16,y17,y18⟩,x1,x2⟩ ⟨(ky13:List.length y13≤20),hg8,hr9⟩;have ky14:List.length y14≤K+310:=hg8.1;have ky15:List.length y15≤K+310:=hg8.2.1;have ky16:List.length y16≤K+310:=hg8.2.2.1;have ky18:List.length y18≤3:=hg8.2.2.2.2;refine Tot.bind (t307 (by first|omega|simp<;>omega) (by first|omega|simp<;>omega) hg8 hr9 (by omega) (by omega)) ?_;rintro⟨⟨y19,y20,y21,y22,y23⟩,y24,x3⟩ ⟨hg10,hr11⟩;have ky19:List.length y19≤K+420:=hg10.1;have ky20:List.length y20≤K+420:=hg10.2.1;have ky21:List.length y21≤K+420:=hg10.2.2.1;have ky23:List.length y23≤3:=hg10.2.2.2.2;refine Tot.bind (t273 (by first|omega|simp<;>omega) hg10 hr11 (by omega) (by omega)) ?_;rintro⟨⟨y25,y26,y27,y28,y29⟩,y30,x4⟩ ⟨hg12,hr13⟩;have ky25:List.length y25≤K+530:=hg12.1;have ky26:List.length y26≤K+530:=hg12.2.1;have ky27:List.length y27≤K+530:=hg12.2.2.1;have ky29:List.length y29≤3:=hg12.2.2.2.2;refine Tot.bind (t273 (by first|omega|simp<;>omega) hg12 hr13 (by omega) (by omega)) ?_;rintro⟨⟨y31,y32,y33,y34,y35⟩,y36,x5⟩ ⟨hg14,hr15⟩;have ky31:List.length y31≤K+640:=hg14.1;have ky32:List.length y32≤K+640:=hg14.2.1;have ky33:List.length y33≤K+640:=hg14.2.2.1;have ky35:List.length y35≤3:=hg14.2.2.2.2;refine Tot.bind (t273 (by first|omega|simp<;>omega) hg14 hr15 (by omega) (by omega)) ?_;rintro⟨⟨y37,y38,y39,y40,y41⟩,y42,x6⟩ ⟨hg16,hr17⟩;have ky37:List.length y37≤K+750:=hg16.1;have ky38:List.length y38≤K+750:=hg16.2.1;have ky39:List.length y39≤K+750:=hg16.2.2.1;have ky41:List.length y41≤3:=hg16.2.2.2.2;refine Tot.bind (t308 hg16 hr17 (by omega) (by omega)) ?_;rintro⟨y43,⟨y44,y45,y46,y47,y48⟩,x7,x8⟩ ⟨(ky43:List.length y43≤20),hg18,hr19⟩;have ky44:List.length y44≤K+750:=hg18.1;have ky45:List.length y45≤K+750:=hg18.2.1;have ky46:List.length y46≤K+750:=hg18.2.2.1;have ky48:List.length y48≤3:=hg18.2.2.2.2;refine Tot.bind (t307 (by first|omega|simp<;>omega) (by first|omega|simp<;>omega) hg18 hr19 (by omega) (by omega)) ?_;rintro⟨⟨y49,y50,y51,y52,y53⟩,y54,x9⟩ ⟨hg20,hr21⟩;have ky49:List.length y49≤K+860:=hg20.1;have ky50:List.length y50≤K+860:=hg20.2.1;have ky51:List.length y51≤K+860:=hg20.2.2.1;have ky53:List.length y53≤3:=hg20.2.2.2.2;exact Tot.ret ⟨hg20.mono (by omega),hr21.mono (by omega)⟩
def t275 {g:List UInt8×List UInt8×List UInt8×Int×List UInt8}{r:List UInt8×Int}{K:Nat}{c:Nat}(hg:Gt K g)(hr:Rd c r)(hK:K≤800000)(hc:c≤800000):Tot (F275 (g,r)) fun y=>Gt (K+2000) y.1∧Rd (c+40) y.2:=by
 obtain⟨o1,o2,o3,o4,o5⟩:=g;obtain⟨o0,o11⟩:=r;unfold F275;refine Tot.bind (t51 hr (by omega)) ?_;rintro⟨y,y1,y2⟩ ⟨(a2:(0:Int)≤y),(b3:(1:Int)≤(14:Int)→y<(14:Int)),-,hr1⟩;refine Tot.bindE (fun y=>Gt (K+1200) y.1∧Rd (c+21) y.2) ?_ ?_
 ·refine Tot.bindE (fun y=>Gt (K+0) y.2.2.1∧Rd (c+1) y.2.2.2) ?_ ?_
  ·refine Tot.cnd (fun c4=>?_) (fun c4=>?_)
   ·exact Tot.ret ⟨hg.mono (by omega),hr1.mono (by omega)⟩
   ·exact Tot.ret ⟨hg.mono (by omega),hr1.mono (by omega)⟩
  rintro⟨v8,v11,⟨o12,o21,o31,o41,o51⟩,o01,o13⟩ ⟨hg5,hr6⟩;refine Tot.cnd (fun c7=>?_) (fun c7=>?_)
  ·refine Tot.bind (t303 hg5 hr6 (by omega) (by omega)) ?_;rintro⟨⟨y3,y4,y5,y6,y7⟩,y8,x⟩ ⟨hg8,hr9⟩;refine Tot.bind (t273 (by first|omega|simp<;>omega) hg8 hr9 (by omega) (by omega)) ?_;rintro⟨⟨y9,y10,y11,y12,y13⟩,y14,x1⟩ ⟨hg10,hr11⟩;exact Tot.ret ⟨hg10.mono (by omega),hr11.mono (by omega)⟩
  ·refine Tot.bindE (fun y=>Gt (K+0) y.2.2.1∧Rd (c+1) y.2.2.2) ?_ ?_
   ·refine Tot.cnd (fun c12=>?_) (fun c12=>?_)
    ·exact Tot.ret ⟨hg5.mono (by omega),hr6.mono (by omega)⟩
    ·refine Tot.cnd (fun c13=>?_) (fun c13=>?_)
     ·exact Tot.ret ⟨hg5.mono (by omega),hr6.mono (by omega)⟩
     ·exact Tot.ret ⟨hg5.mono (by omega),hr6.mono (by omega)⟩
   rintro⟨v81,v18,⟨o14,o22,o32,o42,o52⟩,o02,o15⟩ ⟨hg14,hr15⟩;refine Tot.cnd (fun c16=>?_) (fun c16=>?_)
   ·refine Tot.bind (t304 hg14 hr15 (by omega) (by omega)) ?_;rintro⟨⟨y3,y4,y5,y6,y7⟩,y8,x⟩ ⟨hg17,hr18⟩;refine Tot.bind (t277 hg17 hr18 (by omega) (by omega)) ?_;rintro⟨y9,⟨y10,y11,y12,y13,y14⟩,x1,x2⟩ ⟨(ky9:List.length y9≤25),hg19,hr20⟩;refine Tot.grd (by simp<;>omega) ?_;refine Tot.bind (t273 (by first|omega|simp<;>omega) hg19 hr20 (by omega) (by omega)) ?_;rintro⟨⟨y15,y16,y17,y18,y19⟩,y20,x3⟩ ⟨hg21,hr22⟩;exact Tot.ret ⟨hg21.mono (by omega),hr22.mono (by omega)⟩
   ·refine Tot.cnd (fun c23=>?_) (fun c23=>?_)
    ·refine Tot.bind (t277 hg14 hr15 (by omega) (by omega)) ?_;rintro⟨y3,⟨y4,y5,y6,y7,y8⟩,x,x1⟩ ⟨(ky3:List.length y3≤25),hg24,hr25⟩;refine Tot.grd (by simp<;>omega) ?_;refine Tot.bind (t273 (by first|omega|simp<;>omega) hg24 hr25 (by omega) (by omega)) ?_;rintro⟨⟨y9,y10,y11,y12,y13⟩,y14,x2⟩ ⟨hg26,hr27⟩;refine Tot.bind (t303 hg26 hr27 (by omega) (by omega)) ?_;rintro⟨⟨y15,y16,y17,y18,y19⟩,y20,x3⟩ ⟨hg28,hr29⟩;refine Tot.bind (t273 (by first|omega|simp<;>omega) hg28 hr29 (by omega) (by omega)) ?_;rintro⟨⟨y21,y22,y23,y24,y25⟩,y26,x4⟩ ⟨hg30,hr31⟩;exact Tot.ret ⟨hg30.mono (by omega),hr31.mono (by omega)⟩
    ·refine Tot.cnd (fun c32=>?_) (fun c32=>?_)
     ·refine Tot.bind (t305 hg14 hr15 (by omega) (by omega)) ?_;rintro⟨⟨y3,y4,y5,y6,y7⟩,y8,x⟩ ⟨hg33,hr34⟩;exact Tot.ret ⟨hg33.mono (by omega),hr34.mono (by omega)⟩
     ·refine Tot.cnd (fun c35=>?_) (fun c35=>?_)
      ·refine Tot.bind (t303 hg14 hr15 (by omega) (by omega)) ?_;rintro⟨⟨y3,y4,y5,y6,y7⟩,y8,x⟩ ⟨hg36,hr37⟩;refine Tot.bind (t273 (by first|omega|simp<;>omega) hg36 hr37 (by omega) (by omega)) ?_;rintro⟨⟨y9,y10,y11,y12,y13⟩,y14,x1⟩ ⟨hg38,hr39⟩;exact Tot.ret ⟨hg38.mono (by omega),hr39.mono (by omega)⟩
      ·refine Tot.cnd (fun c40=>?_) (fun c40=>?_)
       ·refine Tot.bind (zDL (m:=1) hr15 (by omega) (by simp) (by decide)) ?_;rintro⟨y3,y4,y5⟩ ⟨(ky3:List.length y3≤1),hr41⟩;refine Tot.grd (by simp<;>omega) ?_;refine Tot.bind (t273 (by first|omega|simp<;>omega) hg14 hr41 (by omega) (by omega)) ?_;rintro⟨⟨y6,y7,y8,y9,y10⟩,y11,x⟩ ⟨hg42,hr43⟩;refine Tot.bind (t273 (by first|omega|simp<;>omega) hg42 hr43 (by omega) (by omega)) ?_;rintro⟨⟨y12,y13,y14,y15,y16⟩,y17,x1⟩ ⟨hg44,hr45⟩;refine Tot.bind (t273 (by first|omega|simp<;>omega) hg44 hr45 (by omega) (by omega)) ?_;rintro⟨⟨y18,y19,y20,y21,y22⟩,y23,x2⟩ ⟨hg46,hr47⟩;exact Tot.ret ⟨hg46.mono (by omega),hr47.mono (by omega)⟩
       ·refine Tot.cnd (fun c48=>?_) (fun c48=>?_)
        ·refine Tot.bind (t277 hg14 hr15 (by omega) (by omega)) ?_;rintro⟨y3,⟨y4,y5,y6,y7,y8⟩,x,x1⟩ ⟨(ky3:List.length y3≤25),hg49,hr50⟩;refine Tot.grd (by simp<;>omega) ?_;refine Tot.bind (t273 (by first|omega|simp<;>omega) hg49 hr50 (by omega) (by omega)) ?_;rintro⟨⟨y9,y10,y11,y12,y13⟩,y14,x2⟩ ⟨hg51,hr52⟩;refine Tot.bind (zDL (m:=1) hr52 (by omega) (by simp) (by decide)) ?_;rintro⟨y15,y16,y17⟩ ⟨(ky15:List.length y15≤1),hr53⟩;refine Tot.grd (by simp<;>omega) ?_;refine Tot.bind (t273 (by first|omega|simp<;>omega) hg51 hr53 (by omega) (by omega)) ?_;rintro⟨⟨y18,y19,y20,y21,y22⟩,y23,x3⟩ ⟨hg54,hr55⟩;refine Tot.bind (t273 (by first|omega|simp<;>omega) hg54 hr55 (by omega) (by omega)) ?_;rintro⟨⟨y24,y25,y26,y27,y28⟩,y29,x4⟩ ⟨hg56,hr57⟩;exact Tot.ret ⟨hg56.mono (by omega),hr57.mono (by omega)⟩
        ·refine Tot.cnd (fun c58=>?_) (fun c58=>?_)
         ·refine Tot.bind (t277 hg14 hr15 (by omega) (by omega)) ?_;rintro⟨y3,⟨y4,y5,y6,y7,y8⟩,x,x1⟩ ⟨(ky3:List.length y3≤25),hg59,hr60⟩;refine Tot.grd (by simp<;>omega) ?_;refine Tot.bind (t273 (by first|omega|simp<;>omega) hg59 hr60 (by omega) (by omega)) ?_;rintro⟨⟨y9,y10,y11,y12,y13⟩,y14,x2⟩ ⟨hg61,hr62⟩;refine Tot.bind (t304 hg61 hr62 (by omega) (by omega)) ?_;rintro⟨⟨y15,y16,y17,y18,y19⟩,y20,x3⟩ ⟨hg63,hr64⟩;refine Tot.bind (t273 (by first|omega|simp<;>omega) hg63 hr64 (by omega) (by omega)) ?_;rintro⟨⟨y21,y22,y23,y24,y25⟩,y26,x4⟩ ⟨hg65,hr66⟩;exact Tot.ret ⟨hg65.mono (by omega),hr66.mono (by omega)⟩
         ·refine Tot.cnd (fun c67=>?_) (fun c67=>?_)
          ·refine Tot.bind (zDL (m:=17) hr15 (by omega) (by simp) (by decide)) ?_;rintro⟨y3,y4,y5⟩ ⟨(ky3:List.length y3≤17),hr68⟩;refine Tot.bind (t273 (by first|omega|simp<;>omega) hg14 hr68 (by omega) (by omega)) ?_;rintro⟨⟨y6,y7,y8,y9,y10⟩,y11,x⟩ ⟨hg69,hr70⟩;refine Tot.bind (zDL (m:=4) hr70 (by omega) (by simp) (by decide)) ?_;rintro⟨y12,y13,y14⟩ ⟨(ky12:List.length y12≤4),hr71⟩;refine Tot.bind (t273 (by first|omega|simp<;>omega) hg69 hr71 (by omega) (by omega)) ?_;rintro⟨⟨y15,y16,y17,y18,y19⟩,y20,x1⟩ ⟨hg72,hr73⟩;exact Tot.ret ⟨hg72.mono (by omega),hr73.mono (by omega)⟩
          ·refine Tot.bind (t306 hg14 hr15 (by omega) (by omega)) ?_;rintro⟨⟨y3,y4,y5,y6,y7⟩,y8,x⟩ ⟨hg74,hr75⟩;exact Tot.ret ⟨hg74.mono (by omega),hr75.mono (by omega)⟩
 rintro⟨⟨o12,o21,o31,o41,o51⟩,o01,o13⟩ ⟨hg76,hr77⟩;exact Tot.ret ⟨hg76.mono (by omega),hr77.mono (by omega)⟩
def t140 {v1:List UInt8}{r:List UInt8×Int}{c:Nat}(hv1:List.length v1≤10)(hr:Rd c r)(hc:c≤750000):Tot (F140 (v1,r)) fun y=>List.length y.1≤1000∧Rd (c+5) y.2:=by
 obtain⟨o0,o1⟩:=r;unfold F140;refine Tot.cnd (fun c1=>?_) (fun c1=>?_)
 ·refine Tot.bind (zDL (m:=12) hr (by omega) (by simp) (by decide)) ?_;rintro⟨y,y1,y2⟩ ⟨(ky:List.length y≤12),hr2⟩;refine Tot.grd (by simp<;>omega) ?_;refine Tot.grd (by simp<;>omega) ?_;refine Tot.grd (by simp<;>omega) ?_;refine Tot.grd (by simp<;>omega) ?_;refine Tot.bind (zDL (m:=28) hr2 (by omega) (by simp) (by decide)) ?_;rintro⟨y3,y4,y5⟩ ⟨(ky3:List.length y3≤28),hr3⟩;refine Tot.grd (by simp<;>omega) ?_;refine Tot.bind (zDL (m:=72) hr3 (by omega) (by simp) (by decide)) ?_;rintro⟨y6,y7,y8⟩ ⟨(ky6:List.length y6≤72),hr4⟩;refine Tot.grd (by simp<;>omega) ?_;exact Tot.ret ⟨(by first|omega|simp<;>omega),hr4.mono (by omega)⟩
 ·refine Tot.cnd (fun c5=>?_) (fun c5=>?_)
  ·refine Tot.bind (zDL (m:=1) hr (by omega) (by simp) (by decide)) ?_;rintro⟨y,y1,y2⟩ ⟨(ky:List.length y≤1),hr6⟩;refine Tot.grd (by simp<;>omega) ?_;refine Tot.grd (by simp<;>omega) ?_;refine Tot.bind (zDL (m:=78) hr6 (by omega) (by simp) (by decide)) ?_;rintro⟨y3,y4,y5⟩ ⟨(ky3:List.length y3≤78),hr7⟩;refine Tot.grd (by simp<;>omega) ?_;exact Tot.ret ⟨(by first|omega|simp<;>omega),hr7.mono (by omega)⟩
  ·refine Tot.cnd (fun c8=>?_) (fun c8=>?_)
   ·refine Tot.bind (zDL (m:=40) hr (by omega) (by simp) (by decide)) ?_;rintro⟨y,y1,y2⟩ ⟨(ky:List.length y≤40),hr9⟩;refine Tot.grd (by simp<;>omega) ?_;refine Tot.grd (by simp<;>omega) ?_;refine Tot.bind (zDL (m:=17) hr9 (by omega) (by simp) (by decide)) ?_;rintro⟨y3,y4,y5⟩ ⟨(ky3:List.length y3≤17),hr10⟩;refine Tot.grd (by simp<;>omega) ?_;refine Tot.grd (by simp<;>omega) ?_;exact Tot.ret ⟨(by first|omega|simp<;>omega),hr10.mono (by omega)⟩
   ·refine Tot.cnd (fun c11=>?_) (fun c11=>?_)
    ·refine Tot.bind (zDL (m:=1) hr (by omega) (by simp) (by decide)) ?_;rintro⟨y,y1,y2⟩ ⟨(ky:List.length y≤1),hr12⟩;refine Tot.grd (by simp<;>omega) ?_;refine Tot.grd (by simp<;>omega) ?_;exact Tot.ret ⟨(by first|omega|simp<;>omega),hr12.mono (by omega)⟩
    ·refine Tot.bind (zDL (m:=1) hr (by omega) (by simp) (by decide)) ?_;rintro⟨y,y1,y2⟩ ⟨(ky:List.length y≤1),hr13⟩;refine Tot.grd (by simp<;>omega) ?_;refine Tot.grd (by simp<;>omega) ?_;exact Tot.ret ⟨(by first|omega|simp<;>omega),hr13.mono (by omega)⟩
def t217 {v1:List UInt8}{r:List UInt8×Int}{c:Nat}(hv1:List.length v1≤20)(hr:Rd c r)(hc:c≤750000):Tot (F217 (v1,r)) fun y=>List.length y.1≤80000∧Rd (c+600) y.2:=by
 obtain⟨o0,o1⟩:=r;unfold F217;refine Tot.bindE (fun y=>List.length y.1≤20∧Gt (0+900) y.2.1∧Rd (c+3) y.2.2) (Tot.loop (fun x=>List.length x.1≤20∧((0:Int)≤x.2.1∧x.2.1≤(3:Int))∧Gt (300*Int.toNat x.2.1) x.2.2.1∧Rd (c+Int.toNat x.2.1) x.2.2.2) (fun x=>3-Int.toNat x.2.1) ?_ ⟨hv1,⟨by simp,by simp⟩,⟨by simp,by simp,by simp,⟨by simp,by simp⟩,by simp⟩,(by exact hr)⟩) ?_
 ·rintro⟨v11,v6,⟨o11,o2,o3,o4,o5⟩,o01,o12⟩ ⟨(kv11:List.length v11≤20),⟨(i0:(0:Int)≤v6),(i1:v6≤(3:Int))⟩,(hga:Gt (300*Int.toNat v6) (o11,o2,o3,o4,o5)),(hra:Rd (c+Int.toNat v6) (o01,o12))⟩;obtain⟨n,hn⟩:∃n:Nat,Int.toNat v6=n:=⟨_,rfl⟩
  rw[hn]at hga hra;have ko11:List.length o11≤300*n+0:=hga.1;have ko2:List.length o2≤300*n+0:=hga.2.1;have ko3:List.length o3≤300*n+0:=hga.2.2.1;have ko5:List.length o5≤3:=hga.2.2.2.2;refine Tot.cnd (fun c1=>?_) (fun c1=>?_)
  ·simp only[zDe]at c1;refine Tot.bind (zDL (m:=5) hra (by omega) (by simp) (by decide)) ?_;rintro⟨y,y1,y2⟩ ⟨(ky:List.length y≤5),hr2⟩;refine Tot.bind (t273 (by first|omega|simp<;>omega) hga hr2 (by omega) (by omega)) ?_;rintro⟨⟨y3,y4,y5,y6,y7⟩,y8,x⟩ ⟨hg3,hr4⟩;have ky3:List.length y3≤300*n+110:=hg3.1;have ky4:List.length y4≤300*n+110:=hg3.2.1;have ky5:List.length y5≤300*n+110:=hg3.2.2.1;have ky7:List.length y7≤3:=hg3.2.2.2.2;refine Tot.bind (t274 (by omega) (by omega)) ?_;intro y9 (ky9:List.length y9≤25);refine Tot.grd (by simp<;>omega) ?_;refine Tot.bind (t273 (by first|omega|simp<;>omega) hg3 hr4 (by omega) (by omega)) ?_;rintro⟨⟨y10,y11,y12,y13,y14⟩,y15,x1⟩ ⟨hg5,hr6⟩;have ky10:List.length y10≤300*n+220:=hg5.1;have ky11:List.length y11≤300*n+220:=hg5.2.1;have ky12:List.length y12≤300*n+220:=hg5.2.2.1;have ky14:List.length y14≤3:=hg5.2.2.2.2;have hw:IntKind.wrap .i64 (v6+1)=v6+1:=wrapI (by omega) (by omega);rw[hw];exact Tot.ret ⟨⟨kv11,⟨by show(0:Int)≤v6+1;omega,by show v6+1≤(3:Int);omega⟩,hg5.mono (by show _≤300*Int.toNat (v6+1);omega),hr6.mono (by show _≤c+Int.toNat (v6+1);omega)⟩,by show 3-Int.toNat (v6+1)<3-Int.toNat v6;omega⟩
  ·simp only[zDn]at c1;exact Tot.ret ⟨(by first|omega|simp<;>omega),hga.mono (by omega),hra.mono (by omega)⟩
 rintro⟨v11,⟨o11,o2,o3,o4,o5⟩,o01,o12⟩ ⟨(kv11:List.length v11≤20),hg7,hr8⟩;have ko11:List.length o11≤0+900:=hg7.1;have ko2:List.length o2≤0+900:=hg7.2.1;have ko3:List.length o3≤0+900:=hg7.2.2.1;have ko5:List.length o5≤3:=hg7.2.2.2.2;refine Tot.bind (t51 hr8 (by omega)) ?_;rintro⟨y,y1,y2⟩ ⟨(a10:(0:Int)≤y),(b11:(1:Int)≤(6:Int)→y<(6:Int)),-,hr9⟩;refine Tot.bindE (fun y=>List.length y.1≤20∧((-9223372036854775808:Int)≤y.2.1∧y.2.1≤(9223372036854775807:Int))∧Gt (0+12900) y.2.2.1∧Rd (c+244) y.2.2.2) (Tot.loop (fun x=>List.length x.1≤20∧((-9223372036854775808:Int)≤x.2.1∧x.2.1≤(9223372036854775807:Int))∧((0:Int)≤x.2.2.1∧x.2.2.1≤(6:Int))∧Gt (12900-2000*Int.toNat x.2.2.1) x.2.2.2.1∧Rd (c+244-40*Int.toNat x.2.2.1) x.2.2.2.2) (fun x=>Int.toNat x.2.2.1) ?_ (by rw[show IntKind.wrap .i64 (1+y)=1+y from wrapI (by omega) (by omega)];exact⟨kv11,⟨hg7.2.2.2.1.1,hg7.2.2.2.1.2⟩,⟨by show(0:Int)≤1+y;omega,by show 1+y≤(6:Int);omega⟩,hg7.mono (by show _≤12900-2000*Int.toNat (1+y);omega),hr9.mono (by show _≤c+244-40*Int.toNat (1+y);omega)⟩)) ?_
 ·rintro⟨v12,v7,v8,⟨o13,o21,o31,o41,o51⟩,o02,o14⟩ ⟨(kv12:List.length v12≤20),⟨(j0:(-9223372036854775808:Int)≤v7),(j1:v7≤(9223372036854775807:Int))⟩,⟨(i0:(0:Int)≤v8),(i1:v8≤(6:Int))⟩,(hga:Gt (12900-2000*Int.toNat v8) (o13,o21,o31,o41,o51)),(hra:Rd (c+244-40*Int.toNat v8) (o02,o14))⟩;obtain⟨n,hn⟩:∃n:Nat,Int.toNat v8=n:=⟨_,rfl⟩
  rw[hn]at hga hra;have ko13:List.length o13≤(12900-2000*n)+0:=hga.1;have ko21:List.length o21≤(12900-2000*n)+0:=hga.2.1;have ko31:List.length o31≤(12900-2000*n)+0:=hga.2.2.1;have ko51:List.length o51≤3:=hga.2.2.2.2;refine Tot.cnd (fun c12=>?_) (fun c12=>?_)
  ·simp only[zDe]at c12;refine Tot.cnd (fun c13=>?_) (fun c13=>?_)
   ·simp only[zDe]at c13;refine Tot.bind (t275 hga hra (by omega) (by omega)) ?_;rintro⟨⟨y3,y4,y5,y6,y7⟩,y8,x⟩ ⟨hg14,hr15⟩;have ky3:List.length y3≤(12900-2000*n)+2000:=hg14.1;have ky4:List.length y4≤(12900-2000*n)+2000:=hg14.2.1;have ky5:List.length y5≤(12900-2000*n)+2000:=hg14.2.2.1;have ky7:List.length y7≤3:=hg14.2.2.2.2;have hw:IntKind.wrap .i64 (v8-1)=v8-1:=wrapI (by omega) (by omega);rw[hw];exact Tot.ret ⟨⟨kv12,⟨j0,j1⟩,⟨by show(0:Int)≤v8-1;omega,by show v8-1≤(6:Int);omega⟩,hg14.mono (by show _≤12900-2000*Int.toNat (v8-1);omega),hr15.mono (by show _≤c+244-40*Int.toNat (v8-1);omega)⟩,by show Int.toNat (v8-1)<Int.toNat v8;omega⟩
   ·simp only[zDn]at c13;exact Tot.ret ⟨(by first|omega|simp<;>omega),⟨j0,j1⟩,hga.mono (by omega),hra.mono (by omega)⟩
  ·simp only[zDn]at c12;exact Tot.ret ⟨(by first|omega|simp<;>omega),⟨j0,j1⟩,hga.mono (by omega),hra.mono (by omega)⟩
 rintro⟨v12,v7,⟨o13,o21,o31,o41,o51⟩,o02,o14⟩ ⟨(kv12:List.length v12≤20),i16,hg17,hr18⟩;have ko13:List.length o13≤0+12900:=hg17.1;have ko21:List.length o21≤0+12900:=hg17.2.1;have ko31:List.length o31≤0+12900:=hg17.2.2.1;have ko51:List.length o51≤3:=hg17.2.2.2.2;refine Tot.bindE (fun y=>List.length y.1≤20∧Gt (0+14100) y.2.1∧Rd (c+248) y.2.2) ?_ ?_
 ·refine Tot.bind (t51 hr18 (by omega)) ?_;rintro⟨y3,y4,y5⟩ ⟨(a20:(0:Int)≤y3),(b21:(1:Int)≤(3:Int)→y3<(3:Int)),-,hr19⟩;refine Tot.cnd (fun c22=>?_) (fun c22=>?_)
  ·simp only[zDe]at c22;refine Tot.bind (t276 i16.1 i16.2 hg17 hr19 (by omega) (by omega)) ?_;rintro⟨⟨y6,y7,y8,y9,y10⟩,y11,x⟩ ⟨hg23,hr24⟩;have ky6:List.length y6≤0+14100:=hg23.1;have ky7:List.length y7≤0+14100:=hg23.2.1;have ky8:List.length y8≤0+14100:=hg23.2.2.1;have ky10:List.length y10≤3:=hg23.2.2.2.2;exact Tot.ret ⟨(by first|omega|simp<;>omega),hg23.mono (by omega),hr24.mono (by omega)⟩
  ·simp only[zDn]at c22;exact Tot.ret ⟨(by first|omega|simp<;>omega),hg17.mono (by omega),hr19.mono (by omega)⟩
 rintro⟨v13,⟨o15,o22,o32,o42,o52⟩,o03,o16⟩ ⟨(kv13:List.length v13≤20),hg25,hr26⟩;have ko15:List.length o15≤0+14100:=hg25.1;have ko22:List.length o22≤0+14100:=hg25.2.1;have ko32:List.length o32≤0+14100:=hg25.2.2.1;have ko52:List.length o52≤3:=hg25.2.2.2.2;refine Tot.bindE (fun y=>List.length y.1≤20∧Gt (0+14320) y.2.1∧Rd (c+250) y.2.2) ?_ ?_
 ·refine Tot.bind (t51 hr26 (by omega)) ?_;rintro⟨y3,y4,y5⟩ ⟨(a28:(0:Int)≤y3),(b29:(1:Int)≤(8:Int)→y3<(8:Int)),-,hr27⟩;refine Tot.cnd (fun c30=>?_) (fun c30=>?_)
  ·simp only[zDe]at c30;refine Tot.bind (t277 hg25 hr27 (by omega) (by omega)) ?_;rintro⟨y6,⟨y7,y8,y9,y10,y11⟩,x,x1⟩ ⟨(ky6:List.length y6≤25),hg31,hr32⟩;have ky7:List.length y7≤0+14100:=hg31.1;have ky8:List.length y8≤0+14100:=hg31.2.1;have ky9:List.length y9≤0+14100:=hg31.2.2.1;have ky11:List.length y11≤3:=hg31.2.2.2.2;refine Tot.grd (by simp<;>omega) ?_;refine Tot.bind (t273 (by first|omega|simp<;>omega) hg31 hr32 (by omega) (by omega)) ?_;rintro⟨⟨y12,y13,y14,y15,y16⟩,y17,x2⟩ ⟨hg33,hr34⟩;have ky12:List.length y12≤0+14210:=hg33.1;have ky13:List.length y13≤0+14210:=hg33.2.1;have ky14:List.length y14≤0+14210:=hg33.2.2.1;have ky16:List.length y16≤3:=hg33.2.2.2.2;refine Tot.bind (t273 (by first|omega|simp<;>omega) hg33 hr34 (by omega) (by omega)) ?_;rintro⟨⟨y18,y19,y20,y21,y22⟩,y23,x3⟩ ⟨hg35,hr36⟩;have ky18:List.length y18≤0+14320:=hg35.1;have ky19:List.length y19≤0+14320:=hg35.2.1;have ky20:List.length y20≤0+14320:=hg35.2.2.1;have ky22:List.length y22≤3:=hg35.2.2.2.2;exact Tot.ret ⟨(by first|omega|simp<;>omega),hg35.mono (by omega),hr36.mono (by omega)⟩
  ·simp only[zDn]at c30;refine Tot.bind (t273 (by first|omega|simp<;>omega) hg25 hr27 (by omega) (by omega)) ?_;rintro⟨⟨y6,y7,y8,y9,y10⟩,y11,x⟩ ⟨hg37,hr38⟩;have ky6:List.length y6≤0+14210:=hg37.1;have ky7:List.length y7≤0+14210:=hg37.2.1;have ky8:List.length y8≤0+14210:=hg37.2.2.1;have ky10:List.length y10≤3:=hg37.2.2.2.2;exact Tot.ret ⟨(by first|omega|simp<;>omega),hg37.mono (by omega),hr38.mono (by omega)⟩
 rintro⟨v14,⟨o17,o23,o33,o43,o53⟩,o04,o18⟩ ⟨(kv14:List.length v14≤20),hg39,hr40⟩;have ko17:List.length o17≤0+14320:=hg39.1;have ko23:List.length o23≤0+14320:=hg39.2.1;have ko33:List.length o33≤0+14320:=hg39.2.2.1;have ko53:List.length o53≤3:=hg39.2.2.2.2;refine Tot.grd (by simp<;>omega) ?_;refine Tot.grd (by simp<;>omega) ?_;refine Tot.grd (by simp<;>omega) ?_;refine Tot.grd (by simp<;>omega) ?_;refine Tot.grd (by simp<;>omega) ?_;exact Tot.ret ⟨(by first|omega|simp<;>omega),hr40.mono (by omega)⟩
end
section
open Go Go.AM Go.TM Go.Stow
set_option maxRecDepth 10000
def zRt:fCls ([],0,0,0,[],[],[]):=by
 refine⟨⟨by simp,by simp,by simp,by simp⟩,by simp,⟨by simp,by simp⟩,⟨by simp,by simp⟩,⟨by simp,by simp⟩,by simp,by simp,by simp⟩
def put_len {c:Cls}(h:put c≠[]):(pCls tI abI c).length≤900:=by
 refine Classical.byContradiction fun hn=>h (zFM fun hh=>hn hh.2.1)
def t139 (s:List UInt8):Tot (F139 s) fun y=>y.length≤900:=by
 unfold F139;refine Tot.bind t218 ?_;rintro⟨b,c0,c1,c2,c3,c4,c5,c6⟩ hb;refine Tot.cnd (fun _=>Tot.ret (by simp)) fun h=>?_
 have hp:=hb (by simpa using h);simp only at hp;have hf:=zFa hp;rw[p55 _ (zUr hf) (zXZ hf),zAB];refine Tot.ret ?_;rw[zKV _ hf];exact put_len hp
def t138 {r:List UInt8×Int}{c:Nat}(hr:Rd c r)(hc:c≤700000):Tot (F138 r) fun y=>y.1.2.length≤900∧Rd (c+601) y.2:=by
 obtain⟨o0,o1⟩:=r;unfold F138;refine Tot.bind (zDL (m:=3) hr (by omega) (by simp) (by decide)) ?_;rintro⟨y,y1,y2⟩ ⟨(hy:List.length y≤3),hr1⟩;refine Tot.grd (by simp;omega) (Tot.grd (by simp;omega) (Tot.bind (t217 (by simp) hr1 (by omega)) ?_));rintro⟨y3,y4,y5⟩ ⟨(hy3:List.length y3≤80000),hr2⟩;refine Tot.grd (by simp;omega) (Tot.bind (t139 _) ?_);intro y6 hy6;exact Tot.ret ⟨hy6,hr2.mono (by omega)⟩
def got63 {l:List UInt8}{r:Bool×Cls}(h:F63 l=some r):r=(false,[],0,0,0,[],[],[])∨r.1=true:=by
 unfold F63 at h;cases c1:decide ((900:Int)<(l.length:Int))with
 |true=>rw[c1,zAJ]at h;exact .inl (Option.some.inj h).symm
 | false=>
   rw[c1,zAI]at h;cases c2:F142 (l,0,false)with
   |none=>rw[c2]at h;cases h
   | some v=>
     obtain⟨⟨y,y1,y2,y3,y4,y5,x⟩,x1,x2,x3⟩:=v;rw[c2,zAB]at h;cases x3 with
     |true=>exact .inl (Option.some.inj h).symm
     | false=>
       simp only[zAI]at h;cases c3:(!decide (x2=(l.length:Int)))with
       |true=>rw[c3,zAJ]at h;exact .inl (Option.some.inj h).symm
       | false=>
         rw[c3,zAI]at h;cases c4:F55 (y,y1,y2,y3,y4,y5,x)with
         |none=>rw[c4]at h;cases h
         | some w=>
           rw[c4,zAB]at h;cases c5:(!decide (w=l))with
           |true=>rw[c5,zAJ]at h;exact .inl (Option.some.inj h).symm
           |false=>rw[c5,zAI]at h;right;rw[←Option.some.inj h]
def long63 {l:List UInt8}(h:¬ l.length≤900):F63 l=some (false,[],0,0,0,[],[],[]):=by
 have:(900:Int)<(l.length:Int):=by omega
 simp only[F63,this,zDt,zAJ]
def all63 (l:List UInt8):∃b c,F63 l=some (b,c)∧fCls c∧(b=true→l.length≤900∧gCls l=some (c,[])∧pCls tS abS c=l)∧(∀c',l.length≤900→gCls l=some (c',[])→pCls tS abS c'=l→b=true)∧(b=false→c=([],0,0,0,[],[],[])):=by
 by_cases hl:l.length≤900
 ·obtain⟨b,c,h1,h2,h3⟩:=get63 l hl;have hg:=got63 h1;refine⟨b,c,h1,?_,fun hb=>⟨hl,h2 hb⟩,fun c' _=>h3 c',fun hb=>?_⟩
  ·rcases hg with hg|hg
   ·simp only[zPi]at hg;have:c=([],0,0,0,[],[],[]):=by obtain⟨-,hg⟩:=hg;exact hg▸rfl
    rw[this];exact zRt
   ·exact zOJ _ _ _ (h2 hg).1
  ·rcases hg with hg|hg
   ·have:=congrArg Prod.snd hg;exact this
   ·simp only at hg;rw[hb]at hg;cases hg
 ·exact⟨false,_,long63 hl,zRt,(fun h=>by cases h),fun c' h=>absurd h hl,fun _=>rfl⟩
def t63 (l:List UInt8):Tot (F63 l) fun y=>fCls y.2∧(pCls tS abS y.2).length≤900:=by
 obtain⟨b,c,h1,h2,h3,_,h5⟩:=all63 l;refine⟨_,h1,h2,?_⟩;cases b with
 |true=>obtain⟨k1,-,k3⟩:=h3 rfl;simp only;rw[k3];exact k1
 |false=>rw[h5 rfl];simp[pCls,tS,w1]
def t56 {r:List UInt8×Int}{c:Nat}(hr:Rd c r)(hc:c≤600000):Tot (F56 r) fun y=>(fCls y.1∧(pCls tS abS y.1).length≤900)∧Rd (c+700) y.2:=by
 obtain⟨o0,o1⟩:=r;unfold F56;refine Tot.bind (zDL (m:=1) hr (by omega) (by simp) (by decide)) ?_;rintro⟨y,y1,y2⟩ ⟨(hy:List.length y≤1),hr1⟩;refine Tot.bindE (fun z=>Rd (c+700) z.2.2) ?_ ?_
 ·refine Tot.cnd (fun _=>Tot.bind (t138 hr1 (by omega)) ?_) fun _=>Tot.bind (t140 (by omega) hr1 (by omega)) ?_
  ·rintro⟨⟨y3,y4⟩,y5,y6⟩ ⟨-,hr2⟩;exact Tot.ret (hr2.mono (by omega))
  ·rintro⟨y3,y4,y5⟩ ⟨-,hr2⟩;refine Tot.bind (t139 _) ?_;intro y6 _;exact Tot.ret (hr2.mono (by omega))
 rintro⟨t,⟨a1,a2,a3,a4,a5,a6,a7⟩,b1,b2⟩ hr2;refine Tot.bind (t63 t) ?_;rintro⟨z,z1,z2,z3,z4,z5,z6,z7⟩ hz;exact Tot.ret ⟨hz,hr2⟩
def t54 {s:List UInt8}{r:List UInt8×Int}{c:Nat}(hs:s.length≤1000000)(hr:Rd c r)(hc:c≤600000):Tot (F54 (s,r)) fun y=>y.1.length≤s.length+1∧Rd (c+3) y.2:=by
 obtain⟨o0,o1⟩:=r;have hw:IntKind.wrap .i64 ((s.length:Int)+1)=(s.length:Int)+1:=wrapI (by omega) (by omega);simp only[F54,hw]
 refine Tot.bind (t51 hr (by omega)) ?_;rintro⟨k,y1,y2⟩ ⟨(k0:0≤k),k1,-,hr1⟩;have k1:k<(s.length:Int)+1:=k1 (by omega);refine Tot.bind (t51 hr1 (by omega)) ?_;rintro⟨y3,y4,y5⟩ ⟨-,-,-,hr2⟩;refine Tot.bindE (fun z=>z.1=s∧Rd (c+3) z.2) ?_ ?_
 ·refine Tot.bindE (fun z=>∃b,z=(s,k,y3,b,y4,y5)) ?_ ?_
  ·exact Tot.cnd (fun _=>Tot.ret ⟨_,rfl⟩) fun _=>Tot.ret ⟨_,rfl⟩
  rintro _ ⟨b,rfl⟩;refine Tot.cnd (fun _=>Tot.cnd (fun h=>?_) fun _=>Tot.ret ⟨rfl,hr2.mono (by omega)⟩) fun _=>?_
  ·simp only[zDe]at h;have hw:IntKind.wrap .i64 (k+1)=k+1:=wrapI (by omega) (by omega);simp only[hw]
   refine Tot.grd (by simp;omega) (Tot.grd (by simp;omega) (Tot.bind (t51 hr2 (by omega)) ?_));rintro⟨y6,y7,y8⟩ ⟨-,-,-,hr3⟩;refine Tot.seq (by repeat first|exact Tot.ret trivial|refine Tot.seq ?_ ?_|refine Tot.grd (by first|decide|simp<;>omega) ?_) ?_;refine Tot.grd (u8ok _) ?_;refine Tot.seq (by repeat first|exact Tot.ret trivial|refine Tot.seq ?_ ?_|refine Tot.grd (by first|decide|simp<;>omega) ?_) ?_;refine Tot.grd (by simp;omega) (Tot.grd (by simp;omega) (Tot.ret ⟨?_,hr3⟩));simp only[zLa,zLc,zLn,zLd,zLt];omega
  ·refine Tot.cnd (fun _=>Tot.grd (by simp;omega) (Tot.ret ⟨by simp only[zLd,zLt];omega,hr2.mono (by omega)⟩)) fun _=>Tot.cnd (fun _=>?_) fun _=>Tot.ret ⟨rfl,hr2.mono (by omega)⟩
   refine Tot.bind (t51 hr2 (by omega)) ?_;rintro⟨y6,y7,y8⟩ ⟨-,-,-,hr3⟩;exact Tot.grd (u8ok _) (Tot.grd (by simp;omega) (Tot.ret ⟨by simp only[zLa,zLc,zLn];omega,hr3⟩))
 rintro⟨s1,o1,o2⟩ ⟨hs1,hr3⟩;simp only at hs1;subst hs1;exact Tot.ret ⟨by simp only;omega,hr3⟩
def Ms.at {K:Nat}{l:List Mth}(h:Ms K l){i:Nat}{m:Mth}(e:l[i]? = some m):Mb K m:=h.2 m (zMg e)
def t120 {a b d:Int}{r:List UInt8×Int}{p:List Cst}{l2:List Int}{l3:List (Int×Int×Int)}{ms:List Mth}{c K:Nat}(hr:Rd c r)(hm:Ms K ms)(hK:K≤1000)(hc:c≤500000) :
  Tot (F120 ((a,b,d),r,p,l2,l3,ms)) fun y=>∃r' ms',y=((a,b,d),r',p,l2,l3,ms')∧Rd (c+10) r'∧Ms (K+1) ms':=by
 obtain⟨o0,o1⟩:=r;have hl:=hm.1;unfold F120;refine Tot.bindE (fun z=>∃r',z=((a,b,d),([],0,0,0,[],[],[]),r',p,l2,l3,ms)∧Rd (c+1) r'∧1≤ms.length) ?_ ?_
 ·refine Tot.cnd (fun _=>Tot.ret ⟨_,_,rfl,hr.mono (by omega),hm.mono (by omega)⟩) fun h=>Tot.bind (t51 hr (by omega)) ?_
  simp only[zDn]at h;rintro⟨y,y1,y2⟩ ⟨-,-,-,hr1⟩;exact Tot.cnd (fun _=>Tot.ret ⟨_,_,rfl,hr1.mono (by omega),hm.mono (by omega)⟩) fun _=>Tot.ret ⟨_,rfl,hr1,by omega⟩
 rintro _ ⟨⟨o2,o3⟩,rfl,hr1,h1⟩;refine Tot.bind (t51 hr1 (by omega)) ?_;rintro⟨y,y1,y2⟩ ⟨(k0:0≤y),k1,-,hr2⟩;have k1:y<(ms.length:Int):=k1 (by omega);refine Tot.grd (by simp;omega) (Tot.bind (t51 hr2 (by omega)) ?_);rintro⟨y3,y4,y5⟩ ⟨-,-,-,hr3⟩;obtain⟨m,em⟩:∃m,ms[y.toNat]? = some m:=⟨ms[y.toNat],zGe (by omega)⟩
 have hmb:=hm.at em;have hlt:decide (y.toNat<ms.length)=true:=by simp only[zDe];omega
 obtain⟨m0,m1,m2,m3,m4,m5,m6,m7⟩:=m;obtain⟨g1,g2,g3,g4⟩:=hmb;simp only at g1 g2 g3 g4;have keep:∀{q0 q1 q2 q3 q4:Int},Ms (K+1) (ms.set y.toNat (q0,q1,q2,q3,q4,m5,m6,m7)):=(hm.mono (by omega)).set _ ⟨by simp only;omega,by simp only;omega,by simp only;omega,g4⟩;refine Tot.bindE (fun z=>∃r' ms',z=((a,b,d),([],0,0,0,[],[],[]),r',p,l2,l3,ms')∧Rd (c+10) r'∧Ms (K+1) ms') ?_ ?_
 ·refine Tot.cnd (fun _=>?_) fun _=>Tot.cnd (fun _=>?_) fun _=>Tot.cnd (fun _=>?_) fun _=>Tot.cnd (fun _=>?_) fun _=>Tot.cnd (fun _=>?_) fun _=>Tot.cnd (fun _=>?_) fun _=>?_
  ·refine Tot.at' em (Tot.bind (t54 (s:=m5) (by omega) hr3 (by omega)) ?_);rintro⟨y6,y7,y8⟩ ⟨hy6,hr4⟩;have hy6:y6.length≤m5.length+1:=hy6;exact Tot.at' em (Tot.ret ⟨_,_,rfl,hr4.mono (by omega),(hm.mono (by omega)).set _ ⟨by show y6.length≤K+1;omega,by simp only;omega,by simp only;omega,g4⟩⟩)
  ·refine Tot.bind (zWF (m:=1000) hr3 (by omega) (by simp) (by decide)) ?_;rintro⟨y6,y7,y8⟩ ⟨-,-,hr4⟩;exact Tot.at' em (Tot.ret ⟨_,_,rfl,hr4.mono (by omega),keep⟩)
  ·refine Tot.bind (zWF (m:=1000) hr3 (by omega) (by simp) (by decide)) ?_;rintro⟨y6,y7,y8⟩ ⟨-,-,hr4⟩;exact Tot.at' em (Tot.ret ⟨_,_,rfl,hr4.mono (by omega),keep⟩)
  ·have gl:(decide (List.length m7+1≤9223372036854775807)&&decide ((List.length m7+1)*56≤140737488355328))=true:=by simp;omega
   obtain⟨⟨y6,y7,y8⟩,c1,-,-,-,hr4⟩:=t51 (n:=8) hr3 (by omega);obtain⟨⟨y9,y10,y11⟩,c2,-,-,-,hr5⟩:=t51 (n:=5) hr4 (by omega);obtain⟨⟨y12,y13,y14⟩,c3,-,-,-,hr6⟩:=t51 (n:=3) hr5 (by omega);simp only at c2 c3;simp only[zCi em,c1,c2,c3,zAB,eq_self,zDt,zAt,Bool.true_and,beq_self_eq_true,hlt,zAD,zAS,gl]
   refine Tot.ret ⟨_,_,rfl,hr6.mono (by omega),(hm.mono (by omega)).set _ ⟨by simp only;omega,by simp only;omega,by simp only[zLa,zLc,zLn];omega,fun f hf=>?_⟩⟩;simp only[List.mem_append,List.mem_singleton]at hf;rcases hf with hf|rfl
   ·exact g4 f hf
   ·exact⟨by simp,by simp⟩
  ·have gl:(decide (List.length m6+1≤9223372036854775807)&&decide ((List.length m6+1)*32≤140737488355328))=true:=by simp;omega
   obtain⟨⟨y6,y7,y8⟩,c1,-,-,-,hr4⟩:=t51 (n:=4) hr3 (by omega);obtain⟨⟨y9,y10,y11⟩,c2,-,-,-,hr5⟩:=t51 (n:=6) hr4 (by omega);obtain⟨⟨y12,y13,y14⟩,c3,-,-,-,hr6⟩:=t51 (n:=6) hr5 (by omega);obtain⟨⟨y15,y16,y17⟩,c4,-,-,-,hr7⟩:=t51 (n:=3) hr6 (by omega);simp only at c2 c3 c4;simp only[zCi em,c1,c2,c3,c4,zAB,eq_self,zDt,zAt,Bool.true_and,beq_self_eq_true,hlt,zAD,zAS,gl]
   exact Tot.ret ⟨_,_,rfl,hr7.mono (by omega),(hm.mono (by omega)).set _ ⟨by simp only;omega,by simp only[zLa,zLc,zLn];omega,by simp only;omega,g4⟩⟩
  ·refine Tot.bind (t51 hr3 (by omega)) ?_;rintro⟨y6,y7,y8⟩ ⟨-,-,-,hr4⟩;exact Tot.at' em (Tot.ret ⟨_,_,rfl,hr4.mono (by omega),keep⟩)
  ·refine Tot.bind (t51 hr3 (by omega)) ?_;rintro⟨y6,y7,y8⟩ ⟨-,-,-,hr4⟩;exact Tot.at' em (Tot.ret ⟨_,_,rfl,hr4.mono (by omega),keep⟩)
 rintro _ ⟨⟨r1,r2⟩,ms',rfl,hr4,hm'⟩;exact Tot.ret ⟨_,_,rfl,hr4,hm'⟩
def Bt (K:Nat)(c:Cls):Prop:=(c.1.length≤60∧∀x∈c.1,x.2.1.length≤255)∧c.2.2.2.2.1.length≤100∧c.2.2.2.2.2.1.length≤100∧Ms K c.2.2.2.2.2.2
def Bt.cls {K:Nat}{c:Cls}(h:Bt K c)(hK:K≤1000000):bCls c:=by
 obtain⟨⟨h1,h2⟩,h3,h4,h5,h6⟩:=h;refine⟨⟨by omega,fun x hx=>?_⟩,by omega,by omega,by omega,fun m hm=>?_⟩
 ·have:=h2 x hx;unfold bCst;omega
 ·obtain⟨k1,k2,k3,k4⟩:=h6 m hm;refine⟨by omega,by omega,by omega,fun f hf=>?_⟩;have:=k4 f hf;exact⟨by unfold zHe;omega,by unfold zHe;omega⟩
def fit_ms {l:List Mth}(h:∀ x∈l,fMth x)(hl:l.length≤6):Ms 200 l:=by
 refine⟨by omega,fun m hm=>?_⟩;obtain⟨_,_,_,_,_,h1,⟨h2,_⟩,h3,h4⟩:=h m hm;refine⟨by omega,by omega,by omega,fun f hf=>?_⟩;obtain⟨_,⟨h5,_⟩,⟨h6,_⟩⟩:=h4 f hf;omega
def zNX {p:List Cst}(h:∀ x∈p,x.2.1.length≤255)(i:Nat){y:Cst}(hy:y.2.1.length≤255):∀x∈p.set i y,x.2.1.length≤255:=by
 intro x hx;rcases List.mem_or_eq_of_mem_set hx with hx|rfl
 ·exact h x hx
 ·exact hy
def t50 {r:List UInt8×Int}{c:Nat}(hr:Rd c r)(hc:c≤400000):Tot (F50 r) fun y=>Bt 210 y.1∧Rd (c+800) y.2:=by
 obtain⟨o0,o1⟩:=r;simp only[F50,zCg,eq_self,zDt,zAD,zAS]
 refine Tot.bind (t56 hr (by omega)) ?_;rintro⟨⟨y,y1,y2,y3,y4,y5,x⟩,x1,x2⟩ ⟨⟨⟨⟨f1,f2,f3,f4⟩,h1,_,_,_,_,_,h7⟩,-⟩,hr1⟩;simp only at f1 f2 f3 f4 h1 h7 hr1;have hms:=fit_ms h7 f4;have htx:∀x∈y,x.2.1.length≤255:=fun x hx=>(h1 x hx).2.1
 refine Tot.cnd (fun _=>Tot.ret ⟨⟨⟨f1,htx⟩,by simp only;omega,by simp only;omega,hms.mono (by omega)⟩,hr1.mono (by omega)⟩) fun h=>?_
 simp only[zDn]at h;refine Tot.bind (t51 hr1 (by omega)) ?_;rintro⟨k,y7,y8⟩ ⟨(k0:0≤k),(k1:(1:Int)≤(y.length:Int)→k<(y.length:Int)),-,hr2⟩;have k1:k<(y.length:Int):=k1 (by omega);refine Tot.bind (t51 hr2 (by omega)) ?_;rintro⟨y9,y10,y11⟩ ⟨-,-,-,hr3⟩;obtain⟨e,ee⟩:∃e,y[k.toNat]? = some e:=⟨y[k.toNat],zGe (by omega)⟩
 have het:=htx e (zMg ee);have gk:(decide ((0:Int)≤k)&&decide (k<(y.length:Int)))=true:=by simp;omega
 refine Tot.bindE (fun z=>∃c' r',z=(([],0,0,0,[],[],[]),c',r')∧Bt 205 c'∧Rd (c+780) r') ?_ ?_
 ·refine Tot.cnd (fun _=>?_) fun _=>Tot.cnd (fun _=>?_) fun _=>Tot.cnd (fun _=>?_) fun _=>Tot.cnd (fun _=>?_) fun _=>Tot.cnd (fun _=>?_) fun _=>Tot.cnd (fun _=>?_) fun _=>Tot.cnd (fun _=>?_) fun _=>Tot.cnd (fun _=>?_) fun _=>?_
  ·refine Tot.bind (t105 hr3 (by omega) (by simp)) ?_;rintro⟨y12,y13,y14⟩ ⟨-,hr4⟩;exact Tot.grd gk (Tot.at' ee (Tot.ret ⟨_,_,rfl,⟨⟨by simp only[List.length_set];omega,zNX htx _ het⟩,by simp only;omega,by simp only;omega,hms.mono (by omega)⟩,hr4.mono (by omega)⟩))
  ·refine Tot.bind (t51 hr3 (by omega)) ?_;rintro⟨y12,y13,y14⟩ ⟨-,-,-,hr4⟩;exact Tot.grd gk (Tot.at' ee (Tot.ret ⟨_,_,rfl,⟨⟨by simp only[List.length_set];omega,zNX htx _ het⟩,by simp only;omega,by simp only;omega,hms.mono (by omega)⟩,hr4.mono (by omega)⟩))
  ·refine Tot.bind (zDL (m:=10) hr3 (by omega) (by simp) (by decide)) ?_;rintro⟨y12,y13,y14⟩ ⟨(hy:List.length y12≤10),hr4⟩;exact Tot.grd gk (Tot.at' ee (Tot.ret ⟨_,_,rfl,⟨⟨by simp only[List.length_set];omega,zNX htx _ (by simp only;omega)⟩,by simp only;omega,by simp only;omega,hms.mono (by omega)⟩,hr4.mono (by omega)⟩))
  ·refine Tot.bind (t51 hr3 (by omega)) ?_;rintro⟨y12,y13,y14⟩ ⟨-,-,-,hr4⟩;exact Tot.ret ⟨_,_,rfl,⟨⟨f1,htx⟩,by simp only;omega,by simp only;omega,hms.mono (by omega)⟩,hr4.mono (by omega)⟩
  ·refine Tot.bind (t105 hr3 (by omega) (by simp)) ?_;rintro⟨y12,y13,y14⟩ ⟨-,hr4⟩;exact Tot.ret ⟨_,_,rfl,⟨⟨f1,htx⟩,by simp only;omega,by simp only;omega,hms.mono (by omega)⟩,hr4.mono (by omega)⟩
  ·refine Tot.bind (t105 hr3 (by omega) (by simp)) ?_;rintro⟨y12,y13,y14⟩ ⟨-,hr4⟩;exact Tot.grd (by simp;omega) (Tot.ret ⟨_,_,rfl,⟨⟨f1,htx⟩,by simp only[zLa,zLc,zLn];omega,by simp only;omega,hms.mono (by omega)⟩,hr4.mono (by omega)⟩)
  ·refine Tot.bind (t51 hr3 (by omega)) ?_;rintro⟨y12,y13,y14⟩ ⟨-,-,-,hr4⟩;refine Tot.bind (t105 hr4 (by omega) (by simp)) ?_;rintro⟨y15,y16,y17⟩ ⟨-,hr5⟩;refine Tot.bind (t105 hr5 (by omega) (by simp)) ?_;rintro⟨y18,y19,y20⟩ ⟨-,hr6⟩;exact Tot.grd (by simp;omega) (Tot.ret ⟨_,_,rfl,⟨⟨f1,htx⟩,by simp only;omega,by simp only[zLa,zLc,zLn];omega,hms.mono (by omega)⟩,hr6.mono (by omega)⟩)
  ·refine Tot.bind (t51 hr3 (by omega)) ?_;rintro⟨y12,y13,y14⟩ ⟨-,-,-,hr4⟩;refine Tot.bind (t51 hr4 (by omega)) ?_;rintro⟨y15,y16,y17⟩ ⟨-,-,-,hr5⟩;refine Tot.bind (zDL (m:=10) hr5 (by omega) (by simp) (by decide)) ?_;rintro⟨y18,y19,y20⟩ ⟨(hy:List.length y18≤10),hr6⟩;refine Tot.bind (t51 hr6 (by omega)) ?_;rintro⟨y21,y22,y23⟩ ⟨-,-,-,hr7⟩;refine Tot.bind (t51 hr7 (by omega)) ?_;rintro⟨y24,y25,y26⟩ ⟨-,-,-,hr8⟩;exact Tot.grd (by simp;omega) (Tot.ret ⟨_,_,rfl,⟨⟨f1,htx⟩,by simp only;omega,by simp only;omega,(hms.app ⟨by simp only;omega,by simp,by simp,by simp⟩).mono (by omega)⟩,hr8.mono (by omega)⟩)
  ·exact Tot.ret ⟨_,_,rfl,⟨⟨f1,htx⟩,by simp only;omega,by simp only;omega,hms.mono (by omega)⟩,hr3.mono (by omega)⟩
 rintro _ ⟨⟨a1,a2,a3,a4,a5,a6,a7⟩,⟨b1,b2⟩,rfl,⟨⟨g1,g2⟩,g3,g4,g5⟩,hr4⟩;refine Tot.bind (t120 hr4 g5 (by omega) (by omega)) ?_;rintro _ ⟨⟨r1,r2⟩,ms',rfl,hr5,hm'⟩;exact Tot.ret ⟨⟨⟨g1,g2⟩,g3,g4,hm'.mono (by omega)⟩,hr5.mono (by omega)⟩
def good_ops (s:List UInt8):∀x∈(opsV s).1,zEQ x:=by
 unfold opsV;cases ho:opsN s.length 0 s with
 |none=>simp
 | some l=>
   cases l with
   |nil=>simp
   |cons x l=>exact(zJw _ _ _ _ ho).1
def zTh:zEQ (0,0,0):=by
 refine⟨?_,?_,?_,?_,?_⟩<;>simp[argN]
def t192 (m:Mth)(h:m.2.2.2.2.2.1.length≤1048576):Tot (F192 m) fun _=>True:=by
 obtain⟨m0,m1,m2,m3,m4,m5,m6,m7⟩:=m;unfold F192;refine Tot.bind (P:=fun y=>y=opsV m5) ⟨_,q193 m5 h,rfl⟩ ?_;rintro _ rfl;have hl:=zEu m5;generalize opsV m5=v at hl;obtain⟨l,b⟩:=v;simp only at hl h;refine Tot.bindE (fun _=>True) (Tot.loop (fun z=>∃i:Int,z=(l,i)∧0≤i∧i≤(l.length:Int)) (fun z=>l.length-z.2.toNat) ?_ ⟨0,rfl,by simp,by simp⟩) fun _ _=>Tot.ret trivial
 rintro _ ⟨i,rfl,i0,i1⟩;refine Tot.cnd (fun h=>?_) fun _=>Tot.ret trivial
 simp only[zDe]at h;obtain⟨x,ex⟩:∃x,l[i.toNat]? = some x:=⟨l[i.toNat],zGe (by omega)⟩
 have hw:IntKind.wrap .i64 (i+1)=i+1:=wrapI (by omega) (by omega);refine Tot.grd (by simp;omega) (Tot.at' ex (Tot.bind (P:=fun _=>True) ⟨_,q107 _ _ _,trivial⟩ fun y2 _=>Tot.cnd (fun _=>Tot.ret trivial) fun _=>?_));simp only[hw]
 exact Tot.ret ⟨⟨_,rfl,by omega,by omega⟩,by show l.length-(i+1).toNat<l.length-i.toNat;omega⟩
def t102 {r:List UInt8×Int}{c:Nat}(hr:Rd c r)(hc:c≤400000):Tot (F102 r) fun y=>Bt 400 y.1∧Rd (c+800) y.2:=by
 obtain⟨o0,o1⟩:=r;unfold F102;refine Tot.bind (t56 hr (by omega)) ?_;rintro⟨⟨c0,c1,c2,c3,c4,c5,ms⟩,x1,x2⟩ ⟨⟨⟨⟨k1,k2,k3,k4⟩,f1,-,-,-,-,-,f7⟩,-⟩,hr1⟩;simp only at k1 k2 k3 k4 f1 f7 hr1;have hm0:Ms 400 ms:=(fit_ms f7 k4).mono (by omega)
 refine Tot.bindE (fun z=>∃ms' r',z=(([],0,0,0,[],[],[]),(c0,c1,c2,c3,c4,c5,ms'),r')∧Ms 400 ms'∧ms'.length≤6∧Rd (c+800) r')
  (Tot.loop (fun z=>∃(i:Int) (ms':List Mth) (r':List UInt8×Int),z=(i,([],0,0,0,[],[],[]),(c0,c1,c2,c3,c4,c5,ms'),r')∧0≤i∧i≤(ms'.length:Int)∧ms'.length≤6∧Ms 400 ms'∧(∀(j:Nat) (m:Mth),i.toNat≤j→ms'[j]? = some m→m.2.2.2.2.2.1.length≤120)∧Rd (c+700+2*i.toNat) r')
   (fun z=>z.2.2.1.2.2.2.2.2.2.length-z.1.toNat) ?_ ⟨0,ms,(x1,x2),rfl,by simp,by simp,k4,hm0,fun j m _ e=>(f7 m (zMg e)).2.2.2.2.2.1,hr1.mono (by omega)⟩) ?_
 ·rintro _ ⟨i,ms',⟨r0,r1⟩,rfl,i0,i1,i2,hm,hcode,hr'⟩;refine Tot.cnd (fun h=>?_) fun _=>Tot.ret ⟨_,_,rfl,hm,i2,hr'.mono (by omega)⟩
  simp only[zDe]at h;obtain⟨m,em⟩:∃m,ms'[i.toNat]? = some m:=⟨ms'[i.toNat],zGe (by omega)⟩
  have hmb:=hm.2 m (zMg em);have hmc:=hcode i.toNat m (zLr _) em;have hw:IntKind.wrap .i64 (i+1)=i+1:=wrapI (by omega) (by omega);have gg:(decide (i.toNat=i.toNat)&&decide (i.toNat<ms'.length))=true:=by simp;omega
  have g0:decide (i.toNat<ms'.length)=true:=by simp;omega
  obtain⟨m0,m1,m2,m3,m4,m5,m6,m7⟩:=m;simp only at hmc;refine Tot.bindE (fun z=>∃(ms2:List Mth) (r2:List UInt8×Int),z=(i,([],0,0,0,[],[],[]),(c0,c1,c2,c3,c4,c5,ms2),r2)∧ms2.length=ms'.length∧Ms 400 ms2∧(∀(j:Nat) (m:Mth),i.toNat+1≤j→ms2[j]? = some m→m.2.2.2.2.2.1.length≤120)∧Rd (c+700+2*i.toNat+2) r2) ?_ ?_
  ·refine Tot.grd (by simp;omega) (Tot.at' em ?_)
   iterate 11 refine Tot.grd gg ?_
   refine Tot.bindE (fun z=>∃(b:Bool) (r2:List UInt8×Int),z=(i,b,([],0,0,0,[],[],[]),(c0,c1,c2,c3,c4,c5),(m0,m1,m2,m3,m4,m5),(ms',i.toNat,m0,m1,m2,m3,m4,m5),m6,m7,r2)∧Rd (c+700+2*i.toNat+1) r2) ?_ ?_
   ·refine Tot.cnd (fun _=>Tot.cnd (fun _=>?_) fun _=>Tot.grd gg (Tot.grd gg (Tot.ret ⟨_,_,rfl,hr'.mono (by omega)⟩))) fun _=>Tot.grd gg (Tot.grd gg (Tot.ret ⟨_,_,rfl,hr'.mono (by omega)⟩))
    refine Tot.bind (t51 hr' (by omega)) ?_;rintro⟨y6,y7,y8⟩ ⟨-,-,-,hr2⟩;refine Tot.cnd (fun _=>Tot.bind (t192 (m0,m1,m2,m3,m4,m5,m6,m7) (by simp only;omega)) fun y9 _=>Tot.grd gg (Tot.grd gg (Tot.ret ⟨_,_,rfl,hr2⟩))) fun _=>Tot.grd gg (Tot.grd gg (Tot.ret ⟨_,_,rfl,hr2⟩))
   rintro _ ⟨b,⟨r2,r3⟩,rfl,hr2⟩;refine Tot.cnd (fun _=>?_) fun _=>?_
   ·refine Tot.bind (P:=fun y=>y=opsV m5) ⟨_,q193 m5 (by omega),rfl⟩ ?_;rintro _ rfl;have hl:=zEu m5;have hgo:=good_ops m5;generalize opsV m5=v at hl hgo;obtain⟨l,ok⟩:=v;simp only at hl hgo;refine Tot.bind (t51 hr2 (by omega)) ?_;rintro⟨k,y9,y10⟩ ⟨(q0:0≤k),q1,q2,hr3⟩
    have qk:k≤(l.length:Int):=by
     by_cases hz:1≤(l.length:Int)
     ·have:=q1 hz;simp only at this;omega
     ·have:=q2 (by omega);simp only at this;omega
    have tk:(List.drop 0 (List.take k.toNat l)).length≤400:=by simp only[List.drop_zero,zLt];omega
    have dk:(List.drop k.toNat (List.take (l.length:Int).toNat l)).length≤400:=by simp only[zLd,zLt];omega
    have hgood:∀x∈List.drop 0 (List.take k.toNat l)++[(0,0,0),(0,0,0)]++List.drop k.toNat (List.take (l.length:Int).toNat l),zEQ x:=by
     intro x hx;simp only[List.mem_append,List.mem_cons,List.not_mem_nil,or_false]at hx;rcases hx with(hx|hx|hx)|hx
     ·exact hgo x (List.mem_of_mem_take (List.mem_of_mem_drop hx))
     ·rw[hx];exact zTh
     ·rw[hx];exact zTh
     ·exact hgo x (List.mem_of_mem_take (List.mem_of_mem_drop hx))
    have hlen:(List.drop 0 (List.take k.toNat l)++[(0,0,0),(0,0,0)]++List.drop k.toNat (List.take (l.length:Int).toNat l)).length=l.length+2:=by
     simp only[List.drop_zero,zLa,zLt,zLd,zLc,zLn,zTn];omega
    have hen:=enc_le (List.drop 0 (List.take k.toNat l)++[(0,0,0),(0,0,0)]++List.drop k.toNat (List.take (l.length:Int).toNat l));have q:=q194 _ hgood (by omega);generalize enc (List.drop 0 (List.take k.toNat l)++[(0,0,0),(0,0,0)]++List.drop k.toNat (List.take (l.length:Int).toNat l))=code' at q hen;refine Tot.grd (by simp;omega) (Tot.grd (by simp only[zBa,zDe];omega) (Tot.grd (by simp only[zBa,zDe];omega) (Tot.grd (by simp;omega) (Tot.grd (by simp only[zBa,zDe,zLa,zLc,zLn];omega) (Tot.bind (P:=fun y=>y=code') ⟨_,q,rfl⟩ ?_)))));rintro _ rfl;refine Tot.seq (by repeat first|exact Tot.ret trivial|refine Tot.seq ?_ ?_|refine Tot.grd (by first|decide|simp<;>omega) ?_) ?_
    exact Tot.grd (by simp;omega) (Tot.grd gg (Tot.grd g0 (Tot.grd gg (Tot.grd g0 (Tot.grd gg (Tot.grd g0 (Tot.ret ⟨_,_,rfl,by rw[List.length_set],hm.set _ ⟨by simp only;omega,hmb.2.1,hmb.2.2.1,hmb.2.2.2⟩,fun j m hj e=>by
     rw[List.getElem?_set_ne (by omega)]at e
     exact hcode j m (by omega) e,hr3.mono (by omega)⟩)))))))
   ·exact Tot.grd g0 (Tot.grd gg (Tot.grd g0 (Tot.grd gg (Tot.grd g0 (Tot.ret ⟨_,_,rfl,by rw[List.length_set],hm.set _ hmb,fun j m hj e=>by
     rw[List.getElem?_set_ne (by omega)]at e
     exact hcode j m (by omega) e,hr2.mono (by omega)⟩)))))
  rintro _ ⟨ms2,⟨r2,r3⟩,rfl,e2,hm2,hc2,hr2⟩;simp only[hw]
  exact Tot.ret ⟨⟨_,_,_,rfl,by omega,by omega,by omega,hm2,fun j m hj e=>hc2 j m (by omega) e,hr2.mono (by omega)⟩,by simp only;omega⟩
 rintro _ ⟨ms',⟨r0,r1⟩,rfl,hm,hl,hr'⟩;exact Tot.ret ⟨⟨⟨k1,fun x hx=>(f1 x hx).2.1⟩,by simp only;omega,by simp only;omega,hm⟩,hr'⟩
def t37 (code:List UInt8):Tot (F37 code) fun y=>Bt 400 y:=by
 unfold F37;refine Tot.bind (t49 code) ?_;rintro⟨y,y1⟩ hr;refine Tot.bind (t51 hr (by omega)) ?_;rintro⟨y2,y3,y4⟩ ⟨-,-,-,hr1⟩;refine Tot.cnd (fun _=>?_) fun _=>?_
 ·refine Tot.bind (t50 hr1 (by omega)) ?_;rintro⟨⟨y2,y3,y4,y5,y6,y7,x⟩,x1,x2⟩ ⟨h,-⟩;exact Tot.ret ⟨h.1,h.2.1,h.2.2.1,h.2.2.2.mono (by omega)⟩
 ·refine Tot.bind (t102 hr1 (by omega)) ?_;rintro⟨⟨y2,y3,y4,y5,y6,y7,x⟩,x1,x2⟩ ⟨h,-⟩;exact Tot.ret h
def t64 {a:List Cst}(ha:a.length≤1048576):Tot (F64 (a,a)) fun b=>b=true:=by
 unfold F64;refine Tot.cnd (fun h=>by simp at h) fun _=>?_
 refine Tot.bindE (fun _=>True) (Tot.loop (fun z=>∃i:Int,z=(a,a,i)∧0≤i∧i≤(a.length:Int)) (fun z=>a.length-z.2.2.toNat) ?_ ⟨0,rfl,by simp,by simp⟩) fun _ _=>Tot.ret rfl
 rintro _ ⟨i,rfl,i0,i1⟩;refine Tot.cnd (fun h=>?_) fun _=>Tot.ret trivial
 simp only[zDe]at h;obtain⟨x,ex⟩:∃x,a[i.toNat]? = some x:=⟨a[i.toNat],zGe (by omega)⟩
 have hw:IntKind.wrap .i64 (i+1)=i+1:=wrapI (by omega) (by omega);refine Tot.grd (by simpa using i0) (Tot.at' ex (Tot.grd (by simpa using i0) (Tot.at' ex (Tot.cnd (fun h=>by simp at h) fun _=>?_))));simp only[hw]
 exact Tot.ret ⟨⟨_,rfl,by omega,by omega⟩,by show a.length-(i+1).toNat<a.length-i.toNat;omega⟩
def t42 {a:List Int}(ha:a.length≤1048576):Tot (F42 (a,a)) fun b=>b=true:=by
 unfold F42;refine Tot.cnd (fun h=>by simp at h) fun _=>?_
 refine Tot.bindE (fun _=>True) (Tot.loop (fun z=>∃i:Int,z=(a,a,i)∧0≤i∧i≤(a.length:Int)) (fun z=>a.length-z.2.2.toNat) ?_ ⟨0,rfl,by simp,by simp⟩) fun _ _=>Tot.ret rfl
 rintro _ ⟨i,rfl,i0,i1⟩;refine Tot.cnd (fun h=>?_) fun _=>Tot.ret trivial
 simp only[zDe]at h;obtain⟨x,ex⟩:∃x,a[i.toNat]? = some x:=⟨a[i.toNat],zGe (by omega)⟩
 have hw:IntKind.wrap .i64 (i+1)=i+1:=wrapI (by omega) (by omega);refine Tot.grd (by simpa using i0) (Tot.at' ex (Tot.grd (by simpa using i0) (Tot.at' ex (Tot.cnd (fun h=>by simp at h) fun _=>?_))));simp only[hw]
 exact Tot.ret ⟨⟨_,rfl,by omega,by omega⟩,by show a.length-(i+1).toNat<a.length-i.toNat;omega⟩
def t143 {a:List Knd}(ha:a.length≤1048576):Tot (F143 (a,a)) fun b=>b=true:=by
 unfold F143;refine Tot.cnd (fun h=>by simp at h) fun _=>?_
 refine Tot.bindE (fun _=>True) (Tot.loop (fun z=>∃i:Int,z=(a,a,i)∧0≤i∧i≤(a.length:Int)) (fun z=>a.length-z.2.2.toNat) ?_ ⟨0,rfl,by simp,by simp⟩) fun _ _=>Tot.ret rfl
 rintro _ ⟨i,rfl,i0,i1⟩;refine Tot.cnd (fun h=>?_) fun _=>Tot.ret trivial
 simp only[zDe]at h;obtain⟨x,ex⟩:∃x,a[i.toNat]? = some x:=⟨a[i.toNat],zGe (by omega)⟩
 have hw:IntKind.wrap .i64 (i+1)=i+1:=wrapI (by omega) (by omega);refine Tot.grd (by simpa using i0) (Tot.at' ex (Tot.grd (by simpa using i0) (Tot.at' ex (Tot.cnd (fun h=>by simp at h) fun _=>?_))));simp only[hw]
 exact Tot.ret ⟨⟨_,rfl,by omega,by omega⟩,by show a.length-(i+1).toNat<a.length-i.toNat;omega⟩
def t65 {m:Mth}(hm:bMth m):Tot (F65 (m,m)) fun b=>b=true:=by
 obtain⟨a0,a1,a2,a3,a4,a5,a6,a7⟩:=m;obtain⟨h1,h2,h3,h4⟩:=hm;simp only at h1 h2 h3 h4;unfold F65;refine Tot.bindE (fun z=>z=((a0,a1,a2,a3,a4,a5,a6,a7),a0,a1,a2,a3,a4,a5,a6,a7)) ?_ ?_
 ·exact Tot.cnd (fun h=>by simp at h) fun _=>Tot.cnd (fun h=>by simp at h) fun _=>Tot.cnd (fun h=>by simp at h) fun _=>Tot.cnd (fun h=>by simp at h) fun _=>Tot.cnd (fun h=>by simp at h) fun _=>Tot.cnd (fun h=>by simp at h) fun _=>Tot.cnd (fun h=>by simp at h) fun _=>Tot.cnd (fun h=>by simp at h) fun _=>Tot.ret rfl
 rintro _ rfl;refine Tot.bindE (fun z=>z=((a0,a1,a2,a3,a4,a5,a6,a7),a0,a1,a2,a3,a4,a5,a6,a7)) (Tot.loop (fun z=>∃i:Int,z=(i,(a0,a1,a2,a3,a4,a5,a6,a7),a0,a1,a2,a3,a4,a5,a6,a7)∧0≤i∧i≤(a6.length:Int)) (fun z=>a6.length-z.1.toNat) ?_ ⟨0,rfl,by simp,by simp⟩) ?_
 ·rintro _ ⟨i,rfl,i0,i1⟩;refine Tot.cnd (fun h=>?_) fun _=>Tot.ret rfl
  simp only[zDe]at h;obtain⟨x,ex⟩:∃x,a6[i.toNat]? = some x:=⟨a6[i.toNat],zGe (by omega)⟩
  have hw:IntKind.wrap .i64 (i+1)=i+1:=wrapI (by omega) (by omega);refine Tot.grd (by simpa using i0) (Tot.at' ex (Tot.grd (by simpa using i0) (Tot.at' ex (Tot.cnd (fun h=>by simp at h) fun _=>?_))));simp only[hw]
  exact Tot.ret ⟨⟨_,rfl,by omega,by omega⟩,by show a6.length-(i+1).toNat<a6.length-i.toNat;omega⟩
 rintro _ rfl;refine Tot.bindE (fun _=>True) (Tot.loop (fun z=>∃i:Int,z=(i,(a0,a1,a2,a3,a4,a5,a6,a7),a0,a1,a2,a3,a4,a5,a6,a7)∧0≤i∧i≤(a7.length:Int)) (fun z=>a7.length-z.1.toNat) ?_ ⟨0,rfl,by simp,by simp⟩) fun _ _=>Tot.ret rfl
 rintro _ ⟨i,rfl,i0,i1⟩;refine Tot.cnd (fun h=>?_) fun _=>Tot.ret trivial
 simp only[zDe]at h;obtain⟨x,ex⟩:∃x,a7[i.toNat]? = some x:=⟨a7[i.toNat],zGe (by omega)⟩
 have hx:=h4 x (zMg ex);have hw:IntKind.wrap .i64 (i+1)=i+1:=wrapI (by omega) (by omega);refine Tot.bindE (fun z=>z=(i,(a0,a1,a2,a3,a4,a5,a6,a7),a0,a1,a2,a3,a4,a5,a6,a7)) ?_ ?_
 ·refine Tot.grd (by simpa using i0) (Tot.at' ex (Tot.grd (by simpa using i0) (Tot.at' ex (Tot.cnd (fun h=>by simp at h) fun _=>?_))));refine Tot.grd (by simpa using i0) (Tot.at' ex (Tot.grd (by simpa using i0) (Tot.at' ex (Tot.bind (t143 hx.1) ?_))));rintro _ rfl;refine Tot.cnd (fun h=>by simp at h) fun _=>?_
  refine Tot.grd (by simpa using i0) (Tot.at' ex (Tot.grd (by simpa using i0) (Tot.at' ex (Tot.bind (t143 hx.2) ?_))));rintro _ rfl;exact Tot.cnd (fun h=>by simp at h) fun _=>Tot.ret rfl
 rintro _ rfl;simp only[hw]
 exact Tot.ret ⟨⟨_,rfl,by omega,by omega⟩,by show a7.length-(i+1).toNat<a7.length-i.toNat;omega⟩
def t19 {c:Cls}(hc:bCls c):Tot (F19 (c,c)) fun b=>b=true:=by
 obtain⟨a0,a1,a2,a3,a4,a5,a6⟩:=c;obtain⟨⟨h1,_⟩,h2,h3,h4,h5⟩:=hc;simp only at h1 h2 h3 h4 h5;unfold F19;refine Tot.bindE (fun z=>z=((a0,a1,a2,a3,a4,a5,a6),a0,a1,a2,a3,a4,a5,a6)) ?_ ?_
 ·refine Tot.bind (t64 h1) ?_;rintro _ rfl;refine Tot.cnd (fun h=>by simp at h) fun _=>Tot.cnd (fun h=>by simp at h) fun _=>Tot.cnd (fun h=>by simp at h) fun _=>Tot.cnd (fun h=>by simp at h) fun _=>Tot.bind (t42 h2) ?_
  rintro _ rfl;exact Tot.cnd (fun h=>by simp at h) fun _=>Tot.cnd (fun h=>by simp at h) fun _=>Tot.cnd (fun h=>by simp at h) fun _=>Tot.ret rfl
 rintro _ rfl;refine Tot.bindE (fun z=>z=((a0,a1,a2,a3,a4,a5,a6),a0,a1,a2,a3,a4,a5,a6)) (Tot.loop (fun z=>∃i:Int,z=(i,(a0,a1,a2,a3,a4,a5,a6),a0,a1,a2,a3,a4,a5,a6)∧0≤i∧i≤(a5.length:Int)) (fun z=>a5.length-z.1.toNat) ?_ ⟨0,rfl,by simp,by simp⟩) ?_
 ·rintro _ ⟨i,rfl,i0,i1⟩;refine Tot.cnd (fun h=>?_) fun _=>Tot.ret rfl
  simp only[zDe]at h;obtain⟨x,ex⟩:∃x,a5[i.toNat]? = some x:=⟨a5[i.toNat],zGe (by omega)⟩
  have hw:IntKind.wrap .i64 (i+1)=i+1:=wrapI (by omega) (by omega);refine Tot.grd (by simpa using i0) (Tot.at' ex (Tot.grd (by simpa using i0) (Tot.at' ex (Tot.cnd (fun h=>by simp at h) fun _=>?_))));simp only[hw]
  exact Tot.ret ⟨⟨_,rfl,by omega,by omega⟩,by show a5.length-(i+1).toNat<a5.length-i.toNat;omega⟩
 rintro _ rfl;refine Tot.bindE (fun _=>True) (Tot.loop (fun z=>∃i:Int,z=(i,(a0,a1,a2,a3,a4,a5,a6),a0,a1,a2,a3,a4,a5,a6)∧0≤i∧i≤(a6.length:Int)) (fun z=>a6.length-z.1.toNat) ?_ ⟨0,rfl,by simp,by simp⟩) fun _ _=>Tot.ret rfl
 rintro _ ⟨i,rfl,i0,i1⟩;refine Tot.cnd (fun h=>?_) fun _=>Tot.ret trivial
 simp only[zDe]at h;obtain⟨x,ex⟩:∃x,a6[i.toNat]? = some x:=⟨a6[i.toNat],zGe (by omega)⟩
 have hx:=h5 x (zMg ex);have hw:IntKind.wrap .i64 (i+1)=i+1:=wrapI (by omega) (by omega);refine Tot.grd (by simpa using i0) (Tot.at' ex (Tot.grd (by simpa using i0) (Tot.at' ex (Tot.bind (t65 (m:=x) hx) ?_))));rintro _ rfl;refine Tot.cnd (fun h=>by simp at h) fun _=>?_
 simp only[hw]
 exact Tot.ret ⟨⟨_,rfl,by omega,by omega⟩,by show a6.length-(i+1).toNat<a6.length-i.toNat;omega⟩
def tidG_law {c:Cls}(hput:put c≠[])(h0:chkV c=0):∀m∈c.2.2.2.2.2.2,zGk (opsV (tidG m).2.2.2.2.2.1).1∧(tidG m).2.2.2.2.2.1.length≤m.2.2.2.2.2.1.length∧m.2.2.2.2.2.1.length≤120:=by
 obtain⟨hf,h900,hgot⟩:=zTR hput;have g5:=(zIx h0).2.2.2.2;have habs:=zUI hgot;intro m hm;have hm1:=hf.2.2.2.2.2.2.2 m hm;have h120:=hm1.2.2.2.2.2.1;by_cases hh:has m.1 8
 ·rw[zIn hh,(habs m hm ((zKc hm1.1).2 hh)).2.2.1];exact⟨trivial,zLr _,by simp⟩
 ·rw[zGw hh];obtain⟨_,a1,_,_,_,a2,_,_⟩:=zNS (g5 m hm hh) (by omega);exact⟨a2,a1,h120⟩
def true10 (code:List UInt8):F10 code=some true:=by
 have hgo:Tot (F10 code) fun b=>b=true:=by
  unfold F10;refine Tot.cnd (fun _=>Tot.ret rfl) fun _=>Tot.bind (t37 code) ?_
  intro c hb;have hc:=hb.cls (by omega);have c29:=chk29 c hc;have e38:=q38 c hc;have e39:=q39 c hc;by_cases hv:put c≠[]∧chkV c=0
  ·rw[if_pos hv]at e38 e39;rw[if_neg hv.1,hv.2]at c29;obtain⟨x1,x2,x3⟩:=tidC_ok hv.1 hv.2;have hlaw:=tidG_law hv.1 hv.2;have hxb:=zUr (zFa x1);have hxf:=zFa x1;have x29:=chk29 _ hxb;rw[if_neg x1,x2]at x29;have x38:=q38 _ hxb;rw[if_pos ⟨x1,x2⟩,x3]at x38;have h19:=t19 hxb;rw[zJI]at e38 e39 hxb hxf x29 x38 h19;obtain⟨c0,c1,c2,c3,c4,c5,ms⟩:=c;simp only at hlaw;have h7:∀m∈ms.map tidG,fMth m:=hxf.2.2.2.2.2.2.2;have hlen:(ms.map tidG).length≤6:=hxf.1.2.2.2;have hlen2:(ms.map tidG).length=ms.length:=List.length_map _;have hget:∀i:Nat,(ms.map tidG)[i]? = (ms[i]?).map tidG:=fun i=>List.getElem?_map
   generalize ms.map tidG=ns at *;refine Tot.bind (P:=fun y=>y=(c0,c1,c2,c3,c4,c5,ns)) ⟨_,e38,rfl⟩ ?_;rintro _ rfl;refine Tot.bindE (fun z=>z=(false,(c0,c1,c2,c3,c4,c5,ms),c0,c1,c2,c3,c4,c5,ns)) ?_ ?_
   ·refine Tot.bind (P:=fun y=>y=(c0,c1,c2,c3,c4,c5,ns)) ⟨_,e39,rfl⟩ ?_;rintro _ rfl;refine Tot.seq (by repeat first|exact Tot.ret trivial|refine Tot.seq ?_ ?_|refine Tot.grd (by first|decide|simp<;>omega) ?_) ?_;refine Tot.bind h19 ?_;rintro _ rfl;refine Tot.cnd (fun h=>by simp at h) fun _=>?_
    refine Tot.bind (P:=fun y=>y=0) ⟨_,c29,rfl⟩ ?_;rintro _ rfl;exact Tot.ret rfl
   rintro _ rfl;refine Tot.cnd (fun h=>by simp at h) fun _=>?_
   refine Tot.bindE (fun z=>z=(c0,c1,c2,c3,c4,c5,ns)) (Tot.loop (fun z=>∃i:Int,z=(i,(c0,c1,c2,c3,c4,c5,ms),c0,c1,c2,c3,c4,c5,ns)∧0≤i∧i≤(ns.length:Int)) (fun z=>ns.length-z.1.toNat) ?_ ⟨0,rfl,by simp,by simp⟩) ?_
   ·rintro _ ⟨i,rfl,i0,i1⟩;refine Tot.cnd (fun h=>?_) fun _=>Tot.ret rfl
    simp only[zDe]at h;have hi:i.toNat<ns.length:=by omega
    have hi2:i.toNat<ms.length:=by omega
    obtain⟨y,ey⟩:∃y,ms[i.toNat]? = some y:=⟨ms[i.toNat],zGe hi2⟩
    have ex:ns[i.toNat]? = some (tidG y):=by rw[hget,ey];rfl
    have hx:=h7 _ (zMg ex);obtain⟨l1,l2,l3⟩:=hlaw _ (zMg ey);have hnm:=(zSc y).2.1;have hw:IntKind.wrap .i64 (i+1)=i+1:=wrapI (by omega) (by omega);generalize tidG y=x at ex hx l1 l2 hnm;refine Tot.bindE (fun z=>z=(i,(c0,c1,c2,c3,c4,c5,ms),c0,c1,c2,c3,c4,c5,ns)) ?_ ?_
    ·refine Tot.grd (by simpa using i0) (Tot.at' ex (Tot.bind (P:=fun v=>v=opsV x.2.2.2.2.2.1) ⟨_,q31 _ hx.2.2.2.2.2.1,rfl⟩ ?_));rintro _ rfl;have hl:=zEu x.2.2.2.2.2.1;have h120:=hx.2.2.2.2.2.1;generalize opsV x.2.2.2.2.2.1=v at l1 hl;obtain⟨l,ok⟩:=v;simp only at l1 hl;refine Tot.bindE (fun z=>z=(i,(c0,c1,c2,c3,c4,c5,ms),c0,c1,c2,c3,c4,c5,ns)) (Tot.loop (fun z=>∃k:Int,z=(i,l,k,(c0,c1,c2,c3,c4,c5,ms),c0,c1,c2,c3,c4,c5,ns)∧0≤k∧k≤(l.length:Int)) (fun z=>l.length-z.2.2.1.toNat) ?_ ⟨0,rfl,by simp,by simp⟩) ?_
     ·rintro _ ⟨k,rfl,k0,k1⟩;have hwk:IntKind.wrap .i64 (k+1)=k+1:=wrapI (by omega) (by omega);simp only[hwk]
      refine Tot.cnd (fun h=>?_) fun _=>Tot.ret rfl
      simp only[zDe]at h;have hk:k.toNat<l.length:=by omega
      have ez:l[k.toNat]? = some l[k.toNat]:=zGe hk;have hno:=zGk.at l1 k.toNat (by omega);refine Tot.grd (by simp;omega) (Tot.at' ez (Tot.cnd (fun h=>?_) fun _=>?_))
      ·simp only[zDe]at h;exact absurd h hno
      ·exact Tot.ret ⟨⟨_,rfl,by omega,by omega⟩,by show l.length-(k+1).toNat<l.length-k.toNat;omega⟩
     rintro _ rfl;refine Tot.grd (by simpa using i0) (Tot.at' ex (Tot.grd (by simpa using i0) (Tot.at' ey (Tot.cnd (fun h=>?_) fun _=>?_))))
     ·simp only[zDe]at h;omega
     refine Tot.grd (by simpa using i0) (Tot.at' ex (Tot.grd (by simpa using i0) (Tot.at' ey (Tot.cnd (fun h=>?_) fun _=>Tot.ret rfl))));simp[hnm]at h
    rintro _ rfl;simp only[hw]
    exact Tot.ret ⟨⟨_,rfl,by omega,by omega⟩,by show ns.length-(i+1).toNat<ns.length-i.toNat;omega⟩
   rintro _ rfl;refine Tot.bind (P:=fun y=>y=0) ⟨_,x29,rfl⟩ ?_;rintro _ rfl;refine Tot.cnd (fun _=>?_) fun h=>by simp at h
   refine Tot.bind (P:=fun y=>y=(c0,c1,c2,c3,c4,c5,ns)) ⟨_,x38,rfl⟩ ?_;rintro _ rfl;refine Tot.seq (by repeat first|exact Tot.ret trivial|refine Tot.seq ?_ ?_|refine Tot.grd (by first|decide|simp<;>omega) ?_) ?_;refine Tot.bind h19 ?_;rintro _ rfl;exact Tot.ret rfl
  ·rw[if_neg hv]at e38 e39
   have hv':∃v,F29 c=some v∧v≠0:=by
    refine⟨_,c29,?_⟩;by_cases hp:put c=[]
    ·rw[if_pos hp];decide
    ·rw[if_neg hp];exact fun h=>hv ⟨hp,h⟩
   obtain⟨v,c29,hv0⟩:=hv';have h19:=t19 (zUr zRt);obtain⟨c0,c1,c2,c3,c4,c5,ms⟩:=c;refine Tot.bind (P:=fun y=>y=([],0,0,0,[],[],[])) ⟨_,e38,rfl⟩ ?_;rintro _ rfl;refine Tot.bindE (fun z=>z=(true,(c0,c1,c2,c3,c4,c5,ms),[],0,0,0,[],[],[])) ?_ ?_
   ·refine Tot.bind (P:=fun y=>y=([],0,0,0,[],[],[])) ⟨_,e39,rfl⟩ ?_;rintro _ rfl;refine Tot.seq (by repeat first|exact Tot.ret trivial|refine Tot.seq ?_ ?_|refine Tot.grd (by first|decide|simp<;>omega) ?_) ?_;refine Tot.bind h19 ?_;rintro _ rfl;refine Tot.cnd (fun h=>by simp at h) fun _=>?_
    refine Tot.bind (P:=fun y=>y=v) ⟨_,c29,rfl⟩ ?_;rintro _ rfl;rw[decide_eq_false hv0];exact Tot.ret rfl
   rintro _ rfl;refine Tot.cnd (fun _=>?_) fun h=>by simp at h
   refine Tot.bind (P:=fun y=>y=([],0,0,0,[],[],[])) ⟨_,e39,rfl⟩ ?_;rintro _ rfl;refine Tot.seq (by repeat first|exact Tot.ret trivial|refine Tot.seq ?_ ?_|refine Tot.grd (by first|decide|simp<;>omega) ?_) ?_;refine Tot.bind h19 ?_;rintro _ rfl;exact Tot.ret rfl
 obtain⟨b,h,rfl⟩:=hgo;exact h
end
section
theorem fnTidy : Rows.FnTidySaid := fnTidy_of true10
end
end Go.Proofs.YtdpapeledldifaaGreat
