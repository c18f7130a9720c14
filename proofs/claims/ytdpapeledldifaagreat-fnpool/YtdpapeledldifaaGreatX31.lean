/- Part 32 of the proof that the law FnPool holds of every input; no condition. -/
import Derived.Test.YtdpapeledldifaaGreatX30
set_option autoImplicit true
set_option relaxedAutoImplicit true
set_option linter.all false
section
namespace Go.Proofs.YtdpapeledldifaaGreat
open Go Go.AM Go.TM
set_option maxRecDepth 10000
def Gt (K:Nat) (g:List UInt8×List UInt8×List UInt8×Int×List UInt8):Prop :=
 g.1.length≤K∧g.2.1.length≤K∧g.2.2.1.length≤K∧((-9223372036854775808:Int)≤g.2.2.2.1∧g.2.2.2.1≤(9223372036854775807:Int))∧g.2.2.2.2.length≤3
theorem Gt.mono {K L:Nat} {g:List UInt8×List UInt8×List UInt8×Int×List UInt8} (h:Gt K g) (hc:K≤L):Gt L g :=
 ⟨Nat.le_trans h.1 hc,Nat.le_trans h.2.1 hc,Nat.le_trans h.2.2.1 hc,h.2.2.2.1,h.2.2.2.2⟩
theorem t119b {m:Nat} {l:List (List UInt8)} {r:List UInt8×Int} {c:Nat} (h:Rd c r) (hc:c≤1000000) (hl:l≠[]) (hm:∀ x∈l,x.length≤m):Tot (F119 (l,r)) fun y=>y.1.length≤m∧Rd (c+1) y.2 :=
 (t119 h hc hl).mono fun y hy=>⟨hm _ hy.1,hy.2⟩
theorem t105b {m:Int} {l:List Int} {r:List UInt8×Int} {c:Nat} (h:Rd c r) (hc:c≤1000000) (hl:l≠[]) (hm:∀ x∈l,-m≤x∧x≤m):Tot (F105 (l,r)) fun y=>-m≤y.1∧y.1≤m∧Rd (c+1) y.2 :=
 (t105 h hc hl).mono fun y hy=>⟨(hm _ hy.1).1,(hm _ hy.1).2,hy.2⟩
theorem t273 {s:List UInt8} {g:List UInt8×List UInt8×List UInt8×Int×List UInt8} {r:List UInt8×Int} {K:Nat} {c:Nat} (hs:List.length s≤100) (hg:Gt K g) (hr:Rd c r) (hK:K≤950000) (hc:c≤950000):Tot (F273 (s,g,r)) fun y=>Gt (K+110) y.1∧Rd (c+0) y.2:=by
 obtain ⟨o1,o2,o3,o4,o5⟩:=g
 have ko1:List.length o1≤K+0:=hg.1
 have ko2:List.length o2≤K+0:=hg.2.1
 have ko3:List.length o3≤K+0:=hg.2.2.1
 have ko5:List.length o5≤3:=hg.2.2.2.2
 obtain ⟨o0,o11⟩:=r
 unfold F273
 refine Tot.grd (by simp <;> omega) ?_
 refine Tot.grd (by simp <;> omega) ?_
 refine Tot.grd (by simp <;> omega) ?_
 refine Tot.bind (P:=fun y=>y.length≤100) (Tot.ret (by decide)) ?_
 intro y ky
 refine Tot.seq (by repeat first | exact Tot.ret trivial | refine Tot.seq ?_ ?_ | refine Tot.grd (by first | decide | simp <;> omega) ?_) ?_
 refine Tot.bind (t278 (by omega) (by omega)) ?_
 intro y1 ky1
 refine Tot.seq (by repeat first | exact Tot.ret trivial | refine Tot.seq ?_ ?_ | refine Tot.grd (by first | decide | simp <;> omega) ?_) ?_
 refine Tot.at (by omega) fun x _=>?_
 refine Tot.bind (t301 (by omega)) ?_
 intro y2 _
 refine Tot.seq (by repeat first | exact Tot.ret trivial | refine Tot.seq ?_ ?_ | refine Tot.grd (by first | decide | simp <;> omega) ?_) ?_
 refine Tot.bind (t251 _) ?_
 intro y3 _
 refine Tot.seq (by repeat first | exact Tot.ret trivial | refine Tot.seq ?_ ?_ | refine Tot.grd (by first | decide | simp <;> omega) ?_) ?_
 exact Tot.ret ⟨⟨(by show List.length _≤_;first | omega | simp <;> omega),(by show List.length _≤_;first | omega | simp <;> omega),(by show List.length _≤_;first | omega | simp <;> omega),(wrap_ran _),(by show List.length _≤_;first | omega | simp <;> omega)⟩,hr.mono (by omega)⟩
theorem t277 {g:List UInt8×List UInt8×List UInt8×Int×List UInt8} {r:List UInt8×Int} {K:Nat} {c:Nat} (hg:Gt K g) (hr:Rd c r) (hK:K≤950000) (hc:c≤950000):Tot (F277 (g,r)) fun y=>List.length y.1≤25∧Gt (K+0) y.2.1∧Rd (c+1) y.2.2:=by
 obtain ⟨o1,o2,o3,o4,o5⟩:=g
 obtain ⟨o0,o11⟩:=r
 unfold F277
 refine Tot.bind (t51 hr (by omega)) ?_
 rintro ⟨y,y1,y2⟩ ⟨(a2:(0:Int)≤y),(b3:(1:Int)≤(3:Int)→y<(3:Int)),-,hr1⟩
 refine Tot.bind (t274 (by omega) (by omega)) ?_
 intro y3 (ky3:List.length y3≤25)
 exact Tot.ret ⟨(by first | omega | simp <;> omega),hg.mono (by omega),hr1.mono (by omega)⟩
theorem t308 {g:List UInt8×List UInt8×List UInt8×Int×List UInt8} {r:List UInt8×Int} {K:Nat} {c:Nat} (hg:Gt K g) (hr:Rd c r) (hK:K≤950000) (hc:c≤950000):Tot (F308 (g,r)) fun y=>List.length y.1≤20∧Gt (K+0) y.2.1∧Rd (c+0) y.2.2:=by
 obtain ⟨o1,o2,o3,o4,o5⟩:=g
 have ko1:List.length o1≤K+0:=hg.1
 have ko2:List.length o2≤K+0:=hg.2.1
 have ko3:List.length o3≤K+0:=hg.2.2.1
 have ko5:List.length o5≤3:=hg.2.2.2.2
 obtain ⟨o0,o11⟩:=r
 unfold F308
 refine Tot.grd (by simp <;> omega) ?_
 refine Tot.grd (by simp <;> omega) ?_
 refine Tot.grd (by simp <;> omega) ?_
 refine Tot.grd (by simp <;> omega) ?_
 exact Tot.ret ⟨(by first | omega | simp <;> omega),hg.mono (by omega),hr.mono (by omega)⟩
theorem t307 {locals:List UInt8} {stack:List UInt8} {g:List UInt8×List UInt8×List UInt8×Int×List UInt8} {r:List UInt8×Int} {K:Nat} {c:Nat} (hlocals:List.length locals≤20) (hstack:List.length stack≤20) (hg:Gt K g) (hr:Rd c r) (hK:K≤950000) (hc:c≤950000):Tot (F307 (locals,stack,g,r)) fun y=>Gt (K+110) y.1∧Rd (c+0) y.2:=by
 obtain ⟨o1,o2,o3,o4,o5⟩:=g
 have ko1:List.length o1≤K+0:=hg.1
 have ko2:List.length o2≤K+0:=hg.2.1
 have ko3:List.length o3≤K+0:=hg.2.2.1
 have ko5:List.length o5≤3:=hg.2.2.2.2
 obtain ⟨o0,o11⟩:=r
 unfold F307
 refine Tot.grd (by simp <;> omega) ?_
 refine Tot.bind (t274 hg.2.2.2.1.1 hg.2.2.2.1.2) ?_
 intro y (ky:List.length y≤25)
 refine Tot.seq (by repeat first | exact Tot.ret trivial | refine Tot.seq ?_ ?_ | refine Tot.grd (by first | decide | simp <;> omega) ?_) ?_
 refine Tot.grd (by simp <;> omega) ?_
 refine Tot.grd (by simp <;> omega) ?_
 refine Tot.grd (by simp <;> omega) ?_
 refine Tot.grd (by simp <;> omega) ?_
 refine Tot.grd (by simp <;> omega) ?_
 refine Tot.grd (by simp <;> omega) ?_
 exact Tot.ret ⟨⟨(by show List.length _≤_;first | omega | simp <;> omega),(by show List.length _≤_;first | omega | simp <;> omega),(by show List.length _≤_;first | omega | simp <;> omega),⟨hg.2.2.2.1.1,hg.2.2.2.1.2⟩,(by show List.length _≤_;first | omega | simp <;> omega)⟩,hr.mono (by omega)⟩
theorem t303 {g:List UInt8×List UInt8×List UInt8×Int×List UInt8} {r:List UInt8×Int} {K:Nat} {c:Nat} (hg:Gt K g) (hr:Rd c r) (hK:K≤900000) (hc:c≤900000):Tot (F303 (g,r)) fun y=>Gt (K+500) y.1∧Rd (c+10) y.2:=by
 obtain ⟨o1,o2,o3,o4,o5⟩:=g
 obtain ⟨o0,o11⟩:=r
 unfold F303
 refine Tot.bind (t51 hr (by omega)) ?_
 rintro ⟨y,y1,y2⟩ ⟨(a2:(0:Int)≤y),(b3:(1:Int)≤(6:Int)→y<(6:Int)),-,hr1⟩
 refine Tot.bindE (fun y=>Gt (K+330) y.1∧Rd (c+4) y.2) ?_ ?_
 ·refine Tot.cnd (fun c4=>?_) (fun c4=>?_)
  ·refine Tot.bind (t277 hg hr1 (by omega) (by omega)) ?_
   rintro ⟨y3,⟨y4,y5,y6,y7,y8⟩,x,x1⟩ ⟨(ky3:List.length y3≤25),hg5,hr6⟩
   refine Tot.grd (by simp <;> omega) ?_
   refine Tot.bind (t273 (by first | omega | simp <;> omega) hg5 hr6 (by omega) (by omega)) ?_
   rintro ⟨⟨y9,y10,y11,y12,y13⟩,y14,x2⟩ ⟨hg7,hr8⟩
   refine Tot.bind (t273 (by first | omega | simp <;> omega) hg7 hr8 (by omega) (by omega)) ?_
   rintro ⟨⟨y15,y16,y17,y18,y19⟩,y20,x3⟩ ⟨hg9,hr10⟩
   exact Tot.ret ⟨hg9.mono (by omega),hr10.mono (by omega)⟩
  ·refine Tot.cnd (fun c11=>?_) (fun c11=>?_)
   ·refine Tot.bind (t277 hg hr1 (by omega) (by omega)) ?_
    rintro ⟨y3,⟨y4,y5,y6,y7,y8⟩,x,x1⟩ ⟨(ky3:List.length y3≤25),hg12,hr13⟩
    refine Tot.grd (by simp <;> omega) ?_
    refine Tot.bind (t273 (by first | omega | simp <;> omega) hg12 hr13 (by omega) (by omega)) ?_
    rintro ⟨⟨y9,y10,y11,y12,y13⟩,y14,x2⟩ ⟨hg14,hr15⟩
    refine Tot.bind (t273 (by first | omega | simp <;> omega) hg14 hr15 (by omega) (by omega)) ?_
    rintro ⟨⟨y15,y16,y17,y18,y19⟩,y20,x3⟩ ⟨hg16,hr17⟩
    exact Tot.ret ⟨hg16.mono (by omega),hr17.mono (by omega)⟩
   ·refine Tot.cnd (fun c18=>?_) (fun c18=>?_)
    ·refine Tot.bind (t273 (by first | omega | simp <;> omega) hg hr1 (by omega) (by omega)) ?_
     rintro ⟨⟨y3,y4,y5,y6,y7⟩,y8,x⟩ ⟨hg19,hr20⟩
     exact Tot.ret ⟨hg19.mono (by omega),hr20.mono (by omega)⟩
    ·refine Tot.cnd (fun c21=>?_) (fun c21=>?_)
     ·refine Tot.bind (t105b (m:=100000) hr1 (by omega) (by simp) (by decide)) ?_
      rintro ⟨y3,y4,y5⟩ ⟨(a23:(-100000:Int)≤y3),(b24:y3≤(100000:Int)),hr22⟩
      refine Tot.bind (t274 (by omega) (by omega)) ?_
      intro y6 (ky6:List.length y6≤25)
      refine Tot.grd (by simp <;> omega) ?_
      refine Tot.bind (t273 (by first | omega | simp <;> omega) hg hr22 (by omega) (by omega)) ?_
      rintro ⟨⟨y7,y8,y9,y10,y11⟩,y12,x⟩ ⟨hg25,hr26⟩
      refine Tot.bind (t105b (m:=100000) hr26 (by omega) (by simp) (by decide)) ?_
      rintro ⟨y13,y14,y15⟩ ⟨(a28:(-100000:Int)≤y13),(b29:y13≤(100000:Int)),hr27⟩
      refine Tot.bind (t274 (by omega) (by omega)) ?_
      intro y16 (ky16:List.length y16≤25)
      refine Tot.grd (by simp <;> omega) ?_
      refine Tot.bind (t273 (by first | omega | simp <;> omega) hg25 hr27 (by omega) (by omega)) ?_
      rintro ⟨⟨y17,y18,y19,y20,y21⟩,y22,x1⟩ ⟨hg30,hr31⟩
      refine Tot.bind (t119b (m:=3) hr31 (by omega) (by simp) (by decide)) ?_
      rintro ⟨y23,y24,y25⟩ ⟨(ky23:List.length y23≤3),hr32⟩
      refine Tot.bind (t273 (by first | omega | simp <;> omega) hg30 hr32 (by omega) (by omega)) ?_
      rintro ⟨⟨y26,y27,y28,y29,y30⟩,y31,x2⟩ ⟨hg33,hr34⟩
      exact Tot.ret ⟨hg33.mono (by omega),hr34.mono (by omega)⟩
     ·refine Tot.bind (t105b (m:=100000) hr1 (by omega) (by simp) (by decide)) ?_
      rintro ⟨y3,y4,y5⟩ ⟨(a36:(-100000:Int)≤y3),(b37:y3≤(100000:Int)),hr35⟩
      refine Tot.bind (t274 (by omega) (by omega)) ?_
      intro y6 (ky6:List.length y6≤25)
      refine Tot.grd (by simp <;> omega) ?_
      refine Tot.bind (t273 (by first | omega | simp <;> omega) hg hr35 (by omega) (by omega)) ?_
      rintro ⟨⟨y7,y8,y9,y10,y11⟩,y12,x⟩ ⟨hg38,hr39⟩
      exact Tot.ret ⟨hg38.mono (by omega),hr39.mono (by omega)⟩
 rintro ⟨⟨o12,o21,o31,o41,o51⟩,o01,o13⟩ ⟨hg40,hr41⟩
 exact Tot.ret ⟨hg40.mono (by omega),hr41.mono (by omega)⟩
theorem t304 {g:List UInt8×List UInt8×List UInt8×Int×List UInt8} {r:List UInt8×Int} {K:Nat} {c:Nat} (hg:Gt K g) (hr:Rd c r) (hK:K≤900000) (hc:c≤900000):Tot (F304 (g,r)) fun y=>Gt (K+300) y.1∧Rd (c+5) y.2:=by
 obtain ⟨o1,o2,o3,o4,o5⟩:=g
 obtain ⟨o0,o11⟩:=r
 unfold F304
 refine Tot.bind (t51 hr (by omega)) ?_
 rintro ⟨y,y1,y2⟩ ⟨(a2:(0:Int)≤y),(b3:(1:Int)≤(10:Int)→y<(10:Int)),-,hr1⟩
 refine Tot.bindE (fun y=>Gt (K+220) y.1∧Rd (c+3) y.2) ?_ ?_
 ·refine Tot.cnd (fun c4=>?_) (fun c4=>?_)
  ·refine Tot.bind (t273 (by first | omega | simp <;> omega) hg hr1 (by omega) (by omega)) ?_
   rintro ⟨⟨y3,y4,y5,y6,y7⟩,y8,x⟩ ⟨hg5,hr6⟩
   exact Tot.ret ⟨hg5.mono (by omega),hr6.mono (by omega)⟩
  ·refine Tot.bindE (fun y=>Gt (K+0) y.2.2.1∧Rd (c+1) y.2.2.2) ?_ ?_
   ·refine Tot.cnd (fun c7=>?_) (fun c7=>?_)
    ·exact Tot.ret ⟨hg.mono (by omega),hr1.mono (by omega)⟩
    ·exact Tot.ret ⟨hg.mono (by omega),hr1.mono (by omega)⟩
   rintro ⟨v8,v15,⟨o12,o21,o31,o41,o51⟩,o01,o13⟩ ⟨hg8,hr9⟩
   refine Tot.cnd (fun c10=>?_) (fun c10=>?_)
   ·refine Tot.bind (t273 (by first | omega | simp <;> omega) hg8 hr9 (by omega) (by omega)) ?_
    rintro ⟨⟨y3,y4,y5,y6,y7⟩,y8,x⟩ ⟨hg11,hr12⟩
    exact Tot.ret ⟨hg11.mono (by omega),hr12.mono (by omega)⟩
   ·refine Tot.cnd (fun c13=>?_) (fun c13=>?_)
    ·refine Tot.bind (t273 (by first | omega | simp <;> omega) hg8 hr9 (by omega) (by omega)) ?_
     rintro ⟨⟨y3,y4,y5,y6,y7⟩,y8,x⟩ ⟨hg14,hr15⟩
     exact Tot.ret ⟨hg14.mono (by omega),hr15.mono (by omega)⟩
    ·refine Tot.cnd (fun c16=>?_) (fun c16=>?_)
     ·refine Tot.bind (t277 hg8 hr9 (by omega) (by omega)) ?_
      rintro ⟨y3,⟨y4,y5,y6,y7,y8⟩,x,x1⟩ ⟨(ky3:List.length y3≤25),hg17,hr18⟩
      refine Tot.grd (by simp <;> omega) ?_
      refine Tot.bind (t273 (by first | omega | simp <;> omega) hg17 hr18 (by omega) (by omega)) ?_
      rintro ⟨⟨y9,y10,y11,y12,y13⟩,y14,x2⟩ ⟨hg19,hr20⟩
      refine Tot.bind (t119b (m:=1) hr20 (by omega) (by simp) (by decide)) ?_
      rintro ⟨y15,y16,y17⟩ ⟨(ky15:List.length y15≤1),hr21⟩
      refine Tot.grd (by simp <;> omega) ?_
      refine Tot.bind (t273 (by first | omega | simp <;> omega) hg19 hr21 (by omega) (by omega)) ?_
      rintro ⟨⟨y18,y19,y20,y21,y22⟩,y23,x3⟩ ⟨hg22,hr23⟩
      exact Tot.ret ⟨hg22.mono (by omega),hr23.mono (by omega)⟩
     ·refine Tot.cnd (fun c24=>?_) (fun c24=>?_)
      ·refine Tot.bind (t277 hg8 hr9 (by omega) (by omega)) ?_
       rintro ⟨y3,⟨y4,y5,y6,y7,y8⟩,x,x1⟩ ⟨(ky3:List.length y3≤25),hg25,hr26⟩
       refine Tot.grd (by simp <;> omega) ?_
       refine Tot.bind (t273 (by first | omega | simp <;> omega) hg25 hr26 (by omega) (by omega)) ?_
       rintro ⟨⟨y9,y10,y11,y12,y13⟩,y14,x2⟩ ⟨hg27,hr28⟩
       refine Tot.bind (t273 (by first | omega | simp <;> omega) hg27 hr28 (by omega) (by omega)) ?_
       rintro ⟨⟨y15,y16,y17,y18,y19⟩,y20,x3⟩ ⟨hg29,hr30⟩
       exact Tot.ret ⟨hg29.mono (by omega),hr30.mono (by omega)⟩
      ·refine Tot.cnd (fun c31=>?_) (fun c31=>?_)
       ·refine Tot.bind (t119b (m:=3) hr9 (by omega) (by simp) (by decide)) ?_
        rintro ⟨y3,y4,y5⟩ ⟨(ky3:List.length y3≤3),hr32⟩
        refine Tot.grd (by simp <;> omega) ?_
        refine Tot.bind (t273 (by first | omega | simp <;> omega) hg8 hr32 (by omega) (by omega)) ?_
        rintro ⟨⟨y6,y7,y8,y9,y10⟩,y11,x⟩ ⟨hg33,hr34⟩
        exact Tot.ret ⟨hg33.mono (by omega),hr34.mono (by omega)⟩
       ·refine Tot.bind (t273 (by first | omega | simp <;> omega) hg8 hr9 (by omega) (by omega)) ?_
        rintro ⟨⟨y3,y4,y5,y6,y7⟩,y8,x⟩ ⟨hg35,hr36⟩
        exact Tot.ret ⟨hg35.mono (by omega),hr36.mono (by omega)⟩
 rintro ⟨⟨o12,o21,o31,o41,o51⟩,o01,o13⟩ ⟨hg37,hr38⟩
 exact Tot.ret ⟨hg37.mono (by omega),hr38.mono (by omega)⟩
theorem t305 {g:List UInt8×List UInt8×List UInt8×Int×List UInt8} {r:List UInt8×Int} {K:Nat} {c:Nat} (hg:Gt K g) (hr:Rd c r) (hK:K≤850000) (hc:c≤850000):Tot (F305 (g,r)) fun y=>Gt (K+1200) y.1∧Rd (c+20) y.2:=by
 obtain ⟨o1,o2,o3,o4,o5⟩:=g
 obtain ⟨o0,o11⟩:=r
 unfold F305
 refine Tot.bind (t119b (m:=6) hr (by omega) (by simp) (by decide)) ?_
 rintro ⟨y,y1,y2⟩ ⟨(ky:List.length y≤6),hr1⟩
 refine Tot.bindE (fun y=>List.length y.1≤10∧Gt (K+500) y.2.1∧Rd (c+11) y.2.2) ?_ ?_
 ·refine Tot.cnd (fun c2=>?_) (fun c2=>?_)
  ·refine Tot.bind (t277 hg hr1 (by omega) (by omega)) ?_
   rintro ⟨y3,⟨y4,y5,y6,y7,y8⟩,x,x1⟩ ⟨(ky3:List.length y3≤25),hg3,hr4⟩
   refine Tot.grd (by simp <;> omega) ?_
   refine Tot.bind (t273 (by first | omega | simp <;> omega) hg3 hr4 (by omega) (by omega)) ?_
   rintro ⟨⟨y9,y10,y11,y12,y13⟩,y14,x2⟩ ⟨hg5,hr6⟩
   exact Tot.ret ⟨(by first | omega | simp <;> omega),hg5.mono (by omega),hr6.mono (by omega)⟩
  ·refine Tot.cnd (fun c7=>?_) (fun c7=>?_)
   ·refine Tot.bind (t277 hg hr1 (by omega) (by omega)) ?_
    rintro ⟨y3,⟨y4,y5,y6,y7,y8⟩,x,x1⟩ ⟨(ky3:List.length y3≤25),hg8,hr9⟩
    refine Tot.grd (by simp <;> omega) ?_
    refine Tot.bind (t273 (by first | omega | simp <;> omega) hg8 hr9 (by omega) (by omega)) ?_
    rintro ⟨⟨y9,y10,y11,y12,y13⟩,y14,x2⟩ ⟨hg10,hr11⟩
    refine Tot.bind (t277 hg10 hr11 (by omega) (by omega)) ?_
    rintro ⟨y15,⟨y16,y17,y18,y19,y20⟩,x3,x4⟩ ⟨(ky15:List.length y15≤25),hg12,hr13⟩
    refine Tot.grd (by simp <;> omega) ?_
    refine Tot.bind (t273 (by first | omega | simp <;> omega) hg12 hr13 (by omega) (by omega)) ?_
    rintro ⟨⟨y21,y22,y23,y24,y25⟩,y26,x5⟩ ⟨hg14,hr15⟩
    exact Tot.ret ⟨(by first | omega | simp <;> omega),hg14.mono (by omega),hr15.mono (by omega)⟩
   ·refine Tot.bind (t303 hg hr1 (by omega) (by omega)) ?_
    rintro ⟨⟨y3,y4,y5,y6,y7⟩,y8,x⟩ ⟨hg16,hr17⟩
    exact Tot.ret ⟨(by first | omega | simp <;> omega),hg16.mono (by omega),hr17.mono (by omega)⟩
 rintro ⟨test,⟨o12,o21,o31,o41,o51⟩,o01,o13⟩ ⟨(ktest:List.length test≤10),hg18,hr19⟩
 refine Tot.grd (by simp <;> omega) ?_
 refine Tot.bind (t274 (wrap_ran _).1 (wrap_ran _).2) ?_
 intro y3 (ky3:List.length y3≤25)
 refine Tot.grd (by simp <;> omega) ?_
 refine Tot.bind (t273 (by first | omega | simp <;> omega) hg18 hr19 (by omega) (by omega)) ?_
 rintro ⟨⟨y4,y5,y6,y7,y8⟩,y9,x⟩ ⟨hg20,hr21⟩
 refine Tot.bind (t273 (by first | omega | simp <;> omega) hg20 hr21 (by omega) (by omega)) ?_
 rintro ⟨⟨y10,y11,y12,y13,y14⟩,y15,x1⟩ ⟨hg22,hr23⟩
 refine Tot.bind (t273 (by first | omega | simp <;> omega) hg22 hr23 (by omega) (by omega)) ?_
 rintro ⟨⟨y16,y17,y18,y19,y20⟩,y21,x2⟩ ⟨hg24,hr25⟩
 refine Tot.bind (t308 hg24 hr25 (by omega) (by omega)) ?_
 rintro ⟨y22,⟨y23,y24,y25,y26,y27⟩,x3,x4⟩ ⟨(ky22:List.length y22≤20),hg26,hr27⟩
 refine Tot.bind (t119b (m:=1) hr27 (by omega) (by simp) (by decide)) ?_
 rintro ⟨y28,y29,y30⟩ ⟨(ky28:List.length y28≤1),hr28⟩
 refine Tot.bind (t307 (by first | omega | simp <;> omega) (by first | omega | simp <;> omega) hg26 hr28 (by omega) (by omega)) ?_
 rintro ⟨⟨y31,y32,y33,y34,y35⟩,y36,x5⟩ ⟨hg29,hr30⟩
 exact Tot.ret ⟨hg29.mono (by omega),hr30.mono (by omega)⟩
theorem t306 {g:List UInt8×List UInt8×List UInt8×Int×List UInt8} {r:List UInt8×Int} {K:Nat} {c:Nat} (hg:Gt K g) (hr:Rd c r) (hK:K≤850000) (hc:c≤850000):Tot (F306 (g,r)) fun y=>Gt (K+600) y.1∧Rd (c+5) y.2:=by
 obtain ⟨o1,o2,o3,o4,o5⟩:=g
 obtain ⟨o0,o11⟩:=r
 unfold F306
 refine Tot.bind (t51 hr (by omega)) ?_
 rintro ⟨y,y1,y2⟩ ⟨(a2:(0:Int)≤y),(b3:(1:Int)≤(5:Int)→y<(5:Int)),-,hr1⟩
 refine Tot.bindE (fun y=>Gt (K+440) y.1∧Rd (c+2) y.2) ?_ ?_
 ·refine Tot.cnd (fun c4=>?_) (fun c4=>?_)
  ·refine Tot.bind (t277 hg hr1 (by omega) (by omega)) ?_
   rintro ⟨y3,⟨y4,y5,y6,y7,y8⟩,x,x1⟩ ⟨(ky3:List.length y3≤25),hg5,hr6⟩
   refine Tot.grd (by simp <;> omega) ?_
   refine Tot.bind (t273 (by first | omega | simp <;> omega) hg5 hr6 (by omega) (by omega)) ?_
   rintro ⟨⟨y9,y10,y11,y12,y13⟩,y14,x2⟩ ⟨hg7,hr8⟩
   refine Tot.bind (t273 (by first | omega | simp <;> omega) hg7 hr8 (by omega) (by omega)) ?_
   rintro ⟨⟨y15,y16,y17,y18,y19⟩,y20,x3⟩ ⟨hg9,hr10⟩
   refine Tot.bind (t273 (by first | omega | simp <;> omega) hg9 hr10 (by omega) (by omega)) ?_
   rintro ⟨⟨y21,y22,y23,y24,y25⟩,y26,x4⟩ ⟨hg11,hr12⟩
   exact Tot.ret ⟨hg11.mono (by omega),hr12.mono (by omega)⟩
  ·refine Tot.cnd (fun c13=>?_) (fun c13=>?_)
   ·refine Tot.bind (t273 (by first | omega | simp <;> omega) hg hr1 (by omega) (by omega)) ?_
    rintro ⟨⟨y3,y4,y5,y6,y7⟩,y8,x⟩ ⟨hg14,hr15⟩
    refine Tot.bind (t277 hg14 hr15 (by omega) (by omega)) ?_
    rintro ⟨y9,⟨y10,y11,y12,y13,y14⟩,x1,x2⟩ ⟨(ky9:List.length y9≤25),hg16,hr17⟩
    refine Tot.grd (by simp <;> omega) ?_
    refine Tot.bind (t273 (by first | omega | simp <;> omega) hg16 hr17 (by omega) (by omega)) ?_
    rintro ⟨⟨y15,y16,y17,y18,y19⟩,y20,x3⟩ ⟨hg18,hr19⟩
    exact Tot.ret ⟨hg18.mono (by omega),hr19.mono (by omega)⟩
   ·refine Tot.cnd (fun c20=>?_) (fun c20=>?_)
    ·refine Tot.bind (t273 (by first | omega | simp <;> omega) hg hr1 (by omega) (by omega)) ?_
     rintro ⟨⟨y3,y4,y5,y6,y7⟩,y8,x⟩ ⟨hg21,hr22⟩
     refine Tot.bind (t277 hg21 hr22 (by omega) (by omega)) ?_
     rintro ⟨y9,⟨y10,y11,y12,y13,y14⟩,x1,x2⟩ ⟨(ky9:List.length y9≤25),hg23,hr24⟩
     refine Tot.grd (by simp <;> omega) ?_
     refine Tot.bind (t273 (by first | omega | simp <;> omega) hg23 hr24 (by omega) (by omega)) ?_
     rintro ⟨⟨y15,y16,y17,y18,y19⟩,y20,x3⟩ ⟨hg25,hr26⟩
     exact Tot.ret ⟨hg25.mono (by omega),hr26.mono (by omega)⟩
    ·refine Tot.cnd (fun c27=>?_) (fun c27=>?_)
     ·refine Tot.bind (t277 hg hr1 (by omega) (by omega)) ?_
      rintro ⟨y3,⟨y4,y5,y6,y7,y8⟩,x,x1⟩ ⟨(ky3:List.length y3≤25),hg28,hr29⟩
      refine Tot.grd (by simp <;> omega) ?_
      refine Tot.bind (t273 (by first | omega | simp <;> omega) hg28 hr29 (by omega) (by omega)) ?_
      rintro ⟨⟨y9,y10,y11,y12,y13⟩,y14,x2⟩ ⟨hg30,hr31⟩
      refine Tot.bind (t273 (by first | omega | simp <;> omega) hg30 hr31 (by omega) (by omega)) ?_
      rintro ⟨⟨y15,y16,y17,y18,y19⟩,y20,x3⟩ ⟨hg32,hr33⟩
      exact Tot.ret ⟨hg32.mono (by omega),hr33.mono (by omega)⟩
     ·refine Tot.bind (t273 (by first | omega | simp <;> omega) hg hr1 (by omega) (by omega)) ?_
      rintro ⟨⟨y3,y4,y5,y6,y7⟩,y8,x⟩ ⟨hg34,hr35⟩
      refine Tot.bind (t277 hg34 hr35 (by omega) (by omega)) ?_
      rintro ⟨y9,⟨y10,y11,y12,y13,y14⟩,x1,x2⟩ ⟨(ky9:List.length y9≤25),hg36,hr37⟩
      refine Tot.grd (by simp <;> omega) ?_
      refine Tot.bind (t273 (by first | omega | simp <;> omega) hg36 hr37 (by omega) (by omega)) ?_
      rintro ⟨⟨y15,y16,y17,y18,y19⟩,y20,x3⟩ ⟨hg38,hr39⟩
      refine Tot.bind (t273 (by first | omega | simp <;> omega) hg38 hr39 (by omega) (by omega)) ?_
      rintro ⟨⟨y21,y22,y23,y24,y25⟩,y26,x4⟩ ⟨hg40,hr41⟩
      refine Tot.bind (t273 (by first | omega | simp <;> omega) hg40 hr41 (by omega) (by omega)) ?_
      rintro ⟨⟨y27,y28,y29,y30,y31⟩,y32,x5⟩ ⟨hg42,hr43⟩
      exact Tot.ret ⟨hg42.mono (by omega),hr43.mono (by omega)⟩
 rintro ⟨⟨o12,o21,o31,o41,o51⟩,o01,o13⟩ ⟨hg44,hr45⟩
 exact Tot.ret ⟨hg44.mono (by omega),hr45.mono (by omega)⟩
end Go.Proofs.YtdpapeledldifaaGreat
end
section
namespace Go.Proofs.YtdpapeledldifaaGreat
open Go Go.AM Go.TM
def bCst (c:Cst):Prop:=c.2.1.length≤1048576
def bKnds (l:List Knd):Prop:=l.length≤1048576
def bFrm (f:Frm):Prop:=bKnds f.2.1∧bKnds f.2.2
def bMth (m:Mth):Prop:=m.2.2.2.2.2.1.length≤1048576∧m.2.2.2.2.2.2.1.length≤1048576∧m.2.2.2.2.2.2.2.length≤1048576∧∀ f∈m.2.2.2.2.2.2.2,bFrm f
def bCls (c:Cls):Prop:=(c.1.length≤1048576∧∀ x∈c.1,bCst x)∧c.2.2.2.2.1.length≤1048576∧c.2.2.2.2.2.1.length≤1048576∧c.2.2.2.2.2.2.length≤1048576∧∀ x∈c.2.2.2.2.2.2,bMth x
end Go.Proofs.YtdpapeledldifaaGreat
end
section
namespace Go.Proofs.YtdpapeledldifaaGreat
open Go Go.AM Go.TM
set_option maxRecDepth 10000
theorem atO_of {α R:Type} {l:List α} {n:Nat} {x:α} {k:α→Option R} (e:l[n]? = some x):atO l n k=k x:=by
 show (match l[n]? with | some x=>k x | none=>none)=k x
 rw [e]
def Pl (K:Nat) (p:List Cst):Prop:=p.length≤K∧∀ x∈p,x.2.1.length≤60
theorem Pl.mono {K L:Nat} {p:List Cst} (h:Pl K p) (hc:K≤L):Pl L p:=⟨Nat.le_trans h.1 hc,h.2⟩
theorem Pl.app {K:Nat} {p:List Cst} {x:Cst} (h:Pl K p) (hx:x.2.1.length≤60):Pl (K+1) (p++[x]):=by
 refine ⟨by have:=h.1;simp only [List.length_append,List.length_cons,List.length_nil];omega,fun y hy=>?_⟩
 simp only [List.mem_append,List.mem_singleton] at hy
 rcases hy with hy | rfl
 ·exact h.2 y hy
 ·exact hx
theorem t327 {s:List UInt8} (hs:s.length≤1000000000000):Tot (F327 s) fun _=>True:=by
 unfold F327
 refine Tot.bindE (fun y=>y.1=s) (Tot.loop (fun z=>z.1=s∧0≤z.2.2∧z.2.2≤(s.length:Int)) (fun z=>s.length - z.2.2.toNat) ?_ ⟨rfl,by simp,by simp⟩) ?_
 ·rintro ⟨s1,n,i⟩ ⟨rfl,h0,h1⟩
  simp only at h0 h1 hs
  refine Tot.cnd (fun h=>?_) (fun h=>Tot.ret rfl)
  simp only [decide_eq_true_eq] at h
  refine Tot.bindE (fun y=>y=(s1,n,i)) ?_ ?_
  ·exact Tot.grd (by simpa using h0) (Tot.at (by omega) fun x _=>Tot.cnd (fun _=>Tot.ret trivial) fun _=>Tot.grd (by simpa using h0) (Tot.at (by omega) fun x1 _=>Tot.cnd (fun _=>Tot.ret trivial) fun _=>Tot.cnd (fun _=>Tot.ret trivial) fun _=>Tot.ret rfl))
  ·rintro _ rfl
   refine Tot.grd (by simpa using h0) (Tot.at (by omega) fun x _=>Tot.ret ⟨⟨rfl,?_,?_⟩,?_⟩) <;> (simp only;rw [wrapI (x:=i+1) (by omega) (by omega)];omega)
 ·rintro ⟨s1,n⟩ rfl
  refine Tot.cnd (fun _=>Tot.ret trivial) fun _=>Tot.cnd (fun h=>?_) fun _=>Tot.ret trivial
  simp only [decide_eq_true_eq] at h
  exact Tot.at (by omega) fun x _=>Tot.cnd (fun _=>Tot.ret trivial) fun _=>Tot.ret trivial
theorem t325 {s:List UInt8} (hs:s.length≤1000000000000):Tot (F325 s) fun _=>True:=by
 unfold F325
 refine Tot.bindE (fun y=>y.1=s∧(y.2=true→1<s.length)) ?_ ?_
 ·refine Tot.cnd (fun h=>?_) fun h=>Tot.ret ⟨rfl,by simp⟩
  simp only [decide_eq_true_eq] at h
  exact Tot.at (by omega) fun x _=>Tot.ret ⟨rfl,fun _=>by omega⟩
 ·rintro ⟨s1,b⟩ ⟨rfl,hb⟩
  simp only at hb hs
  refine Tot.cnd (fun h=>?_) fun h=>Tot.bind (t327 hs) fun _ _=>Tot.ret trivial
  have:=hb h
  exact Tot.grd (by simp;omega) (Tot.bind (t327 (by simp;omega)) fun _ _=>Tot.ret trivial)
theorem t326 {x:Cst} {p:List Cst} {f n s:Int} {fa:List Int} {fi:List (Int×Int×Int)} {ms:List Mth} {bad:Bool} {K:Nat} (hx:x.2.1.length≤60) (hp:Pl K p) (hK:K≤1000000):Tot (F326 (x,p,f,n,s,fa,fi,ms,bad)) fun y=>∃ i q,y=(i,q,f,n,s,fa,fi,ms,bad)∧Pl (K+1) q:=by
 obtain ⟨c0,c1,c2,c3⟩:=x
 have hl:=hp.1
 unfold F326
 refine Tot.bindE (fun y=>y=((c0,c1,c2,c3),p,f,n,s,fa,fi,ms,bad)) (Tot.loop (fun z=>z.2=((c0,c1,c2,c3),p,f,n,s,fa,fi,ms,bad)∧0≤z.1∧z.1≤(p.length:Int)) (fun z=>p.length - z.1.toNat) ?_ ⟨rfl,by simp,by simp⟩) ?_
 ·rintro ⟨i,z⟩ ⟨hz,h0,h1⟩
  simp only at hz h0 h1
  subst hz
  refine Tot.cnd (fun h=>?_) (fun h=>Tot.ret rfl)
  simp only [decide_eq_true_eq] at h
  refine Tot.grd (by simp;omega) (Tot.at (by omega) fun y _=>Tot.cnd (fun _=>?_) fun _=>?_)
  ·exact Tot.ret ⟨_,_,rfl,hp.mono (by omega)⟩
  ·refine Tot.ret ⟨⟨rfl,?_,?_⟩,?_⟩ <;> (simp only;rw [wrapI (by omega) (by omega)];omega)
 ·rintro _ rfl
  exact Tot.grd (by simp;omega) (Tot.ret ⟨_,_,rfl,hp.app hx⟩)
theorem t312 {x:List UInt8} {p:List Cst} {f n s:Int} {fa:List Int} {fi:List (Int×Int×Int)} {ms:List Mth} {bad:Bool} {K:Nat} (hp:Pl K p) (hK:K≤1000000):Tot (F312 (x,p,f,n,s,fa,fi,ms,bad)) fun y=>∃ i q b,y=(i,q,f,n,s,fa,fi,ms,b)∧Pl (K+1) q:=by
 unfold F312
 refine Tot.cnd (fun h=>Tot.ret ⟨_,_,_,rfl,hp.mono (by omega)⟩) (fun h=>?_)
 simp only [decide_eq_false_iff_not] at h
 refine Tot.bind (t326 (by simp only;omega) hp hK) ?_
 rintro _ ⟨i,q,rfl,hq⟩
 exact Tot.ret ⟨_,_,_,rfl,hq⟩
theorem t310 {x:List UInt8} {p:List Cst} {f n s:Int} {fa:List Int} {fi:List (Int×Int×Int)} {ms:List Mth} {bad:Bool} {K:Nat} (hp:Pl K p) (hK:K≤900000):Tot (F310 (x,p,f,n,s,fa,fi,ms,bad)) fun y=>∃ i q b,y=(i,q,f,n,s,fa,fi,ms,b)∧Pl (K+2) q:=by
 unfold F310
 refine Tot.bind (t312 hp (by omega)) ?_
 rintro _ ⟨i,q,b,rfl,hq⟩
 refine Tot.bind (t326 (by simp) hq (by omega)) ?_
 rintro _ ⟨i,q,rfl,hq⟩
 exact Tot.ret ⟨_,_,_,rfl,hq⟩
theorem t311 {x:List UInt8} {p:List Cst} {f n s:Int} {fa:List Int} {fi:List (Int×Int×Int)} {ms:List Mth} {bad:Bool}  (hx:x.length≤1000000000000):Tot (F311 (x,p,f,n,s,fa,fi,ms,bad)) fun y=>∃ i b,y=(i,p,f,n,s,fa,fi,ms,b):=by
 unfold F311
 refine Tot.bind (t327 hx) ?_
 rintro i -
 exact Tot.cnd (fun _=>Tot.ret ⟨_,_,rfl⟩) fun _=>Tot.ret ⟨_,_,rfl⟩
theorem t5000326 {x:Cst} {p:List Cst} {f n s:Int} {fa:List Int} {fi:List (Int×Int×Int)} {ms:List Mth} {bad:Bool} {K:Nat} (hx:x.2.1.length≤60) (hp:Pl K p) (hK:K≤1000000):Tot (F5000326 (x,(p,f,n,s,fi,ms,bad),fa)) fun y=>∃ i q,y=(i,(q,f,n,s,fi,ms,bad),fa)∧Pl (K+1) q:=by
 obtain ⟨c0,c1,c2,c3⟩:=x
 have hl:=hp.1
 unfold F5000326
 refine Tot.bindE (fun y=>y=((c0,c1,c2,c3),(p,f,n,s,fi,ms,bad),fa)) (Tot.loop (fun z=>z.2=((c0,c1,c2,c3),(p,f,n,s,fi,ms,bad),fa)∧0≤z.1∧z.1≤(p.length:Int)) (fun z=>p.length - z.1.toNat) ?_ ⟨rfl,by simp,by simp⟩) ?_
 ·rintro ⟨i,z⟩ ⟨hz,h0,h1⟩
  simp only at hz h0 h1
  subst hz
  refine Tot.cnd (fun h=>?_) (fun h=>Tot.ret rfl)
  simp only [decide_eq_true_eq] at h
  refine Tot.grd (by simp;omega) (Tot.at (by omega) fun y _=>Tot.cnd (fun _=>?_) fun _=>?_)
  ·exact Tot.ret ⟨_,_,rfl,hp.mono (by omega)⟩
  ·refine Tot.ret ⟨⟨rfl,?_,?_⟩,?_⟩ <;> (simp only;rw [wrapI (by omega) (by omega)];omega)
 ·rintro _ rfl
  exact Tot.grd (by simp;omega) (Tot.ret ⟨_,_,rfl,hp.app hx⟩)
theorem t5000312 {x:List UInt8} {p:List Cst} {f n s:Int} {fa:List Int} {fi:List (Int×Int×Int)} {ms:List Mth} {bad:Bool} {K:Nat} (hp:Pl K p) (hK:K≤1000000):Tot (F5000312 (x,(p,f,n,s,fi,ms,bad),fa)) fun y=>∃ i q b,y=(i,(q,f,n,s,fi,ms,b),fa)∧Pl (K+1) q:=by
 unfold F5000312
 refine Tot.cnd (fun h=>Tot.ret ⟨_,_,_,rfl,hp.mono (by omega)⟩) (fun h=>?_)
 simp only [decide_eq_false_iff_not] at h
 refine Tot.bind (t5000326 (by simp only;omega) hp hK) ?_
 rintro _ ⟨i,q,rfl,hq⟩
 exact Tot.ret ⟨_,_,_,rfl,hq⟩
theorem t5000310 {x:List UInt8} {p:List Cst} {f n s:Int} {fa:List Int} {fi:List (Int×Int×Int)} {ms:List Mth} {bad:Bool} {K:Nat} (hp:Pl K p) (hK:K≤900000):Tot (F5000310 (x,(p,f,n,s,fi,ms,bad),fa)) fun y=>∃ i q b,y=(i,(q,f,n,s,fi,ms,b),fa)∧Pl (K+2) q:=by
 unfold F5000310
 refine Tot.bind (t5000312 hp (by omega)) ?_
 rintro _ ⟨i,q,b,rfl,hq⟩
 refine Tot.bind (t5000326 (by simp) hq (by omega)) ?_
 rintro _ ⟨i,q,rfl,hq⟩
 exact Tot.ret ⟨_,_,_,rfl,hq⟩
theorem t6000326 {x:Cst} {p:List Cst} {f n s:Int} {fa:List Int} {fi:List (Int×Int×Int)} {ms:List Mth} {bad:Bool} {K:Nat} (hx:x.2.1.length≤60) (hp:Pl K p) (hK:K≤1000000):Tot (F6000326 (x,(p,f,n,s,fa,ms,bad),fi)) fun y=>∃ i q,y=(i,(q,f,n,s,fa,ms,bad),fi)∧Pl (K+1) q:=by
 obtain ⟨c0,c1,c2,c3⟩:=x
 have hl:=hp.1
 unfold F6000326
 refine Tot.bindE (fun y=>y=((c0,c1,c2,c3),(p,f,n,s,fa,ms,bad),fi)) (Tot.loop (fun z=>z.2=((c0,c1,c2,c3),(p,f,n,s,fa,ms,bad),fi)∧0≤z.1∧z.1≤(p.length:Int)) (fun z=>p.length - z.1.toNat) ?_ ⟨rfl,by simp,by simp⟩) ?_
 ·rintro ⟨i,z⟩ ⟨hz,h0,h1⟩
  simp only at hz h0 h1
  subst hz
  refine Tot.cnd (fun h=>?_) (fun h=>Tot.ret rfl)
  simp only [decide_eq_true_eq] at h
  refine Tot.grd (by simp;omega) (Tot.at (by omega) fun y _=>Tot.cnd (fun _=>?_) fun _=>?_)
  ·exact Tot.ret ⟨_,_,rfl,hp.mono (by omega)⟩
  ·refine Tot.ret ⟨⟨rfl,?_,?_⟩,?_⟩ <;> (simp only;rw [wrapI (by omega) (by omega)];omega)
 ·rintro _ rfl
  exact Tot.grd (by simp;omega) (Tot.ret ⟨_,_,rfl,hp.app hx⟩)
theorem t6000312 {x:List UInt8} {p:List Cst} {f n s:Int} {fa:List Int} {fi:List (Int×Int×Int)} {ms:List Mth} {bad:Bool} {K:Nat} (hp:Pl K p) (hK:K≤1000000):Tot (F6000312 (x,(p,f,n,s,fa,ms,bad),fi)) fun y=>∃ i q b,y=(i,(q,f,n,s,fa,ms,b),fi)∧Pl (K+1) q:=by
 unfold F6000312
 refine Tot.cnd (fun h=>Tot.ret ⟨_,_,_,rfl,hp.mono (by omega)⟩) (fun h=>?_)
 simp only [decide_eq_false_iff_not] at h
 refine Tot.bind (t6000326 (by simp only;omega) hp hK) ?_
 rintro _ ⟨i,q,rfl,hq⟩
 exact Tot.ret ⟨_,_,_,rfl,hq⟩
theorem t6000311 {x:List UInt8} {p:List Cst} {f n s:Int} {fa:List Int} {fi:List (Int×Int×Int)} {ms:List Mth} {bad:Bool}  (hx:x.length≤1000000000000):Tot (F6000311 (x,(p,f,n,s,fa,ms,bad),fi)) fun y=>∃ i b,y=(i,(p,f,n,s,fa,ms,b),fi):=by
 unfold F6000311
 refine Tot.bind (t327 hx) ?_
 rintro i -
 exact Tot.cnd (fun _=>Tot.ret ⟨_,_,rfl⟩) fun _=>Tot.ret ⟨_,_,rfl⟩
theorem t807000326 {x:Cst} {p:List Cst} {f n s:Int} {fa:List Int} {fi:List (Int×Int×Int)} {ms:List Mth} {bad:Bool} {K:Nat} {ri:Nat} {r0 r1 r2 r3 r4:Int} {r5:List UInt8} {r6:List (Int×Int×Int×Int)} {fr:List Frm} (hx:x.2.1.length≤60) (hp:Pl K p) (hK:K≤1000000):Tot (F807000326 (x,(p,f,n,s,fa,fi,bad),(ms,ri,r0,r1,r2,r3,r4,r5,r6),fr)) fun y=>∃ i q,y=(i,(q,f,n,s,fa,fi,bad),(ms,ri,r0,r1,r2,r3,r4,r5,r6),fr)∧Pl (K+1) q:=by
 obtain ⟨c0,c1,c2,c3⟩:=x
 have hl:=hp.1
 unfold F807000326
 refine Tot.bindE (fun y=>y=((c0,c1,c2,c3),(p,f,n,s,fa,fi,bad),(ms,ri,r0,r1,r2,r3,r4,r5,r6),fr)) (Tot.loop (fun z=>z.2=((c0,c1,c2,c3),(p,f,n,s,fa,fi,bad),(ms,ri,r0,r1,r2,r3,r4,r5,r6),fr)∧0≤z.1∧z.1≤(p.length:Int)) (fun z=>p.length - z.1.toNat) ?_ ⟨rfl,by simp,by simp⟩) ?_
 ·rintro ⟨i,z⟩ ⟨hz,h0,h1⟩
  simp only at hz h0 h1
  subst hz
  refine Tot.cnd (fun h=>?_) (fun h=>Tot.ret rfl)
  simp only [decide_eq_true_eq] at h
  refine Tot.grd (by simp;omega) (Tot.at (by omega) fun y _=>Tot.cnd (fun _=>?_) fun _=>?_)
  ·exact Tot.ret ⟨_,_,rfl,hp.mono (by omega)⟩
  ·refine Tot.ret ⟨⟨rfl,?_,?_⟩,?_⟩ <;> (simp only;rw [wrapI (by omega) (by omega)];omega)
 ·rintro _ rfl
  exact Tot.grd (by simp;omega) (Tot.ret ⟨_,_,rfl,hp.app hx⟩)
theorem t807000312 {x:List UInt8} {p:List Cst} {f n s:Int} {fa:List Int} {fi:List (Int×Int×Int)} {ms:List Mth} {bad:Bool} {K:Nat} {ri:Nat} {r0 r1 r2 r3 r4:Int} {r5:List UInt8} {r6:List (Int×Int×Int×Int)} {fr:List Frm} (hp:Pl K p) (hK:K≤1000000):Tot (F807000312 (x,(p,f,n,s,fa,fi,bad),(ms,ri,r0,r1,r2,r3,r4,r5,r6),fr)) fun y=>∃ i q b,y=(i,(q,f,n,s,fa,fi,b),(ms,ri,r0,r1,r2,r3,r4,r5,r6),fr)∧Pl (K+1) q:=by
 unfold F807000312
 refine Tot.cnd (fun h=>Tot.ret ⟨_,_,_,rfl,hp.mono (by omega)⟩) (fun h=>?_)
 simp only [decide_eq_false_iff_not] at h
 refine Tot.bind (t807000326 (by simp only;omega) hp hK) ?_
 rintro _ ⟨i,q,rfl,hq⟩
 exact Tot.ret ⟨_,_,_,rfl,hq⟩
theorem t807000310 {x:List UInt8} {p:List Cst} {f n s:Int} {fa:List Int} {fi:List (Int×Int×Int)} {ms:List Mth} {bad:Bool} {K:Nat} {ri:Nat} {r0 r1 r2 r3 r4:Int} {r5:List UInt8} {r6:List (Int×Int×Int×Int)} {fr:List Frm} (hp:Pl K p) (hK:K≤900000):Tot (F807000310 (x,(p,f,n,s,fa,fi,bad),(ms,ri,r0,r1,r2,r3,r4,r5,r6),fr)) fun y=>∃ i q b,y=(i,(q,f,n,s,fa,fi,b),(ms,ri,r0,r1,r2,r3,r4,r5,r6),fr)∧Pl (K+2) q:=by
 unfold F807000310
 refine Tot.bind (t807000312 hp (by omega)) ?_
 rintro _ ⟨i,q,b,rfl,hq⟩
 refine Tot.bind (t807000326 (by simp) hq (by omega)) ?_
 rintro _ ⟨i,q,rfl,hq⟩
 exact Tot.ret ⟨_,_,_,rfl,hq⟩
theorem t807000311 {x:List UInt8} {p:List Cst} {f n s:Int} {fa:List Int} {fi:List (Int×Int×Int)} {ms:List Mth} {bad:Bool}  {ri:Nat} {r0 r1 r2 r3 r4:Int} {r5:List UInt8} {r6:List (Int×Int×Int×Int)} {fr:List Frm} (hx:x.length≤1000000000000):Tot (F807000311 (x,(p,f,n,s,fa,fi,bad),(ms,ri,r0,r1,r2,r3,r4,r5,r6),fr)) fun y=>∃ i b,y=(i,(p,f,n,s,fa,fi,b),(ms,ri,r0,r1,r2,r3,r4,r5,r6),fr):=by
 unfold F807000311
 refine Tot.bind (t327 hx) ?_
 rintro i -
 exact Tot.cnd (fun _=>Tot.ret ⟨_,_,rfl⟩) fun _=>Tot.ret ⟨_,_,rfl⟩
end Go.Proofs.YtdpapeledldifaaGreat
end
section
namespace Go.Proofs.YtdpapeledldifaaGreat
open Go Go.AM Go.TM
set_option maxRecDepth 10000
def Mb (N:Nat) (m:Mth):Prop:=m.2.2.2.2.2.1.length≤N∧m.2.2.2.2.2.2.1.length≤N∧m.2.2.2.2.2.2.2.length≤N∧∀ f∈m.2.2.2.2.2.2.2,f.2.1.length≤16∧f.2.2.length≤16
def Ms (N:Nat) (l:List Mth):Prop:=l.length≤N∧∀ m∈l,Mb N m
theorem Mb.mono {K L:Nat} {m:Mth} (h:Mb K m) (hc:K≤L):Mb L m:=⟨Nat.le_trans h.1 hc,Nat.le_trans h.2.1 hc,Nat.le_trans h.2.2.1 hc,h.2.2.2⟩
theorem Ms.mono {K L:Nat} {l:List Mth} (h:Ms K l) (hc:K≤L):Ms L l:=⟨Nat.le_trans h.1 hc,fun m hm=>(h.2 m hm).mono hc⟩
theorem Ms.set {K:Nat} {l:List Mth} (h:Ms K l) (i:Nat) {m:Mth} (hm:Mb K m):Ms K (l.set i m):=by
 refine ⟨by rw [List.length_set];exact h.1,fun x hx=>?_⟩
 rcases List.mem_or_eq_of_mem_set hx with hx | rfl
 ·exact h.2 x hx
 ·exact hm
theorem Ms.app {K:Nat} {l:List Mth} (h:Ms K l) {m:Mth} (hm:Mb K m):Ms (K+1) (l++[m]):=by
 refine ⟨by have:=h.1;simp only [List.length_append,List.length_cons,List.length_nil];omega,fun y hy=>?_⟩
 simp only [List.mem_append,List.mem_singleton] at hy
 rcases hy with hy | rfl
 ·exact (h.2 y hy).mono (by omega)
 ·exact hm.mono (by omega)
theorem q315 {ms:List Mth} (h1:1≤ms.length) (h2:ms.length≤1000000) (p:List Cst) (f n s:Int) (fa:List Int) (fi:List (Int×Int×Int)) (bad:Bool):F315 (p,f,n,s,fa,fi,ms,bad)=some (ms.length - 1,ms,p,f,n,s,fa,fi,bad):=by
 have e:IntKind.wrap .i64 ((ms.length:Int) - 1)=(ms.length:Int) - 1:=wrapI (by omega) (by omega)
 have g:(decide ((0:Int)≤(ms.length:Int) - 1) && decide ((ms.length:Int) - 1<(ms.length:Int)))=true:=by simp;omega
 have t:((ms.length:Int) - 1).toNat=ms.length - 1:=by omega
 simp only [F315,e,g,t,grdO_t]
theorem q7000315 {ms:List Mth} (h1:1≤ms.length) (h2:ms.length≤1000000) (p:List Cst) (f n s:Int) (fa:List Int) (fi:List (Int×Int×Int)) (bad:Bool):F7000315 ((p,f,n,s,fa,fi,bad),ms)=some (ms.length - 1,(p,f,n,s,fa,fi,bad),ms):=by
 have e:IntKind.wrap .i64 ((ms.length:Int) - 1)=(ms.length:Int) - 1:=wrapI (by omega) (by omega)
 have g:(decide ((0:Int)≤(ms.length:Int) - 1) && decide ((ms.length:Int) - 1<(ms.length:Int)))=true:=by simp;omega
 have t:((ms.length:Int) - 1).toNat=ms.length - 1:=by omega
 simp only [F7000315,e,g,t,grdO_t]
theorem t324 {k:Int} {a b c:List UInt8} {p:List Cst} {f n s:Int} {fa:List Int} {fi:List (Int×Int×Int)} {ms:List Mth} {bad:Bool} {K:Nat} (hp:Pl K p) (hK:K≤900000) :
  Tot (F324 (k,a,b,c,p,f,n,s,fa,fi,ms,bad)) fun y=>∃ i q b,y=(i,q,f,n,s,fa,fi,ms,b)∧Pl (K+6) q:=by
 unfold F324
 refine Tot.bind (t310 hp hK) ?_
 rintro _ ⟨_,q,_,rfl,hq⟩
 refine Tot.bind (t312 hq (by omega)) ?_
 rintro _ ⟨_,q,_,rfl,hq⟩
 refine Tot.bind (t312 hq (by omega)) ?_
 rintro _ ⟨_,q,_,rfl,hq⟩
 refine Tot.bind (t326 (by simp) hq (by omega)) ?_
 rintro _ ⟨_,q,rfl,hq⟩
 refine Tot.bind (t326 (by simp) hq (by omega)) ?_
 rintro _ ⟨_,q,rfl,hq⟩
 exact Tot.ret ⟨_,_,_,rfl,hq⟩
theorem t291 (n:Int):Tot (F291 n) fun _=>True:=by
 unfold F291
 refine Tot.bindE (fun _=>True) ?_ ?_
 ·exact Tot.cnd (fun _=>Tot.ret trivial) fun _=>Tot.cnd (fun _=>Tot.ret trivial) fun _=>Tot.ret trivial
 rintro ⟨_,_⟩ -
 refine Tot.cnd (fun _=>Tot.ret trivial) fun _=>Tot.bindE (fun _=>True) ?_ ?_
 ·exact Tot.cnd (fun _=>Tot.ret trivial) fun _=>Tot.cnd (fun _=>Tot.ret trivial) fun _=>Tot.cnd (fun _=>Tot.ret trivial) fun _=>Tot.ret trivial
 rintro ⟨_,_⟩ -
 refine Tot.cnd (fun _=>Tot.ret trivial) fun _=>Tot.bindE (fun _=>True) ?_ ?_
 ·exact Tot.cnd (fun _=>Tot.ret trivial) fun _=>Tot.cnd (fun _=>Tot.ret trivial) fun _=>Tot.ret trivial
 rintro ⟨_,_⟩ -
 exact Tot.cnd (fun _=>Tot.ret trivial) fun _=>Tot.cnd (fun _=>Tot.ret trivial) fun _=>Tot.ret trivial
theorem t134 (n:Int):Tot (F134 n) fun y=>y.length=1:=by
 unfold F134
 exact Tot.grd (u8ok _) (Tot.ret rfl)
theorem t136 (n:Int):Tot (F136 n) fun y=>y.length=2:=by
 unfold F136
 exact Tot.grd (u8ok _) (Tot.grd (u8ok _) (Tot.ret rfl))
theorem t194 (x:Int×Int×Int):Tot (F194 [x]) fun y=>y.length≤3:=by
 unfold F194
 refine Tot.bindE (fun y=>y.length≤3) (Tot.loop (fun z=>z.1=[x]∧((z.2.2=0∧z.2.1.length=0)∨(z.2.2=1∧z.2.1.length≤3))) (fun z=>1 - z.2.2.toNat) ?_ ⟨rfl,.inl ⟨rfl,rfl⟩⟩) fun y hy=>Tot.ret hy
 rintro ⟨l,out,i⟩ ⟨hl,hi⟩
 simp only at hl hi
 subst hl
 refine Tot.cnd (fun h=>?_) fun h=>Tot.ret (by show out.length≤3;omega)
 simp only [decide_eq_true_eq,List.length_cons,List.length_nil] at h
 have h0:i=0∧out.length=0:=by omega
 obtain ⟨rfl,ho⟩:=h0
 refine Tot.grd (by simp) (Tot.at' (x:=x) rfl (Tot.bind (t134 _) fun y hy=>Tot.grd (by simp;omega) (Tot.bind (t251 _) fun y1 _=>?_)))
 refine Tot.bindE (fun w=>w.1=[x]∧w.2.1.length≤3∧w.2.2=0) ?_ ?_
 ·refine Tot.cnd (fun _=>Tot.bind (t134 _) fun z hz=>Tot.grd (by simp;omega) (Tot.ret ⟨rfl,by simp;omega,rfl⟩)) fun _=>Tot.cnd (fun _=>Tot.bind (t136 _) fun z hz=>Tot.grd (by simp;omega) (Tot.ret ⟨rfl,by simp;omega,rfl⟩)) fun _=>Tot.ret ⟨rfl,by simp;omega,rfl⟩
 ·rintro ⟨l,out,i⟩ ⟨rfl,ho,rfl⟩
  exact Tot.ret ⟨⟨rfl,.inr ⟨rfl,ho⟩⟩,by show 1 - (IntKind.wrap .i64 (0+1)).toNat<1 - (0:Int).toNat;rw [wrapI (by omega) (by omega)];decide⟩
end Go.Proofs.YtdpapeledldifaaGreat
end
section
namespace Go.Proofs.YtdpapeledldifaaGreat
open Go Go.AM Go.TM
set_option maxRecDepth 10000
theorem t309 {v:List (List UInt8)} {p:List Cst} {f n s:Int} {fa:List Int} {fi:List (Int×Int×Int)} {ms:List Mth} {bad:Bool} {K:Nat} (hv:1≤v.length) (hv2:v.length≤10) (hvt:∀ x∈v,x.length≤1000000000000) (hp:Pl K p) (hm:Ms K ms) (hK:K≤900000) :
  Tot (F309 (v,p,f,n,s,fa,fi,ms,bad)) fun y=>∃ q ms' b,y=(q,f,n,s,fa,fi,ms',b)∧Pl (K+10) q∧Ms (K+10) ms':=by
 obtain ⟨x,e0⟩:∃ x,v[0]? = some x:=⟨v[0],List.getElem?_eq_getElem hv⟩
 obtain ⟨y,ey,hy⟩:Tot (F302 ()) fun y=>y.length≤100:=Tot.ret (by decide)
 obtain ⟨y1,e1,-⟩:=t301 (list:=y) (s:=x) (by omega)
 have hl:=hm.1
 have hat:∀ i (h:i<v.length),v[i].length≤1000000000000:=fun i h=>hvt _ (List.getElem_mem h)
 simp only [F309,atO_of e0,ey,e1,bindO_s,eq_self,decide_true,Bool.and_true,grdO_t,seqU_s,both_same]
 refine Tot.bindE (fun z=>z=(v,(0,y1,0),p,f,n,s,fa,fi,ms,bad)∧1≤ms.length) ?_ ?_
 ·refine Tot.cnd (fun _=>Tot.ret ⟨_,_,_,rfl,hp.mono (by omega),hm.mono (by omega)⟩) fun h=>Tot.cnd (fun _=>Tot.ret ⟨_,_,_,rfl,hp.mono (by omega),hm.mono (by omega)⟩) fun _=>?_
  simp only [decide_eq_false_iff_not] at h
  exact Tot.ret ⟨rfl,by omega⟩
 rintro _ ⟨rfl,h1⟩
 refine Tot.bind (t291 _) ?_
 rintro y2 -
 refine Tot.bindE (fun z=>∃ a b c q bd,z=((a,b,c),q,f,n,s,fa,fi,ms,bd)∧Pl (K+10) q) ?_ ?_
 ·refine Tot.bindE (fun z=>∃ b,z=(v,y2,b,(0,y1,0),p,f,n,s,fa,fi,ms,bad)∧(b=true→v.length=2)) ?_ ?_
  ·exact Tot.cnd (fun _=>Tot.ret ⟨_,rfl,fun h=>by simp only [decide_eq_true_eq] at h;omega⟩) fun _=>Tot.ret ⟨_,rfl,by simp⟩
  rintro _ ⟨b,rfl,hb⟩
  refine Tot.cnd (fun h=>?_) fun _=>?_
  ·have:=hb h
   refine Tot.at (by show _<v.length;omega) fun z _=>Tot.bind (t310 hp hK) ?_
   rintro _ ⟨i,q,b,rfl,hq⟩
   exact Tot.ret ⟨_,_,_,_,_,rfl,hq.mono (by omega)⟩
  refine Tot.bindE (fun z=>∃ b,z=(v,y2,b,(0,y1,0),p,f,n,s,fa,fi,ms,bad)∧(b=true→v.length=4)) ?_ ?_
  ·exact Tot.cnd (fun _=>Tot.ret ⟨_,rfl,fun h=>by simp only [decide_eq_true_eq] at h;omega⟩) fun _=>Tot.ret ⟨_,rfl,by simp⟩
  rintro _ ⟨b,rfl,hb⟩
  refine Tot.cnd (fun h=>?_) fun _=>?_
  ·have:=hb h
   refine Tot.at (by show _<v.length;omega) fun z _=>Tot.at (by show _<v.length;omega) fun z2 _=>Tot.at (by show _<v.length;omega) fun z3 _=>Tot.bind (t324 hp hK) ?_
   rintro _ ⟨i,q,b,rfl,hq⟩
   exact Tot.ret ⟨_,_,_,_,_,rfl,hq.mono (by omega)⟩
  refine Tot.bindE (fun z=>∃ b,z=(v,y2,b,(0,y1,0),p,f,n,s,fa,fi,ms,bad)∧(b=true→v.length=2)) ?_ ?_
  ·exact Tot.cnd (fun _=>Tot.ret ⟨_,rfl,fun h=>by simp only [decide_eq_true_eq] at h;omega⟩) fun _=>Tot.ret ⟨_,rfl,by simp⟩
  rintro _ ⟨b,rfl,hb⟩
  refine Tot.cnd (fun h=>?_) fun _=>?_
  ·have:=hb h
   refine Tot.at (by show _<v.length;omega) fun z hz=>Tot.bind (t325 (hvt _ (List.mem_of_getElem? hz))) ?_
   rintro ⟨y3,y4⟩ -
   exact Tot.cnd (fun _=>Tot.ret ⟨_,_,_,_,_,rfl,hp.mono (by omega)⟩) fun _=>Tot.ret ⟨_,_,_,_,_,rfl,hp.mono (by omega)⟩
  refine Tot.bindE (fun z=>∃ b,z=(v,y2,b,(0,y1,0),p,f,n,s,fa,fi,ms,bad)∧(b=true→v.length=2)) ?_ ?_
  ·refine Tot.cnd (fun _=>Tot.bind (t251 _) fun _ _=>Tot.cnd (fun _=>Tot.ret ⟨_,rfl,fun h=>by simp only [decide_eq_true_eq] at h;omega⟩) fun _=>Tot.ret ⟨_,rfl,by simp⟩) fun _=>Tot.ret ⟨_,rfl,by simp⟩
  rintro _ ⟨b,rfl,hb⟩
  refine Tot.cnd (fun h=>?_) fun _=>?_
  ·have:=hb h
   refine Tot.at (by show _<v.length;omega) fun z hz=>Tot.bind (t311 (hvt _ (List.mem_of_getElem? hz))) ?_
   rintro _ ⟨i,b,rfl⟩
   exact Tot.ret ⟨_,_,_,_,_,rfl,hp.mono (by omega)⟩
  refine Tot.cnd (fun _=>Tot.bind (t251 _) fun _ _=>Tot.cnd (fun _=>Tot.cnd (fun _=>?_) fun _=>?_) fun _=>?_) fun _=>?_
  ·exact Tot.ret ⟨_,_,_,_,_,rfl,hp.mono (by omega)⟩
  ·exact Tot.ret ⟨_,_,_,rfl,hp.mono (by omega),hm.mono (by omega)⟩
  ·exact Tot.ret ⟨_,_,_,rfl,hp.mono (by omega),hm.mono (by omega)⟩
  ·exact Tot.ret ⟨_,_,_,rfl,hp.mono (by omega),hm.mono (by omega)⟩
 rintro _ ⟨a,b,c,q,bd,rfl,hq⟩
 refine Tot.bind (t107 _ _ _) fun y3 _=>Tot.cnd (fun _=>Tot.ret ⟨_,_,_,rfl,hq,hm.mono (by omega)⟩) fun _=>?_
 obtain ⟨m,em⟩:∃ m,ms[ms.length - 1]? = some m:=⟨ms[ms.length - 1],List.getElem?_eq_getElem (by omega)⟩
 have hmb:=hm.2 m (List.mem_of_getElem? em)
 obtain ⟨code,ec,hc⟩:=t194 (a,b,c)
 have g:decide ((((List.length m.2.2.2.2.2.1:Nat):Int)+((List.length code:Nat):Int))≤9223372036854775807)=true:=by
  have:=hmb.1;simp only [decide_eq_true_eq];omega
 have g':decide (List.length m.2.2.2.2.2.1+List.length code≤9223372036854775807)=true:=by
  have:=hmb.1;simp only [decide_eq_true_eq];omega
 simp only [q315 h1 (show ms.length≤1000000 by omega),q7000315 h1 (show ms.length≤1000000 by omega),bindO_s,atO_of em,ec,eq_self,decide_true,Bool.and_true,beq_self_eq_true,grdO_t,seqU_s,g,g',both_same]
 refine Tot.ret ⟨_,_,_,rfl,hq,(hm.mono (by omega)).set _ ?_⟩
 obtain ⟨k1,k2,k3,k4⟩:=hmb
 exact ⟨by simp only [List.length_append];omega,by simp only;omega,by simp only;omega,k4⟩
end Go.Proofs.YtdpapeledldifaaGreat
end
section
namespace Go.Proofs.YtdpapeledldifaaGreat
open Go Go.AM Go.TM
set_option maxRecDepth 10000
theorem t108 (f:Int) {k:Int} (hk:(!decide (k=0))=true):Tot (F108 (f,k)) fun _=>True:=by
 unfold F108
 exact Tot.grd hk (Tot.ret trivial)
theorem t313 {w:List (List UInt8)} {p:List Cst} {f n s:Int} {fa:List Int} {fi:List (Int×Int×Int)} {ms:List Mth} {bad:Bool} {K:Nat} (hw:w.length=4∨w.length=6) (hwt:∀ x∈w,x.length≤1000000000000) (hp:Pl K p) (hm:Ms K ms) (hK:K≤900000) :
  Tot (F313 (w,p,f,n,s,fa,fi,ms,bad)) fun y=>∃ q ms' b,y=(q,f,n,s,fa,fi,ms',b)∧Pl (K+10) q∧Ms (K+10) ms':=by
 have hl:=hm.1
 obtain ⟨x1,e1⟩:∃ x,w[1]? = some x:=⟨w[1],List.getElem?_eq_getElem (by omega)⟩
 obtain ⟨x2,e2⟩:∃ x,w[2]? = some x:=⟨w[2],List.getElem?_eq_getElem (by omega)⟩
 obtain ⟨x3,e3⟩:∃ x,w[3]? = some x:=⟨w[3],List.getElem?_eq_getElem (by omega)⟩
 obtain ⟨_,c1,i1,q1,b1,rfl,hq1⟩:=t312 (x:=x1) (f:=f) (n:=n) (s:=s) (fa:=fa) (fi:=fi) (ms:=ms) (bad:=bad) hp (by omega)
 obtain ⟨_,c2,i2,q2,b2,rfl,hq2⟩:=t312 (x:=x2) (f:=f) (n:=n) (s:=s) (fa:=fa) (fi:=fi) (ms:=ms) (bad:=b1) hq1 (by omega)
 obtain ⟨_,c3,i3,b3,rfl⟩:=t311 (x:=x3) (p:=q2) (f:=f) (n:=n) (s:=s) (fa:=fa) (fi:=fi) (ms:=ms) (bad:=b2) (hwt _ (List.mem_of_getElem? e3))
 simp only [F313,atO_of e1,atO_of e2,atO_of e3,c1,c2,c3,bindO_s,eq_self,decide_true,Bool.and_true,grdO_t,seqU_s,both_same]
 refine Tot.bindE (fun z=>∃ d e b,z=(w,(i3,i1,i2,d,e,[],[],[]),q2,f,n,s,fa,fi,ms,b)) ?_ ?_
 ·refine Tot.cnd (fun h=>?_) fun _=>Tot.ret ⟨_,_,_,rfl⟩
  simp only [decide_eq_true_eq] at h
  refine Tot.at (by omega) fun z hz=>Tot.bind (t311 (hwt _ (List.mem_of_getElem? hz))) ?_
  rintro _ ⟨_,b,rfl⟩
  refine Tot.at (by omega) fun z hz=>Tot.bind (t311 (hwt _ (List.mem_of_getElem? hz))) ?_
  rintro _ ⟨_,b,rfl⟩
  exact Tot.ret ⟨_,_,_,rfl⟩
 rintro _ ⟨d,e,b,rfl⟩
 refine Tot.bindE (fun z=>∃ b,z=((i3,i1,i2,d,e,[],[],[]),q2,f,n,s,fa,fi,ms,b)) ?_ ?_
 ·exact Tot.bind (t108 _ (by decide)) fun _ _=>Tot.cnd (fun _=>Tot.ret ⟨_,rfl⟩) fun _=>Tot.ret ⟨_,rfl⟩
 rintro _ ⟨b,rfl⟩
 refine Tot.grd (by simp;omega) (Tot.ret ⟨_,_,_,rfl,hq2.mono (by omega),(hm.app ?_).mono (by omega)⟩)
 exact ⟨by simp,by simp,by simp,by simp⟩
theorem t314 {w:List (List UInt8)} {p:List Cst} {f n s:Int} {fa:List Int} {fi:List (Int×Int×Int)} {ms:List Mth} {bad:Bool} {K:Nat} (hw:w.length=5) (h1:1≤ms.length) (hwt:∀ x∈w,x.length≤1000000000000) (hp:Pl K p) (hm:Ms K ms) (hK:K≤900000) :
  Tot (F314 (w,p,f,n,s,fa,fi,ms,bad)) fun y=>∃ q ms' b,y=(q,f,n,s,fa,fi,ms',b)∧Pl (K+10) q∧Ms (K+10) ms':=by
 have hl:=hm.1
 obtain ⟨x1,e1⟩:∃ x,w[1]? = some x:=⟨w[1],List.getElem?_eq_getElem (by omega)⟩
 obtain ⟨x2,e2⟩:∃ x,w[2]? = some x:=⟨w[2],List.getElem?_eq_getElem (by omega)⟩
 obtain ⟨x3,e3⟩:∃ x,w[3]? = some x:=⟨w[3],List.getElem?_eq_getElem (by omega)⟩
 obtain ⟨x4,e4⟩:∃ x,w[4]? = some x:=⟨w[4],List.getElem?_eq_getElem (by omega)⟩
 obtain ⟨_,c1,i1,b1,rfl⟩:=t311 (x:=x1) (p:=p) (f:=f) (n:=n) (s:=s) (fa:=fa) (fi:=fi) (ms:=ms) (bad:=bad) (hwt _ (List.mem_of_getElem? e1))
 obtain ⟨_,c2,i2,b2,rfl⟩:=t311 (x:=x2) (p:=p) (f:=f) (n:=n) (s:=s) (fa:=fa) (fi:=fi) (ms:=ms) (bad:=b1) (hwt _ (List.mem_of_getElem? e2))
 obtain ⟨_,c3,i3,b3,rfl⟩:=t311 (x:=x3) (p:=p) (f:=f) (n:=n) (s:=s) (fa:=fa) (fi:=fi) (ms:=ms) (bad:=b2) (hwt _ (List.mem_of_getElem? e3))
 simp only [F314,atO_of e1,atO_of e2,atO_of e3,atO_of e4,c1,c2,c3,bindO_s,eq_self,decide_true,Bool.and_true,grdO_t,seqU_s,both_same]
 refine Tot.bindE (fun z=>∃ a q b,z=((i1,i2,i3,a),q,f,n,s,fa,fi,ms,b)∧Pl (K+10) q) ?_ ?_
 ·refine Tot.cnd (fun h=>?_) fun _=>Tot.ret ⟨_,_,_,rfl,hp.mono (by omega)⟩
  refine Tot.bind (t310 hp hK) ?_
  rintro _ ⟨i,q,b,rfl,hq⟩
  exact Tot.ret ⟨_,_,_,rfl,hq.mono (by omega)⟩
 rintro _ ⟨a,q,b,rfl,hq⟩
 obtain ⟨m,em⟩:∃ m,ms[ms.length - 1]? = some m:=⟨ms[ms.length - 1],List.getElem?_eq_getElem (by omega)⟩
 have hmb:=hm.2 m (List.mem_of_getElem? em)
 have hlt:decide (ms.length - 1<ms.length)=true:=by simp only [decide_eq_true_eq];omega
 have g:(decide (List.length m.2.2.2.2.2.2.1+1≤9223372036854775807) && decide ((List.length m.2.2.2.2.2.2.1+1)*32≤140737488355328))=true:=by
  have:=hmb.2.1;simp only [Bool.and_eq_true,decide_eq_true_eq];omega
 simp only [q315 h1 (show ms.length≤1000000 by omega),q7000315 h1 (show ms.length≤1000000 by omega),bindO_s,atO_of em,eq_self,decide_true,Bool.and_true,Bool.true_and,beq_self_eq_true,hlt,grdO_t,seqU_s,g,both_same]
 refine Tot.ret ⟨_,_,_,rfl,hq,(hm.mono (by omega)).set _ ?_⟩
 obtain ⟨k1,k2,k3,k4⟩:=hmb
 exact ⟨by simp only;omega,by simp only [List.length_append,List.length_cons,List.length_nil];omega,by simp only;omega,k4⟩
end Go.Proofs.YtdpapeledldifaaGreat
end
section
namespace Go.TM
open Go.AM
section
variable {σ α β:Type}
def Sm (Re:σ→Option (List UInt8)→Prop) (r:Option (α×σ)) (m:Option (α×List UInt8)):Prop :=
 ∃ v s,r=some (v,s)∧Re s (m.map (·.2))∧∀ v' l,m=some (v',l)→v=v'
variable {Re:σ→Option (List UInt8)→Prop}
theorem Sm.bind {r : Option (α × σ)} {m : Option (α × List UInt8)} {k : α × σ → Option (β × σ)} {k' : α → List UInt8 → Option (β × List UInt8)} (h : Sm Re r m)
  (hk : ∀ v s st, Re s st → (∀ l, st = some l → m = some (v, l)) → Sm Re (k (v, s)) (st.bind (k' v))) : Sm Re (bindO r k) (m.bind fun p => k' p.1 p.2) := by
 obtain ⟨v, s, rfl, h1, h2⟩ := h
 rw [bindO_s]
 have := hk v s (m.map (·.2)) h1 (by
  intro l hl
  cases m with
  | none => cases hl
  | some p => obtain ⟨a, b⟩ := p; simp only [Option.map_some, Option.some.injEq] at hl; subst hl; rw [h2 a b rfl])
 cases m with
 | none => exact this
 | some p =>
  obtain ⟨a, b⟩ := p
  have e := h2 a b rfl
  subst e
  exact this
theorem Sm.ret {s:σ} {st:Option (List UInt8)} (h:Re s st) (v:α):Sm Re (some (v,s)) (st.bind fun l=>some (v,l)):=by
 refine ⟨v,s,rfl,?_,fun v' l hl=>?_⟩
 ·cases st with
  | none=>exact h
  | some l=>exact h
 ·cases st with
  | none=>cases hl
  | some l=>simp only [Option.bind_some,Option.some.injEq,Prod.mk.injEq] at hl;exact hl.1
def gRep (g:List UInt8→Option (β×List UInt8)):Nat→List UInt8→Option (List β×List UInt8)
 | 0,l=>some ([],l)
 | n+1,l=>(g l).bind fun p=>(gRep g n p.2).bind fun q=>some (p.1 :: q.1,q.2)
theorem gRep_len {g : List UInt8 → Option (β × List UInt8)} : ∀ (n : Nat) (l : List UInt8) (vs : List β) (l' : List UInt8), gRep g n l = some (vs, l') → vs.length = n
 | 0, l, vs, l', h => by simp only [gRep, Option.some.injEq, Prod.mk.injEq] at h; rw [← h.1]; rfl
 | n + 1, l, vs, l', h => by
  simp only [gRep] at h
  cases hg : g l with
  | none => rw [hg] at h; cases h
  | some p =>
   rw [hg] at h
   simp only [Option.bind_some] at h
   cases hr : gRep g n p.2 with
   | none => rw [hr] at h; cases h
   | some q =>
    rw [hr] at h
    simp only [Option.bind_some, Option.some.injEq, Prod.mk.injEq] at h
    rw [← h.1, List.length_cons, gRep_len n p.2 q.1 q.2 hr]
theorem gRep_all {g : List UInt8 → Option (β × List UInt8)} {P : β → Prop} (hg : ∀ l v l', g l = some (v, l') → P v) : ∀ (n : Nat) (l : List UInt8) (vs : List β) (l' : List UInt8), gRep g n l = some (vs, l') → ∀ v ∈ vs, P v
 | 0, l, vs, l', h => by simp only [gRep, Option.some.injEq, Prod.mk.injEq] at h; rw [← h.1]; simp
 | n + 1, l, vs, l', h => by
  simp only [gRep] at h
  cases hgl : g l with
  | none => rw [hgl] at h; cases h
  | some p =>
   rw [hgl] at h
   simp only [Option.bind_some] at h
   cases hr : gRep g n p.2 with
   | none => rw [hr] at h; cases h
   | some q =>
    rw [hr] at h
    simp only [Option.bind_some, Option.some.injEq, Prod.mk.injEq] at h
    rw [← h.1]
    intro v hv
    simp only [List.mem_cons] at hv
    rcases hv with rfl | hv
    ·exact hg l _ _ hgl
    ·exact gRep_all hg n p.2 q.1 q.2 hr v hv
theorem loop_sim {X Y : Type} {f : X → Option (X ⊕ Y)} (mk : List β → Nat → σ → X) (fin : List β → σ → Y) (n : Nat) (g : List UInt8 → Option (β × List UInt8))
  (hbad : ∀ out i s, i ≤ n → Re s none → f (mk out i s) = some (.inr (fin out s)))
  (hend : ∀ out s l, Re s (some l) → f (mk out n s) = some (.inr (fin out s)))
  (hstep : ∀ out i s l, i < n → out.length = i → Re s (some l) → ∃ v s', f (mk out i s) = some (.inl (mk (out ++ [v]) (i + 1) s')) ∧ Re s' ((g l).map (·.2)) ∧ ∀ v' l', g l = some (v', l') → v = v') :
  ∀ (out : List β) (i : Nat) (s : σ) (st : Option (List UInt8)), i ≤ n → (∀ l, st = some l → out.length = i) → Re s st →
   ∃ out' s', whileO f (mk out i s) = some (fin out' s') ∧ Re s' ((st.bind (gRep g (n - i))).map (·.2)) ∧ ∀ vs l', st.bind (gRep g (n - i)) = some (vs, l') → out' = out ++ vs := by
 intro out i s st hi
 generalize hm : n - i = m
 induction m generalizing out i s st with
 | zero =>
  intro ho h
  have : i = n := by omega
  subst this
  rw [whileO_eq]
  cases st with
  | none => rw [hbad out i s hi h]; exact ⟨out, s, rfl, h, fun _ _ h => by cases h⟩
  | some l =>
   rw [hend out s l h]
   exact ⟨out, s, rfl, h, fun vs l' h => by simp only [Option.bind_some, gRep, Option.some.injEq, Prod.mk.injEq] at h; simp [← h.1]⟩
 | succ m ih =>
  intro ho h
  rw [whileO_eq]
  cases st with
  | none => rw [hbad out i s hi h]; exact ⟨out, s, rfl, h, fun _ _ h => by cases h⟩
  | some l =>
   obtain ⟨v, s', h1, h2, h3⟩ := hstep out i s l (by omega) (ho l rfl) h
   rw [h1]
   obtain ⟨out', s'', q1, q2, q3⟩ := ih (out ++ [v]) (i + 1) s' ((g l).map (·.2)) (by omega) (by omega) (by intro l' hl; simp [ho l rfl]) h2
   refine ⟨out', s'', q1, ?_, fun vs l' hv => ?_⟩
   ·cases hg : g l with
    | none => rw [hg] at q2; simpa [gRep, hg] using q2
    | some p =>
     rw [hg] at q2
     simp only [Option.map_some, Option.bind_some] at q2
     simp only [Option.bind_some, gRep, hg]
     cases hr : gRep g m p.2 with
     | none => rw [hr] at q2; exact q2
     | some q => rw [hr] at q2; exact q2
   ·cases hg : g l with
    | none => simp [gRep, hg] at hv
    | some p =>
     obtain ⟨a, b⟩ := p
     have e := h3 a b hg
     subst e
     rw [hg] at q3
     simp only [Option.map_some, Option.bind_some] at q3
     simp only [Option.bind_some, gRep, hg] at hv
     cases hr : gRep g m b with
     | none => rw [hr] at hv; cases hv
     | some q =>
      rw [hr] at hv
      simp only [Option.bind_some, Option.some.injEq, Prod.mk.injEq] at hv
      rw [q3 q.1 q.2 hr, ← hv.1]
      simp
end
def g1:List UInt8→Option (Int×List UInt8)
 | []=>none
 | x :: l=>some ((x.toNat:Int),l)
def g2 (l:List UInt8):Option (Int×List UInt8):=(g1 l).bind fun p=>(g1 p.2).bind fun q=>some (p.1*256+q.1,q.2)
def gT (n:Int) (l:List UInt8):Option (List UInt8×List UInt8):=if n≤l.length then some (l.take n.toNat,l.drop n.toNat) else none
theorem g1_ran {l l' : List UInt8} {v : Int} (h : g1 l = some (v, l')) : 0 ≤ v ∧ v ≤ 255 := by
 cases l with
 | nil => cases h
 | cons x l =>
  simp only [g1, Option.some.injEq, Prod.mk.injEq] at h
  have := x.toNat_lt
  omega
theorem g2_ran {l l' : List UInt8} {v : Int} (h : g2 l = some (v, l')) : 0 ≤ v ∧ v ≤ 65535 := by
 unfold g2 at h
 cases h1 : g1 l with
 | none => rw [h1] at h; cases h
 | some p =>
  rw [h1] at h
  simp only [Option.bind_some] at h
  cases h2 : g1 p.2 with
  | none => rw [h2] at h; cases h
  | some q =>
   rw [h2] at h
   simp only [Option.bind_some, Option.some.injEq, Prod.mk.injEq] at h
   have := g1_ran (l := l) (v := p.1) (l' := p.2) h1
   have := g1_ran (l := p.2) (v := q.1) (l' := q.2) h2
   omega
end Go.TM
end
section
namespace Go.Proofs.YtdpapeledldifaaGreat
open Go Go.AM Go.TM
def Re3 (s0:List UInt8) (p:List UInt8×Int×Bool) (st:Option (List UInt8)):Prop :=
 p.1=s0∧0≤p.2.1∧p.2.1≤s0.length∧s0.length≤900∧(st=none→p.2.2=true)∧∀ l,st=some l→p.2.2=false∧l=s0.drop p.2.1.toNat
def Re2 (p:List UInt8×Bool) (st:Option (List UInt8)):Prop :=
 p.1.length≤900∧(st=none→p.2=true)∧∀ l,st=some l→p.2=false∧l=p.1
theorem wI {x:Int} (h1 : -9223372036854775808≤x) (h2:x≤9223372036854775807):IntKind.wrap .i64 x=x:=AM.wrapI h1 h2
theorem Re3.bad {s0:List UInt8} {p:List UInt8×Int×Bool} {st:Option (List UInt8)} (h:Re3 s0 p st):Re3 s0 (p.1,p.2.1,true) none:=⟨h.1,h.2.1,h.2.2.1,h.2.2.2.1,fun _=>rfl,fun _ h=>by cases h⟩
theorem Re2.bad {p:List UInt8×Bool} {st:Option (List UInt8)} (h:Re2 p st):Re2 (p.1,true) none:=⟨h.1,fun _=>rfl,fun _ h=>by cases h⟩
theorem s221 {s0 : List UInt8} (s : List UInt8 × Int × Bool) (st : Option (List UInt8)) (h : Re3 s0 s st) : Sm (Re3 s0) (F221 s) (st.bind g1) := by
 obtain ⟨o0, o1, o2⟩ := s
 obtain ⟨h1, h2, h3, h4, h5, h6⟩ := h
 simp only at h1 h2 h3 h5 h6
 subst h1
 cases st with
 | none =>
  have := h5 rfl
  subst this
  refine ⟨0, (o0, o1, true), rfl, ⟨rfl, h2, h3, h4, fun _ => rfl, fun _ h => by cases h⟩, fun _ _ h => by cases h⟩
 | some l =>
  obtain ⟨rfl, rfl⟩ := h6 l rfl
  simp only [F221, cndO_f, bindE_l, cndO_d]
  by_cases hl : (o0.length : Int) ≤ o1
  ·rw [if_pos hl]
   have : o0.drop o1.toNat = [] := List.drop_eq_nil_of_le (by omega)
   refine ⟨_, _, rfl, ?_, ?_⟩
   ·simp only [Option.bind_some, this, g1, Option.map_none]
    exact ⟨rfl, h2, h3, h4, fun _ => rfl, fun _ h => by cases h⟩
   ·intro v' l' hv
    simp [this, g1] at hv
  ·rw [if_neg hl]
   rw [wI (x := o1 + 1) (by omega) (by omega), wI (x := o1 + 1 - 1) (by omega) (by omega), show o1 + 1 - 1 = o1 by omega]
   have hn : o1.toNat < o0.length := by omega
   rw [grdO_d h2, atO_get hn]
   have hr := o0[o1.toNat].toNat_lt
   rw [wI (by omega) (by omega)]
   refine ⟨_, _, rfl, ?_, ?_⟩
   ·simp only [Option.bind_some, drop_cons hn, g1, Option.map_some]
    refine ⟨rfl, by simp only; omega, by simp only; omega, h4, (fun h => by cases h), fun l h => ⟨rfl, ?_⟩⟩
    simp only [Option.some.injEq] at h
    rw [← h]
    simp only
    rw [show (o1 + 1).toNat = o1.toNat + 1 by omega]
   ·intro v' l' hv
    simp only [Option.bind_some, drop_cons hn, g1, Option.some.injEq, Prod.mk.injEq] at hv
    exact hv.1
theorem s222 {s0 : List UInt8} (s : List UInt8 × Int × Bool) (st : Option (List UInt8)) (h : Re3 s0 s st) : Sm (Re3 s0) (F222 s) (st.bind g2) := by
 have e : st.bind g2 = (st.bind g1).bind fun p => (g1 p.2).bind fun q => some (p.1 * 256 + q.1, q.2) := by cases st <;> rfl
 rw [e]
 refine Sm.bind (k' := fun a l => (g1 l).bind fun q => some (a * 256 + q.1, q.2)) (s221 s st h) fun v s1 st1 h1 e1 => ?_
 have e : (st1.bind fun l => (g1 l).bind fun q => some (v * 256 + q.1, q.2)) = (st1.bind g1).bind fun q => some (v * 256 + q.1, q.2) := by cases st1 <;> rfl
 rw [e]
 refine Sm.bind (k' := fun a l => some (v * 256 + a, l)) (s221 s1 st1 h1) fun v2 s2 st2 h2 e2 => ?_
 cases st2 with
 | none => exact ⟨_, _, rfl, h2, fun _ _ h => by cases h⟩
 | some l2 =>
  have q2 := e2 l2 rfl
  cases st1 with
  | none => cases q2
  | some l1 =>
   have q1 := e1 l1 rfl
   cases st with
   | none => cases q1
   | some l =>
    have r1 := g1_ran (l := l) q1
    have r2 := g1_ran (l := l1) q2
    refine ⟨_, _, rfl, h2, fun v' l' hv => ?_⟩
    simp only [Option.bind_some, Option.some.injEq, Prod.mk.injEq] at hv
    rw [← hv.1]
    rw [wI (x := v * 256) (by omega) (by omega), wI (by omega) (by omega)]
theorem s219 {s0 : List UInt8} (n : Int) (s : List UInt8 × Int × Bool) (st : Option (List UInt8)) (h : Re3 s0 s st) (hn : ∀ l, st = some l → 0 ≤ n ∧ n ≤ 65535) : Sm (Re3 s0) (F219 (n, s)) (st.bind (gT n)) := by
 obtain ⟨o0, o1, o2⟩ := s
 obtain ⟨h1, h2, h3, h4, h5, h6⟩ := h
 simp only at h1 h2 h3 h5 h6
 subst h1
 cases st with
 | none =>
  have := h5 rfl
  subst this
  refine ⟨[], (o0, o1, true), rfl, ⟨rfl, h2, h3, h4, fun _ => rfl, fun _ h => by cases h⟩, fun _ _ h => by cases h⟩
 | some l =>
  obtain ⟨rfl, rfl⟩ := h6 l rfl
  obtain ⟨n0, n1⟩ := hn _ rfl
  simp only [F219, cndO_f, bindE_l, cndO_d]
  rw [wI (x := o1 + n) (by omega) (by omega), wI (x := o1 + n - n) (by omega) (by omega), show o1 + n - n = o1 by omega]
  by_cases hl : (o0.length : Int) < o1 + n
  ·rw [if_pos hl]
   refine ⟨_, _, rfl, ?_, ?_⟩
   ·have : ¬ n ≤ ((o0.drop o1.toNat).length : Int) := by simp only [List.length_drop]; omega
    simp only [Option.bind_some, gT, if_neg this, Option.map_none]
    exact ⟨rfl, h2, h3, h4, fun _ => rfl, fun _ h => by cases h⟩
   ·intro v' l' hv
    have : ¬ n ≤ ((o0.drop o1.toNat).length : Int) := by simp only [List.length_drop]; omega
    simp only [Option.bind_some, gT, if_neg this] at hv
    cases hv
  ·rw [if_neg hl]
   have hle : n ≤ ((o0.drop o1.toNat).length : Int) := by simp only [List.length_drop]; omega
   rw [grdO_and, grdO_and, grdO_d h2, grdO_d (by omega), grdO_d (by omega)]
   refine ⟨_, _, rfl, ?_, ?_⟩
   ·simp only [Option.bind_some, gT, if_pos hle, Option.map_some]
    refine ⟨rfl, by simp only; omega, by simp only; omega, h4, (fun h => by cases h), fun l h => ⟨rfl, ?_⟩⟩
    simp only [Option.some.injEq] at h
    rw [← h, List.drop_drop]
    simp only
    rw [show (o1 + n).toNat = o1.toNat + n.toNat by omega]
   ·intro v' l' hv
    simp only [Option.bind_some, gT, if_pos hle, Option.some.injEq, Prod.mk.injEq] at hv
    rw [← hv.1, show (o1 + n).toNat = o1.toNat + n.toNat by omega, List.drop_take]
    congr 1
    omega
end Go.Proofs.YtdpapeledldifaaGreat
end
section
namespace Go.TM
open Go.AM
section
variable {σ α β R Y:Type}
theorem bindE_bindO {r:Option α} {k:α→Option (Y ⊕ R)} {k2:Y→Option R}:bindE (bindO r k) k2=bindO r fun x=>bindE (k x) k2:=by cases r <;> rfl
theorem bindE_cut {c:Prop} [Decidable c] (A B:Y) (k:Y→Option R):bindE (cndO (decide c) (some (.inl A)) (some (.inl B))) k=k (if c then A else B):=by by_cases h:c <;> simp [h]
variable {Re:σ→Option (List UInt8)→Prop}
theorem Sm.step {F:Option (α×σ)} {g:List UInt8→Option (α×List UInt8)} {st:Option (List UInt8)} {k:α×σ→Option (β×σ)} {k':α→List UInt8→Option (β×List UInt8)}
  (hF:Sm Re F (st.bind g)) (hk:∀ v s' st',Re s' st'→(∀ l',st'=some l'→∃ l,st=some l∧g l=some (v,l'))→Sm Re (k (v,s')) (st'.bind (k' v))) :
  Sm Re (bindO F k) (st.bind fun l=>(g l).bind fun p=>k' p.1 p.2):=by
 have e:(st.bind fun l=>(g l).bind fun p=>k' p.1 p.2)=(st.bind g).bind fun p=>k' p.1 p.2:=by cases st <;> rfl
 rw [e]
 refine Sm.bind hF fun v s' st' h1 h2=>hk v s' st' h1 fun l' hl=>?_
 have:=h2 l' hl
 cases st with
 | none=>cases this
 | some l=>exact ⟨l,rfl,this⟩
theorem cut_bind {c:Prop} [Decidable c] (st:Option (List UInt8)) (M:List UInt8→Option (β×List UInt8)):(st.bind fun l=>if c then none else M l)=(if c then none else st).bind M:=by
 by_cases h:c <;> cases st <;> simp [h]
theorem loop_begin {X Y : Type} {f : X → Option (X ⊕ Y)} (mk : List β → Nat → σ → X) (fin : List β → σ → Y) (n : Nat) (g : List UInt8 → Option (β × List UInt8)) (s : σ) (st : Option (List UInt8)) (h : Re s st)
  (hbad : ∀ out i s, Re s none → f (mk out i s) = some (.inr (fin out s)))
  (hg : ∀ l, st = some l → (∀ out s l, Re s (some l) → f (mk out n s) = some (.inr (fin out s))) ∧
   ∀ out i s l, i < n → out.length = i → Re s (some l) → ∃ v s', f (mk out i s) = some (.inl (mk (out ++ [v]) (i + 1) s')) ∧ Re s' ((g l).map (·.2)) ∧ ∀ v' l', g l = some (v', l') → v = v') :
   ∃ out' s', whileO f (mk [] 0 s) = some (fin out' s') ∧ Re s' ((st.bind (gRep g n)).map (·.2)) ∧ ∀ vs l', st.bind (gRep g n) = some (vs, l') → out' = vs := by
 cases st with
 | none =>
  rw [whileO_eq, hbad [] 0 s h]
  exact ⟨[], s, rfl, h, fun _ _ h => by cases h⟩
 | some l =>
  obtain ⟨h1, h2⟩ := hg l rfl
  obtain ⟨o, s', q1, q2, q3⟩ := loop_sim mk fin n g (fun out i s _ h => hbad out i s h) h1 h2 [] 0 s (some l) (Nat.zero_le _) (fun _ _ => rfl) h
  exact ⟨o, s', q1, q2, fun vs l' h => by simpa using q3 vs l' h⟩
theorem Sm.loop {X Y γ : Type} {f : X → Option (X ⊕ (Y ⊕ (γ × σ)))} (mk : List β → Nat → σ → X) (fin : List β → σ → Y) (n : Nat) (g : List UInt8 → Option (β × List UInt8)) {s : σ} {st : Option (List UInt8)} (h : Re s st)
  {k : Y → Option (γ × σ)} {k' : List β → List UInt8 → Option (γ × List UInt8)} {x0 : X} (hx : x0 = mk [] 0 s)
  (hbad : ∀ out i s, Re s none → f (mk out i s) = some (.inr (.inl (fin out s))))
  (hg : ∀ l, st = some l → (∀ out s l, Re s (some l) → f (mk out n s) = some (.inr (.inl (fin out s)))) ∧
   ∀ out i s l, i < n → out.length = i → Re s (some l) → ∃ v s', f (mk out i s) = some (.inl (mk (out ++ [v]) (i + 1) s')) ∧ Re s' ((g l).map (·.2)) ∧ ∀ v' l', g l = some (v', l') → v = v')
  (hk : ∀ out s' st', Re s' st' → Sm Re (k (fin out s')) (st'.bind (k' out))) :
  Sm Re (bindE (whileO f x0) k) (st.bind fun l => (gRep g n l).bind fun p => k' p.1 p.2) := by
 obtain ⟨o, s', q1, q2, q3⟩ := loop_begin mk (fun out s => (.inl (fin out s) : Y ⊕ (γ × σ))) n g s st h hbad hg
 rw [hx, q1, bindE_l]
 have := hk o s' _ q2
 have e : (st.bind fun l => (gRep g n l).bind fun p => k' p.1 p.2) = (st.bind (gRep g n)).bind fun p => k' p.1 p.2 := by cases st <;> rfl
 rw [e]
 cases hm : st.bind (gRep g n) with
 | none => rw [hm] at this; exact this
 | some p =>
  rw [hm] at this
  rw [q3 p.1 p.2 hm] at this ⊢
  exact this
theorem Sm.one {X Y:Type} {r:Option (β×σ)} {m:Option (β×List UInt8)} {q:Option (X ⊕ Y)} {mk:β→σ→X} (h:Sm Re r m) (hq:∀ v s,r=some (v,s)→q=some (.inl (mk v s))) :
  ∃ v s',q=some (.inl (mk v s'))∧Re s' (m.map (·.2))∧∀ v' l',m=some (v',l')→v=v':=by
 obtain ⟨v,s,h1,h2,h3⟩:=h
 exact ⟨v,s,hq v s h1,h2,h3⟩
end
end Go.TM
namespace Go.Proofs.YtdpapeledldifaaGreat
open Go Go.AM Go.TM
theorem Re3.cut {s0 a:List UInt8} {b:Int} {t:Bool} {st:Option (List UInt8)} (c:Prop) [Decidable c] (h:Re3 s0 (a,b,t) st):Re3 s0 (a,b,if c then true else t) (if c then none else st):=by
 by_cases hc:c
 ·simp only [if_pos hc];exact h.bad
 ·simp only [if_neg hc];exact h
def gEnt (t:Int) (l:List UInt8):Option (Cst×List UInt8) :=
 if t=1 then (g1 l).bind fun p=>(gT p.1 p.2).bind fun q=>some ((1,q.1,0,0),q.2)
 else if t=2 then (g2 l).bind fun p=>some ((2,[],p.1,0),p.2)
 else if t=3∨t=4∨t=5∨t=6 then (g2 l).bind fun p=>(g2 p.2).bind fun q=>some ((t,[],p.1,q.1),q.2)
 else none
def gEntry (l:List UInt8):Option (Cst×List UInt8):=(g1 l).bind fun p=>gEnt p.1 p.2
theorem s280 {s0 : List UInt8} (s : List UInt8 × Int × Bool) (st : Option (List UInt8)) (h : Re3 s0 s st) : Sm (Re3 s0) (F280 s) (st.bind gEntry) := by
 obtain ⟨o0, o1, o2⟩ := s
 simp only [F280]
 refine Sm.step (s221 _ st h) (k' := gEnt) fun v ⟨a, b, c⟩ st1 h1 e1 => ?_
 simp only [cndO_d, bindE_if]
 by_cases t1 : v = 1
 ·subst t1
  simp only [gEnt, if_true, bindE_bindO, bindE_l]
  refine Sm.step (s221 _ st1 h1) (k' := fun n l => (gT n l).bind fun q => some ((1, q.1, 0, 0), q.2)) fun n ⟨a2, b2, c2⟩ st2 h2 e2 => ?_
  simp only [bindE_bindO, bindE_l]
  refine Sm.step (s219 n _ st2 h2 fun l hl => ?_) (k' := fun q l => some ((1, q, 0, 0), l)) fun n ⟨a3, b3, c3⟩ st3 h3 e3 => Sm.ret h3 _
  obtain ⟨_, _, hg⟩ := e2 l hl
  have := g1_ran hg
  omega
 ·by_cases t2 : v = 2
  ·subst t2
   simp only [gEnt, t1, if_false, if_true, bindE_bindO, bindE_l]
   exact Sm.step (s222 _ st1 h1) (k' := fun n l => some ((2, [], n, 0), l)) fun n ⟨a2, b2, c2⟩ st2 h2 e2 => Sm.ret h2 _
  ·by_cases t3 : v = 3 ∨ v = 4 ∨ v = 5 ∨ v = 6
   ·have two : Sm (Re3 s0) (bindO (F222 (a, b, c)) fun x => match x with
      | (y4, y5, y6, y7) => bindO (F222 (y5, y6, y7)) fun x => match x with
       | (y8, y9, y10, y11) => some ((v, ([] : List UInt8), y4, y8), y9, y10, y11)) (st1.bind fun l => (g2 l).bind fun p => (g2 p.2).bind fun q => some ((v, [], p.1, q.1), q.2)) :=
     Sm.step (s222 _ st1 h1) (k' := fun n l => (g2 l).bind fun q => some ((v, [], n, q.1), q.2)) fun n ⟨a2, b2, c2⟩ st2 h2 e2 =>
      Sm.step (s222 _ st2 h2) (k' := fun q l => some ((v, [], n, q), l)) fun n ⟨a3, b3, c3⟩ st3 h3 e3 => Sm.ret h3 _
    rcases t3 with rfl | rfl | rfl | rfl <;>
    ·simp only [gEnt, Int.reduceEq, ↓reduceIte, bindE_bindO, bindE_l, cndO_t, decide_true, or_true, true_or]
     exact two
   ·have h3 : ¬ v = 3 := fun h => t3 (.inl h)
    have h4 : ¬ v = 4 := fun h => t3 (.inr (.inl h))
    have h5 : ¬ v = 5 := fun h => t3 (.inr (.inr (.inl h)))
    have h6 : ¬ v = 6 := fun h => t3 (.inr (.inr (.inr h)))
    simp only [t1, t2, h3, h4, h5, h6, ↓reduceIte, bindE_l, cndO_f, decide_false]
    refine ⟨_, _, rfl, ?_, ?_⟩
    ·cases st1 <;> simp only [Option.bind_none, Option.bind_some, gEnt, t1, t2, h3, h4, h5, h6, ↓reduceIte, or_false] <;> exact h1.bad
    ·intro _ _ h; cases st1 <;> simp only [Option.bind_none, Option.bind_some, gEnt, t1, t2, h3, h4, h5, h6, ↓reduceIte, or_false] at h <;> cases h
def gMany {β:Type} (most:Int) (g:List UInt8→Option (β×List UInt8)) (l:List UInt8):Option (List β×List UInt8) :=
 (g1 l).bind fun p=>if most<p.1 then none else gRep g p.1.toNat p.2
theorem s220 {s0:List UInt8} (s:List UInt8×Int×Bool) (st:Option (List UInt8)) (h:Re3 s0 s st):Sm (Re3 s0) (F220 s) (st.bind (gMany 60 gEntry)):=by
 obtain ⟨o0,o1,o2⟩:=s
 simp only [F220]
 refine Sm.step (s221 _ st h) (k':=fun n l=>if 60<n then none else gRep gEntry n.toNat l) fun v ⟨a,b,c⟩ st1 h1 e1=>?_
 simp only [bindE_cut]
 rw [show (if (60:Int)<v then (([]:List Cst),v,a,b,true) else ([],v,a,b,c))=([],v,a,b,if 60<v then true else c) by split <;> rfl]
 simp only
 rw [cut_bind]
 have h2:=h1.cut (60<v)
 have e:((if 60<v then none else st1).bind fun l=>gRep gEntry v.toNat l)=(if 60<v then none else st1).bind fun l=>(gRep gEntry v.toNat l).bind fun p=>some (p.1,p.2):=by
  congr 1;funext l;cases gRep gEntry v.toNat l <;> rfl
 rw [e]
 refine Sm.loop (fun out i s=>(out,v,(i:Int),s)) (fun out s=>(out,s)) v.toNat gEntry h2 (k':=fun p l=>some (p,l)) rfl ?_ ?_ ?_
 ·intro out i ⟨a,b,c⟩ hs
  have:=hs.2.2.2.2.1 rfl
  simp only at this
  subst this
  by_cases hi:(i:Int)<v <;> simp only [hi,decide_true,decide_false,cndO_t,cndO_f,Bool.not_true,bindE_r]
 ·intro l hl
  have hv:0≤v∧v≤60:=by
   split at hl
   ·cases hl
   ·obtain ⟨_,_,hg⟩:=e1 l hl
    have:=g1_ran hg
    omega
  refine ⟨fun out ⟨a,b,c⟩ l hs=>?_,fun out i ⟨a,b,c⟩ l hi ho hs=>?_⟩
  ·have hi:¬ ((v.toNat:Int)<v):=by omega
   simp only [hi,decide_false,cndO_f,bindE_r]
  ·have hi':(i:Int)<v:=by omega
   have hc:=(hs.2.2.2.2.2 l rfl).1
   simp only at hc
   subst hc
   obtain ⟨w,⟨a2,b2,c2⟩,r1,r2,r3⟩:=s280 (a,b,false) (some l) hs
   simp only [hi',decide_true,cndO_t,Bool.not_false,bindE_l,r1,bindO_s]
   rw [grdO_and,grdO_d (by omega),grdO_d (by omega),wI (by omega) (by omega)]
   exact ⟨w,_,rfl,r2,r3⟩
 ·intro out ⟨a,b,c⟩ st' hs
  exact Sm.ret hs _
end Go.Proofs.YtdpapeledldifaaGreat
end
section
namespace Go.Proofs.YtdpapeledldifaaGreat
open Go Go.AM Go.TM
end Go.Proofs.YtdpapeledldifaaGreat
namespace Go.TM
open Go.AM
section
variable {σ α β Z:Type}
def St (Re:σ→Option (List UInt8)→Prop) (q:Option Z) (mk:β→σ→Z) (m:Option (β×List UInt8)):Prop :=
 ∃ v s,q=some (mk v s)∧Re s (m.map (·.2))∧∀ v' l,m=some (v',l)→v=v'
variable {Re:σ→Option (List UInt8)→Prop}
theorem St.step {F : Option (α × σ)} {g : List UInt8 → Option (α × List UInt8)} {st : Option (List UInt8)} {k : α × σ → Option Z} {mk : β → σ → Z} {k' : α → List UInt8 → Option (β × List UInt8)}
  (hF : Sm Re F (st.bind g)) (hk : ∀ v s' st', Re s' st' → St Re (k (v, s')) mk (st'.bind (k' v))) :
  St Re (bindO F k) mk (st.bind fun l => (g l).bind fun p => k' p.1 p.2) := by
 have e : (st.bind fun l => (g l).bind fun p => k' p.1 p.2) = (st.bind g).bind fun p => k' p.1 p.2 := by cases st <;> rfl
 rw [e]
 obtain ⟨v, s, hr, h1, h2⟩ := hF
 rw [hr, bindO_s]
 have := hk v s _ h1
 cases hm : st.bind g with
 | none => rw [hm] at this; exact this
 | some p =>
  rw [hm] at this h2
  have e := h2 p.1 p.2 rfl
  subst e
  exact this
theorem St.last {F:Option (β×σ)} {g:List UInt8→Option (β×List UInt8)} {st:Option (List UInt8)} {k:β×σ→Option Z} {mk:β→σ→Z} (hF:Sm Re F (st.bind g)) (hk:∀ v s',k (v,s')=some (mk v s')):St Re (bindO F k) mk (st.bind g):=by
 obtain ⟨v,s,hr,h1,h2⟩:=hF
 rw [hr,bindO_s,hk]
 exact ⟨v,s,rfl,h1,h2⟩
theorem St.ret {s:σ} {st:Option (List UInt8)} {mk:β→σ→Z} (h:Re s st) (v:β):St Re (some (mk v s)) mk (st.bind fun l=>some (v,l)):=by
 refine ⟨v,s,rfl,?_,fun v' l hl=>?_⟩
 ·cases st with
  | none=>exact h
  | some l=>exact h
 ·cases st with
  | none=>cases hl
  | some l=>simp only [Option.bind_some,Option.some.injEq,Prod.mk.injEq] at hl;exact hl.1
end
end Go.TM
namespace Go.Proofs.YtdpapeledldifaaGreat
open Go Go.AM Go.TM
theorem many_bind {β γ:Type} (most:Int) (g:List UInt8→Option (β×List UInt8)) (K:List β→List UInt8→Option (γ×List UInt8)) :
  (fun l=>(gMany most g l).bind fun p=>K p.1 p.2)=fun l=>(g1 l).bind fun p=>if most<p.1 then none else (gRep g p.1.toNat p.2).bind fun q=>K q.1 q.2:=by
 funext l
 unfold gMany
 cases g1 l with
 | none=>rfl
 | some p=>simp only [Option.bind_some];split <;> rfl
theorem ret_bind {β:Type} (m:List UInt8→Option (β×List UInt8)):(fun l=>(m l).bind fun p=>some (p.1,p.2))=m:=by funext l;cases m l <;> rfl
theorem few_of {most v:Int} {st st1:Option (List UInt8)} (e1:∀ l',st1=some l'→∃ l,st=some l∧g1 l=some (v,l')) {l:List UInt8} (hl:(if most<v then none else st1)=some l):0≤v∧v≤most:=by
 split at hl
 ·cases hl
 ·obtain ⟨_,_,hg⟩:=e1 l hl
  have:=g1_ran hg
  omega
def gKnd (l:List UInt8):Option (Knd×List UInt8):=(g1 l).bind fun p=>if p.1=3 then (g2 p.2).bind fun q=>some ((3,q.1),q.2) else if 3<p.1 then none else some ((p.1,0),p.2)
def gTrp (l:List UInt8):Option (Trp×List UInt8):=(g2 l).bind fun p=>(g2 p.2).bind fun q=>(g2 q.2).bind fun r=>(g2 r.2).bind fun s=>some ((p.1,q.1,r.1,s.1),s.2)
def gFrm (l:List UInt8):Option (Frm×List UInt8):=(g2 l).bind fun p=>(gMany 8 gKnd p.2).bind fun q=>(gMany 8 gKnd q.2).bind fun r=>some ((p.1,q.1,r.1),r.2)
def gFld (l:List UInt8):Option (Fld×List UInt8):=(g1 l).bind fun p=>(g2 p.2).bind fun q=>(g2 q.2).bind fun r=>some ((p.1,q.1,r.1),r.2)
def isAbs (y:Int):Prop:=Int.tdiv (Int.tmod y 16) 8=1
instance (y:Int):Decidable (isAbs y):=inferInstanceAs (Decidable (Int.tdiv (Int.tmod y 16) 8=1))
def b7 (f n d s lo:Int) (code:List UInt8) (tr:List Trp) (l:List UInt8):Option (Mth×List UInt8):=(gMany 8 gFrm l).bind fun p=>some ((f,n,d,s,lo,code,tr,p.1),p.2)
def b6 (f n d s lo:Int) (code:List UInt8) (l:List UInt8):Option (Mth×List UInt8):=(gMany 3 gTrp l).bind fun p=>b7 f n d s lo code p.1 p.2
def b5 (f n d s lo c:Int) (l:List UInt8):Option (Mth×List UInt8):=if 120<c then none else (gT c l).bind fun p=>b6 f n d s lo p.1 p.2
def b4 (f n d s lo:Int) (l:List UInt8):Option (Mth×List UInt8):=(g2 l).bind fun p=>b5 f n d s lo p.1 p.2
def b3 (f n d s:Int) (l:List UInt8):Option (Mth×List UInt8):=(g1 l).bind fun p=>b4 f n d s p.1 p.2
def gBody (f n d:Int) (l:List UInt8):Option (Mth×List UInt8):=(g1 l).bind fun p=>b3 f n d p.1 p.2
def m3 (f n d:Int) (l:List UInt8):Option (Mth×List UInt8):=if isAbs f then some ((f,n,d,0,0,[],[],[]),l) else gBody f n d l
def m2 (f n:Int) (l:List UInt8):Option (Mth×List UInt8):=(g2 l).bind fun p=>m3 f n p.1 p.2
def m1 (f:Int) (l:List UInt8):Option (Mth×List UInt8):=(g2 l).bind fun p=>m2 f p.1 p.2
def gMth (l:List UInt8):Option (Mth×List UInt8):=(g1 l).bind fun p=>m1 p.1 p.2
def gc8 (pool:List Cst) (f n s:Int) (fa:List Int) (fi:List Fld) (l:List UInt8):Option (Cls×List UInt8):=(gMany 6 gMth l).bind fun p=>some ((pool,f,n,s,fa,fi,p.1),p.2)
def gc7 (pool:List Cst) (f n s:Int) (fa:List Int) (l:List UInt8):Option (Cls×List UInt8):=(gMany 5 gFld l).bind fun p=>gc8 pool f n s fa p.1 p.2
def gc6' (pool:List Cst) (f n s:Int) (l:List UInt8):Option (Cls×List UInt8):=(gMany 3 g2 l).bind fun p=>gc7 pool f n s p.1 p.2
def gc5 (pool:List Cst) (f n:Int) (l:List UInt8):Option (Cls×List UInt8):=(g2 l).bind fun p=>gc6' pool f n p.1 p.2
def gc4 (pool:List Cst) (f:Int) (l:List UInt8):Option (Cls×List UInt8):=(g2 l).bind fun p=>gc5 pool f p.1 p.2
def gc3 (pool:List Cst) (l:List UInt8):Option (Cls×List UInt8):=(g1 l).bind fun p=>gc4 pool p.1 p.2
def gc2 (l:List UInt8):Option (Cls×List UInt8):=(gMany 60 gEntry l).bind fun p=>gc3 p.1 p.2
def gc1 (t:List UInt8) (l:List UInt8):Option (Cls×List UInt8):=if ¬ t=[83,84,79,87] then none else gc2 l
def gCls (l:List UInt8):Option (Cls×List UInt8):=(gT 4 l).bind fun p=>gc1 p.1 p.2
theorem s317 {s0 : List UInt8} (s : List UInt8 × Int × Bool) (st : Option (List UInt8)) (h : Re3 s0 s st) : Sm (Re3 s0) (F317 s) (st.bind (gMany 8 gKnd)) := by
 obtain ⟨o0, o1, o2⟩ := s
 simp only [F317]
 rw [← ret_bind (gMany 8 gKnd), many_bind 8 gKnd fun p l => some (p, l)]
 refine Sm.step (s221 _ st h) (k' := fun n l => if 8 < n then none else (gRep gKnd n.toNat l).bind fun q => some (q.1, q.2)) fun v ⟨a, b, c⟩ st1 h1 e1 => ?_
 simp only [bindE_cut]
 rw [show (if (8 : Int) < v then (([] : List Knd), v, a, b, true) else ([], v, a, b, c)) = ([], v, a, b, if 8 < v then true else c) by split <;> rfl]
 simp only
 rw [cut_bind]
 have h2 := h1.cut (8 < v)
 refine Sm.loop (fun out i s => (out, v, (i : Int), s)) (fun out s => (out, s)) v.toNat gKnd h2 (k' := fun p l => some (p, l)) rfl ?_ ?_ ?_
 ·intro out i ⟨a, b, c⟩ hs
  have := hs.2.2.2.2.1 rfl
  simp only at this
  subst this
  by_cases hi : (i : Int) < v <;> simp only [hi, decide_true, decide_false, cndO_t, cndO_f, Bool.not_true, bindE_r]
 ·intro l hl
  have hv := few_of e1 hl
  refine ⟨fun out ⟨a, b, c⟩ l hs => ?_, fun out i ⟨a, b, c⟩ l hi ho hs => ?_⟩
  ·have hi : ¬ ((v.toNat : Int) < v) := by omega
   simp only [hi, decide_false, cndO_f, bindE_r]
  ·have hi' : (i : Int) < v := by omega
   have hc := (hs.2.2.2.2.2 l rfl).1
   simp only at hc
   subst hc
   simp only [hi', decide_true, cndO_t, Bool.not_false, bindE_l]
   have hk : Sm (Re3 s0) (bindO (F221 (a, b, false)) fun x => match x with
     | (y4, y5, y6, y7) => bindE (Y := (Int × Int) × List UInt8 × Int × Bool) (cndO (decide (y4 = 3)) (bindO (F222 (y5, y6, y7)) fun x => match x with | (y8, y9, y10, y11) => some (.inl ((y4, y8), y9, y10, y11))) (some (.inl ((y4, 0), y5, y6, y7))))
      fun x => match x with | ((o04, o14), o05, o15, o24) => cndO (decide (3 < o04)) (some ((o04, o14), o05, o15, true)) (some ((o04, o14), o05, o15, o24))) ((some l).bind gKnd) := by
    refine Sm.step (s221 _ _ hs) (k' := fun p l => if p = 3 then (g2 l).bind fun q => some ((3, q.1), q.2) else if 3 < p then none else some ((p, 0), l)) fun w ⟨a2, b2, gc2⟩ st2 h2 e2 => ?_
    simp only [cndO_d, bindE_if]
    by_cases hw : w = 3
    ·subst hw
     simp only [↓reduceIte, bindE_bindO, bindE_l, Int.lt_irrefl]
     exact Sm.step (s222 _ st2 h2) (k' := fun q l => some ((3, q), l)) fun n ⟨a3, b3, gc3⟩ st3 h3 e3 => Sm.ret h3 _
    ·simp only [hw, ↓reduceIte, bindE_l]
     rw [cut_bind]
     by_cases h3 : 3 < w
     ·simp only [h3, ↓reduceIte]
      exact ⟨_, _, rfl, h2.bad, fun _ _ h => by cases h⟩
     ·simp only [h3, ↓reduceIte]
      exact Sm.ret h2 _
   refine hk.one (mk := fun w s => (out ++ [w], v, ((i + 1 : Nat) : Int), s)) fun w s' hr => ?_
   rcases h221 : F221 (a, b, false) with _ | ⟨y4, y5, y6, y7⟩
   ·rw [h221] at hr; cases hr
   ·rw [h221] at hr
    simp only [bindO_s, cndO_d, bindE_if] at hr ⊢
    have ho1 : out.length + 1 ≤ 9223372036854775807 := by omega
    have ho2 : (out.length + 1) * 16 ≤ 140737488355328 := by omega
    have hwi : IntKind.wrap .i64 ((i : Int) + 1) = ((i + 1 : Nat) : Int) := by rw [wI (by omega) (by omega)]; omega
    by_cases hy : y4 = 3
    ·subst hy
     simp only [↓reduceIte, bindE_bindO, bindE_l, Int.lt_irrefl] at hr ⊢
     rcases h222 : F222 (y5, y6, y7) with _ | ⟨y8, y9, y10, y11⟩
     ·rw [h222] at hr; cases hr
     ·rw [h222] at hr
      simp only [bindO_s, Option.some.injEq, Prod.mk.injEq] at hr ⊢
      obtain ⟨rfl, rfl⟩ := hr
      simp only [ho1, ho2, decide_true, Bool.and_true, grdO_t, bindE_l, hwi]
    ·simp only [hy, ↓reduceIte, bindE_l] at hr ⊢
     by_cases h3 : 3 < y4
     ·simp only [h3, ↓reduceIte, Option.some.injEq, Prod.mk.injEq] at hr ⊢
      obtain ⟨rfl, rfl⟩ := hr
      simp only [ho1, ho2, decide_true, Bool.and_true, grdO_t, bindE_l, hwi]
     ·simp only [h3, ↓reduceIte, Option.some.injEq, Prod.mk.injEq] at hr ⊢
      obtain ⟨rfl, rfl⟩ := hr
      simp only [ho1, ho2, decide_true, Bool.and_true, grdO_t, bindE_l, hwi]
 ·intro out ⟨a, b, c⟩ st' hs
  exact Sm.ret hs _
theorem s281 {s0:List UInt8} (vf vn vd:Int) (s:List UInt8×Int×Bool) (st:Option (List UInt8)) (h:Re3 s0 s st):Sm (Re3 s0) (F281 ((vf,vn,vd,0,0,[]),s)) (st.bind (gBody vf vn vd)):=by
 obtain ⟨o0,o1,o2⟩:=s
 simp only [F281]
 refine Sm.step (s221 _ st h) (k':=b3 vf vn vd) fun vs ⟨a,b,c⟩ st1 h1 e1=>?_
 refine Sm.step (s221 _ st1 h1) (k':=b4 vf vn vd vs) fun vl ⟨a,b,c⟩ st2 h2 e2=>?_
 refine Sm.step (s222 _ st2 h2) (k':=b5 vf vn vd vs vl) fun v ⟨a,b,c⟩ st3 h3 e3=>?_
 show Sm _ _ (st3.bind fun l=>if 120<v then none else (gT v l).bind fun p=>b6 vf vn vd vs vl p.1 p.2)
 simp only [bindE_cut]
 rw [show (if (120:Int)<v then (v,(vf,vn,vd,vs,vl,([]:List UInt8),([]:List Trp),([]:List Frm)),((0:Int),(0:Int),(0:Int),(0:Int),(0:Int),([]:List UInt8),([]:List Trp),([]:List Frm)),a,b,true) else (v,(vf,vn,vd,vs,vl,([]:List UInt8),([]:List Trp),([]:List Frm)),((0:Int),(0:Int),(0:Int),(0:Int),(0:Int),([]:List UInt8),([]:List Trp),([]:List Frm)),a,b,c))=(v,(vf,vn,vd,vs,vl,([]:List UInt8),([]:List Trp),([]:List Frm)),((0:Int),(0:Int),(0:Int),(0:Int),(0:Int),([]:List UInt8),([]:List Trp),([]:List Frm)),a,b,if 120<v then true else c) by split <;> rfl]
 simp only
 rw [cut_bind]
 have h4:=h3.cut (120<v)
 refine Sm.step (s219 v _ _ h4 fun l hl=>?_) (k':=b6 vf vn vd vs vl) fun vc ⟨a,b,c⟩ st4 h5 e4=>?_
 ·split at hl
  ·cases hl
  ·obtain ⟨_,_,hg⟩:=e3 l hl
   exact g2_ran hg
 show Sm _ _ (st4.bind fun l=>(gMany 3 gTrp l).bind fun p=>b7 vf vn vd vs vl vc p.1 p.2)
 rw [many_bind 3 gTrp (b7 vf vn vd vs vl vc)]
 refine Sm.step (s221 _ st4 h5) (k':=fun n l=>if 3<n then none else (gRep gTrp n.toNat l).bind fun q=>b7 vf vn vd vs vl vc q.1 q.2) fun v2 ⟨a,b,c⟩ st5 h6 e5=>?_
 simp only [bindE_cut]
 rw [show (if (3:Int)<v2 then (v2,(vf,vn,vd,vs,vl,vc,([]:List Trp),([]:List Frm)),((0:Int),(0:Int),(0:Int),(0:Int),(0:Int),([]:List UInt8),([]:List Trp),([]:List Frm)),a,b,true) else (v2,(vf,vn,vd,vs,vl,vc,([]:List Trp),([]:List Frm)),((0:Int),(0:Int),(0:Int),(0:Int),(0:Int),([]:List UInt8),([]:List Trp),([]:List Frm)),a,b,c))=(v2,(vf,vn,vd,vs,vl,vc,([]:List Trp),([]:List Frm)),((0:Int),(0:Int),(0:Int),(0:Int),(0:Int),([]:List UInt8),([]:List Trp),([]:List Frm)),a,b,if 3<v2 then true else c) by split <;> rfl]
 simp only
 rw [cut_bind]
 have h7:=h6.cut (3<v2)
 refine Sm.loop (fun out i s=>(v2,(i:Int),(vf,vn,vd,vs,vl,vc,out,([]:List Frm)),((0:Int),(0:Int),(0:Int),(0:Int),(0:Int),([]:List UInt8),([]:List Trp),([]:List Frm)),s)) (fun out s=>((vf,vn,vd,vs,vl,vc,out,([]:List Frm)),((0:Int),(0:Int),(0:Int),(0:Int),(0:Int),([]:List UInt8),([]:List Trp),([]:List Frm)),s)) v2.toNat gTrp h7 (k':=b7 vf vn vd vs vl vc) rfl ?_ ?_ ?_
 ·intro out i ⟨a,b,c⟩ hs
  have:=hs.2.2.2.2.1 rfl
  simp only at this
  subst this
  by_cases hi:(i:Int)<v2 <;> simp only [hi,decide_true,decide_false,cndO_t,cndO_f,Bool.not_true,bindE_r]
 ·intro l hl
  have hv:=few_of e5 hl
  refine ⟨fun out ⟨a,b,c⟩ l hs=>?_,fun out i ⟨a,b,c⟩ l hi ho hs=>?_⟩
  ·have hi:¬ ((v2.toNat:Int)<v2):=by omega
   simp only [hi,decide_false,cndO_f,bindE_r]
  ·have hi':(i:Int)<v2:=by omega
   have hc:=(hs.2.2.2.2.2 l rfl).1
   simp only at hc
   subst hc
   simp only [hi',decide_true,cndO_t,Bool.not_false,bindE_l]
   have ho1:out.length+1≤9223372036854775807:=by omega
   have ho2:(out.length+1)*32≤140737488355328:=by omega
   have hwi:IntKind.wrap .i64 ((i:Int)+1)=((i+1:Nat):Int):=by rw [wI (by omega) (by omega)];omega
   show St (Re3 s0) _ (fun w s'=>Sum.inl ((v2,((i+1:Nat):Int),(vf,vn,vd,vs,vl,vc,out++[w],([]:List Frm)),((0:Int),(0:Int),(0:Int),(0:Int),(0:Int),([]:List UInt8),([]:List Trp),([]:List Frm)),s'))) ((some l).bind gTrp)
   refine St.step (s222 _ _ hs) (k':=fun p l=>(g2 l).bind fun q=>(g2 q.2).bind fun r=>(g2 r.2).bind fun s=>some ((p,q.1,r.1,s.1),s.2)) fun w0 ⟨a5,b5,gc5⟩ t0 g0=>?_
   refine St.step (s222 _ _ g0) (k':=fun q l=>(g2 l).bind fun r=>(g2 r.2).bind fun s=>some ((w0,q,r.1,s.1),s.2)) fun w1 ⟨a6,b6,gc6⟩ t1 g1=>?_
   refine St.step (s222 _ _ g1) (k':=fun r l=>(g2 l).bind fun s=>some ((w0,w1,r,s.1),s.2)) fun w2 ⟨a7,b7,gc7⟩ t2 g2=>?_
   refine St.step (s222 _ _ g2) (k':=fun s l=>some ((w0,w1,w2,s),l)) fun w3 ⟨a8,b8,gc8⟩ t3 g3=>?_
   simp only [ho1,ho2,decide_true,Bool.and_true,grdO_t,hwi]
   exact St.ret (mk:=fun w s'=>Sum.inl ((v2,((i+1:Nat):Int),(vf,vn,vd,vs,vl,vc,out++[w],([]:List Frm)),((0:Int),(0:Int),(0:Int),(0:Int),(0:Int),([]:List UInt8),([]:List Trp),([]:List Frm)),s'))) g3 _
 ·intro out ⟨a,b,c⟩ st' hs
  show Sm _ _ (st'.bind fun l=>(gMany 8 gFrm l).bind fun p=>some ((vf,vn,vd,vs,vl,vc,out,p.1),p.2))
  rw [many_bind 8 gFrm fun p l=>some ((vf,vn,vd,vs,vl,vc,out,p),l)]
  refine Sm.step (s221 _ _ hs) (k':=fun n l=>if 8<n then none else (gRep gFrm n.toNat l).bind fun q=>some ((vf,vn,vd,vs,vl,vc,out,q.1),q.2)) fun v3 ⟨a,b,c⟩ st6 h8 e6=>?_
  simp only [bindE_cut]
  rw [show (if (8:Int)<v3 then (v3,(vf,vn,vd,vs,vl,vc,out,([]:List Frm)),((0:Int),(0:Int),(0:Int),(0:Int),(0:Int),([]:List UInt8),([]:List Trp),([]:List Frm)),a,b,true) else (v3,(vf,vn,vd,vs,vl,vc,out,([]:List Frm)),((0:Int),(0:Int),(0:Int),(0:Int),(0:Int),([]:List UInt8),([]:List Trp),([]:List Frm)),a,b,c))=(v3,(vf,vn,vd,vs,vl,vc,out,([]:List Frm)),((0:Int),(0:Int),(0:Int),(0:Int),(0:Int),([]:List UInt8),([]:List Trp),([]:List Frm)),a,b,if 8<v3 then true else c) by split <;> rfl]
  simp only
  rw [cut_bind]
  have h9:=h8.cut (8<v3)
  generalize out=tr
  refine Sm.loop (fun out i s=>(v3,(i:Int),(vf,vn,vd,vs,vl,vc,tr,out),((0:Int),(0:Int),(0:Int),(0:Int),(0:Int),([]:List UInt8),([]:List Trp),([]:List Frm)),s)) (fun out s=>((vf,vn,vd,vs,vl,vc,tr,out),((0:Int),(0:Int),(0:Int),(0:Int),(0:Int),([]:List UInt8),([]:List Trp),([]:List Frm)),s)) v3.toNat gFrm h9 (k':=fun p l=>some ((vf,vn,vd,vs,vl,vc,tr,p),l)) rfl ?_ ?_ ?_
  ·intro out i ⟨a,b,c⟩ hs
   have:=hs.2.2.2.2.1 rfl
   simp only at this
   subst this
   by_cases hi:(i:Int)<v3 <;> simp only [hi,decide_true,decide_false,cndO_t,cndO_f,Bool.not_true,bindE_r]
  ·intro l hl
   have hv:=few_of e6 hl
   refine ⟨fun out ⟨a,b,c⟩ l hs=>?_,fun out i ⟨a,b,c⟩ l hi ho hs=>?_⟩
   ·have hi:¬ ((v3.toNat:Int)<v3):=by omega
    simp only [hi,decide_false,cndO_f,bindE_r]
   ·have hi':(i:Int)<v3:=by omega
    have hc:=(hs.2.2.2.2.2 l rfl).1
    simp only at hc
    subst hc
    simp only [hi',decide_true,cndO_t,Bool.not_false,bindE_l]
    have ho1:out.length+1≤9223372036854775807:=by omega
    have ho2:(out.length+1)*56≤140737488355328:=by omega
    have hwi:IntKind.wrap .i64 ((i:Int)+1)=((i+1:Nat):Int):=by rw [wI (by omega) (by omega)];omega
    show St (Re3 s0) _ (fun w s'=>Sum.inl ((v3,((i+1:Nat):Int),(vf,vn,vd,vs,vl,vc,tr,out++[w]),((0:Int),(0:Int),(0:Int),(0:Int),(0:Int),([]:List UInt8),([]:List Trp),([]:List Frm)),s'))) ((some l).bind gFrm)
    refine St.step (s222 _ _ hs) (k':=fun p l=>(gMany 8 gKnd l).bind fun q=>(gMany 8 gKnd q.2).bind fun r=>some ((p,q.1,r.1),r.2)) fun w0 ⟨a5,b5,gc5⟩ t0 g0=>?_
    refine St.step (s317 _ _ g0) (k':=fun q l=>(gMany 8 gKnd l).bind fun r=>some ((w0,q,r.1),r.2)) fun w1 ⟨a6,b6,gc6⟩ t1 g1=>?_
    refine St.step (s317 _ _ g1) (k':=fun r l=>some ((w0,w1,r),l)) fun w2 ⟨a7,b7,gc7⟩ t2 g2=>?_
    simp only [ho1,ho2,decide_true,Bool.and_true,grdO_t,hwi]
    exact St.ret (mk:=fun w s'=>Sum.inl ((v3,((i+1:Nat):Int),(vf,vn,vd,vs,vl,vc,tr,out++[w]),((0:Int),(0:Int),(0:Int),(0:Int),(0:Int),([]:List UInt8),([]:List Trp),([]:List Frm)),s'))) g2 _
  ·intro out ⟨a,b,c⟩ st' hs
   exact Sm.ret hs _
theorem s223 {s0:List UInt8} (s:List UInt8×Int×Bool) (st:Option (List UInt8)) (h:Re3 s0 s st):Sm (Re3 s0) (F223 s) (st.bind gMth):=by
 obtain ⟨o0,o1,o2⟩:=s
 simp only [F223]
 refine Sm.step (s221 _ st h) (k':=m1) fun vf ⟨a,b,c⟩ st1 h1 e1=>?_
 refine Sm.step (s222 _ st1 h1) (k':=m2 vf) fun vn ⟨a,b,c⟩ st2 h2 e2=>?_
 refine Sm.step (s222 _ st2 h2) (k':=m3 vf vn) fun vd ⟨a,b,c⟩ st3 h3 e3=>?_
 have hw:IntKind.wrap .i64 (Int.tdiv (Int.tmod vf 16) 8)=Int.tdiv (Int.tmod vf 16) 8:=by
  have h1:=Int.tmod_lt_of_pos vf (show (0:Int)<16 by omega)
  have h2 : -16<Int.tmod vf 16:=by
   rcases Int.lt_or_le vf 0 with hv | hv
   ·have e:Int.tmod vf 16 = - Int.tmod (-vf) 16:=by rw [Int.neg_tmod];omega
    have:=Int.tmod_lt_of_pos (-vf) (show (0:Int)<16 by omega)
    omega
   ·have:=Int.tmod_nonneg 16 hv;omega
  generalize Int.tmod vf 16=q at h1 h2
  have h3 : -3<Int.tdiv q 8:=by
   rcases Int.lt_or_le q 0 with hq | hq
   ·have e:Int.tdiv q 8 = - Int.tdiv (-q) 8:=by rw [Int.neg_tdiv];omega
    have:Int.tdiv (-q) 8=(-q) / 8:=Int.tdiv_eq_ediv_of_nonneg (by omega)
    omega
   ·have:Int.tdiv q 8=q / 8:=Int.tdiv_eq_ediv_of_nonneg hq
    omega
  have h4:Int.tdiv q 8<3:=by
   rcases Int.lt_or_le q 0 with hq | hq
   ·have e:Int.tdiv q 8 = - Int.tdiv (-q) 8:=by rw [Int.neg_tdiv];omega
    have:Int.tdiv (-q) 8=(-q) / 8:=Int.tdiv_eq_ediv_of_nonneg (by omega)
    omega
   ·have:Int.tdiv q 8=q / 8:=Int.tdiv_eq_ediv_of_nonneg hq
    omega
  exact wI (by omega) (by omega)
 simp only [hw,cndO_d]
 by_cases hab:isAbs vf
 ·rw [if_pos (show Int.tdiv (Int.tmod vf 16) 8=1 from hab)]
  have e:m3 vf vn vd=fun l=>some ((vf,vn,vd,0,0,[],[],[]),l):=by funext l;simp only [m3,if_pos hab]
  rw [e]
  exact Sm.ret h3 _
 ·rw [if_neg (show ¬ Int.tdiv (Int.tmod vf 16) 8=1 from hab)]
  have e:m3 vf vn vd=fun l=>(gBody vf vn vd l).bind fun p=>some (p.1,p.2):=by funext l;simp only [m3,if_neg hab];cases gBody vf vn vd l <;> rfl
  rw [e]
  exact Sm.step (s281 vf vn vd _ st3 h3) (k':=fun p l=>some (p,l)) fun m ⟨a,b,c⟩ st4 h4 e4=>Sm.ret h4 _
theorem s142 {s0:List UInt8} (s:List UInt8×Int×Bool) (st:Option (List UInt8)) (h:Re3 s0 s st):Sm (Re3 s0) (F142 s) (st.bind gCls):=by
 obtain ⟨o0,o1,o2⟩:=s
 simp only [F142,bindE_bindO,cndO_n,bindE_cut]
 refine Sm.step (s219 4 _ st h fun _ _=>by omega) (k':=gc1) fun vt ⟨a,b,c⟩ st1 h1 e1=>?_
 simp only
 rw [show (if vt=[83,84,79,87] then ((([]:List Cst),(0:Int),(0:Int),(0:Int),([]:List Int),([]:List Fld),([]:List Mth)),(([]:List Cst),(0:Int),(0:Int),(0:Int),([]:List Int),([]:List Fld),([]:List Mth)),a,b,c) else ((([]:List Cst),(0:Int),(0:Int),(0:Int),([]:List Int),([]:List Fld),([]:List Mth)),(([]:List Cst),(0:Int),(0:Int),(0:Int),([]:List Int),([]:List Fld),([]:List Mth)),a,b,true))=((([]:List Cst),(0:Int),(0:Int),(0:Int),([]:List Int),([]:List Fld),([]:List Mth)),(([]:List Cst),(0:Int),(0:Int),(0:Int),([]:List Int),([]:List Fld),([]:List Mth)),a,b,if ¬ vt=[83,84,79,87] then true else c) by by_cases hvt:vt=[83,84,79,87] <;> simp [hvt]]
 simp only
 show Sm _ _ (st1.bind fun l=>if ¬ vt=[83,84,79,87] then none else gc2 l)
 rw [cut_bind]
 refine Sm.step (s220 _ _ (h1.cut _)) (k':=gc3) fun vp ⟨a,b,c⟩ st2 h2 e2=>?_
 refine Sm.step (s221 _ _ h2) (k':=gc4 vp) fun vf ⟨a,b,c⟩ st3 h3 e3=>?_
 refine Sm.step (s222 _ _ h3) (k':=gc5 vp vf) fun vn ⟨a,b,c⟩ st4 h4 e4=>?_
 refine Sm.step (s222 _ _ h4) (k':=gc6' vp vf vn) fun vs ⟨a,b,c⟩ st5 h5 e5=>?_
 show Sm _ _ (st5.bind fun l=>(gMany 3 g2 l).bind fun p=>gc7 vp vf vn vs p.1 p.2)
 rw [many_bind 3 g2 (gc7 vp vf vn vs)]
 refine Sm.step (s221 _ _ h5) (k':=fun n l=>if 3<n then none else (gRep g2 n.toNat l).bind fun q=>gc7 vp vf vn vs q.1 q.2) fun v1 ⟨a,b,c⟩ st6 h6 e6=>?_
 simp only [bindE_cut]
 rw [show (if (3:Int)<v1 then (v1,(([]:List Cst),(0:Int),(0:Int),(0:Int),([]:List Int),([]:List Fld),([]:List Mth)),(vp,vf,vn,vs,([]:List Int),([]:List Fld),([]:List Mth)),a,b,true) else (v1,(([]:List Cst),(0:Int),(0:Int),(0:Int),([]:List Int),([]:List Fld),([]:List Mth)),(vp,vf,vn,vs,([]:List Int),([]:List Fld),([]:List Mth)),a,b,c))=(v1,(([]:List Cst),(0:Int),(0:Int),(0:Int),([]:List Int),([]:List Fld),([]:List Mth)),(vp,vf,vn,vs,([]:List Int),([]:List Fld),([]:List Mth)),a,b,if 3<v1 then true else c) by split <;> rfl]
 simp only
 rw [cut_bind]
 have h7:=h6.cut (3<v1)
 refine Sm.loop (fun out i s=>(v1,(i:Int),(([]:List Cst),(0:Int),(0:Int),(0:Int),([]:List Int),([]:List Fld),([]:List Mth)),(vp,vf,vn,vs,out,([]:List Fld),([]:List Mth)),s)) (fun out s=>((([]:List Cst),(0:Int),(0:Int),(0:Int),([]:List Int),([]:List Fld),([]:List Mth)),(vp,vf,vn,vs,out,([]:List Fld),([]:List Mth)),s)) v1.toNat g2 h7 (k':=gc7 vp vf vn vs) rfl ?_ ?_ ?_
 ·intro out i ⟨a,b,c⟩ hs
  have:=hs.2.2.2.2.1 rfl
  simp only at this
  subst this
  by_cases hi:(i:Int)<v1 <;> simp only [hi,decide_true,decide_false,cndO_t,cndO_f,Bool.not_true,bindE_r]
 ·intro l hl
  have hv:=few_of e6 hl
  refine ⟨fun out ⟨a,b,c⟩ l hs=>?_,fun out i ⟨a,b,c⟩ l hi ho hs=>?_⟩
  ·have hi:¬ ((v1.toNat:Int)<v1):=by omega
   simp only [hi,decide_false,cndO_f,bindE_r]
  ·have hi':(i:Int)<v1:=by omega
   have hc:=(hs.2.2.2.2.2 l rfl).1
   simp only at hc
   subst hc
   simp only [hi',decide_true,cndO_t,Bool.not_false,bindE_l]
   have ho1:out.length+1≤9223372036854775807:=by omega
   have ho2:(out.length+1)*8≤140737488355328:=by omega
   have hwi:IntKind.wrap .i64 ((i:Int)+1)=((i+1:Nat):Int):=by rw [wI (by omega) (by omega)];omega
   show St (Re3 s0) _ (fun w s'=>Sum.inl ((v1,((i+1:Nat):Int),(([]:List Cst),(0:Int),(0:Int),(0:Int),([]:List Int),([]:List Fld),([]:List Mth)),(vp,vf,vn,vs,out++[w],([]:List Fld),([]:List Mth)),s'))) ((some l).bind g2)
   refine St.last (s222 _ _ hs) fun w0 ⟨a5,b5,gc5⟩=>?_
   simp only [ho1,ho2,decide_true,Bool.and_true,grdO_t,hwi]
 ·intro out ⟨a,b,c⟩ st' hs
  generalize out=fa
  show Sm _ _ (st'.bind fun l=>(gMany 5 gFld l).bind fun p=>gc8 vp vf vn vs fa p.1 p.2)
  rw [many_bind 5 gFld (gc8 vp vf vn vs fa)]
  refine Sm.step (s221 _ _ hs) (k':=fun n l=>if 5<n then none else (gRep gFld n.toNat l).bind fun q=>gc8 vp vf vn vs fa q.1 q.2) fun v2 ⟨a,b,c⟩ st8 h8 e8=>?_
  simp only [bindE_cut]
  rw [show (if (5:Int)<v2 then (v2,(([]:List Cst),(0:Int),(0:Int),(0:Int),([]:List Int),([]:List Fld),([]:List Mth)),(vp,vf,vn,vs,fa,([]:List Fld),([]:List Mth)),a,b,true) else (v2,(([]:List Cst),(0:Int),(0:Int),(0:Int),([]:List Int),([]:List Fld),([]:List Mth)),(vp,vf,vn,vs,fa,([]:List Fld),([]:List Mth)),a,b,c))=(v2,(([]:List Cst),(0:Int),(0:Int),(0:Int),([]:List Int),([]:List Fld),([]:List Mth)),(vp,vf,vn,vs,fa,([]:List Fld),([]:List Mth)),a,b,if 5<v2 then true else c) by split <;> rfl]
  simp only
  rw [cut_bind]
  have h9:=h8.cut (5<v2)
  refine Sm.loop (fun out i s=>(v2,(i:Int),(([]:List Cst),(0:Int),(0:Int),(0:Int),([]:List Int),([]:List Fld),([]:List Mth)),(vp,vf,vn,vs,fa,out,([]:List Mth)),s)) (fun out s=>((([]:List Cst),(0:Int),(0:Int),(0:Int),([]:List Int),([]:List Fld),([]:List Mth)),(vp,vf,vn,vs,fa,out,([]:List Mth)),s)) v2.toNat gFld h9 (k':=gc8 vp vf vn vs fa) rfl ?_ ?_ ?_
  ·intro out i ⟨a,b,c⟩ hs
   have:=hs.2.2.2.2.1 rfl
   simp only at this
   subst this
   by_cases hi:(i:Int)<v2 <;> simp only [hi,decide_true,decide_false,cndO_t,cndO_f,Bool.not_true,bindE_r]
  ·intro l hl
   have hv:=few_of e8 hl
   refine ⟨fun out ⟨a,b,c⟩ l hs=>?_,fun out i ⟨a,b,c⟩ l hi ho hs=>?_⟩
   ·have hi:¬ ((v2.toNat:Int)<v2):=by omega
    simp only [hi,decide_false,cndO_f,bindE_r]
   ·have hi':(i:Int)<v2:=by omega
    have hc:=(hs.2.2.2.2.2 l rfl).1
    simp only at hc
    subst hc
    simp only [hi',decide_true,cndO_t,Bool.not_false,bindE_l]
    have ho1:out.length+1≤9223372036854775807:=by omega
    have ho2:(out.length+1)*24≤140737488355328:=by omega
    have hwi:IntKind.wrap .i64 ((i:Int)+1)=((i+1:Nat):Int):=by rw [wI (by omega) (by omega)];omega
    show St (Re3 s0) _ (fun w s'=>Sum.inl ((v2,((i+1:Nat):Int),(([]:List Cst),(0:Int),(0:Int),(0:Int),([]:List Int),([]:List Fld),([]:List Mth)),(vp,vf,vn,vs,fa,out++[w],([]:List Mth)),s'))) ((some l).bind gFld)
    refine St.step (s221 _ _ hs) (k':=fun p l=>(g2 l).bind fun q=>(g2 q.2).bind fun r=>some ((p,q.1,r.1),r.2)) fun w0 ⟨a5,b5,gc5⟩ t0 g0=>?_
    refine St.step (s222 _ _ g0) (k':=fun q l=>(g2 l).bind fun r=>some ((w0,q,r.1),r.2)) fun w1 ⟨a6,b6,gc6⟩ t1 g1=>?_
    refine St.step (s222 _ _ g1) (k':=fun r l=>some ((w0,w1,r),l)) fun w2 ⟨a7,b7,gc7⟩ t2 g2=>?_
    simp only [ho1,ho2,decide_true,Bool.and_true,grdO_t,hwi]
    exact St.ret (mk:=fun w s'=>Sum.inl ((v2,((i+1:Nat):Int),(([]:List Cst),(0:Int),(0:Int),(0:Int),([]:List Int),([]:List Fld),([]:List Mth)),(vp,vf,vn,vs,fa,out++[w],([]:List Mth)),s'))) g2 _
  ·intro out ⟨a,b,c⟩ st' hs
   generalize out=fi
   show Sm _ _ (st'.bind fun l=>(gMany 6 gMth l).bind fun p=>some ((vp,vf,vn,vs,fa,fi,p.1),p.2))
   rw [many_bind 6 gMth fun p l=>some ((vp,vf,vn,vs,fa,fi,p),l)]
   refine Sm.step (s221 _ _ hs) (k':=fun n l=>if 6<n then none else (gRep gMth n.toNat l).bind fun q=>some ((vp,vf,vn,vs,fa,fi,q.1),q.2)) fun v3 ⟨a,b,c⟩ st10 h10 e10=>?_
   simp only [bindE_cut]
   rw [show (if (6:Int)<v3 then (v3,(([]:List Cst),(0:Int),(0:Int),(0:Int),([]:List Int),([]:List Fld),([]:List Mth)),(vp,vf,vn,vs,fa,fi,([]:List Mth)),a,b,true) else (v3,(([]:List Cst),(0:Int),(0:Int),(0:Int),([]:List Int),([]:List Fld),([]:List Mth)),(vp,vf,vn,vs,fa,fi,([]:List Mth)),a,b,c))=(v3,(([]:List Cst),(0:Int),(0:Int),(0:Int),([]:List Int),([]:List Fld),([]:List Mth)),(vp,vf,vn,vs,fa,fi,([]:List Mth)),a,b,if 6<v3 then true else c) by split <;> rfl]
   simp only
   rw [cut_bind]
   have h11:=h10.cut (6<v3)
   refine Sm.loop (fun out i s=>(v3,(i:Int),(([]:List Cst),(0:Int),(0:Int),(0:Int),([]:List Int),([]:List Fld),([]:List Mth)),(vp,vf,vn,vs,fa,fi,out),s)) (fun out s=>((([]:List Cst),(0:Int),(0:Int),(0:Int),([]:List Int),([]:List Fld),([]:List Mth)),(vp,vf,vn,vs,fa,fi,out),s)) v3.toNat gMth h11 (k':=fun p l=>some ((vp,vf,vn,vs,fa,fi,p),l)) rfl ?_ ?_ ?_
   ·intro out i ⟨a,b,c⟩ hs
    have:=hs.2.2.2.2.1 rfl
    simp only at this
    subst this
    by_cases hi:(i:Int)<v3 <;> simp only [hi,decide_true,decide_false,cndO_t,cndO_f,Bool.not_true,bindE_r]
   ·intro l hl
    have hv:=few_of e10 hl
    refine ⟨fun out ⟨a,b,c⟩ l hs=>?_,fun out i ⟨a,b,c⟩ l hi ho hs=>?_⟩
    ·have hi:¬ ((v3.toNat:Int)<v3):=by omega
     simp only [hi,decide_false,cndO_f,bindE_r]
    ·have hi':(i:Int)<v3:=by omega
     have hc:=(hs.2.2.2.2.2 l rfl).1
     simp only at hc
     subst hc
     simp only [hi',decide_true,cndO_t,Bool.not_false,bindE_l]
     have ho1:out.length+1≤9223372036854775807:=by omega
     have ho2:(out.length+1)*104≤140737488355328:=by omega
     have hwi:IntKind.wrap .i64 ((i:Int)+1)=((i+1:Nat):Int):=by rw [wI (by omega) (by omega)];omega
     show St (Re3 s0) _ (fun w s'=>Sum.inl ((v3,((i+1:Nat):Int),(([]:List Cst),(0:Int),(0:Int),(0:Int),([]:List Int),([]:List Fld),([]:List Mth)),(vp,vf,vn,vs,fa,fi,out++[w]),s'))) ((some l).bind gMth)
     refine St.last (s223 _ _ hs) fun w0 ⟨a5,b5,gc5⟩=>?_
     simp only [ho1,ho2,decide_true,Bool.and_true,grdO_t,hwi]
   ·intro out ⟨a,b,c⟩ st' hs
    exact Sm.ret hs _
end Go.Proofs.YtdpapeledldifaaGreat
end
section
namespace Go.TM
open Go.AM
section
variable {σ α β R Y Z:Type}
variable {Re:σ→Option (List UInt8)→Prop}
theorem Gn.loop {Φ : Option Z → Option (α × List UInt8) → Prop} {X Y : Type} {f : X → Option (X ⊕ (Y ⊕ Z))} (mk : List β → Nat → σ → X) (fin : List β → σ → Y) (n : Nat) (g : List UInt8 → Option (β × List UInt8)) {s : σ} {st : Option (List UInt8)} (h : Re s st)
  {k : Y → Option Z} {k' : List β → List UInt8 → Option (α × List UInt8)} {x0 : X} (hx : x0 = mk [] 0 s)
  (hbad : ∀ out i s, Re s none → f (mk out i s) = some (.inr (.inl (fin out s))))
  (hg : ∀ l, st = some l → (∀ out s l, Re s (some l) → f (mk out n s) = some (.inr (.inl (fin out s)))) ∧
   ∀ out i s l, i < n → out.length = i → Re s (some l) → ∃ v s', f (mk out i s) = some (.inl (mk (out ++ [v]) (i + 1) s')) ∧ Re s' ((g l).map (·.2)) ∧ ∀ v' l', g l = some (v', l') → v = v')
  (hk : ∀ out s' st', Re s' st' → Φ (k (fin out s')) (st'.bind (k' out))) :
  Φ (bindE (whileO f x0) k) (st.bind fun l => (gRep g n l).bind fun p => k' p.1 p.2) := by
 obtain ⟨o, s', q1, q2, q3⟩ := loop_begin mk (fun out s => (.inl (fin out s) : Y ⊕ Z)) n g s st h hbad hg
 rw [hx, q1, bindE_l]
 have := hk o s' _ q2
 have e : (st.bind fun l => (gRep g n l).bind fun p => k' p.1 p.2) = (st.bind (gRep g n)).bind fun p => k' p.1 p.2 := by cases st <;> rfl
 rw [e]
 cases hm : st.bind (gRep g n) with
 | none => rw [hm] at this; exact this
 | some p =>
  rw [hm] at this
  rw [q3 p.1 p.2 hm] at this ⊢
  exact this
end
end Go.TM
namespace Go.Proofs.YtdpapeledldifaaGreat
open Go Go.AM Go.TM
theorem Re2.cut {a:List UInt8} {t:Bool} {st:Option (List UInt8)} (c:Prop) [Decidable c] (h:Re2 (a,t) st):Re2 (a,if c then true else t) (if c then none else st):=by
 by_cases hc:c
 ·simp only [if_pos hc];exact h.bad
 ·simp only [if_neg hc];exact h
theorem abs_iff (n:Fin 256):(!decide (andI .i64 (n.val:Int) 8=0))=decide (isAbs (n.val:Int)):=by
 revert n;decide +kernel
end Go.Proofs.YtdpapeledldifaaGreat
end
