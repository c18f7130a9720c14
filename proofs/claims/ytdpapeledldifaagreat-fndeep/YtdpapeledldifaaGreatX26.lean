/- Part 27 of the proof of FnDeep; no condition. -/
import Derived.Test.YtdpapeledldifaaGreatX25
import Derived.Lib.Bytealg
import Derived.Laws.Externs
open Option renaming some -> U
open Decidable renaming decide -> aa
open Bool renaming true -> ad
open Bool renaming false -> ag
open Option renaming none -> aj
open Sum renaming inl -> an
open Sum renaming inr -> ao
open List renaming length -> au
open Int renaming toNat -> aH
open List renaming drop -> kZ
open List renaming take -> nY
set_option autoImplicit true
set_option relaxedAutoImplicit true
set_option linter.all false
namespace Go.Proofs.YtdpapeledldifaaGreat
noncomputable section
open Go Go.AM Go.TM
open Go.Proofs.Tryz
open Sum (inl inr)
set_option maxRecDepth 100000
abbrev BZ:SPat:=⟨[(0,.s),(1,.i .u8)],[]⟩
abbrev kM:SPat:=⟨[(2,.i .i64)],[]⟩
def B0:List UInt8×Int->Option Int:=fun(s,c)=>U (Lib.indexByte s c.toNat.toUInt8)
def HY:TEnt:=⟨322,ad,[],BZ,kM.Den,B0,fun y=>U (.i .i64 y,[])⟩
def PI:jC Tryz.prog 322 HY.W:=by
 rintro args ob K ⟨⟨s,c⟩,y,v,obs,h1,h2,h3,h4,h5⟩
 refine AC.le h1 h2 ?_
 have h3:U (Lib.indexByte s c.toNat.toUInt8)=U y:=h3
 have h4:U (V.i .i64 y,([]:List TO))=U (v,obs):=h4
 obtain⟨rfl,rfl⟩:=Prod.mk.inj (Option.some.inj h4)
 have hy:y=Lib.indexByte s c.toNat.toUInt8:=(Option.some.inj h3).symm
 subst hy
 intro w G vs fO hlen hr hO hown
 have hr:RL w G [SV.s s,SV.i .u8 c] vs.toList zf:=hr
 have hO:aW w G [] fO:=hO
 have hz:fO=zf:=hO
 subst hz
 have hvs:vs = #[.string ⟨s.toArray⟩,.int .u8 c]:=by
  simp only[RL,R]at hr
  obtain⟨v1,r1,f1,f2,e1,⟨_,rfl⟩,⟨v2,r2,f3,f4,e2,⟨_,rfl⟩,_,_⟩,_⟩:=hr
  have hsz:vs.toList.length=2:=hlen
  rw[e1,e2]at hsz
  have:r2=[]:=by simpa using hsz
  rw[this]at e2
  rw[e2]at e1
  exact Array.toList_inj.1 (by rw[e1])
 refine .inr ⟨.int .i64 (Lib.indexByte s c.toNat.toUInt8),w,?_,?_⟩
 ·rw[run_callFunc_extern func322 (by kernel_rfl) (by kernel_rfl) (by kernel_rfl) (e:=Extern.BytealgIndexByte.indexByte) (by kernel_rfl),hvs]
  have hrun:=Lib.run_indexByteString (P:=Tryz.prog) ⟨(s:List UInt8).toArray⟩ (c:Int) w
  exact(congrArg (fun r=>Result.andThen r fun v w'=>Result.ok (Next.value v) w') hrun).trans rfl
 ·exact⟨_,[],G,zf,zf,h5,by simp[e,R],rfl,⟨fun g=>by simp[zf],fun g _=>by simp[zf],hown.2.2.1,fun g hg=>by simp[zf]at hg⟩,fun g h=>h,fun g _ h=>.inl h,fun g _ h=>by simp[zf]at h,fun g _ _=>rfl,fun n _=>rfl,by simp[aV,bo],bI _,rfl,rfl,rfl⟩
def tb322:=ax 322 HY tbT0
def HZ:zTb tb322:=ir.ins ir.nil PI
end
noncomputable section
open Go Go.AM Go.TM
open Go.Proofs.Tryz
open Sum (inl inr)
set_option maxRecDepth 100000
set_option maxHeartbeats 4000000
abbrev gU:SPat:=⟨[(0,.i .i64)],[]⟩
abbrev fG:SPat:=⟨[(2,.s)],[]⟩
def H0:Nat->List Nat×bc:=fun id=>bif id==7 then([0,1,3,4,5,6],(.br 2 [1,0] [3,4,5,6] [] (.br 7 [6,5,4,3] [0,1] [8,9] (.br 10 fu [] [] .fin .fin) .fin) (.br 7 [6,5,4,3] [0,1] [8] (.br 2 [1,0] [3,4,5,6,8] [9] (.br 10 fu [] [] .fin .fin) .fin) .fin)))else([],.fin)
def B1 (R:gU.Den->Option fG.Den):TEnt:=⟨274,ad,[],gU,fG.Den,R,sJ T [.tmp 2] 28 fG []⟩
def nE (R274:Int->Option (List UInt8)):Int->Option (List UInt8):=fun n=>
 ah (aa (n < -9223372036854775807))
  (U ([(45:UInt8),57,50,50,51,51,55,50,48,51,54,56,53,52,55,55,53,56,48,56]))
  (ah (aa (n<0))
   (ai (R274 (IntKind.wrap .i64 ((0:Int)-n))) fun y=>
   af (aa ((1:Nat)+au y<=9223372036854775807)) (U ([(45:UInt8)]++y)))
   (ah (aa (n<10))
    (af (aa (0<=IntKind.wrap .u8 (IntKind.wrap .i64 ((48:Int)+n)))&&aa (IntKind.wrap .u8 (IntKind.wrap .i64 ((48:Int)+n))<=255)) (U ([UInt8.ofNat (aH (IntKind.wrap .u8 (IntKind.wrap .i64 ((48:Int)+n))))])))
    (cm
     (ai (R274 (IntKind.wrap .i64 (Int.tdiv n (10:Int)))) fun y=>
     ak (ak (af (aa (n=n)) (U ())) (ak (af (aa (Int.tmod n (10:Int)=Int.tmod n (10:Int))) (U ())) (ak (af (aa (IntKind.wrap .i64 ((48:Int)+Int.tmod n (10:Int))=IntKind.wrap .i64 ((48:Int)+Int.tmod n (10:Int)))) (U ())) (ak (af (aa (IntKind.wrap .u8 (IntKind.wrap .i64 ((48:Int)+Int.tmod n (10:Int)))=IntKind.wrap .u8 (IntKind.wrap .i64 ((48:Int)+Int.tmod n (10:Int))))) (U ())) (U ()))))) (af (aa (0<=IntKind.wrap .u8 (IntKind.wrap .i64 ((48:Int)+Int.tmod n (10:Int))))&&aa (IntKind.wrap .u8 (IntKind.wrap .i64 ((48:Int)+Int.tmod n (10:Int)))<=255)) (ak (ak (af (aa (n=n)) (U ())) (ak (af (aa (IntKind.wrap .i64 (Int.tdiv n (10:Int))=IntKind.wrap .i64 (Int.tdiv n (10:Int)))) (U ())) (U ()))) (af (aa (au y+1<=9223372036854775807)) (U (y++[UInt8.ofNat (aH (IntKind.wrap .u8 (IntKind.wrap .i64 ((48:Int)+Int.tmod n (10:Int)))))]))))))
     (af (aa (0<=IntKind.wrap .u8 (IntKind.wrap .i64 ((48:Int)+Int.tmod n (10:Int))))&&aa (IntKind.wrap .u8 (IntKind.wrap .i64 ((48:Int)+Int.tmod n (10:Int)))<=255)) (ak (ak (af (aa (n=n)) (U ())) (ak (af (aa (IntKind.wrap .i64 (Int.tdiv n (10:Int))=IntKind.wrap .i64 (Int.tdiv n (10:Int)))) (U ())) (U ()))) (ai (R274 (IntKind.wrap .i64 (Int.tdiv n (10:Int)))) fun y=>
     ak (ak (af (aa (n=n)) (U ())) (ak (af (aa (Int.tmod n (10:Int)=Int.tmod n (10:Int))) (U ())) (ak (af (aa (IntKind.wrap .i64 ((48:Int)+Int.tmod n (10:Int))=IntKind.wrap .i64 ((48:Int)+Int.tmod n (10:Int)))) (U ())) (ak (af (aa (IntKind.wrap .u8 (IntKind.wrap .i64 ((48:Int)+Int.tmod n (10:Int)))=IntKind.wrap .u8 (IntKind.wrap .i64 ((48:Int)+Int.tmod n (10:Int))))) (U ())) (ak (af (aa ([UInt8.ofNat (aH (IntKind.wrap .u8 (IntKind.wrap .i64 ((48:Int)+Int.tmod n (10:Int)))))]=[UInt8.ofNat (aH (IntKind.wrap .u8 (IntKind.wrap .i64 ((48:Int)+Int.tmod n (10:Int)))))])) (U ())) (U ())))))) (af (aa (au y+1<=9223372036854775807)) (U (y++[UInt8.ofNat (aH (IntKind.wrap .u8 (IntKind.wrap .i64 ((48:Int)+Int.tmod n (10:Int)))))])))))))))
def PJ (R274:Int->Option (List UInt8))(x:Int):qs T (ax 274 (B1 R274) tb322) H0 28 aU (BP Tryz.f274) gU fG x=nE R274 x:=by kernel_rfl
def ml:Nat->Int->Option (List UInt8)
 |0=>fun _=>aj
 |n+1=>nE (ml n)
def H1:∀n,jC Tryz.prog 274 (B1 (ml n)).W
 |0=>fun args ob K ⟨x,y,v,obs,h1,h2,h3,_⟩=>by cases h3
 |n+1=>wm (ir.ins HZ (H1 n)) wo wB ad [] gU fG [] H0 aU func274 rfl results274 ntmps274 (by kernel_rfl) (by kernel_rfl) call274 (ml (n+1)) fun x _ h=>(PJ (ml n) x).trans h
def jJ:Int->Option (List UInt8):=ml 24
def PK:TEnt:=B1 jJ
def tb274:=ax 274 PK tb322
def PL:zTb tb274:=ir.ins HZ (H1 24)
end
noncomputable section
open Go Go.AM Go.TM
open Go.Proofs.Tryz
open Sum (inl inr)
open Go.IntKind (wrap)
set_option maxRecDepth 100000
set_option maxHeartbeats 4000000
abbrev sT:SPat:=⟨[(0,.sl .byte)],[]⟩
abbrev PM:SPat:=⟨[(2,.ptr 10 0)],[.box 10 (pl gP)]⟩
def wC:zBy->Option (zBy×Int):=fun a=>
 ah (aa (2000<(a.length:Int)))
 (af (aa (2000<=(a.length:Int))) (U ((kZ (0:Nat) (nY (2000:Nat) a),(0:Int)))))
 (U ((a,(0:Int))))
def tb49:=ax 49 (az 49 ag [] sT PM wC [.tmp 2] 11 [10]) tb274
def PN:zTb tb49:=aB PL aL aU func49 rfl call49
abbrev H2:SPat:=⟨[(0,.ptr 100000 0),(1,.i .i64)],mj⟩
abbrev H3:SPat:=⟨[(4,.i .i64)],mj⟩
def PO:Nat->Option SPat:=fun k=>bif k==1000004 then U H2 else aj
def PP:Nat->List Nat×bc:=fun id=>bif id==7 then([0,1,2,3,4,5,6,7,8,9,10,11,12,13,14,15,16,17,18,19,20,21,22,23,24,25,26,27,28,29,30,31,32,33,34,35,36,37,38,39,40,41,42,43,44],(.br 45 [44,43,42,41,40,39,38,37,36,35,34,33,32,31,30,29,28,27,26,25,24,23,22,21,20,19,18,17,16,15,14,13,12,11,10,9,8,7,6,5,4,3,2,1,0] [] [] .fin .fin))else([],.fin)
def cw:Int×zBy×Int->Option (Int×zBy×Int):=fun(a,b,c)=>
 bindE (Y:=Int×zBy×Int) (ah (aa (a<1))
 (U (ao (0,b,wrap .i64 (c+1))))
 (ah (aa ((b.length:Int)=0))
 (U (ao (0,b,wrap .i64 (c+1))))
 (U (an (a,b,wrap .i64 (c+1)))))) fun(a,b,c)=>
 ah (aa (wrap .i64 (c-1)<(b.length:Int)))
 (af (aa (0<=wrap .i64 (c-1))) (aq b (aH (wrap .i64 (c-1))) fun d=>af (!aa (a=0)) (U ((Int.tmod (wrap .i64 (d.toNat:Int)) a,b,c)))))
 (af (!aa ((b.length:Int)=0)) (af (aa (0<=Int.tmod (wrap .i64 (c-1)) (b.length:Int))) (aq b (aH (Int.tmod (wrap .i64 (c-1)) (b.length:Int))) fun d=>af (!aa ((b.length:Int)=0)) (af (aa (0<=Int.tmod (wrap .i64 (wrap .i64 (wrap .i64 (c-1)*7)+3)) (b.length:Int))) (aq b (aH (Int.tmod (wrap .i64 (wrap .i64 (wrap .i64 (c-1)*7)+3)) (b.length:Int))) fun e=>af (!aa ((b.length:Int)=0)) (af (!aa (a=0)) (U ((Int.tmod (pC IntKind.i64 (wrap .i64 (wrap .i64 (wrap .i64 (wrap .i64 (wrap .i64 (d.toNat:Int)*131)+wrap .i64 (wrap .i64 (e.toNat:Int)*1117))+wrap .i64 (wrap .i64 (c-1)*29))+wrap .i64 (wrap .i64 (Int.tdiv (wrap .i64 (c-1)) (b.length:Int))*53))) (wrap .i64 (Int.tdiv (wrap .i64 (wrap .i64 (wrap .i64 (wrap .i64 (wrap .i64 (d.toNat:Int)*131)+wrap .i64 (wrap .i64 (e.toNat:Int)*1117))+wrap .i64 (wrap .i64 (c-1)*29))+wrap .i64 (wrap .i64 (Int.tdiv (wrap .i64 (c-1)) (b.length:Int))*53))) (64:Int)))) a,b,c)))))))))
def tb51:=ax 51 (az 51 ag [(0,[])] H2 H3 cw [.tmp 4] 99 [100000]) tb49
def PQ:zTb tb51:=aB PN PP PO func51 rfl call51
abbrev PR:SPat:=⟨[(0,.ptr 100000 0),(1,.sl .str)],mj⟩
abbrev wD:SPat:=⟨[(4,.s)],mj⟩
def dL:List zBy×zBy×Int->Option (zBy×zBy×Int):=fun(a,b,c)=>
 ai (cw ((a.length:Int),b,c)) fun(b,c,d)=>
 af (aa (0<=b)) (aq a b.toNat fun a=>U ((a,c,d)))
def tb119:=ax 119 (az 119 ag [(0,[])] PR wD dL [.tmp 4] 12 [100000]) tb51
def PS:zTb tb119:=aB PQ aL aU func119 rfl call119
abbrev dD:SPat:=⟨[],[]⟩
abbrev PT:SPat:=⟨[(0,.own .str ad)],[]⟩
def sU:PUnit->Option (List zBy):=fun _=>
 U ([[(110:UInt8),111,112],[(112:UInt8),117,115,104],[(110:UInt8),117,108,108],[(108:UInt8),111,97,100],[(115:UInt8),116,111,114,101],[(114:UInt8),101,102,108,111,97,100],[(114:UInt8),101,102,115,116,111,114,101],[(112:UInt8),111,112],[(100:UInt8),117,112],[(115:UInt8),119,97,112],[(97:UInt8),100,100],[(115:UInt8),117,98],[(109:UInt8),117,108],[(100:UInt8),105,118],[(105:UInt8),102,122,101,114,111],[(105:UInt8),102,110,101,103],[(105:UInt8),102,110,117,108,108],[(105:UInt8),102,115,97,109,101],[(103:UInt8),111],[(110:UInt8),101,119],[(103:UInt8),101,116],[(112:UInt8),117,116],[(103:UInt8),101,116,97,108,108],[(112:UInt8),117,116,97,108,108],[(118:UInt8),105,114,116,117,97,108],[(115:UInt8),112,101,99,105,97,108],[(115:UInt8),116,97,116,105,99],[(102:UInt8),97,99,101],[(99:UInt8),97,115,116],[(105:UInt8),115],[(103:UInt8),105,118,101,105,110,116],[(103:UInt8),105,118,101,114,101,102],[(103:UInt8),105,118,101],[(116:UInt8),104,114,111,119],[(112:UInt8),114,105,110,116]])
def tb302:=ax 302 (az 302 ad [] dD PT sU [.tmp 0] 2 []) tb119
def PU:zTb tb302:=aB PS aL aU func302 rfl call302
abbrev PV:SPat:=⟨[(0,.s),(1,.i .u8),(2,.i .i64)],[]⟩
abbrev PW:SPat:=⟨[(6,.own .str ad)],[]⟩
abbrev B2:SPat:=⟨[(0,.s),(1,.i .u8),(2,.i .i64),(7,.own .str ad),(8,.i .i64),(9,.i .i64)],[]⟩
abbrev PX:SPat:=⟨[(0,.s),(7,.own .str ad),(8,.i .i64)],[]⟩
def PY:Nat->Option SPat:=fun k=>bif k==4 then U B2 else bif k==1000006 then U B2 else bif k==2000000 then U PX else bif k==2000001 then U B2 else aj
def nF:zBy×Int×Int->Option (List zBy):=fun(a,b,c)=>
 bindE (Y:=zBy×List zBy×Int) (aD (fun(a,b,c,d,e,f)=>
 bindE (Y:=zBy×Int×Int×List zBy×Int×Int) (ah (aa (f<(a.length:Int)))
 (ah (aa ((d.length:Int)<c))
 (U (an (a,b,c,d,e,f)))
 (U (ao (ao (an (a,d,e))))))
 (U (ao (ao (an (a,d,e)))))) fun(a,b,c,d,e,f)=>
 bindE (Y:=zBy×Int×Int×List zBy×Int×Int) (af (aa (0<=f)) (aq a f.toNat fun g=>ah (aa ((g.toNat:Int)=b))
 (af (aa (0<=e)&&aa (e<=f)&&aa (f<=(a.length:Int))) (af (aa (d.length+1<=9223372036854775807)&&aa ((d.length+1)*16<=140737488355328)) (U (an (a,b,c,d++[kZ e.toNat (nY f.toNat a)],wrap .i64 (f+1),f)))))
 (U (an (a,b,c,d,e,f))))) fun(a,b,c,d,e,f)=>
 U (an (a,b,c,d,e,wrap .i64 (f+1)))) ((a,b,c,[],(0:Int),(0:Int)))) fun(a,b,c)=>
 af (aa (0<=c)&&aa (c<=(a.length:Int))&&aa ((a.length:Int)<=(a.length:Int))) (af (aa (b.length+1<=9223372036854775807)&&aa ((b.length+1)*16<=140737488355328)) (U (b++[kZ c.toNat (nY (aH (a.length:Int)) a)])))
def tb278:=ax 278 (az 278 ad [] PV PW nF [.tmp 6] 43 []) tb302
def PZ:zTb tb278:=aB PU aL PY func278 rfl call278
abbrev P0:SPat:=⟨[(0,.sl .str),(1,.s)],[]⟩
abbrev mm:SPat:=⟨[(4,.i .i64)],[]⟩
abbrev P1:SPat:=⟨[(0,.sl .str),(1,.s),(5,.i .i64)],[]⟩
def P2:Nat->Option SPat:=fun k=>bif k==2 then U P1 else bif k==2000000 then U dD else aj
def qz:List zBy×zBy->Option Int:=fun(a,b)=>
 bindE (aD (fun(a,b,c)=>
 ah (aa (c<(a.length:Int)))
 (af (aa (0<=c)) (aq a c.toNat fun d=>ah (aa (d=b))
 (U (ao (ao c)))
 (U (an (a,b,wrap .i64 (c+1))))))
 (U (ao (an ())))) ((a,b,(0:Int)))) fun _=>
 U ((-1:Int))
def tb301:=ax 301 (az 301 ad [] P0 mm qz [.tmp 4] 19 []) tb278
def P3:zTb tb301:=aB PZ aL P2 func301 rfl call301
abbrev H4:SPat:=⟨[(0,.i .i64),(1,.i .i64),(2,.i .i64)],[]⟩
abbrev kN:SPat:=⟨[(6,.b)],[]⟩
def eN:Int×Int×Int->Option Bool:=fun(a,b,c)=>
 ah (aa (b<=a))
 (U (aa (a<=c)))
 (U ag)
def tb107:=ax 107 (az 107 ad [] H4 kN eN [.tmp 6] 15 []) tb301
def P4:zTb tb107:=aB P3 aL aU func107 rfl call107
def P5:Nat->Option SPat:=fun k=>bif k==2000000 then U gU else aj
def lC:Int->Option Int:=fun a=>
 bindE (ah (aa (a=1))
 (U (ao (2:Int)))
 (ah (aa (a=3))
 (U (ao (1:Int)))
 (ah (aa (a=4))
 (U (ao (1:Int)))
 (ah (aa (a=5))
 (U (ao (1:Int)))
 (ah (aa (a=6))
 (U (ao (1:Int)))
 (U (an a))))))) fun a=>
 ai (eN (a,14,18)) fun b=>
 ah (b)
 (U ((2:Int)))
 (ai (eN (a,19,29)) fun b=>
 ah (b)
 (U ((2:Int)))
 (ai (eN (a,0,34)) fun a=>
 ah (a)
 (U ((0:Int)))
 (U ((-1:Int)))))
def tb251:=ax 251 (az 251 ad [] gU kM lC [.tmp 2] 19 []) tb107
def P6:zTb tb251:=aB P4 aL P5 func251 rfl call251
abbrev P7:SPat:=⟨[(0,.ptr 100000 0),(1,.s)],kK⟩
abbrev kd:SPat:=⟨[],kK⟩
def P8:Nat->List Nat×bc:=fun id=>bif id==1 then([0,1,2,3,4,5,7],(.br 6 [] [0,1,2,3,4,5,7] [] (.br 8 [7,6] gQ [9,10] (.br 11 [10,9,8,7,6] gQ [] (.br 12 [11,10,9,8,7,6] gQ [13,14,15] (.br 16 sL [] [] .fin .fin) .fin) .fin) .fin) .fin))else([],.fin)
def bM:zBy×(zBy×zBy×zBy×Int×zBy)×zBy×Int->Option ((zBy×zBy×zBy×Int×zBy)×zBy×Int):=fun(a,(b,c,d,e,f),g,h)=>
 af (aa (b.length+2<=9223372036854775807)) (af (aa (au (b++[(32:UInt8),32])+a.length<=9223372036854775807)) (af (aa (au (b++[(32:UInt8),32]++a)+1<=9223372036854775807)) (ai (sU ()) fun i=>
 ak (ak (af (aa (e=e)) (U ())) (ak (af (aa (wrap .i64 (e+1)=wrap .i64 (e+1))) (U ())) (ak (af (aa (a=a)) (U ())) (U ())))) (ai (nF (a,32,1)) fun j=>
 ak (ak (af (aa (e=e)) (U ())) (ak (af (aa (wrap .i64 (e+1)=wrap .i64 (e+1))) (U ())) (U ()))) (aq j 0 fun j=>ai (qz (i,j)) fun i=>
 ak (ak (af (aa (e=e)) (U ())) (ak (af (aa (wrap .i64 (e+1)=wrap .i64 (e+1))) (U ())) (U ()))) (ai (lC i) fun i=>
 ak (ak (af (aa (e=e)) (U ())) (ak (af (aa (wrap .i64 (e+1)=wrap .i64 (e+1))) (U ())) (U ()))) (U (((b++[(32:UInt8),32]++a++[(10:UInt8)],c,d,wrap .i64 (wrap .i64 (e+1)+i),f),g,h)))))))))
def tb273:=ax 273 (az 273 ag [(0,[]),(0,[0])] P7 kd bM [] 31 [100000,100001]) tb251
def P9:zTb tb273:=aB P6 P8 aU func273 rfl call273
abbrev oU:SPat:=⟨[(0,.ptr 100000 0)],kK⟩
abbrev H5:SPat:=⟨[(2,.s)],kK⟩
def fZ:(zBy×zBy×zBy×Int×zBy)×zBy×Int->Option (zBy×(zBy×zBy×zBy×Int×zBy)×zBy×Int):=fun((a,b,c,d,e),f,g)=>
 ai (cw (3,f,g)) fun(f,g,h)=>
 ai (jJ f) fun f=>
 U ((f,(a,b,c,d,e),g,h))
def tb277:=ax 277 (az 277 ag [(0,[]),(0,[0])] oU H5 fZ [.tmp 2] 9 [100000,100001]) tb273
def P_:zTb tb277:=aB P9 aL aU func277 rfl call277
abbrev Qa:SPat:=⟨[(0,.ptr 100000 0),(1,.sl (.int .i64))],mj⟩
def ji:List Int×zBy×Int->Option (Int×zBy×Int):=fun(a,b,c)=>
 ai (cw ((a.length:Int),b,c)) fun(b,c,d)=>
 af (aa (0<=b)) (aq a b.toNat fun a=>U ((a,c,d)))
def tb105:=ax 105 (az 105 ag [(0,[])] Qa H3 ji [.tmp 4] 12 [100000]) tb277
def Qb:zTb tb105:=aB P_ aL aU func105 rfl call105
def Qc:Nat->Option SPat:=fun k=>bif k==2000000 then U kd else aj
def oV:(zBy×zBy×zBy×Int×zBy)×zBy×Int->Option ((zBy×zBy×zBy×Int×zBy)×zBy×Int):=fun((a,b,c,d,e),f,g)=>let h:=[(114:UInt8),101,102,108,111,97,100,32];let i:=[(112:UInt8),117,115,104,32];ai (cw (6,f,g)) fun(f,g,j)=>
 bindE (Y:=(zBy×zBy×zBy×Int×zBy)×zBy×Int) (ah (aa (f=0))
 (ai (fZ ((a,b,c,d,e),g,j)) fun(a,(b,c,d,e,f),g,i)=>
 af (aa ((8:Nat)+a.length<=9223372036854775807)) (ai (bM (h++a,(b,c,d,e,f),g,i)) fun((a,b,c,d,e),f,g)=>
 ai (bM ([(103:UInt8),101,116,32,65,32,120,32,73],(a,b,c,d,e),f,g)) fun((a,b,c,d,e),f,g)=>
 U (an ((a,b,c,d,e),f,g))))
 (ah (aa (f=1))
 (ai (fZ ((a,b,c,d,e),g,j)) fun(a,(b,c,d,e,f),g,i)=>
 af (aa ((8:Nat)+a.length<=9223372036854775807)) (ai (bM (h++a,(b,c,d,e,f),g,i)) fun((a,b,c,d,e),f,g)=>
 ai (bM ([(118:UInt8),105,114,116,117,97,108,32,65,32,103,101,116,32,40,41,73],(a,b,c,d,e),f,g)) fun((a,b,c,d,e),f,g)=>
 U (an ((a,b,c,d,e),f,g))))
 (ah (aa (f=2))
 (ai (bM ([(103:UInt8),101,116,97,108,108,32,65,32,115,32,73],(a,b,c,d,e),g,j)) fun((a,b,c,d,e),f,g)=>
 U (an ((a,b,c,d,e),f,g)))
 (ah (aa (f=3))
 (ai (ji ([(0:Int),1,2,7,32767,(-32768:Int),(-1:Int)],g,j)) fun(f,g,h)=>
 ai (jJ f) fun f=>
 af (aa ((5:Nat)+f.length<=9223372036854775807)) (ai (bM (i++f,(a,b,c,d,e),g,h)) fun((a,b,c,d,e),f,g)=>
 ai (ji ([(0:Int),1,3,(-2:Int)],f,g)) fun(f,g,h)=>
 ai (jJ f) fun f=>
 af (aa ((5:Nat)+f.length<=9223372036854775807)) (ai (bM (i++f,(a,b,c,d,e),g,h)) fun((a,b,c,d,e),f,g)=>
 ai (dL ([[(97:UInt8),100,100],[(115:UInt8),117,98],[(109:UInt8),117,108],[(100:UInt8),105,118]],f,g)) fun(f,g,h)=>
 ai (bM (f,(a,b,c,d,e),g,h)) fun((a,b,c,d,e),f,g)=>
 U (an ((a,b,c,d,e),f,g)))))
 (ai (ji ([(0:Int),1,2,5,(-1:Int),(100:Int)],g,j)) fun(f,g,h)=>
 ai (jJ f) fun f=>
 af (aa ((5:Nat)+f.length<=9223372036854775807)) (ai (bM (i++f,(a,b,c,d,e),g,h)) fun((a,b,c,d,e),f,g)=>
 U (an ((a,b,c,d,e),f,g)))))))) fun((a,b,c,d,e),f,g)=>
 U (((a,b,c,d,e),f,g))
def tb303:=ax 303 (az 303 ag [(0,[]),(0,[0])] oU kd oV [] 59 [100000,100001]) tb105
def Qd:zTb tb303:=aB Qb aL Qc func303 rfl call303
abbrev Qe:SPat:=⟨[(0,.ptr 100000 0),(2,.ptr 100001 0),(8,.i .i64),(15,.b)],kK⟩
def Qf:Nat->Option SPat:=fun k=>bif k==1000007 then U Qe else bif k==2000000 then U kd else aj
def sV:(zBy×zBy×zBy×Int×zBy)×zBy×Int->Option ((zBy×zBy×zBy×Int×zBy)×zBy×Int):=fun((a,b,c,d,e),f,g)=>let h:=[(114:UInt8),101,102,108,111,97,100,32];ai (cw (10,f,g)) fun(f,g,i)=>
 bindE (Y:=(zBy×zBy×zBy×Int×zBy)×zBy×Int) (ah (aa (f=0))
 (ai (bM ([(110:UInt8),117,108,108],(a,b,c,d,e),g,i)) fun((a,b,c,d,e),f,g)=>
 U (an ((a,b,c,d,e),f,g)))
 (bindE (Y:=Int×Bool×(zBy×zBy×zBy×Int×zBy)×zBy×Int) (ah (aa (f=1))
 (U (an (f,ad,(a,b,c,d,e),g,i)))
 (U (an (f,aa (f=2),(a,b,c,d,e),g,i)))) fun(a,b,(c,d,e,f,g),i,j)=>
 ah (b)
 (ai (bM ([(110:UInt8),101,119,32,66],(c,d,e,f,g),i,j)) fun((a,b,c,d,e),f,g)=>
 U (an ((a,b,c,d,e),f,g)))
 (ah (aa (a=3))
 (ai (bM ([(115:UInt8),116,97,116,105,99,32,65,32,109,107,32,40,41,76,65,59],(c,d,e,f,g),i,j)) fun((a,b,c,d,e),f,g)=>
 U (an ((a,b,c,d,e),f,g)))
 (ah (aa (a=4))
 (ai (fZ ((c,d,e,f,g),i,j)) fun(a,(b,c,d,e,f),g,i)=>
 af (aa ((8:Nat)+a.length<=9223372036854775807)) (ai (bM (h++a,(b,c,d,e,f),g,i)) fun((a,b,c,d,e),f,g)=>
 ai (dL ([[(66:UInt8)],[(65:UInt8)],[(67:UInt8)],[(70:UInt8)]],f,g)) fun(f,g,h)=>
 af (aa ((5:Nat)+f.length<=9223372036854775807)) (ai (bM ([(99:UInt8),97,115,116,32]++f,(a,b,c,d,e),g,h)) fun((a,b,c,d,e),f,g)=>
 U (an ((a,b,c,d,e),f,g)))))
 (ah (aa (a=5))
 (ai (fZ ((c,d,e,f,g),i,j)) fun(a,(b,c,d,e,f),g,i)=>
 af (aa ((8:Nat)+a.length<=9223372036854775807)) (ai (bM (h++a,(b,c,d,e,f),g,i)) fun((a,b,c,d,e),f,g)=>
 ai (bM ([(118:UInt8),105,114,116,117,97,108,32,65,32,110,101,120,116,32,40,41,76,65,59],(a,b,c,d,e),f,g)) fun((a,b,c,d,e),f,g)=>
 U (an ((a,b,c,d,e),f,g))))
 (ah (aa (a=6))
 (ai (dL ([[(67:UInt8)],[(65:UInt8)],[(79:UInt8),98,106],[(70:UInt8)]],i,j)) fun(a,b,h)=>
 af (aa ((4:Nat)+a.length<=9223372036854775807)) (ai (bM ([(110:UInt8),101,119,32]++a,(c,d,e,f,g),b,h)) fun((a,b,c,d,e),f,g)=>
 U (an ((a,b,c,d,e),f,g))))
 (ai (bM ([(110:UInt8),101,119,32,65],(c,d,e,f,g),i,j)) fun((a,b,c,d,e),f,g)=>
 U (an ((a,b,c,d,e),f,g))))))))) fun((a,b,c,d,e),f,g)=>
 U (((a,b,c,d,e),f,g))
def tb304:=ax 304 (az 304 ag [(0,[]),(0,[0])] oU kd sV [] 54 [100000,100001]) tb303
def Qg:zTb tb304:=aB Qd aL Qf func304 rfl call304
def Qh:Nat->List Nat×bc:=fun id=>bif id==1 then(BT,(.br 16 sL [] [] .fin .fin))else([],.fin)
def qA:(zBy×zBy×zBy×Int×zBy)×zBy×Int->Option (zBy×(zBy×zBy×zBy×Int×zBy)×zBy×Int):=fun((a,b,c,d,e),f,g)=>let h:=[(44:UInt8)];af (aa (e.length+1<=9223372036854775807)) (af (aa (au (e++h)+e.length<=9223372036854775807)) (af (aa (au (e++h++e)+1<=9223372036854775807)) (af (aa (au (e++h++e++h)+e.length<=9223372036854775807)) (U ((e++h++e++h++e,(a,b,c,d,e),f,g))))))
def tb308:=ax 308 (az 308 ag [(0,[]),(0,[0])] oU H5 qA [.tmp 2] 19 [100000,100001]) tb304
def Qi:zTb tb308:=aB Qg Qh aU func308 rfl call308
abbrev Qj:SPat:=⟨[(0,.ptr 100000 0),(1,.s),(2,.s)],kK⟩
def Qk:Nat->List Nat×bc:=fun id=>bif id==0 then([0,1,2,3,4,5,6,7,8,9,13,16],(.br 10 [9,8,7,6] [0,1,2,3,4,5,13,16] [11,12,14,15,17,18,19,20] (.br 21 HP [] [] .fin .fin) .fin))else([],.fin)
def qB:zBy×zBy×(zBy×zBy×zBy×Int×zBy)×zBy×Int->Option ((zBy×zBy×zBy×Int×zBy)×zBy×Int):=fun(a,b,(c,d,e,f,g),h,i)=>let j:=[(102:UInt8),114,97,109,101,32];let k:=[(32:UInt8)];af (aa (e.length+6<=9223372036854775807)) (ai (jJ f) fun l=>
 ak (ak (af (aa (e=e)) (U ())) (ak (af (aa (e.length+6<=9223372036854775807)) (af (aa (e++j=e++j)) (U ()))) (ak (af (aa (a=a)) (U ())) (ak (af (aa (b=b)) (U ())) (U ()))))) (af (aa (au (e++j)+l.length<=9223372036854775807)) (af (aa (au (e++j++l)+1<=9223372036854775807)) (af (aa (au (e++j++l++k)+a.length<=9223372036854775807)) (af (aa (au (e++j++l++k++a)+1<=9223372036854775807)) (af (aa (au (e++j++l++k++a++k)+b.length<=9223372036854775807)) (af (aa (au (e++j++l++k++a++k++b)+1<=9223372036854775807)) (U (((c,d,e++j++l++k++a++k++b++[(10:UInt8)],f,g),h,i))))))))))
def tb307:=ax 307 (az 307 ag [(0,[]),(0,[0])] Qj kd qB [] 27 [100000,100001]) tb308
def Ql:zTb tb307:=aB Qi Qk aU func307 rfl call307
abbrev Qm:SPat:=⟨[(0,.ptr 100000 0),(2,.ptr 100001 0),(3,.s)],kK⟩
def Qn:Nat->Option SPat:=fun k=>bif k==2000000 then U Qm else aj
def wE:(zBy×zBy×zBy×Int×zBy)×zBy×Int->Option ((zBy×zBy×zBy×Int×zBy)×zBy×Int):=fun((a,b,c,d,e),f,g)=>let h:=[(114:UInt8),101,102,108,111,97,100,32];let i:=[(105:UInt8),102,110,117,108,108];let j:=[(105:UInt8),102,115,97,109,101];let k:=[(46:UInt8)];ai (dL ([[(105:UInt8),102,122,101,114,111],[(105:UInt8),102,110,101,103],i,j],f,g)) fun(f,g,l)=>
 bindE (Y:=zBy×(zBy×zBy×zBy×Int×zBy)×zBy×Int) (ah (aa (f=i))
 (ai (fZ ((a,b,c,d,e),g,l)) fun(a,(b,c,d,e,g),i,j)=>
 af (aa ((8:Nat)+a.length<=9223372036854775807)) (ai (bM (h++a,(b,c,d,e,g),i,j)) fun((a,b,c,d,e),g,h)=>
 U (an (f,(a,b,c,d,e),g,h))))
 (ah (aa (f=j))
 (ai (fZ ((a,b,c,d,e),g,l)) fun(a,(b,c,d,e,g),i,j)=>
 af (aa ((8:Nat)+a.length<=9223372036854775807)) (ai (bM (h++a,(b,c,d,e,g),i,j)) fun((a,b,c,d,e),g,i)=>
 ai (fZ ((a,b,c,d,e),g,i)) fun(a,(b,c,d,e,g),i,j)=>
 af (aa ((8:Nat)+a.length<=9223372036854775807)) (ai (bM (h++a,(b,c,d,e,g),i,j)) fun((a,b,c,d,e),g,h)=>
 U (an (f,(a,b,c,d,e),g,h)))))
 (ai (oV ((a,b,c,d,e),g,l)) fun((a,b,c,d,e),g,h)=>
 U (an (f,(a,b,c,d,e),g,h))))) fun(a,(b,c,d,e,f),g,h)=>
 af (aa (a.length+1<=9223372036854775807)) (ai (jJ (wrap .i64 (wrap .i64 (e+3)+4))) fun i=>
 af (aa (au (a++[(32:UInt8)])+i.length<=9223372036854775807)) (ai (bM (a++[(32:UInt8)]++i,(b,c,d,e,f),g,h)) fun((a,b,c,d,e),f,g)=>
 ai (bM ([(112:UInt8),117,115,104,32,53,48],(a,b,c,d,e),f,g)) fun((a,b,c,d,e),f,g)=>
 ai (bM ([(112:UInt8),114,105,110,116],(a,b,c,d,e),f,g)) fun((a,b,c,d,e),f,g)=>
 ai (qA ((a,b,c,d,e),f,g)) fun(a,(b,c,d,e,f),g,h)=>
 ai (dL ([k,k,k,k,k,k,k,[(73:UInt8)]],g,h)) fun(g,h,i)=>
 ai (qB (a,g,(b,c,d,e,f),h,i)) fun((a,b,c,d,e),f,g)=>
 U (((a,b,c,d,e),f,g))))
def tb305:=ax 305 (az 305 ag [(0,[]),(0,[0])] oU kd wE [] 58 [100000,100001]) tb307
def Qo:zTb tb305:=aB Ql aL Qn func305 rfl call305
def Qp:Nat->Option SPat:=fun k=>bif k==2000000 then U kd else aj
def wF:(zBy×zBy×zBy×Int×zBy)×zBy×Int->Option ((zBy×zBy×zBy×Int×zBy)×zBy×Int):=fun((a,b,c,d,e),f,g)=>let h:=[(114:UInt8),101,102,108,111,97,100,32];let i:=[(112:UInt8),114,105,110,116];ai (cw (5,f,g)) fun(f,g,j)=>bindE (Y:=(zBy×zBy×zBy×Int×zBy)×zBy×Int) (ah (aa (f=0)) (ai (fZ ((a,b,c,d,e),g,j)) fun(a,(b,c,d,e,f),g,j)=>af (aa ((8:Nat)+a.length<=9223372036854775807)) (ai (bM (h++a,(b,c,d,e,f),g,j)) fun((a,b,c,d,e),f,g)=>ai (bM ([(115:UInt8),116,97,116,105,99,32,85,32,101,97,116,32,40,76,65,59,41,73],(a,b,c,d,e),f,g)) fun((a,b,c,d,e),f,g)=>ai (bM (i,(a,b,c,d,e),f,g)) fun((a,b,c,d,e),f,g)=>U (an ((a,b,c,d,e),f,g)))) (let k:=fun(a:Int) (b:zBy) (c:zBy) (d:zBy) (e:Int) (f:zBy) (g:zBy)=>ai (fZ ((b,c,d,e,f),g,a)) fun(a,(b,c,d,e,f),g,h)=>af (aa ((9:Nat)+a.length<=9223372036854775807)) (ai (bM ([(114:UInt8),101,102,115,116,111,114,101,32]++a,(b,c,d,e,f),g,h)) fun((a,b,c,d,e),f,g)=>U (an ((a,b,c,d,e),f,g)));ah (aa (f=1)) (ai (bM ([(115:UInt8),116,97,116,105,99,32,85,32,109,97,107,101,32,40,41,76,65,59],(a,b,c,d,e),g,j)) fun((a,b,c,d,e),f,g)=>k g a b c d e f) (ah (aa (f=2)) (ai (bM ([(103:UInt8),101,116,97,108,108,32,85,32,97,32,76,65,59],(a,b,c,d,e),g,j)) fun((a,b,c,d,e),f,g)=>k g a b c d e f) (ah (aa (f=3)) (ai (fZ ((a,b,c,d,e),g,j)) fun(a,(b,c,d,e,f),g,i)=>af (aa ((8:Nat)+a.length<=9223372036854775807)) (ai (bM (h++a,(b,c,d,e,f),g,i)) fun((a,b,c,d,e),f,g)=>ai (bM ([(112:UInt8),117,116,97,108,108,32,85,32,97,32,76,65,59],(a,b,c,d,e),f,g)) fun((a,b,c,d,e),f,g)=>U (an ((a,b,c,d,e),f,g)))) (ai (bM ([(110:UInt8),101,119,32,67],(a,b,c,d,e),g,j)) fun((a,b,c,d,e),f,g)=>ai (fZ ((a,b,c,d,e),f,g)) fun(a,(b,c,d,e,f),g,j)=>af (aa ((8:Nat)+a.length<=9223372036854775807)) (ai (bM (h++a,(b,c,d,e,f),g,j)) fun((a,b,c,d,e),f,g)=>ai (bM ([(102:UInt8),97,99,101,32,70,32,116,97,107,101,32,40,76,65,59,41,73],(a,b,c,d,e),f,g)) fun((a,b,c,d,e),f,g)=>ai (bM (i,(a,b,c,d,e),f,g)) fun((a,b,c,d,e),f,g)=>U (an ((a,b,c,d,e),f,g)))))))) fun((a,b,c,d,e),f,g)=>U (((a,b,c,d,e),f,g))
def tb306:=ax 306 (az 306 ag [(0,[]),(0,[0])] oU kd wF [] 58 [100000,100001]) tb305
def Qq:zTb tb306:=aB Qo aL Qp func306 rfl call306
abbrev Qr:SPat:=⟨[(0,.ptr 100000 0),(2,.ptr 100001 0),(8,.i .i64),(11,.b)],kK⟩
abbrev Qs:SPat:=⟨[(0,.ptr 100000 0),(2,.ptr 100001 0),(8,.i .i64),(18,.b)],kK⟩
def Qt:Nat->Option SPat:=fun k=>bif k==1000005 then U Qr else bif k==1000010 then U Qs else bif k==2000000 then U kd else aj
def wG:(zBy×zBy×zBy×Int×zBy)×zBy×Int->Option ((zBy×zBy×zBy×Int×zBy)×zBy×Int):=fun((a,b,c,d,e),f,g)=>let h:=[(114:UInt8),101,102,108,111,97,100,32];let i:=[(112:UInt8),114,105,110,116];let j:=[(110:UInt8),111,112];let k:=[(67:UInt8)];ai (cw (14,f,g)) fun(f,g,l)=>
 bindE (Y:=(zBy×zBy×zBy×Int×zBy)×zBy×Int) (bindE (Y:=Int×Bool×(zBy×zBy×zBy×Int×zBy)×zBy×Int) (ah (aa (f=0))
 (U (an (f,ad,(a,b,c,d,e),g,l)))
 (U (an (f,aa (f=1),(a,b,c,d,e),g,l)))) fun(a,b,(c,d,e,f,g),l,m)=>
 ah (b)
 (ai (oV ((c,d,e,f,g),l,m)) fun((a,b,c,d,e),f,g)=>
 ai (bM (i,(a,b,c,d,e),f,g)) fun((a,b,c,d,e),f,g)=>
 U (an ((a,b,c,d,e),f,g)))
 (bindE (Y:=Int×Bool×(zBy×zBy×zBy×Int×zBy)×zBy×Int) (ah (aa (a=2))
 (U (an (a,ad,(c,d,e,f,g),l,m)))
 (ah (aa (a=3))
 (U (an (a,ad,(c,d,e,f,g),l,m)))
 (U (an (a,aa (a=4),(c,d,e,f,g),l,m))))) fun(a,b,(c,d,e,f,g),l,m)=>
 ah (b)
 (ai (sV ((c,d,e,f,g),l,m)) fun((a,b,c,d,e),f,g)=>
 ai (fZ ((a,b,c,d,e),f,g)) fun(a,(b,c,d,e,f),g,h)=>
 af (aa ((9:Nat)+a.length<=9223372036854775807)) (ai (bM ([(114:UInt8),101,102,115,116,111,114,101,32]++a,(b,c,d,e,f),g,h)) fun((a,b,c,d,e),f,g)=>
 U (an ((a,b,c,d,e),f,g))))
 (ah (aa (a=5))
 (ai (fZ ((c,d,e,f,g),l,m)) fun(a,(b,c,d,e,f),g,i)=>
 af (aa ((8:Nat)+a.length<=9223372036854775807)) (ai (bM (h++a,(b,c,d,e,f),g,i)) fun((a,b,c,d,e),f,g)=>
 ai (oV ((a,b,c,d,e),f,g)) fun((a,b,c,d,e),f,g)=>
 ai (bM ([(112:UInt8),117,116,32,65,32,120,32,73],(a,b,c,d,e),f,g)) fun((a,b,c,d,e),f,g)=>
 U (an ((a,b,c,d,e),f,g))))
 (ah (aa (a=6))
 (ai (wE ((c,d,e,f,g),l,m)) fun((a,b,c,d,e),f,g)=>
 U (an ((a,b,c,d,e),f,g)))
 (ah (aa (a=7))
 (ai (oV ((c,d,e,f,g),l,m)) fun((a,b,c,d,e),f,g)=>
 ai (bM ([(112:UInt8),117,116,97,108,108,32,65,32,115,32,73],(a,b,c,d,e),f,g)) fun((a,b,c,d,e),f,g)=>
 U (an ((a,b,c,d,e),f,g)))
 (ah (aa (a=8))
 (ai (dL ([k,k,k,[(65:UInt8)]],l,m)) fun(a,b,h)=>
 af (aa ((4:Nat)+a.length<=9223372036854775807)) (ai (bM ([(110:UInt8),101,119,32]++a,(c,d,e,f,g),b,h)) fun((a,b,c,d,e),f,g)=>
 ai (bM ([(102:UInt8),97,99,101,32,70,32,103,101,116,32,40,41,73],(a,b,c,d,e),f,g)) fun((a,b,c,d,e),f,g)=>
 ai (bM (i,(a,b,c,d,e),f,g)) fun((a,b,c,d,e),f,g)=>
 U (an ((a,b,c,d,e),f,g))))
 (ah (aa (a=9))
 (ai (fZ ((c,d,e,f,g),l,m)) fun(a,(b,c,d,e,f),g,j)=>
 af (aa ((8:Nat)+a.length<=9223372036854775807)) (ai (bM (h++a,(b,c,d,e,f),g,j)) fun((a,b,c,d,e),f,g)=>
 ai (dL ([[(66:UInt8)],[(65:UInt8)],[(70:UInt8)],k],f,g)) fun(f,g,h)=>
 af (aa ((3:Nat)+f.length<=9223372036854775807)) (ai (bM ([(105:UInt8),115,32]++f,(a,b,c,d,e),g,h)) fun((a,b,c,d,e),f,g)=>
 ai (bM (i,(a,b,c,d,e),f,g)) fun((a,b,c,d,e),f,g)=>
 U (an ((a,b,c,d,e),f,g)))))
 (ah (aa (a=10))
 (ai (fZ ((c,d,e,f,g),l,m)) fun(a,(b,c,d,e,f),g,i)=>
 af (aa ((8:Nat)+a.length<=9223372036854775807)) (ai (bM (h++a,(b,c,d,e,f),g,i)) fun((a,b,c,d,e),f,g)=>
 ai (sV ((a,b,c,d,e),f,g)) fun((a,b,c,d,e),f,g)=>
 ai (bM ([(112:UInt8),117,116,32,65,32,110,32,76,65,59],(a,b,c,d,e),f,g)) fun((a,b,c,d,e),f,g)=>
 U (an ((a,b,c,d,e),f,g))))
 (ah (aa (a=11))
 (ai (dL ([j,j,[(110:UInt8),117,108,108],[(97:UInt8),100,100],[(118:UInt8),105,114,116,117,97,108,32,65,32,104,105,100,32,40,41,86],[(115:UInt8),112,101,99,105,97,108,32,65,32,103,101,116,32,40,41,73],[(103:UInt8),101,116,97,108,108,32,65,32,120,32,73],[(108:UInt8),111,97,100,32,48],[(112:UInt8),117,115,104,32,49]],l,m)) fun(a,b,h)=>
 ai (bM (a,(c,d,e,f,g),b,h)) fun((a,b,c,d,e),f,g)=>
 ai (dL ([j,[(112:UInt8),111,112],[(112:UInt8),111,112],[(100:UInt8),117,112],[(115:UInt8),119,97,112]],f,g)) fun(f,g,h)=>
 ai (bM (f,(a,b,c,d,e),g,h)) fun((a,b,c,d,e),f,g)=>
 U (an ((a,b,c,d,e),f,g)))
 (ai (wF ((c,d,e,f,g),l,m)) fun((a,b,c,d,e),f,g)=>
 U (an ((a,b,c,d,e),f,g)))))))))))) fun((a,b,c,d,e),f,g)=>
 U (((a,b,c,d,e),f,g))
def tb275:=ax 275 (az 275 ag [(0,[]),(0,[0])] oU kd wG [] 100 [100000,100001]) tb306
def Qu:zTb tb275:=aB Qq aL Qt func275 rfl call275
abbrev Qv:SPat:=⟨[(0,.ptr 100000 0),(1,.i .i64)],kK⟩
abbrev Qw:SPat:=⟨[(0,.ptr 100000 0),(1,.i .i64),(4,.s),(5,.s)],kK⟩
def Qx:Nat->Option SPat:=fun k=>bif k==1000004 then U Qw else aj
def Qy:Nat->List Nat×bc:=fun id=>bif id==6 then([0,1,5,9,10,11,12,16],(.br 2 [1] [0,5,9,10,11,12,16] [3,4] (.br 6 [5,2,1] [0,9,10,11,12,16,3,4] [7,8] (.br 13 [12,11,10,9,6,5,2,1] [0,16,3,4,7,8] [14,15,17,18,19,20] (.br 21 HP [] [] .fin .fin) .fin) .fin) .fin))else([],.fin)
def wH:Int×(zBy×zBy×zBy×Int×zBy)×zBy×Int->Option ((zBy×zBy×zBy×Int×zBy)×zBy×Int):=fun(a,(b,c,d,e,f),g,h)=>let i:=[(116:UInt8),114,97,112,32];let j:=[(32:UInt8)];ai (dL ([[(45:UInt8)],[(69:UInt8),114,114],[(69:UInt8),114,114],[(65:UInt8)],[(66:UInt8)]],g,h)) fun(g,h,k)=>af (aa ((1:Nat)+g.length<=9223372036854775807)) (af (aa (au ([(76:UInt8)]++g)+1<=9223372036854775807)) (bindE (Y:=Int×zBy×zBy×(zBy×zBy×zBy×Int×zBy)×zBy×Int) (ah (aa (g=[(45:UInt8)])) (U (an (a,g,[(76:UInt8),79,98,106,59],(b,c,d,e,f),h,k))) (U (an (a,g,[(76:UInt8)]++g++[(59:UInt8)],(b,c,d,e,f),h,k)))) fun(a,b,c,(d,e,f,g,h),k,l)=>ai (jJ (wrap .i64 (wrap .i64 (g+3)+5))) fun m=>af (aa ((3:Nat)+m.length<=9223372036854775807)) (ai (bM ([(103:UInt8),111,32]++m,(d,e,f,g,h),k,l)) fun((d,_,e,f,h),k,l)=>ai (jJ a) fun a=>ak (ak (af (aa (g=g)) (U ())) (ak (af (aa (f=f)) (U ())) (ak (af (aa (b=b)) (U ())) (U ())))) (af (aa ((5:Nat)+a.length<=9223372036854775807)) (af (aa (au (i++a)+1<=9223372036854775807)) (ai (jJ g) fun g=>let m:=af (aa (au (i++a)+1<=9223372036854775807)) (af (aa (i++a++j=i++a++j)) (U ()));let n:=af (aa ((5:Nat)+a.length<=9223372036854775807)) (af (aa (i++a=i++a)) (U ()));ak (ak (af (aa (f=f)) (U ())) (ak (af (aa (b=b)) (U ())) (ak n (ak m (U ()))))) (af (aa (au (i++a++j)+g.length<=9223372036854775807)) (af (aa (au (i++a++j++g)+1<=9223372036854775807)) (ai (jJ f) fun o=>ak (ak (af (aa (b=b)) (U ())) (ak n (ak m (ak (af (aa (au (i++a++j)+g.length<=9223372036854775807)) (af (aa (i++a++j++g=i++a++j++g)) (U ()))) (ak (af (aa (au (i++a++j++g)+1<=9223372036854775807)) (af (aa (i++a++j++g++j=i++a++j++g++j)) (U ()))) (U ())))))) (af (aa (au (i++a++j++g++j)+o.length<=9223372036854775807)) (af (aa (au (i++a++j++g++j++o)+1<=9223372036854775807)) (af (aa (au (i++a++j++g++j++o++j)+b.length<=9223372036854775807)) (af (aa (au (i++a++j++g++j++o++j++b)+1<=9223372036854775807)) (ai (qA ((d,i++a++j++g++j++o++j++b++[(10:UInt8)],e,f,h),k,l)) fun(a,(b,d,e,f,g),h,i)=>ai (qB (a,c,(b,d,e,f,g),h,i)) fun((a,b,c,d,e),f,g)=>ai (bM ([(112:UInt8),111,112],(a,b,c,d,e),f,g)) fun((a,b,c,d,e),f,g)=>ai (bM ([(112:UInt8),117,115,104,32,55,55],(a,b,c,d,e),f,g)) fun((a,b,c,d,e),f,g)=>ai (bM ([(112:UInt8),114,105,110,116],(a,b,c,d,e),f,g)) fun((a,b,c,d,e),f,g)=>ai (qA ((a,b,c,d,e),f,g)) fun(a,(b,c,d,e,f),g,h)=>ai (qB (a,[(46:UInt8)],(b,c,d,e,f),g,h)) fun((a,b,c,d,e),f,g)=>U (((a,b,c,d,e),f,g))))))))))))))))
def tb276:=ax 276 (az 276 ag [(0,[]),(0,[0])] Qv kd wH [] 68 [100000,100001]) tb275
def Qz:zTb tb276:=aB Qu Qy Qx func276 rfl call276
abbrev B3:SPat:=⟨[(0,.ptr 100000 0),(1,.s)],mj⟩
abbrev QA:SPat:=⟨[(0,.ptr 100000 0),(1,.s),(5,.ptr 11 0),(6,.i .i64)],[.box 11 (pl sP),.box 100000 (pl gP)]⟩
abbrev QB:SPat:=⟨[(0,.ptr 100000 0),(1,.s),(5,.ptr 11 0),(7,.i .i64),(8,.i .i64)],[.box 11 (pl sP),.box 100000 (pl gP)]⟩
abbrev H6:SPat:=⟨[(0,.ptr 100000 0),(1,.s),(5,.ptr 11 0)],[.box 11 (pl sP),.box 100000 (pl gP)]⟩
abbrev QC:SPat:=⟨[(1,.s),(5,.ptr 11 0)],[.box 11 (pl sP),.box 100000 (pl gP)]⟩
abbrev QD:SPat:=⟨[(0,.ptr 100000 0),(1,.s),(5,.ptr 11 0),(7,.i .i64)],[.box 11 (pl sP),.box 100000 (pl gP)]⟩
def QE:Nat->Option SPat:=fun k=>bif k==3 then U QA else bif k==9 then U QB else bif k==1000014 then U H6 else bif k==1000018 then U QC else bif k==2000000 then U H6 else bif k==2000002 then U QD else aj
def QF:Nat->List Nat×bc:=fun id=>bif id==18 then(BU,(.br 18 sM [] [] .fin .fin))else([],.fin)
def wJ:zBy×zBy×Int->Option (zBy×zBy×Int):=fun(a,b,c)=>let d:=[(32:UInt8),40,41,86,32,49,32,51,32,51,10];let e:=[(109:UInt8),101,116,104,111,100,32];bindE (Y:=zBy×(zBy×zBy×zBy×Int×zBy)×zBy×Int) (aD (fun(a,b,(c,d,e,f,g),h,i)=>
 ah (aa (b<3))
 (ai (dL ([[(110:UInt8),117,108,108],[(110:UInt8),117,108,108],[(110:UInt8),101,119,32,65]],h,i)) fun(h,i,j)=>
 ai (bM (h,(c,d,e,f,g),i,j)) fun((c,d,e,f,g),h,i)=>
 ai (jJ b) fun j=>
 af (aa ((9:Nat)+j.length<=9223372036854775807)) (ai (bM ([(114:UInt8),101,102,115,116,111,114,101,32]++j,(c,d,e,f,g),h,i)) fun((c,d,e,f,g),h,i)=>
 U (an (a,wrap .i64 (b+1),(c,d,e,f,g),h,i))))
 (U (ao (an (a,(c,d,e,f,g),h,i))))) ((a,(0:Int),([],[],[],(0:Int),[(76:UInt8),65,59]),b,c))) fun(a,(b,c,f,g,h),i,j)=>
 ai (cw (6,i,j)) fun(i,j,k)=>
 bindE (Y:=zBy×Int×(zBy×zBy×zBy×Int×zBy)×zBy×Int) (aD (fun(a,b,c,(d,e,f,g,h),i,j)=>
 ah (aa (0<c))
 (ah (aa (g<80))
 (ai (wG ((d,e,f,g,h),i,j)) fun((d,e,f,g,h),i,j)=>
 U (an (a,b,wrap .i64 (c-1),(d,e,f,g,h),i,j)))
 (U (ao (an (a,b,(d,e,f,g,h),i,j)))))
 (U (ao (an (a,b,(d,e,f,g,h),i,j))))) ((a,g,wrap .i64 ((1:Int)+i),(b,c,f,g,h),j,k))) fun(a,b,(c,f,g,h,i),j,k)=>
 bindE (Y:=zBy×(zBy×zBy×zBy×Int×zBy)×zBy×Int) (ai (cw (3,j,k)) fun(d,e,j)=>
 ah (aa (d=0))
 (ai (wH (b,(c,f,g,h,i),e,j)) fun((b,c,d,e,f),g,h)=>
 U (an (a,(b,c,d,e,f),g,h)))
 (U (an (a,(c,f,g,h,i),e,j)))) fun(a,(b,c,f,g,h),i,j)=>
 bindE (Y:=zBy×(zBy×zBy×zBy×Int×zBy)×zBy×Int) (ai (cw (8,i,j)) fun(d,e,i)=>
 ah (aa (d=0))
 (ai (fZ ((b,c,f,g,h),e,i)) fun(b,(c,d,e,f,g),h,i)=>
 af (aa ((8:Nat)+b.length<=9223372036854775807)) (ai (bM ([(114:UInt8),101,102,108,111,97,100,32]++b,(c,d,e,f,g),h,i)) fun((b,c,d,e,f),g,h)=>
 ai (bM ([(116:UInt8),104,114,111,119],(b,c,d,e,f),g,h)) fun((b,c,d,e,f),g,h)=>
 U (an (a,(b,c,d,e,f),g,h))))
 (ai (bM ([(103:UInt8),105,118,101],(b,c,f,g,h),e,i)) fun((b,c,d,e,f),g,h)=>
 U (an (a,(b,c,d,e,f),g,h)))) fun(a,(b,c,f,_,_),g,h)=>
 af (aa ((7:Nat)+a.length<=9223372036854775807)) (af (aa (au (e++a)+11<=9223372036854775807)) (af (aa (au (e++a++d)+b.length<=9223372036854775807)) (af (aa (au (e++a++d++b)+c.length<=9223372036854775807)) (af (aa (au (e++a++d++b++c)+f.length<=9223372036854775807)) (U ((e++a++d++b++c++f,g,h)))))))
def tb217:=ax 217 (az 217 ag [(0,[])] B3 wD wJ [.tmp 4] 82 [100000]) tb276
def QG:zTb tb217:=aB Qz QF QE func217 rfl call217
abbrev QH:SPat:=⟨[(3,.i .i64),(4,.b)],[]⟩
abbrev QI:SPat:=⟨[(3,.i .i64),(8,.b)],[]⟩
abbrev QJ:SPat:=⟨[(3,.i .i64),(13,.b)],[]⟩
def QK:Nat->Option SPat:=fun k=>bif k==1000005 then U QH else bif k==1000010 then U QI else bif k==1000014 then U QJ else aj
def oW:Int->Option Int:=fun a=>
 bindE (ah (aa (a=19))
 (U (an (a,ad)))
 (ah (aa (a=28))
 (U (an (a,ad)))
 (U (an (a,aa (a=29)))))) fun(a,b)=>
 ah (b)
 (U ((2:Int)))
 (bindE (ah (aa (a=20))
 (U (an (a,ad)))
 (ah (aa (a=21))
 (U (an (a,ad)))
 (ah (aa (a=22))
 (U (an (a,ad)))
 (U (an (a,aa (a=23))))))) fun(a,b)=>
 ah (b)
 (U ((4:Int)))
 (bindE (ah (aa (a=24))
 (U (an (a,ad)))
 (ah (aa (a=25))
 (U (an (a,ad)))
 (U (an (a,aa (a=26)))))) fun(a,b)=>
 ah (b)
 (U ((5:Int)))
 (ah (aa (a=27))
 (U ((6:Int)))
 (U ((0:Int))))))
def tb291:=ax 291 (az 291 ad [] gU kM oW [.tmp 2] 19 []) tb217
def QL:zTb tb291:=aB QG aL QK func291 rfl call291
abbrev QM:SPat:=⟨[(0,.ptr 100000 0),(1,.agg (pl dC))],iw⟩
abbrev wK:SPat:=⟨[(4,.i .i64)],iw⟩
abbrev QN:SPat:=⟨[(0,.ptr 100000 0),(3,.ptr 3 0),(5,.i .i64)],[.box 3 (pl dC),.box 100000 (pl jh)]⟩
abbrev QO:SPat:=⟨[(0,.ptr 100000 0),(3,.ptr 3 0)],[.box 3 (pl dC),.box 100000 (pl jh)]⟩
def QP:Nat->Option SPat:=fun k=>bif k==2 then U QN else bif k==2000000 then U QO else aj
def QQ:Nat->List Nat×bc:=fun id=>bif id==4 then(nA,.fin)else bif id==6 then(mf,(.br 7 [6] gQ [] (.br 8 sN [0] [9,10,11] (.br 12 eY [] [] .fin .fin) .fin) .fin))else([],.fin)
def oX :  Cst×List Cst×Int×Int×Int×List Int×List Fld×List Mth×Bool->Option (Int×List Cst×Int×Int×Int×List Int×List Fld×List Mth×Bool):=fun((a,b,c,d),e,f,g,h,i,j,k,l)=>
 bindE (Y :=  Cst×List Cst×Int×Int×Int×List Int×List Fld×List Mth×Bool) (aD (fun(a,(b,c,d,e),f,g,h,i,j,k,l,m)=>
 ah (aa (a<(f.length:Int)))
 (af (aa (0<=a)&&aa (a<(f.length:Int))) (aq f a.toNat fun n=>ah (aa (n.1=b)&&(aa (n.2.1=c)&&(aa (n.2.2.1=d)&&(aa (n.2.2.2=e)&&ad))))
 (U (ao (ao (wrap .i64 (a+1),f,g,h,i,j,k,l,m))))
 (U (an (wrap .i64 (a+1),(b,c,d,e),f,g,h,i,j,k,l,m)))))
 (U (ao (an ((b,c,d,e),f,g,h,i,j,k,l,m))))) (((0:Int),(a,b,c,d),e,f,g,h,i,j,k,l))) fun((a,b,c,d),e,f,g,h,i,j,k,l)=>
 af (aa (e.length+1<=9223372036854775807)&&aa ((e.length+1)*40<=140737488355328)) (U (((↑(au (e++[(a,b,c,d)])):Int),e++[(a,b,c,d)],f,g,h,i,j,k,l)))
def tb326:=ax 326 (az 326 ag [(0,[])] QM wK oX [.tmp 4] 46 [100000]) tb291
def QR:zTb tb326:=aB QL QQ QP func326 rfl call326
abbrev wL:SPat:=⟨[(0,.ptr 100000 0),(1,.s)],iw⟩
def lD:zBy×List Cst×Int×Int×Int×List Int×List Fld×List Mth×Bool->Option (Int×List Cst×Int×Int×Int×List Int×List Fld×List Mth×Bool):=fun(a,b,c,d,e,f,g,h,i)=>
 ah (aa (60<(a.length:Int)))
 (U (((0:Int),b,c,d,e,f,g,h,ad)))
 (ai (oX (((1:Int),a,(0:Int),(0:Int)),b,c,d,e,f,g,h,i)) fun(a,b,c,d,e,f,g,h,i)=>
 U ((a,b,c,d,e,f,g,h,i)))
def tb312:=ax 312 (az 312 ag [(0,[])] wL wK lD [.tmp 4] 15 [100000]) tb326
def QT:zTb tb312:=aB QR aL aU func312 rfl call312
def nG:zBy×List Cst×Int×Int×Int×List Int×List Fld×List Mth×Bool->Option (Int×List Cst×Int×Int×Int×List Int×List Fld×List Mth×Bool):=fun(a,b,c,d,e,f,g,h,i)=>
 ai (lD (a,b,c,d,e,f,g,h,i)) fun(a,b,c,d,e,f,g,h,i)=>
 ai (oX (((2:Int),[],a,(0:Int)),b,c,d,e,f,g,h,i)) fun(a,b,c,d,e,f,g,h,i)=>
 U ((a,b,c,d,e,f,g,h,i))
def tb310:=ax 310 (az 310 ag [(0,[])] wL wK nG [.tmp 4] 11 [100000]) tb312
def QU:zTb tb310:=aB QT aL aU func310 rfl call310
abbrev QV:SPat:=⟨[(0,.ptr 100000 0),(1,.i .i64),(2,.s),(3,.s),(4,.s)],iw⟩
abbrev QW:SPat:=⟨[(10,.i .i64)],iw⟩
def wM:Int×zBy×zBy×zBy×List Cst×Int×Int×Int×List Int×List Fld×List Mth×Bool->Option (Int×List Cst×Int×Int×Int×List Int×List Fld×List Mth×Bool):=fun(a,b,c,d,e,f,g,h,i,j,k,l)=>
 ai (nG (b,e,f,g,h,i,j,k,l)) fun(b,e,f,g,h,i,j,k,l)=>
 ai (lD (c,e,f,g,h,i,j,k,l)) fun(c,e,f,g,h,i,j,k,l)=>
 ai (lD (d,e,f,g,h,i,j,k,l)) fun(d,e,f,g,h,i,j,k,l)=>
 ai (oX (((3:Int),[],c,d),e,f,g,h,i,j,k,l)) fun(c,d,e,f,g,h,i,j,k)=>
 ai (oX ((a,[],b,c),d,e,f,g,h,i,j,k)) fun(a,b,c,d,e,f,g,h,i)=>
 U ((a,b,c,d,e,f,g,h,i))
def tb324:=ax 324 (az 324 ag [(0,[])] QV QW wM [.tmp 10] 33 [100000]) tb310
def QX:zTb tb324:=aB QU aL aU func324 rfl call324
abbrev fH:SPat:=⟨[(0,.s)],[]⟩
abbrev H7:SPat:=⟨[(0,.s),(3,.i .i64),(4,.i .i64)],[]⟩
abbrev B4:SPat:=⟨[(0,.s),(3,.i .i64)],[]⟩
def QY:Nat->Option SPat:=fun k=>bif k==3 then U H7 else bif k==1000007 then U H7 else bif k==2000000 then U B4 else aj
def nH:zBy->Option Int:=fun a=>
 bindE (Y:=zBy×Int) (aD (fun(a,b,c)=>
 ah (aa (c<(a.length:Int)))
 (bindE (Y:=zBy×Int×Int) (af (aa (0<=c)) (aq a c.toNat fun d=>ah (aa ((d.toNat:Int)<48))
 (U (ao (ao (ao (-1:Int)))))
 (af (aa (0<=c)) (aq a c.toNat fun d=>ah (aa (57<(d.toNat:Int)))
 (U (ao (ao (ao (-1:Int)))))
 (ah (aa (5<=c))
 (U (ao (ao (ao (-1:Int)))))
 (U (an (a,b,c)))))))) fun(a,b,c)=>
 af (aa (0<=c)) (aq a c.toNat fun d=>U (an (a,wrap .i64 (wrap .i64 (b*10)+wrap .i64 (wrap .u8 ((d.toNat:Int)-48))),wrap .i64 (c+1)))))
 (U (ao (an (a,b))))) ((a,(0:Int),(0:Int)))) fun(a,b)=>
 ah (aa ((a.length:Int)=0))
 (U ((-1:Int)))
 (ah (aa (1<(a.length:Int)))
 (aq a 0 fun a=>ah (aa ((a.toNat:Int)=48))
 (U ((-1:Int)))
 (U b))
 (U b))
def tb327:=ax 327 (az 327 ad [] fH kM nH [.tmp 2] 47 []) tb324
def QZ:zTb tb327:=aB QX aL QY func327 rfl call327
abbrev Q0:SPat:=⟨[(2,.i .i64),(3,.b)],[]⟩
abbrev Q1:SPat:=⟨[(0,.s),(13,.b)],[]⟩
def Q2:Nat->Option SPat:=fun k=>bif k==1000002 then U Q1 else aj
def wN:zBy->Option (Int×Bool):=fun a=>
 bindE (Y:=zBy×Bool) (ah (aa (1<(a.length:Int)))
 (aq a 0 fun b=>U (an (a,aa ((b.toNat:Int)=45))))
 (U (an (a,ag)))) fun(a,b)=>
 ah (b)
 (af (aa (1<=(a.length:Int))&&aa ((a.length:Int)<=(a.length:Int))) (ai (nH (kZ (1:Nat) (nY (aH (a.length:Int)) a))) fun a=>
 U ((wrap .i64 ((0:Int)-a),aa (0<a)))))
 (ai (nH a) fun a=>
 U ((a,aa (0<=a))))
def tb325:=ax 325 (az 325 ad [] fH Q0 wN [.tmp 2,.tmp 3] 26 []) tb327
def Q3:zTb tb325:=aB QZ aL Q2 func325 rfl call325
def gV:zBy×List Cst×Int×Int×Int×List Int×List Fld×List Mth×Bool->Option (Int×List Cst×Int×Int×Int×List Int×List Fld×List Mth×Bool):=fun(a,b,c,d,e,f,g,h,i)=>
 ai (nH a) fun a=>
 ah (aa (a<0))
 (U (((0:Int),b,c,d,e,f,g,h,ad)))
 (U ((a,b,c,d,e,f,g,h,i)))
def tb311:=ax 311 (az 311 ag [(0,[])] wL wK gV [.tmp 4] 14 [100000]) tb325
def Q4:zTb tb311:=aB Q3 aL aU func311 rfl call311
abbrev Q5:SPat:=⟨[(0,.ptr 100000 0)],iw⟩
abbrev Q6:SPat:=⟨[(2,.ptrI 7007 0)],[.arr 7007 cv ad,.box 100000 (pl [.own cz ad,.i .i64,.i .i64,.i .i64,.own (.int .i64) ad,.own bu ad,.ar 7007,.b])]⟩
def Q7:Nat->List Nat×bc:=fun id=>bif id==1 then(BV,(.br 13 iP [] [] .fin .fin))else([],.fin)
def nI:List Cst×Int×Int×Int×List Int×List Fld×List Mth×Bool->Option (Nat×List Mth×List Cst×Int×Int×Int×List Int×List Fld×Bool):=fun(a,b,c,d,e,f,g,h)=>
 af (aa (0<=wrap .i64 ((g.length:Int)-1))&&aa (wrap .i64 ((g.length:Int)-1)<(g.length:Int))) (U ((aH (wrap .i64 ((g.length:Int)-1)),g,a,b,c,d,e,f,h)))
def tb315:=ax 315 (az 315 ag [(0,[])] Q5 Q6 nI [.tmp 2] 16 [7007,100000]) tb311
def Q8:zTb tb315:=aB Q4 Q7 aU func315 rfl call315
abbrev Q9:SPat:=⟨[(0,.ptr 100000 0)],[.box 100000 (pl lB),.arr 100001 cv ad]⟩
abbrev Q_:SPat:=⟨[(2,.ptrI 100001 0)],[.box 100000 (pl lB),.arr 100001 cv ad]⟩
def Ra:Nat->List Nat×bc:=fun id=>bif id==1 then(BV,(.br 13 iP [] [] .fin .fin))else([],.fin)
def nJ:(List Cst×Int×Int×Int×List Int×List Fld×Bool)×List Mth->Option (Nat×(List Cst×Int×Int×Int×List Int×List Fld×Bool)×List Mth):=fun((a,b,c,d,e,f,g),h)=>
 af (aa (0<=wrap .i64 ((h.length:Int)-1))&&aa (wrap .i64 ((h.length:Int)-1)<(h.length:Int))) (U ((aH (wrap .i64 ((h.length:Int)-1)),(a,b,c,d,e,f,g),h)))
def zPf:=ax 7000315 (az 315 ag [(0,[]),(0,[6])] Q9 Q_ nJ [.tmp 2] 16 [100000,100001]) tb315
def Rb:zTb zPf:=aB Q8 Ra aU func315 rfl call315
def ew:Int->Option zBy:=fun a=>
 af (aa (0<=wrap .u8 a)&&aa (wrap .u8 a<=255)) (U ([UInt8.ofNat (aH (wrap .u8 a))]))
def tb134:=ax 134 (az 134 ad [] gU fG ew [.tmp 2] 7 []) zPf
def Rc:zTb tb134:=aB Rb aL aU func134 rfl call134
def eP:Int->Option zBy:=fun a=>
 af (aa (0<=wrap .u8 (wrap .i64 (Int.tdiv a (256:Int))))&&aa (wrap .u8 (wrap .i64 (Int.tdiv a (256:Int)))<=255)) (af (aa (0<=wrap .u8 (Int.tmod a (256:Int)))&&aa (wrap .u8 (Int.tmod a (256:Int))<=255)) (U ([UInt8.ofNat (aH (wrap .u8 (wrap .i64 (Int.tdiv a (256:Int))))),UInt8.ofNat (aH (wrap .u8 (Int.tmod a (256:Int))))])))
def tb136:=ax 136 (az 136 ad [] gU fG eP [.tmp 2] 11 []) tb134
def Rf:zTb tb136:=aB Rc aL aU func136 rfl call136
abbrev B5:SPat:=⟨[(0,.sl bu)],[]⟩
abbrev H8:SPat:=⟨[(0,.sl bu),(3,.s),(4,.i .i64)],[]⟩
abbrev qC:SPat:=⟨[(3,.s)],[]⟩
def Rg:Nat->Option SPat:=fun k=>bif k==3 then U H8 else bif k==2000000 then U qC else bif k==2000002 then U H8 else aj
def wO:List Fld->Option zBy:=fun a=>
 bindE (Y:=zBy) (aD (fun(a,b,c)=>
 ah (aa (c<(a.length:Int)))
 (af (aa (0<=c)) (aq a c.toNat fun d=>ai (ew d.2.1) fun e=>
 af (aa (b.length+e.length<=9223372036854775807)) (ai (lC d.2.1) fun f=>
 bindE (Y:=List Fld×zBy×Int) (ah (aa (f=1))
 (ai (ew d.2.2) fun d=>
 af (aa (au (b++e)+d.length<=9223372036854775807)) (U (an (a,b++e++d,c))))
 (ah (aa (f=2))
 (ai (eP (Int.tmod (wrap .i64 (d.2.2+65536)) (65536:Int))) fun d=>
 af (aa (au (b++e)+d.length<=9223372036854775807)) (U (an (a,b++e++d,c))))
 (U (an (a,b++e,c))))) fun(a,b,c)=>
 U (an (a,b,wrap .i64 (c+1))))))
 (U (ao (an b)))) ((a,[],(0:Int)))) fun a=>
 U (a)
def tb194:=ax 194 (az 194 ad [] B5 fG wO [.tmp 2] 41 []) tb136
def Rh:zTb tb194:=aB Rf aL Rg func194 rfl call194
abbrev B6:SPat:=⟨[(0,.ptr 100000 0),(1,.sl .str)],iw⟩
abbrev sW:SPat:=⟨[],iw⟩
abbrev Ri:SPat:=⟨[(0,.ptr 100000 0),(1,.sl .str),(4,.ptr 4 0)],[.box 4 (pl cG),.box 100000 (pl jh)]⟩
abbrev Rj:SPat:=⟨[(0,.ptr 100000 0),(1,.sl .str),(4,.ptr 4 0),(5,.i .i64),(35,.b)],[.box 4 (pl cG),.box 100000 (pl jh)]⟩
abbrev Rk:SPat:=⟨[(0,.ptr 100000 0),(1,.sl .str),(4,.ptr 4 0),(5,.i .i64),(49,.b)],[.box 4 (pl cG),.box 100000 (pl jh)]⟩
abbrev Rl:SPat:=⟨[(0,.ptr 100000 0),(1,.sl .str),(4,.ptr 4 0),(5,.i .i64),(70,.b)],[.box 4 (pl cG),.box 100000 (pl jh)]⟩
abbrev Rm:SPat:=⟨[(0,.ptr 100000 0),(1,.sl .str),(4,.ptr 4 0),(5,.i .i64),(93,.b)],[.box 4 (pl cG),.box 100000 (pl jh)]⟩
abbrev Rn:SPat:=⟨[(0,.ptr 100000 0),(4,.ptr 4 0)],[.box 4 (pl cG),.box 100000 (pl jh)]⟩
def Ro:Nat->Option SPat:=fun k=>bif k==1000003 then U Ri else bif k==1000006 then U Rj else bif k==1000008 then U Rk else bif k==1000010 then U Rl else bif k==1000015 then U Rm else bif k==2000000 then U Rn else aj
def Rp:Nat->List Nat×bc:=fun id=>bif id==0 then([1,2,3],(.br 0 [] [1,2,3] [] (.br 4 [3,2,1,0] [] [5] (.br 6 [] [1,2,3,5] [] (.br 7 dw [] [] .fin .fin) .fin) (.br 6 [] [1,2,3] [] (.br 4 [3,2,1,0] [] [5] (.br 7 dw [] [] .fin .fin) .fin) .fin)) (.br 6 [] [1,2,3] [] (.br 0 [] [1,2,3] [] (.br 4 [3,2,1,0] [] [5] (.br 7 dw [] [] .fin .fin) .fin) .fin) .fin)))else bif id==8 then(nB,(.br 11 fw [] [12] (.br 13 iP [] [] .fin .fin) .fin))else bif id==19 then([0,2,7],(.br 1 [0] [2,7] [] (.br 3 fW [7] gu (.br 8 [7] [0,2,4,5,6] [] (.br 9 [8,7,3,2,1,0] gu [10,11,12] (.br 13 iP [] [] .fin .fin) .fin) .fin) (.br 8 [7] [0,2] [] (.br 3 fW [7] gu (.br 9 [8,7,3,2,1,0] gu [10,11,12] (.br 13 iP [] [] .fin .fin) .fin) .fin) .fin)) (.br 8 [7] [0,2] [] (.br 1 [0] [2,7] [] (.br 3 fW [7] gu (.br 9 [8,7,3,2,1,0] gu [10,11,12] (.br 13 iP [] [] .fin .fin) .fin) .fin) .fin) .fin)))else([],.fin)
def wP:List zBy×List Cst×Int×Int×Int×List Int×List Fld×List Mth×Bool->Option (List Cst×Int×Int×Int×List Int×List Fld×List Mth×Bool):=fun(a,b,c,d,e,f,g,h,i)=>aq a 0 fun j=>let b:=fun(j:Int)=>bindE (Y:=List zBy×(Int×Int×Int)×List Cst×Int×Int×Int×List Int×List Fld×List Mth×Bool) (ah (aa ((h.length:Int)=0)) (U (ao (b,c,d,e,f,g,h,ad))) (ah (aa (j<0)) (U (ao (b,c,d,e,f,g,h,ad))) (U (an (a,((0:Int),j,(0:Int)),b,c,d,e,f,g,h,i))))) fun(a,(b,c,d),e,f,g,h,i,j,k,l)=>ai (oW c) fun m=>bindE (Y:=(Int×Int×Int)×List Cst×Int×Int×Int×List Int×List Fld×List Mth×Bool) (bindE (Y:=List zBy×Int×Bool×(Int×Int×Int)×List Cst×Int×Int×Int×List Int×List Fld×List Mth×Bool) (ah (aa (m=2)) (U (an (a,m,aa ((a.length:Int)=2),(b,c,d),e,f,g,h,i,j,k,l))) (U (an (a,m,ag,(b,c,d),e,f,g,h,i,j,k,l)))) fun(a,b,c,(d,e,f),g,h,i,j,k,l,m,n)=>ah c (aq a 1 fun a=>ai (nG (a,g,h,i,j,k,l,m,n)) fun(a,b,c,f,g,h,i,j,k)=>U (an ((d,e,a),b,c,f,g,h,i,j,k))) (bindE (Y:=List zBy×Int×Bool×(Int×Int×Int)×List Cst×Int×Int×Int×List Int×List Fld×List Mth×Bool) (ah (aa (2<b)) (U (an (a,b,aa ((a.length:Int)=4),(d,e,f),g,h,i,j,k,l,m,n))) (U (an (a,b,ag,(d,e,f),g,h,i,j,k,l,m,n)))) fun(a,b,c,(d,e,f),g,h,i,j,k,l,m,n)=>ah c (aq a 1 fun c=>aq a 2 fun f=>aq a 3 fun a=>ai (wM (b,c,f,a,g,h,i,j,k,l,m,n)) fun(a,b,c,f,g,h,i,j,k)=>U (an ((d,e,a),b,c,f,g,h,i,j,k))) (bindE (Y:=List zBy×Int×Bool×(Int×Int×Int)×List Cst×Int×Int×Int×List Int×List Fld×List Mth×Bool) (ah (aa (e=1)) (U (an (a,b,aa ((a.length:Int)=2),(d,e,f),g,h,i,j,k,l,m,n))) (U (an (a,b,ag,(d,e,f),g,h,i,j,k,l,m,n)))) fun(a,b,c,(d,e,f),g,h,i,j,k,l,m,n)=>ah c (aq a 1 fun a=>ai (wN a) fun(a,b)=>ah (!b) (U (an ((d,e,a),g,h,i,j,k,l,m,ad))) (U (an ((d,e,a),g,h,i,j,k,l,m,n)))) (bindE (Y:=List zBy×Int×Bool×(Int×Int×Int)×List Cst×Int×Int×Int×List Int×List Fld×List Mth×Bool) (ah (aa (b=0)) (ai (lC e) fun c=>ah (aa (0<c)) (U (an (a,b,aa ((a.length:Int)=2),(d,e,f),g,h,i,j,k,l,m,n))) (U (an (a,b,ag,(d,e,f),g,h,i,j,k,l,m,n)))) (U (an (a,b,ag,(d,e,f),g,h,i,j,k,l,m,n)))) fun(a,b,c,(d,e,f),g,h,i,j,k,l,m,n)=>ah c (aq a 1 fun a=>ai (gV (a,g,h,i,j,k,l,m,n)) fun(a,b,c,f,g,h,i,j,k)=>U (an ((d,e,a),b,c,f,g,h,i,j,k))) (ah (aa (b=0)) (ai (lC e) fun b=>ah (aa (b=0)) (ah (aa ((a.length:Int)=1)) (U (an ((d,e,f),g,h,i,j,k,l,m,n))) (U (ao (g,h,i,j,k,l,m,ad)))) (U (ao (g,h,i,j,k,l,m,ad)))) (U (ao (g,h,i,j,k,l,m,ad)))))))) fun((a,b,c),d,e,f,g,h,i,j,k)=>ai (eN (c,(-32768:Int),65535)) fun l=>ah (!l) (U ((d,e,f,g,h,i,j,ad))) (let l:=fun(d:List Fld) (e:Bool) (f:List Mth) (g:Mth) (h:Nat) (i:List Cst) (j:Int) (k:Int) (l:Int) (m:List Int) (n:Nat)=>ai (wO [(a,b,c)]) fun a=>ak (ak (af (h==h&&ad) (U ())) (ak (af (h==h&&ad) (U ())) (ak (aq f h fun a=>af (aa (a.2.2.2.2.2.1=g.2.2.2.2.2.1)) (U ())) (U ())))) (af (aa (g.2.2.2.2.2.1.length+a.length<=9223372036854775807)) (aq f n fun b=>U ((i,j,k,l,m,d,List.set f n (b.1,b.2.1,b.2.2.1,b.2.2.2.1,b.2.2.2.2.1,g.2.2.2.2.2.1++a,b.2.2.2.2.2.2.1,b.2.2.2.2.2.2.2),e))));let m:=fun(d:List Int) (e:List Fld) (f:Bool) (g:Nat) (h:List Mth) (i:List Cst) (j:Int) (k:Int) (m:Int)=>ai (nJ ((i,j,k,m,d,e,f),h)) fun(d,(e,f,h,i,j,k,m),n)=>ak (ak (af (aa (a=a)&&(aa (b=b)&&(aa (c=c)&&ad))) (U ())) (U ())) (aq n d fun a=>l k m n a d e f h i j g);cm (ai (nI (d,e,f,g,h,i,j,k)) fun(d,e,f,g,h,i,j,k,n)=>ak (ak (af (aa (a=a)&&(aa (b=b)&&(aa (c=c)&&ad))) (U ())) (U ())) (cm (ai (nJ ((f,g,h,i,j,k,n),e)) fun(e,(f,g,h,i,j,k,m),n)=>ak (ak (af (aa (a=a)&&(aa (b=b)&&(aa (c=c)&&ad))) (U ())) (U ())) (aq n e fun a=>ak (ak (af (e==e&&ad) (U ())) (ak (af (e==e&&ad) (U ())) (ak (aq n e fun b=>af (aa (b.2.2.2.2.2.1=a.2.2.2.2.2.1)) (U ())) (U ())))) (l k m n a e f g h i j d))) (m j k n d e f g h i))) (ai (nI (d,e,f,g,h,i,j,k)) fun(d,e,f,g,h,i,j,k,l)=>ak (ak (af (aa (a=a)&&(aa (b=b)&&(aa (c=c)&&ad))) (U ())) (U ())) (m j k l d e f g h i)));let c:=fun(c:List zBy)=>ak (ak (af (aa (a=a)) (U ())) (ak (aq a 0 fun a=>af (aa (a=j)&&ad) (U ())) (ak (af (aa (j=j)) (U ())) (U ())))) (ai (qz (c,j)) fun a=>b a);cm (ai (sU ()) fun d=>ak (ak (af (aa (a=a)) (U ())) (ak (aq a 0 fun a=>af (aa (a=j)&&ad) (U ())) (ak (af (aa (j=j)) (U ())) (U ())))) (cm (ai (qz (d,j)) fun c=>ak (ak (af (aa (a=a)) (U ())) (ak (aq a 0 fun a=>af (aa (a=j)&&ad) (U ())) (ak (af (aa (j=j)) (U ())) (ak (af (aa (c=c)&&ad) (U ())) (U ()))))) (b c)) (c d))) (ak (ak (af (aa (a=a)) (U ())) (ak (aq a 0 fun a=>af (aa (a=j)&&ad) (U ())) (ak (af (aa (j=j)) (U ())) (U ())))) (ai (sU ()) fun a=>c a))
def tb309:=ax 309 (az 309 ag [(0,[])] B6 sW wP [] 147 [100000]) tb194
def Rq:zTb tb309:=aB Rh Rp Ro func309 rfl call309
abbrev Rs:SPat:=⟨[(0,.ptr 100000 0),(1,.agg (pl dC))],[.box 100000 (pl sQ),.arr 100001 (.int .i64) ad]⟩
abbrev B7:SPat:=⟨[(4,.i .i64)],[.box 100000 (pl sQ),.arr 100001 (.int .i64) ad]⟩
abbrev Rt:SPat:=⟨[(0,.ptr 100000 0),(3,.ptr 3 0),(5,.i .i64)],[.box 3 (pl dC),.box 100000 (pl sQ),.arr 100001 (.int .i64) ad]⟩
abbrev Ru:SPat:=⟨[(0,.ptr 100000 0),(3,.ptr 3 0)],[.box 3 (pl dC),.box 100000 (pl sQ),.arr 100001 (.int .i64) ad]⟩
def Rv:Nat->Option SPat:=fun k=>bif k==2 then U Rt else bif k==2000000 then U Ru else aj
def Rw:Nat->List Nat×bc:=fun id=>bif id==4 then(nA,.fin)else bif id==6 then(mf,(.br 7 [6] gQ [] (.br 8 sN [0] [9,10,11] (.br 12 eY [] [] .fin .fin) .fin) .fin))else([],.fin)
def sX :  Cst×(List Cst×Int×Int×Int×List Fld×List Mth×Bool)×List Int->Option (Int×(List Cst×Int×Int×Int×List Fld×List Mth×Bool)×List Int):=fun((a,b,c,d),(e,f,g,h,i,j,k),l)=>
 bindE (Y :=  Cst×(List Cst×Int×Int×Int×List Fld×List Mth×Bool)×List Int) (aD (fun(a,(b,c,d,e),(f,g,h,i,j,k,l),m)=>
 ah (aa (a<(f.length:Int)))
 (af (aa (0<=a)&&aa (a<(f.length:Int))) (aq f a.toNat fun n=>ah (aa (n.1=b)&&(aa (n.2.1=c)&&(aa (n.2.2.1=d)&&(aa (n.2.2.2=e)&&ad))))
 (U (ao (ao (wrap .i64 (a+1),(f,g,h,i,j,k,l),m))))
 (U (an (wrap .i64 (a+1),(b,c,d,e),(f,g,h,i,j,k,l),m)))))
 (U (ao (an ((b,c,d,e),(f,g,h,i,j,k,l),m))))) (((0:Int),(a,b,c,d),(e,f,g,h,i,j,k),l))) fun((a,b,c,d),(e,f,g,h,i,j,k),l)=>
 af (aa (e.length+1<=9223372036854775807)&&aa ((e.length+1)*40<=140737488355328)) (U (((↑(au (e++[(a,b,c,d)])):Int),(e++[(a,b,c,d)],f,g,h,i,j,k),l)))
def zPk:=ax 5000326 (az 326 ag [(0,[]),(0,[4])] Rs B7 sX [.tmp 4] 46 [100000,100001]) tb309
def Rx:zTb zPk:=aB Rq Rw Rv func326 rfl call326
abbrev H9:SPat:=⟨[(0,.ptr 100000 0),(1,.s)],[.box 100000 (pl sQ),.arr 100001 (.int .i64) ad]⟩
def wQ:zBy×(List Cst×Int×Int×Int×List Fld×List Mth×Bool)×List Int->Option (Int×(List Cst×Int×Int×Int×List Fld×List Mth×Bool)×List Int):=fun(a,(b,c,d,e,f,g,h),i)=>
 ah (aa (60<(a.length:Int)))
 (U (((0:Int),(b,c,d,e,f,g,ad),i)))
 (ai (sX (((1:Int),a,(0:Int),(0:Int)),(b,c,d,e,f,g,h),i)) fun(a,(b,c,d,e,f,g,h),i)=>
 U ((a,(b,c,d,e,f,g,h),i)))
def zPl:=ax 5000312 (az 312 ag [(0,[]),(0,[4])] H9 B7 wQ [.tmp 4] 15 [100000,100001]) zPk
def Ry:zTb zPl:=aB Rx aL aU func312 rfl call312
def wR:zBy×(List Cst×Int×Int×Int×List Fld×List Mth×Bool)×List Int->Option (Int×(List Cst×Int×Int×Int×List Fld×List Mth×Bool)×List Int):=fun(a,(b,c,d,e,f,g,h),i)=>
 ai (wQ (a,(b,c,d,e,f,g,h),i)) fun(a,(b,c,d,e,f,g,h),i)=>
 ai (sX (((2:Int),[],a,(0:Int)),(b,c,d,e,f,g,h),i)) fun(a,(b,c,d,e,f,g,h),i)=>
 U ((a,(b,c,d,e,f,g,h),i))
def zPm:=ax 5000310 (az 310 ag [(0,[]),(0,[4])] H9 B7 wR [.tmp 4] 11 [100000,100001]) zPl
def Rz:zTb zPm:=aB Ry aL aU func310 rfl call310
abbrev RA:SPat:=⟨[(0,.ptr 100000 0),(1,.agg (pl dC))],[.box 100000 (pl sS),.arr 100001 bu ad]⟩
abbrev B8:SPat:=⟨[(4,.i .i64)],[.box 100000 (pl sS),.arr 100001 bu ad]⟩
abbrev RB:SPat:=⟨[(0,.ptr 100000 0),(3,.ptr 3 0),(5,.i .i64)],[.box 3 (pl dC),.box 100000 (pl sS),.arr 100001 bu ad]⟩
abbrev RC:SPat:=⟨[(0,.ptr 100000 0),(3,.ptr 3 0)],[.box 3 (pl dC),.box 100000 (pl sS),.arr 100001 bu ad]⟩
def RD:Nat->Option SPat:=fun k=>bif k==2 then U RB else bif k==2000000 then U RC else aj
def RE:Nat->List Nat×bc:=fun id=>bif id==4 then(nA,.fin)else bif id==6 then(mf,(.br 7 [6] gQ [] (.br 8 sN [0] [9,10,11] (.br 12 eY [] [] .fin .fin) .fin) .fin))else([],.fin)
def wS :  Cst×(List Cst×Int×Int×Int×List Int×List Mth×Bool)×List Fld->Option (Int×(List Cst×Int×Int×Int×List Int×List Mth×Bool)×List Fld):=fun((a,b,c,d),(e,f,g,h,i,j,k),l)=>
 bindE (Y :=  Cst×(List Cst×Int×Int×Int×List Int×List Mth×Bool)×List Fld) (aD (fun(a,(b,c,d,e),(f,g,h,i,j,k,l),m)=>
 ah (aa (a<(f.length:Int)))
 (af (aa (0<=a)&&aa (a<(f.length:Int))) (aq f a.toNat fun n=>ah (aa (n.1=b)&&(aa (n.2.1=c)&&(aa (n.2.2.1=d)&&(aa (n.2.2.2=e)&&ad))))
 (U (ao (ao (wrap .i64 (a+1),(f,g,h,i,j,k,l),m))))
 (U (an (wrap .i64 (a+1),(b,c,d,e),(f,g,h,i,j,k,l),m)))))
 (U (ao (an ((b,c,d,e),(f,g,h,i,j,k,l),m))))) (((0:Int),(a,b,c,d),(e,f,g,h,i,j,k),l))) fun((a,b,c,d),(e,f,g,h,i,j,k),l)=>
 af (aa (e.length+1<=9223372036854775807)&&aa ((e.length+1)*40<=140737488355328)) (U (((↑(au (e++[(a,b,c,d)])):Int),(e++[(a,b,c,d)],f,g,h,i,j,k),l)))
def zPg:=ax 6000326 (az 326 ag [(0,[]),(0,[5])] RA B8 wS [.tmp 4] 46 [100000,100001]) zPm
def RF:zTb zPg:=aB Rz RE RD func326 rfl call326
abbrev H_:SPat:=⟨[(0,.ptr 100000 0),(1,.s)],[.box 100000 (pl sS),.arr 100001 bu ad]⟩
def sY:zBy×(List Cst×Int×Int×Int×List Int×List Mth×Bool)×List Fld->Option (Int×(List Cst×Int×Int×Int×List Int×List Mth×Bool)×List Fld):=fun(a,(b,c,d,e,f,g,h),i)=>
 ah (aa (60<(a.length:Int)))
 (U (((0:Int),(b,c,d,e,f,g,ad),i)))
 (ai (wS (((1:Int),a,(0:Int),(0:Int)),(b,c,d,e,f,g,h),i)) fun(a,(b,c,d,e,f,g,h),i)=>
 U ((a,(b,c,d,e,f,g,h),i)))
def zPh:=ax 6000312 (az 312 ag [(0,[]),(0,[5])] H_ B8 sY [.tmp 4] 15 [100000,100001]) zPg
def RG:zTb zPh:=aB RF aL aU func312 rfl call312
def wT:zBy×(List Cst×Int×Int×Int×List Int×List Mth×Bool)×List Fld->Option (Int×(List Cst×Int×Int×Int×List Int×List Mth×Bool)×List Fld):=fun(a,(b,c,d,e,f,g,h),i)=>
 ai (nH a) fun a=>
 ah (aa (a<0))
 (U (((0:Int),(b,c,d,e,f,g,ad),i)))
 (U ((a,(b,c,d,e,f,g,h),i)))
def zPj:=ax 6000311 (az 311 ag [(0,[]),(0,[5])] H_ B8 wT [.tmp 4] 14 [100000,100001]) zPh
def RH:zTb zPj:=aB RG aL aU func311 rfl call311
abbrev RI:SPat:=⟨[(0,.i .i64),(1,.i .i64)],[]⟩
abbrev dx:SPat:=⟨[(4,.b)],[]⟩
def gW:Int×Int->Option Bool:=fun(a,b)=>
 af (!aa (b=0)) (U (aa (Int.tmod (wrap .i64 (Int.tdiv a b)) (2:Int)=1)))
def tb108:=ax 108 (az 108 ad [] RI dx gW [.tmp 4] 10 []) zPj
def RJ:zTb tb108:=aB RH aL aU func108 rfl call108
abbrev RK:SPat:=⟨[(0,.ptr 100000 0),(1,.sl .str),(4,.ptr 4 0)],[.box 4 (pl iO),.box 100000 (pl jh)]⟩
abbrev RM:SPat:=⟨[(0,.ptr 100000 0),(4,.ptr 4 0)],[.box 4 (pl iO),.box 100000 (pl jh)]⟩
def RN:Nat->Option SPat:=fun k=>bif k==1000004 then U RK else bif k==1000006 then U RM else aj
def RP:Nat->List Nat×bc:=fun id=>bif id==0 then(nC,(.br 4 [3,2,1,0] wt [] (.br 9 gR qw [] (.br 14 eK [] [15] (.br 16 [] [0,1,2,3,5,6,7,8,10,11,12,13,15] [] (.br 17 iu [] [] .fin .fin) .fin) (.br 16 [] nC [] (.br 14 eK [] [15] (.br 17 iu [] [] .fin .fin) .fin) .fin)) (.br 16 [] nC [] (.br 9 gR qw [] (.br 14 eK [] [15] (.br 17 iu [] [] .fin .fin) .fin) .fin) .fin)) (.br 16 [] nC [] (.br 4 [3,2,1,0] wt [] (.br 9 gR qw [] (.br 14 eK [] [15] (.br 17 iu [] [] .fin .fin) .fin) .fin) .fin) .fin)))else bif id==6 then(mf,(.br 7 [6] gQ [] (.br 8 sN [0] [9,10,11] (.br 12 eY [] [] .fin .fin) .fin) .fin))else([],.fin)
def wU:List zBy×List Cst×Int×Int×Int×List Int×List Fld×List Mth×Bool->Option (List Cst×Int×Int×Int×List Int×List Fld×List Mth×Bool):=fun(a,b,c,d,e,f,g,h,i)=>aq a 1 fun j=>aq a 2 fun k=>aq a 3 fun l=>let m:=fun(b:List Mth) (c:Bool) (d:List Fld) (e:Int) (f:Int) (g:List Cst) (h:Int) (i:Int) (j:Int) (k:List Int) (l:Int)=>bindE (Y:=List zBy×Mth×List Cst×Int×Int×Int×List Int×List Fld×List Mth×Bool) (ah (aa ((a.length:Int)=6)) (aq a 4 fun m=>ai (gV (m,g,h,i,j,k,d,b,c)) fun(b,c,d,g,h,i,j,k,m)=>aq a 5 fun n=>ai (gV (n,c,d,g,h,i,j,k,m)) fun(c,d,g,h,i,j,k,m,n)=>U (an (a,(f,e,l,b,c,[],[],[]),d,g,h,i,j,k,m,n))) (U (an (a,(f,e,l,(0:Int),(0:Int),[],[],[]),g,h,i,j,k,d,b,c)))) fun(a,(b,c,d,e,f,g,h,i),j,k,l,m,n,o,p,q)=>bindE (Y :=  Mth×List Cst×Int×Int×Int×List Int×List Fld×List Mth×Bool) (ai (gW (b,8)) fun r=>ah (!aa (aa ((a.length:Int)=4)=r)) (U (an ((b,c,d,e,f,g,h,i),j,k,l,m,n,o,p,ad))) (U (an ((b,c,d,e,f,g,h,i),j,k,l,m,n,o,p,q)))) fun((a,b,c,d,e,f,g,h),i,j,k,l,m,n,o,p)=>af (aa (o.length+1<=9223372036854775807)&&aa ((o.length+1)*104<=140737488355328)) (U ((i,j,k,l,m,n,o++[(a,b,c,d,e,f,g,h)],p)));let n:=ak (af (aa (a=a)) (U ())) (ak (aq a 2 fun a=>af (aa (a=k)&&ad) (U ())) (ak (af (aa (k=k)) (U ())) (ak (af (aa (a=a)) (U ())) (ak (aq a 3 fun a=>af (aa (a=l)&&ad) (U ())) (ak (af (aa (l=l)) (U ())) (U ()))))));let o:=fun(b:List Fld) (c:List Mth) (d:Bool) (e:Int) (f:List Cst) (g:Int) (h:Int) (i:Int) (j:List Int)=>ai (lD (k,f,g,h,i,j,b,c,d)) fun(b,c,d,f,g,h,i,j,k)=>ak (ak (af (aa (a=a)) (U ())) (ak (aq a 3 fun a=>af (aa (a=l)&&ad) (U ())) (ak (af (aa (l=l)) (U ())) (U ())))) (ai (gV (l,c,d,f,g,h,i,j,k)) fun(a,c,d,f,g,h,i,j,k)=>m j k i e a c d f g h b);cm (ai (lD (j,b,c,d,e,f,g,h,i)) fun(b,c,d,e,f,g,h,i,p)=>ak n (cm (ai (lD (k,c,d,e,f,g,h,i,p)) fun(c,d,e,f,g,h,i,n,o)=>ak (ak (af (aa (a=a)) (U ())) (ak (aq a 3 fun a=>af (aa (a=l)&&ad) (U ())) (ak (af (aa (l=l)) (U ())) (U ())))) (cm (ai (gV (l,d,e,f,g,h,i,n,o)) fun(d,e,f,g,h,i,n,o,p)=>ak (ak (af (aa (a=a)) (U ())) (ak (aq a 1 fun a=>af (aa (a=j)&&ad) (U ())) (ak (af (aa (j=j)) (U ())) (ak (af (aa (a=a)) (U ())) (ak (aq a 2 fun a=>af (aa (a=k)&&ad) (U ())) (ak (af (aa (k=k)) (U ())) (ak (af (aa (a=a)) (U ())) (ak (aq a 3 fun a=>af (aa (a=l)&&ad) (U ())) (ak (af (aa (l=l)) (U ())) (ak (af (aa (d=d)&&(aa (b=b)&&(aa (c=c)&&ad))) (U ())) (U ()))))))))))) (m o p n b d e f g h i c)) (ak (ak (af (aa (a=a)) (U ())) (ak (aq a 1 fun a=>af (aa (a=j)&&ad) (U ())) (ak (af (aa (j=j)) (U ())) (ak (af (aa (a=a)) (U ())) (ak (aq a 2 fun a=>af (aa (a=k)&&ad) (U ())) (ak (af (aa (k=k)) (U ())) (ak (af (aa (a=a)) (U ())) (ak (aq a 3 fun a=>af (aa (a=l)&&ad) (U ())) (ak (af (aa (l=l)) (U ())) (U ())))))))))) (ai (gV (l,d,e,f,g,h,i,n,o)) fun(a,d,e,f,g,h,i,j,k)=>m j k i b a d e f g h c)))) (ak (ak (af (aa (a=a)) (U ())) (ak (aq a 1 fun a=>af (aa (a=j)&&ad) (U ())) (ak (af (aa (j=j)) (U ())) n))) (o h i p b c d e f g)))) (ak (ak (af (aa (a=a)) (U ())) (ak (aq a 1 fun a=>af (aa (a=j)&&ad) (U ())) (ak (af (aa (j=j)) (U ())) (ak (af (aa (a=a)) (U ())) (ak (aq a 2 fun a=>af (aa (a=k)&&ad) (U ())) (ak (af (aa (k=k)) (U ())) (ak (af (aa (a=a)) (U ())) (ak (aq a 3 fun a=>af (aa (a=l)&&ad) (U ())) (ak (af (aa (l=l)) (U ())) (U ())))))))))) (ai (lD (j,b,c,d,e,f,g,h,i)) fun(a,b,c,d,e,f,g,h,i)=>ak n (o g h i a b c d e f)))
def tb313:=ax 313 (az 313 ag [(0,[])] B6 sW wU [] 58 [100000]) tb108
def RQ:zTb tb313:=aB RJ RP RN func313 rfl call313
abbrev RR:SPat:=⟨[(0,.ptr 100000 0),(4,.ptr 4 0)],[.box 4 (pl wv),.box 100000 (pl jh)]⟩
def RS:Nat->Option SPat:=fun k=>bif k==1000003 then U RR else aj
def RT:Nat->List Nat×bc:=fun id=>bif id==0 then(nC,(.br 4 [3,2,1,0] wt [] (.br 9 gR qw [] (.br 14 eK [] [15] (.br 16 [] [0,1,2,3,5,6,7,8,10,11,12,13,15] [] (.br 17 iu [] [] .fin .fin) .fin) (.br 16 [] nC [] (.br 14 eK [] [15] (.br 17 iu [] [] .fin .fin) .fin) .fin)) (.br 16 [] nC [] (.br 9 gR qw [] (.br 14 eK [] [15] (.br 17 iu [] [] .fin .fin) .fin) .fin) .fin)) (.br 16 [] nC [] (.br 4 [3,2,1,0] wt [] (.br 9 gR qw [] (.br 14 eK [] [15] (.br 17 iu [] [] .fin .fin) .fin) .fin) .fin) .fin)))else bif id==3 then([0,2,7],(.br 1 [0] [2,7] [] (.br 3 fW [7] gu (.br 8 [7] [0,2,4,5,6] [] (.br 9 gR [] [10,11] (.br 12 eY [] [] .fin .fin) .fin) .fin) (.br 8 [7] [0,2] [] (.br 3 fW [7] gu (.br 9 gR [] [10,11] (.br 12 eY [] [] .fin .fin) .fin) .fin) .fin)) (.br 8 [7] [0,2] [] (.br 1 [0] [2,7] [] (.br 3 fW [7] gu (.br 9 gR [] [10,11] (.br 12 eY [] [] .fin .fin) .fin) .fin) .fin) .fin)))else([],.fin)
def wV:List zBy×List Cst×Int×Int×Int×List Int×List Fld×List Mth×Bool->Option (List Cst×Int×Int×Int×List Int×List Fld×List Mth×Bool):=fun(a,b,c,d,e,f,g,h,i)=>aq a 1 fun j=>aq a 2 fun k=>aq a 3 fun l=>let m:=fun(b:List Mth) (c:Bool) (d:List Fld) (e:Int) (f:Int) (g:List Cst) (h:Int) (i:Int) (j:Int) (k:List Int) (l:Int)=>bindE (Y:=(Int×Int×Int×Int)×List Cst×Int×Int×Int×List Int×List Fld×List Mth×Bool) (aq a 4 fun m=>ah (!aa (m=[(45:UInt8)])) (aq a 4 fun a=>ai (nG (a,g,h,i,j,k,d,b,c)) fun(a,b,c,d,g,h,i,j,k)=>U (an ((e,l,f,a),b,c,d,g,h,i,j,k))) (U (an ((e,l,f,(0:Int)),g,h,i,j,k,d,b,c)))) fun((a,b,c,d),e,f,g,h,i,j,k,l)=>let m:=fun(e:List Fld) (f:Bool) (g:List Mth) (h:Mth) (i:Nat) (j:Nat) (k:List Cst) (l:Int) (m:Int) (n:Int) (o:List Int)=>af (aa (h.2.2.2.2.2.2.1.length+1<=9223372036854775807)&&aa ((h.2.2.2.2.2.2.1.length+1)*32<=140737488355328)) (af (aa (i=j)&&aa (j<g.length)) (af (aa (j<g.length)) (U ((k,l,m,n,o,e,List.set g j (h.1,h.2.1,h.2.2.1,h.2.2.2.1,h.2.2.2.2.1,h.2.2.2.2.2.1,h.2.2.2.2.2.2.1++[(a,b,c,d)],h.2.2.2.2.2.2.2),f)))));let n:=fun(e:List Int) (f:List Fld) (g:Bool) (h:Nat) (i:List Mth) (j:List Cst) (k:Int) (l:Int) (n:Int)=>ai (nJ ((j,k,l,n,e,f,g),i)) fun(e,(f,g,i,j,k,l,n),o)=>ak (ak (af (aa (a=a)&&(aa (b=b)&&(aa (c=c)&&(aa (d=d)&&ad)))) (U ())) (U ())) (aq o e fun a=>af (aa (e=e)&&aa (e<o.length)) (af (aa (e=e)&&aa (e<o.length)) (af (aa (e=e)&&aa (e<o.length)) (m l n o a h e f g i j k))));cm (ai (nI (e,f,g,h,i,j,k,l)) fun(e,f,g,h,i,j,k,l,o)=>ak (ak (af (aa (a=a)&&(aa (b=b)&&(aa (c=c)&&(aa (d=d)&&ad)))) (U ())) (U ())) (cm (ai (nJ ((g,h,i,j,k,l,o),f)) fun(f,(g,h,i,j,k,l,n),o)=>ak (ak (af (aa (a=a)&&(aa (b=b)&&(aa (c=c)&&(aa (d=d)&&ad)))) (U ())) (U ())) (aq o f fun a=>af (aa (f=f)&&aa (f<o.length)) (af (aa (f=f)&&aa (f<o.length)) (af (aa (f=f)&&aa (f<o.length)) (ak (ak (af (f==f&&ad) (U ())) (ak (af (f==f&&ad) (U ())) (ak (af (aa (f=f)&&aa (f<o.length)) (af (aa (f=f)&&aa (f<o.length)) (af (aa (f=f)&&aa (f<o.length)) (U ())))) (U ())))) (m l n o a e f g h i j k)))))) (n k l o e f g h i j))) (ai (nI (e,f,g,h,i,j,k,l)) fun(e,f,g,h,i,j,k,l,m)=>ak (ak (af (aa (a=a)&&(aa (b=b)&&(aa (c=c)&&(aa (d=d)&&ad)))) (U ())) (U ())) (n k l m e f g h i j));let n:=ak (af (aa (a=a)) (U ())) (ak (aq a 2 fun a=>af (aa (a=k)&&ad) (U ())) (ak (af (aa (k=k)) (U ())) (ak (af (aa (a=a)) (U ())) (ak (aq a 3 fun a=>af (aa (a=l)&&ad) (U ())) (ak (af (aa (l=l)) (U ())) (U ()))))));let o:=fun(b:List Fld) (c:List Mth) (d:Bool) (e:Int) (f:List Cst) (g:Int) (h:Int) (i:Int) (j:List Int)=>ai (gV (k,f,g,h,i,j,b,c,d)) fun(b,c,d,f,g,h,i,j,k)=>ak (ak (af (aa (a=a)) (U ())) (ak (aq a 3 fun a=>af (aa (a=l)&&ad) (U ())) (ak (af (aa (l=l)) (U ())) (U ())))) (ai (gV (l,c,d,f,g,h,i,j,k)) fun(a,c,d,f,g,h,i,j,k)=>m j k i e a c d f g h b);cm (ai (gV (j,b,c,d,e,f,g,h,i)) fun(b,c,d,e,f,g,h,i,p)=>ak n (cm (ai (gV (k,c,d,e,f,g,h,i,p)) fun(c,d,e,f,g,h,i,n,o)=>ak (ak (af (aa (a=a)) (U ())) (ak (aq a 3 fun a=>af (aa (a=l)&&ad) (U ())) (ak (af (aa (l=l)) (U ())) (U ())))) (cm (ai (gV (l,d,e,f,g,h,i,n,o)) fun(d,e,f,g,h,i,n,o,p)=>ak (ak (af (aa (a=a)) (U ())) (ak (aq a 1 fun a=>af (aa (a=j)&&ad) (U ())) (ak (af (aa (j=j)) (U ())) (ak (af (aa (a=a)) (U ())) (ak (aq a 2 fun a=>af (aa (a=k)&&ad) (U ())) (ak (af (aa (k=k)) (U ())) (ak (af (aa (a=a)) (U ())) (ak (aq a 3 fun a=>af (aa (a=l)&&ad) (U ())) (ak (af (aa (l=l)) (U ())) (ak (af (aa (b=b)&&(aa (c=c)&&(aa (d=d)&&ad))) (U ())) (U ()))))))))))) (m o p n b d e f g h i c)) (ak (ak (af (aa (a=a)) (U ())) (ak (aq a 1 fun a=>af (aa (a=j)&&ad) (U ())) (ak (af (aa (j=j)) (U ())) (ak (af (aa (a=a)) (U ())) (ak (aq a 2 fun a=>af (aa (a=k)&&ad) (U ())) (ak (af (aa (k=k)) (U ())) (ak (af (aa (a=a)) (U ())) (ak (aq a 3 fun a=>af (aa (a=l)&&ad) (U ())) (ak (af (aa (l=l)) (U ())) (U ())))))))))) (ai (gV (l,d,e,f,g,h,i,n,o)) fun(a,d,e,f,g,h,i,j,k)=>m j k i b a d e f g h c)))) (ak (ak (af (aa (a=a)) (U ())) (ak (aq a 1 fun a=>af (aa (a=j)&&ad) (U ())) (ak (af (aa (j=j)) (U ())) n))) (o h i p b c d e f g)))) (ak (ak (af (aa (a=a)) (U ())) (ak (aq a 1 fun a=>af (aa (a=j)&&ad) (U ())) (ak (af (aa (j=j)) (U ())) (ak (af (aa (a=a)) (U ())) (ak (aq a 2 fun a=>af (aa (a=k)&&ad) (U ())) (ak (af (aa (k=k)) (U ())) (ak (af (aa (a=a)) (U ())) (ak (aq a 3 fun a=>af (aa (a=l)&&ad) (U ())) (ak (af (aa (l=l)) (U ())) (U ())))))))))) (ai (gV (j,b,c,d,e,f,g,h,i)) fun(a,b,c,d,e,f,g,h,i)=>ak n (o g h i a b c d e f)))
def tb314:=ax 314 (az 314 ag [(0,[])] B6 sW wV [] 43 [100000]) tb313
def RU:zTb tb314:=aB RQ RT RS func314 rfl call314
abbrev wW:SPat:=⟨[(0,.ptr 100000 0),(1,.s)],[.box 100000 (pl lB),.opn 100001 cv (.all ad) (pl nD),.arr 100002 de ad]⟩
abbrev wX:SPat:=⟨[(4,.i .i64)],[.box 100000 (pl lB),.opn 100001 cv (.all ad) (pl nD),.arr 100002 de ad]⟩
def wY:zBy×(List Cst×Int×Int×Int×List Int×List Fld×Bool)×(List Mth×Nat×Int×Int×Int×Int×Int×zBy×List Trp)×List Frm->Option (Int×(List Cst×Int×Int×Int×List Int×List Fld×Bool)×(List Mth×Nat×Int×Int×Int×Int×Int×zBy×List Trp)×List Frm):=fun(a,(b,c,d,e,f,g,h),(i,j,k,l,m,n,o,p,q),r)=>
 ai (nH a) fun a=>
 ah (aa (a<0))
 (af (aa (j=j)&&aa (j<i.length)) (U (((0:Int),(b,c,d,e,f,g,ad),(i,j,k,l,m,n,o,p,q),r))))
 (af (aa (j=j)&&aa (j<i.length)) (U ((a,(b,c,d,e,f,g,h),(i,j,k,l,m,n,o,p,q),r))))
def zJP:=ax 807000311 (az 311 ag [(0,[]),(0,[6]),(0,[6,7])] wW wX wY [.tmp 4] 14 [100000,100001,100002]) tb314
def RV:zTb zJP:=aB RU aL aU func311 rfl call311
abbrev RW:SPat:=⟨[(0,.i .u8)],[]⟩
abbrev eZ:SPat:=⟨[(2,.b)],[]⟩
def wZ:Int->Option Bool:=fun a=>
 ah (aa (97<=a))
 (ah (aa (a<=122))
 (U ad)
 (ah (aa (65<=a))
 (U (aa (a<=90)))
 (U ag)))
 (ah (aa (65<=a))
 (U (aa (a<=90)))
 (U ag))
def tb212:=ax 212 (az 212 ad [] RW eZ wZ [.tmp 2] 17 []) zJP
def RX:zTb tb212:=aB RV aL aU func212 rfl call212
def RY:Nat->Option SPat:=fun k=>bif k==2 then U B4 else bif k==2000000 then U fH else bif k==2000001 then U B4 else aj
def mn:zBy->Option Bool:=fun a=>
 bindE (Y:=zBy) (aD (fun(a,b)=>
 ah (aa (b<(a.length:Int)))
 (bindE (Y:=zBy×Int) (af (aa (0<=b)) (aq a b.toNat fun c=>ai (wZ (c.toNat:Int)) fun c=>
 ah (!c)
 (ah (aa (b=0))
 (U (ao (ao (ao ag))))
 (af (aa (0<=b)) (aq a b.toNat fun c=>ah (aa ((c.toNat:Int)<48))
 (U (ao (ao (ao ag))))
 (af (aa (0<=b)) (aq a b.toNat fun c=>ah (aa (57<(c.toNat:Int)))
 (U (ao (ao (ao ag))))
 (U (an (a,b))))))))
 (U (an (a,b))))) fun(a,b)=>
 U (an (a,wrap .i64 (b+1))))
 (U (ao (an a)))) ((a,(0:Int)))) fun a=>
 ai (eN ((a.length:Int),1,8)) fun a=>
 U (a)
def tb127:=ax 127 (az 127 ad [] fH eZ mn [.tmp 2] 34 []) tb212
def RZ:zTb tb127:=aB RX aL RY func127 rfl call127
abbrev w4:SPat:=⟨[(0,.s),(1,.i .i64)],[]⟩
abbrev R0:SPat:=⟨[(0,.s),(1,.i .i64),(5,.i .i64)],[]⟩
def R1:Nat->Option SPat:=fun k=>bif k==6 then U R0 else bif k==1000003 then U w4 else bif k==1000005 then U w4 else bif k==2000000 then U dD else aj
def qD:zBy×Int->Option Int:=fun(a,b)=>
 bindE (Y:=zBy×Int) (ah (aa (b<(a.length:Int)))
 (af (aa (0<=b)) (aq a b.toNat fun c=>ah (aa ((c.toNat:Int)=73))
 (U (ao (wrap .i64 (b+1))))
 (U (an (a,b)))))
 (U (an (a,b)))) fun(a,b)=>
 bindE (Y:=zBy×Int) (ah (aa ((a.length:Int)<=b))
 (U (ao (-1:Int)))
 (af (aa (0<=b)) (aq a b.toNat fun c=>ah (!aa ((c.toNat:Int)=76))
 (U (ao (-1:Int)))
 (U (an (a,b)))))) fun(a,b)=>
 bindE (aD (fun(a,b,c)=>
 ah (aa (c<(a.length:Int)))
 (af (aa (0<=c)) (aq a c.toNat fun d=>ah (aa ((d.toNat:Int)=59))
 (af (aa (0<=wrap .i64 (b+1))&&aa (wrap .i64 (b+1)<=c)&&aa (c<=(a.length:Int))) (ai (mn (kZ (aH (wrap .i64 (b+1))) (nY c.toNat a))) fun a=>
 ah (a)
 (U (ao (ao (wrap .i64 (c+1)))))
 (U (ao (ao (-1:Int))))))
 (U (an (a,b,wrap .i64 (c+1))))))
 (U (ao (an ())))) ((a,b,wrap .i64 (b+1)))) fun _=>
 U ((-1:Int))
def tb213:=ax 213 (az 213 ad [] w4 mm qD [.tmp 4] 48 []) tb127
def R2:zTb tb213:=aB RZ aL R1 func213 rfl call213
def mq:zBy->Option Bool:=fun a=>
 ah (aa (0<(a.length:Int)))
 (ai (qD (a,0)) fun b=>
 U (aa (b=(a.length:Int))))
 (U ag)
def tb128:=ax 128 (az 128 ad [] fH eZ mq [.tmp 2] 13 []) tb213
def R3:zTb tb128:=aB R2 aL aU func128 rfl call128
abbrev R4:SPat:=⟨[(0,.ptr 100000 0),(1,.agg (pl dC))],[.box 100000 (pl lB),.opn 100001 cv (.all ad) (pl nD),.arr 100002 de ad]⟩
abbrev R5:SPat:=⟨[(0,.ptr 100000 0),(3,.ptr 3 0),(5,.i .i64)],[.box 3 (pl dC),.box 100000 (pl lB),.opn 100001 cv (.all ad) (pl nD),.arr 100002 de ad]⟩
abbrev R6:SPat:=⟨[(0,.ptr 100000 0),(3,.ptr 3 0)],[.box 3 (pl dC),.box 100000 (pl lB),.opn 100001 cv (.all ad) (pl nD),.arr 100002 de ad]⟩
def R7:Nat->Option SPat:=fun k=>bif k==2 then U R5 else bif k==2000000 then U R6 else aj
def R8:Nat->List Nat×bc:=fun id=>bif id==4 then(nA,.fin)else bif id==6 then(mf,(.br 7 [6] gQ [] (.br 8 sN [0] [9,10,11] (.br 12 eY [] [] .fin .fin) .fin) .fin))else([],.fin)
def sZ :  Cst×(List Cst×Int×Int×Int×List Int×List Fld×Bool)×(List Mth×Nat×Int×Int×Int×Int×Int×zBy×List Trp)×List Frm->Option (Int×(List Cst×Int×Int×Int×List Int×List Fld×Bool)×(List Mth×Nat×Int×Int×Int×Int×Int×zBy×List Trp)×List Frm):=fun((a,b,c,d),(e,f,g,h,i,j,k),(l,m,n,o,p,q,r,s,t),u)=>
 bindE (Y :=  Cst×(List Cst×Int×Int×Int×List Int×List Fld×Bool)×(List Mth×Nat×Int×Int×Int×Int×Int×zBy×List Trp)×List Frm) (af (aa (m=m)&&aa (m<l.length)) (aD (fun(a,(b,c,d,e),(f,g,h,i,j,k,l),(m,n,o,p,q,r,s,t,u),v)=>
 ah (aa (a<(f.length:Int)))
 (af (aa (0<=a)&&aa (a<(f.length:Int))) (aq f a.toNat fun w=>ah (aa (w.1=b)&&(aa (w.2.1=c)&&(aa (w.2.2.1=d)&&(aa (w.2.2.2=e)&&ad))))
 (jH (jH (af (aa (n=n)&&aa (n<m.length)) (U ((wrap .i64 (a+1),(f,g,h,i,j,k,l),(m,n,o,p,q,r,s,t,u),v))))))
 (af (aa (n=n)&&aa (n<m.length)) (U (an (wrap .i64 (a+1),(b,c,d,e),(f,g,h,i,j,k,l),(m,n,o,p,q,r,s,t,u),v))))))
 (jH (af (aa (n=n)&&aa (n<m.length)) (U (an ((b,c,d,e),(f,g,h,i,j,k,l),(m,n,o,p,q,r,s,t,u),v)))))) (((0:Int),(a,b,c,d),(e,f,g,h,i,j,k),(l,m,n,o,p,q,r,s,t),u)))) fun((a,b,c,d),(e,f,g,h,i,j,k),(l,m,n,o,p,q,r,s,t),u)=>
 af (aa (e.length+1<=9223372036854775807)&&aa ((e.length+1)*40<=140737488355328)) (af (aa (m=m)&&aa (m<l.length)) (U (((↑(au (e++[(a,b,c,d)])):Int),(e++[(a,b,c,d)],f,g,h,i,j,k),(l,m,n,o,p,q,r,s,t),u))))
def zJM:=ax 807000326 (az 326 ag [(0,[]),(0,[6]),(0,[6,7])] R4 wX sZ [.tmp 4] 46 [100000,100001,100002]) tb128
def R9:zTb zJM:=aB R3 R8 R7 func326 rfl call326
def w5:zBy×(List Cst×Int×Int×Int×List Int×List Fld×Bool)×(List Mth×Nat×Int×Int×Int×Int×Int×zBy×List Trp)×List Frm->Option (Int×(List Cst×Int×Int×Int×List Int×List Fld×Bool)×(List Mth×Nat×Int×Int×Int×Int×Int×zBy×List Trp)×List Frm):=fun(a,(b,c,d,e,f,g,h),(i,j,k,l,m,n,o,p,q),r)=>
 ah (aa (60<(a.length:Int)))
 (af (aa (j=j)&&aa (j<i.length)) (U (((0:Int),(b,c,d,e,f,g,ad),(i,j,k,l,m,n,o,p,q),r))))
 (ai (sZ (((1:Int),a,(0:Int),(0:Int)),(b,c,d,e,f,g,h),(i,j,k,l,m,n,o,p,q),r)) fun(a,(b,c,d,e,f,g,h),(i,j,k,l,m,n,o,p,q),r)=>
 af (aa (j=j)&&aa (j<i.length)) (U ((a,(b,c,d,e,f,g,h),(i,j,k,l,m,n,o,p,q),r))))
def zJO:=ax 807000312 (az 312 ag [(0,[]),(0,[6]),(0,[6,7])] wW wX w5 [.tmp 4] 15 [100000,100001,100002]) zJM
def R_:zTb zJO:=aB R9 aL aU func312 rfl call312
def w6:zBy×(List Cst×Int×Int×Int×List Int×List Fld×Bool)×(List Mth×Nat×Int×Int×Int×Int×Int×zBy×List Trp)×List Frm->Option (Int×(List Cst×Int×Int×Int×List Int×List Fld×Bool)×(List Mth×Nat×Int×Int×Int×Int×Int×zBy×List Trp)×List Frm):=fun(a,(b,c,d,e,f,g,h),(i,j,k,l,m,n,o,p,q),r)=>
 ai (w5 (a,(b,c,d,e,f,g,h),(i,j,k,l,m,n,o,p,q),r)) fun(a,(b,c,d,e,f,g,h),(i,j,k,l,m,n,o,p,q),r)=>
 ai (sZ (((2:Int),[],a,(0:Int)),(b,c,d,e,f,g,h),(i,j,k,l,m,n,o,p,q),r)) fun(a,(b,c,d,e,f,g,h),(i,j,k,l,m,n,o,p,q),r)=>
 af (aa (j=j)&&aa (j<i.length)) (U ((a,(b,c,d,e,f,g,h),(i,j,k,l,m,n,o,p,q),r)))
def zJQ:=ax 807000310 (az 310 ag [(0,[]),(0,[6]),(0,[6,7])] wW wX w6 [.tmp 4] 11 [100000,100001,100002]) zJO
def Sa:zTb zJQ:=aB R_ aL aU func310 rfl call310
abbrev Sb:SPat:=⟨[(4,.own dc ad)],[.box 100000 (pl lB),.opn 100001 cv (.all ad) (pl nD),.arr 100002 de ad]⟩
abbrev Ia:SPat:=⟨[(0,.ptr 100000 0),(5,.own dc ad),(6,.own .str ad),(7,.i .i64)],[.box 100000 (pl lB),.opn 100001 cv (.all ad) (pl nD),.arr 100002 de ad]⟩
abbrev Sc:SPat:=⟨[(5,.own dc ad)],[.box 100000 (pl lB),.opn 100001 cv (.all ad) (pl nD),.arr 100002 de ad]⟩
def Sd:Nat->Option SPat:=fun k=>bif k==6 then U Ia else bif k==2000000 then U Sc else bif k==2000002 then U Ia else aj
def Se:Nat->List Nat×bc:=fun id=>bif id==16 then(BV,(.br 13 [12,11,10,9,8,7,6,5,4,3,2,1] [0] [14] (.br 15 BW [0] [] (.br 16 sL [] [] (.br 17 iu [] [] .fin .fin) .fin) .fin) .fin))else([],.fin)
def s5:zBy×(List Cst×Int×Int×Int×List Int×List Fld×Bool)×(List Mth×Nat×Int×Int×Int×Int×Int×zBy×List Trp)×List Frm->Option (List Knd×(List Cst×Int×Int×Int×List Int×List Fld×Bool)×(List Mth×Nat×Int×Int×Int×Int×Int×zBy×List Trp)×List Frm):=fun(a,(b,c,d,e,f,g,h),(i,j,k,l,m,n,o,p,q),r)=>
 ah (aa (a=[(46:UInt8)]))
 (af (aa (j=j)&&aa (j<i.length)) (U (([],(b,c,d,e,f,g,h),(i,j,k,l,m,n,o,p,q),r))))
 (ai (nF (a,44,8)) fun a=>
 bindE (Y:=List Knd×(List Cst×Int×Int×Int×List Int×List Fld×Bool)×(List Mth×Nat×Int×Int×Int×Int×Int×zBy×List Trp)×List Frm) (af (aa (j=j)&&aa (j<i.length)) (aD (fun(a,b,c,(d,e,f,g,h,i,j),(k,l,m,n,o,p,q,r,s),t)=>
 ah (aa (c<(b.length:Int)))
 (bindE (Y:=List Knd×List zBy×Int×(List Cst×Int×Int×Int×List Int×List Fld×Bool)×(List Mth×Nat×Int×Int×Int×Int×Int×zBy×List Trp)×List Frm) (af (aa (0<=c)&&aa (c<(b.length:Int))) (aq b c.toNat fun u=>ah (aa (u=[(73:UInt8)]))
 (af (aa (a.length+1<=9223372036854775807)&&aa ((a.length+1)*16<=140737488355328)) (af (aa (l=l)&&aa (l<k.length)) (U (an (a++[((1:Int),(0:Int))],b,c,(d,e,f,g,h,i,j),(k,l,m,n,o,p,q,r,s),t)))))
 (af (aa (0<=c)&&aa (c<(b.length:Int))) (aq b c.toNat fun u=>ah (aa (u=[(78:UInt8)]))
 (af (aa (a.length+1<=9223372036854775807)&&aa ((a.length+1)*16<=140737488355328)) (af (aa (l=l)&&aa (l<k.length)) (U (an (a++[((2:Int),(0:Int))],b,c,(d,e,f,g,h,i,j),(k,l,m,n,o,p,q,r,s),t)))))
 (af (aa (0<=c)&&aa (c<(b.length:Int))) (aq b c.toNat fun u=>ah (aa (u=[(45:UInt8)]))
 (af (aa (a.length+1<=9223372036854775807)&&aa ((a.length+1)*16<=140737488355328)) (af (aa (l=l)&&aa (l<k.length)) (U (an (a++[((0:Int),(0:Int))],b,c,(d,e,f,g,h,i,j),(k,l,m,n,o,p,q,r,s),t)))))
 (af (aa (0<=c)&&aa (c<(b.length:Int))) (aq b c.toNat fun u=>ai (mq u) fun u=>
 ah (u)
 (af (aa (0<=c)&&aa (c<(b.length:Int))) (aq b c.toNat fun u=>af (aa (0<=c)&&aa (c<(b.length:Int))) (aq b c.toNat fun v=>af (aa (1<=wrap .i64 ((v.length:Int)-1))&&aa (wrap .i64 ((v.length:Int)-1)<=(u.length:Int))) (ai (w6 (kZ (1:Nat) (nY (aH (wrap .i64 ((v.length:Int)-1))) u),(d,e,f,g,h,i,j),(k,l,m,n,o,p,q,r,s),t)) fun(d,(e,f,g,h,i,j,k),(l,m,n,o,p,q,r,s,t),u)=>
 af (aa (a.length+1<=9223372036854775807)&&aa ((a.length+1)*16<=140737488355328)) (af (aa (m=m)&&aa (m<l.length)) (U (an (a++[((3:Int),d)],b,c,(e,f,g,h,i,j,k),(l,m,n,o,p,q,r,s,t),u))))))))
 (af (aa (l=l)&&aa (l<k.length)) (U (an (a,b,c,(d,e,f,g,h,i,ad),(k,l,m,n,o,p,q,r,s),t)))))))))))) fun(a,b,c,(d,e,f,g,h,i,j),(k,l,m,n,o,p,q,r,s),t)=>
 af (aa (l=l)&&aa (l<k.length)) (U (an (a,b,wrap .i64 (c+1),(d,e,f,g,h,i,j),(k,l,m,n,o,p,q,r,s),t))))
 (jH (af (aa (l=l)&&aa (l<k.length)) (U (an (a,(d,e,f,g,h,i,j),(k,l,m,n,o,p,q,r,s),t)))))) (([],a,(0:Int),(b,c,d,e,f,g,h),(i,j,k,l,m,n,o,p,q),r)))) fun(a,(b,c,d,e,f,g,h),(i,j,k,l,m,n,o,p,q),r)=>
 af (aa (j=j)&&aa (j<i.length)) (U ((a,(b,c,d,e,f,g,h),(i,j,k,l,m,n,o,p,q),r))))
def zJN:=ax 807000316 (az 316 ag [(0,[]),(0,[6]),(0,[6,7])] wW Sb s5 [.tmp 4] 77 [100000,100001,100002]) zJQ
def Sf:zTb zJN:=aB Sa Se Sd func316 rfl call316
abbrev Sg:SPat:=⟨[(0,.ptr 100000 0),(1,.s),(13,.b)],iw⟩
abbrev Sh:SPat:=⟨[(0,.ptr 100000 0),(4,.own .str ad),(5,.b)],iw⟩
abbrev Si:SPat:=⟨[(0,.ptr 100000 0),(4,.own .str ad),(5,.b),(31,.b)],iw⟩
abbrev Sj:SPat:=⟨[(0,.ptr 100000 0),(4,.own .str ad),(5,.b),(76,.b)],iw⟩
abbrev Sk:SPat:=⟨[(0,.ptr 100000 0),(4,.own .str ad),(5,.b),(102,.b)],iw⟩
abbrev Sl:SPat:=⟨[(0,.ptr 100000 0),(4,.own .str ad),(5,.b),(139,.b)],iw⟩
abbrev Sn:SPat:=⟨[(0,.ptr 100000 0),(4,.own .str ad),(5,.b),(157,.b)],iw⟩
abbrev So:SPat:=⟨[(0,.ptr 100000 0),(4,.own .str ad),(173,.b)],iw⟩
def Sp:Nat->Option SPat:=fun k=>bif k==1000001 then U Sg else bif k==1000005 then U Sh else bif k==1000006 then U Si else bif k==1000010 then U Sj else bif k==1000012 then U Sk else bif k==1000014 then U Sl else bif k==1000016 then U Sn else bif k==1000018 then U So else bif k==2000000 then U sW else aj
def Sq:Nat->List Nat×bc:=fun id=>bif id==10 then(nA,(.br 10 [9,8,7,6] gQ [] (.br 11 [10,9,8,7,6] gQ [] (.br 12 [11,10,9,8,7,6,5,4,3,2,1] [0] [13,14,15] (.br 16 sL [] [] .fin .fin) .fin) .fin) .fin))else bif id==12 then([0,1,2,3,4,5,6,7,8,9,11,12,13,14,16,17,18,19],(.br 10 [9,8,7,6] [0,1,2,3,4,5,11,12,13,14,16,17,18,19] [] (.br 15 [14,13,12,11,10,9,8,7,6] [0,1,2,3,4,5,16,17,18,19] [] (.br 20 [19,18,17,16,15,14,13,12,11,10,9,8,7,6] gQ [21] (.br 22 [21,20,19,18,17,16,15,14,13,12,11,10,9,8,7,6] gQ [] (.br 23 [22,21,20,19,18,17,16,15,14,13,12,11,10,9,8,7,6,5,4,3,2,1] [0] [24,25,26] (.br 27 HQ [] [] .fin .fin) .fin) .fin) .fin) .fin) .fin))else bif id==18 then([0,2,7,8,9,10,12,13,14,15,17,18,19,20],(.br 1 [0] [2,7,8,9,10,12,13,14,15,17,18,19,20] [] (.br 3 fW [7,8,9,10,12,13,14,15,17,18,19,20] gu (.br 11 [10,9,8,7,3,2,1,0] [12,13,14,15,17,18,19,20,4,5,6] [] (.br 16 [15,14,13,12,11,10,9,8,7,3,2,1,0] [17,18,19,20,4,5,6] [] (.br 21 [20,19,18,17,16,15,14,13,12,11,10,9,8,7,3,2,1,0] gu [22] (.br 23 [22,21,20,19,18,17,16,15,14,13,12,11,10,9,8,7,3,2,1,0] gu [] (.br 24 HR [] [25,26] (.br 27 HQ [] [] .fin .fin) .fin) .fin) .fin) .fin) .fin) .fin) .fin))else([],.fin)
def w8:zBy×List Cst×Int×Int×Int×List Int×List Fld×List Mth×Bool->Option (List Cst×Int×Int×Int×List Int×List Fld×List Mth×Bool):=fun(a,b,c,d,e,f,g,h,i)=>bindE (Y:=zBy×Bool×List Cst×Int×Int×Int×List Int×List Fld×List Mth×Bool) (ah (aa (2<(a.length:Int))) (af (aa (2<=(a.length:Int))) (U (an (a,aa (kZ (0:Nat) (nY (2:Nat) a)=[(32:UInt8),32]),b,c,d,e,f,g,h,i)))) (U (an (a,ag,b,c,d,e,f,g,h,i)))) fun(a,b,c,d,e,f,g,h,i,j)=>ah b (af (aa (2<=(a.length:Int))&&aa ((a.length:Int)<=(a.length:Int))) (ai (nF (kZ (2:Nat) (nY (aH (a.length:Int)) a),(32:Int),(4:Int))) fun a=>ai (wP (a,c,d,e,f,g,h,i,j)) fun(a,b,c,d,e,f,g,h)=>U ((a,b,c,d,e,f,g,h)))) (ai (nF (a,32,6)) fun a=>bindE (Y:=List zBy×Bool×List Cst×Int×Int×Int×List Int×List Fld×List Mth×Bool) (U (an (a,aa (0<(i.length:Int)),c,d,e,f,g,h,i,j))) fun(a,b,c,d,e,f,g,h,i,j)=>bindE (Y:=List Cst×Int×Int×Int×List Int×List Fld×List Mth×Bool) (bindE (Y:=List zBy×Bool×Bool×List Cst×Int×Int×Int×List Int×List Fld×List Mth×Bool) (af (aa (0<(a.length:Int))) (aq a (nat_lit 0) fun k=>ah (aa (k=[(99:UInt8),108,97,115,115])) (ah (aa ((a.length:Int)=4)) (U (an (a,b,aa (e=0),c,d,e,f,g,h,i,j))) (U (an (a,b,ag,c,d,e,f,g,h,i,j)))) (U (an (a,b,ag,c,d,e,f,g,h,i,j))))) fun(a,b,c,d,e,f,g,h,i,j,k)=>ah c (af (aa (1<(a.length:Int))) (aq a (nat_lit 1) fun b=>ai (nG (b,d,e,f,g,h,i,j,k)) fun(b,c,d,_,e,f,g,h,i)=>af (aa (2<(a.length:Int))) (aq a (nat_lit 2) fun j=>ai (nG (j,c,d,b,e,f,g,h,i)) fun(b,c,d,e,_,f,g,h,i)=>af (aa (3<(a.length:Int))) (aq a (nat_lit 3) fun a=>ai (gV (a,c,d,e,b,f,g,h,i)) fun(a,b,_,c,d,e,f,g,h)=>U (an (b,a,c,d,e,f,g,h)))))) (bindE (Y:=List zBy×Bool×Bool×List Cst×Int×Int×Int×List Int×List Fld×List Mth×Bool) (af (aa (0<(a.length:Int))) (aq a (nat_lit 0) fun c=>ah (aa (c=[(102:UInt8),97,99,101])) (U (an (a,b,aa ((a.length:Int)=2),d,e,f,g,h,i,j,k))) (U (an (a,b,ag,d,e,f,g,h,i,j,k))))) fun(a,b,c,d,e,f,g,h,i,j,k)=>ah c (af (aa (1<(a.length:Int))) (aq a (nat_lit 1) fun a=>ai (wR (a,(d,e,f,g,i,j,k),h)) fun(a,(b,c,d,e,f,g,h),i)=>af (aa (i.length+1<=9223372036854775807)&&aa ((i.length+1)*8<=140737488355328)) (U (an (b,c,d,e,i++[a],f,g,h))))) (bindE (Y:=List zBy×Bool×Bool×List Cst×Int×Int×Int×List Int×List Fld×List Mth×Bool) (af (aa (0<(a.length:Int))) (aq a (nat_lit 0) fun c=>ah (aa (c=[(102:UInt8),105,101,108,100])) (U (an (a,b,aa ((a.length:Int)=4),d,e,f,g,h,i,j,k))) (U (an (a,b,ag,d,e,f,g,h,i,j,k))))) fun(a,b,c,d,e,f,g,h,i,j,k)=>ah c (af (aa (1<(a.length:Int))) (aq a (nat_lit 1) fun b=>af (aa (2<(a.length:Int))) (aq a (nat_lit 2) fun c=>af (aa (3<(a.length:Int))) (aq a (nat_lit 3) fun l=>ai (sY (b,(d,e,f,g,h,j,k),i)) fun(b,(d,e,f,g,h,i,j),k)=>ak (ak (af (aa (2<(a.length:Int))) (U ())) (ak (aq a (nat_lit 2) fun a=>af (aa (a=c)) (U ())) (ak (af (aa (3<(a.length:Int))) (U ())) (ak (aq a (nat_lit 3) fun a=>af (aa (a=l)) (U ())) (U ()))))) (ai (sY (c,(d,e,f,g,h,i,j),k)) fun(c,(d,e,f,g,h,i,j),k)=>ak (ak (af (aa (3<(a.length:Int))) (U ())) (ak (aq a (nat_lit 3) fun a=>af (aa (a=l)) (U ())) (U ()))) (ai (wT (l,(d,e,f,g,h,i,j),k)) fun(a,(d,e,f,g,h,i,j),k)=>af (aa (k.length+1<=9223372036854775807)&&aa ((k.length+1)*24<=140737488355328)) (U (an (d,e,f,g,h,k++[(a,b,c)],i,j))))))))) (bindE (Y:=List zBy×Bool×Bool×List Cst×Int×Int×Int×List Int×List Fld×List Mth×Bool) (af (aa (0<(a.length:Int))) (aq a (nat_lit 0) fun c=>ah (aa (c=[(109:UInt8),101,116,104,111,100])) (ah (aa ((a.length:Int)=4)) (U (an (a,b,ad,d,e,f,g,h,i,j,k))) (U (an (a,b,aa ((a.length:Int)=6),d,e,f,g,h,i,j,k)))) (U (an (a,b,ag,d,e,f,g,h,i,j,k))))) fun(a,b,c,d,e,f,g,h,i,j,k)=>ah c (ai (wU (a,d,e,f,g,h,i,j,k)) fun(a,b,c,d,e,f,g,h)=>U (an (a,b,c,d,e,f,g,h))) (bindE (Y:=List zBy×Bool×Bool×List Cst×Int×Int×Int×List Int×List Fld×List Mth×Bool) (af (aa (0<(a.length:Int))) (aq a (nat_lit 0) fun c=>ah (aa (c=[(116:UInt8),114,97,112])) (ah (aa ((a.length:Int)=5)) (U (an (a,b,b,d,e,f,g,h,i,j,k))) (U (an (a,b,ag,d,e,f,g,h,i,j,k)))) (U (an (a,b,ag,d,e,f,g,h,i,j,k))))) fun(a,b,c,d,e,f,g,h,i,j,k)=>ah c (ai (wV (a,d,e,f,g,h,i,j,k)) fun(a,b,c,d,e,f,g,h)=>U (an (a,b,c,d,e,f,g,h))) (bindE (Y:=List zBy×Bool×List Cst×Int×Int×Int×List Int×List Fld×List Mth×Bool) (af (aa (0<(a.length:Int))) (aq a (nat_lit 0) fun c=>ah (aa (c=[(102:UInt8),114,97,109,101])) (ah (aa ((a.length:Int)=4)) (U (an (a,b,d,e,f,g,h,i,j,k))) (U (an (a,ag,d,e,f,g,h,i,j,k)))) (U (an (a,ag,d,e,f,g,h,i,j,k))))) fun(a,b,c,d,e,f,g,h,i,j)=>ah b (af (aa (1<(a.length:Int))) (aq a (nat_lit 1) fun b=>af (aa (2<(a.length:Int))) (aq a (nat_lit 2) fun k=>af (aa (3<(a.length:Int))) (aq a (nat_lit 3) fun l=>ai (nI (c,d,e,f,g,h,i,j)) fun(c,d,e,f,g,h,i,j,m)=>ak (ak (af (aa (1<(a.length:Int))) (U ())) (ak (aq a (nat_lit 1) fun a=>af (aa (a=b)) (U ())) (ak (af (aa (2<(a.length:Int))) (U ())) (ak (aq a (nat_lit 2) fun a=>af (aa (a=k)) (U ())) (ak (af (aa (3<(a.length:Int))) (U ())) (ak (aq a (nat_lit 3) fun a=>af (aa (a=l)) (U ())) (U ()))))))) (ai (nJ ((e,f,g,h,i,j,m),d)) fun(d,(e,f,g,h,i,j,m),n)=>ak (ak (af (aa (1<(a.length:Int))) (U ())) (ak (aq a (nat_lit 1) fun a=>af (aa (a=b)) (U ())) (ak (af (aa (2<(a.length:Int))) (U ())) (ak (aq a (nat_lit 2) fun a=>af (aa (a=k)) (U ())) (ak (af (aa (3<(a.length:Int))) (U ())) (ak (aq a (nat_lit 3) fun a=>af (aa (a=l)) (U ())) (U ()))))))) (aq n d fun o=>af (aa (d=d)&&aa (d<n.length)) (af (aa (d=d)&&aa (d<n.length)) (af (aa (d=d)&&aa (d<n.length)) (ai (wY (b,(e,f,g,h,i,j,m),(n,d,o.1,o.2.1,o.2.2.1,o.2.2.2.1,o.2.2.2.2.1,o.2.2.2.2.2.1,o.2.2.2.2.2.2.1),o.2.2.2.2.2.2.2)) fun(b,(e,f,g,h,i,j,m),(n,o,p,q,r,s,t,u,v),w)=>ak (ak (af (aa (2<(a.length:Int))) (U ())) (ak (aq a (nat_lit 2) fun a=>af (aa (a=k)) (U ())) (ak (af (aa (3<(a.length:Int))) (U ())) (ak (aq a (nat_lit 3) fun a=>af (aa (a=l)) (U ())) (ak (af (d==d&&ad) (U ())) (ak (af (d==d&&ad) (U ())) (ak (af (aa (d=o)&&aa (o<n.length)) (af (aa (d=o)&&aa (o<n.length)) (af (aa (d=o)&&aa (o<n.length)) (U ())))) (U ())))))))) (ai (s5 (k,(e,f,g,h,i,j,m),(n,o,p,q,r,s,t,u,v),w)) fun(e,(f,g,h,i,j,k,m),(n,o,p,q,r,s,t,u,v),w)=>ak (ak (af (aa (3<(a.length:Int))) (U ())) (ak (aq a (nat_lit 3) fun a=>af (aa (a=l)) (U ())) (ak (af (d==d&&ad) (U ())) (ak (af (d==d&&ad) (U ())) (ak (af (aa (d=o)&&aa (o<n.length)) (af (aa (d=o)&&aa (o<n.length)) (af (aa (d=o)&&aa (o<n.length)) (U ())))) (U ())))))) (ai (s5 (l,(f,g,h,i,j,k,m),(n,o,p,q,r,s,t,u,v),w)) fun(a,(f,g,h,i,j,k,l),(m,n,o,p,q,r,s,t,u),v)=>let d:=ak (af (d==d&&ad) (U ())) (ak (af (d==d&&ad) (U ())) (ak (af (aa (d=n)&&aa (n<m.length)) (af (aa (d=n)&&aa (n<m.length)) (af (aa (d=n)&&aa (n<m.length)) (U ())))) (U ())));ak d (ak d (af (aa (v.length+1<=9223372036854775807)&&aa ((v.length+1)*56<=140737488355328)) (af (aa (c=n)&&aa (n<m.length)) (af (aa (n<m.length)) (U (an (f,g,h,i,j,k,List.set m n (o,p,q,r,s,t,u,v++[(b,e,a)]),l)))))))))))))))))) (U (an (c,d,e,f,g,h,i,ad))))))))) fun(a,b,c,d,e,f,g,h)=>U ((a,b,c,d,e,f,g,h)))
def tb279:=ax 279 (az 279 ag [(0,[])] wL sW w8 [] 213 [100000]) zJN
def Sr:zTb tb279:=aB Sf Sq Sp func279 rfl call279
abbrev iz:SPat:=⟨[(0,.agg (pl bX))],[]⟩
def w9:Cls->Option Bool:=fun(a,_,_,_,b,c,d)=>
 ah (aa ((a.length:Int)<=60))
 (ah (aa ((b.length:Int)<=3))
 (ah (aa ((c.length:Int)<=5))
 (U (aa ((d.length:Int)<=6)))
 (U ag))
 (U ag))
 (U ag)
def tb69:=ax 69 (az 69 ad [] iz eZ w9 [.tmp 2] 25 []) tb279
def Ss:zTb tb69:=aB Sr aL aU func69 rfl call69
abbrev Su:SPat:=⟨[(0,.agg (pl dC))],[]⟩
def Sv:Nat->List Nat×bc:=fun id=>bif id==3 then([0,1,3,4,5,8,9],(.br 2 [1,0] [3,4,5,8,9] [] (.br 6 [5,4,3,2,1,0] [8,9] [7,10] (.br 11 fw [] [] .fin .fin) .fin) .fin))else bif id==5 then([0,1,3,4],(.br 2 [1,0] [3,4] [] (.br 5 j_ [] [6] (.br 7 dw [] [] .fin .fin) .fin) .fin))else bif id==6 then([0,1,3,4,7,8],(.br 2 [1,0] [3,4,7,8] [] (.br 5 j_ [7,8] [6] (.br 9 [8,7,5,4,3,2,1,0] [6] [10] (.br 11 fw [] [] .fin .fin) .fin) .fin) .fin))else([],.fin)
def w_:Cst->Option zBy:=fun(a,b,c,d)=>
 ah (aa (a=1))
 (ai (ew a) fun a=>
 ak (ak (af (aa (b=b)) (U ())) (ak (af (aa ((b.length:Int)=(b.length:Int))) (U ())) (ak (af (aa (b=b)) (U ())) (U ())))) (ai (ew b.length) fun c=>
 ak (ak (af (aa (b=b)) (U ())) (U ())) (af (aa (a.length+c.length<=9223372036854775807)) (af (aa (au (a++c)+b.length<=9223372036854775807)) (U (a++c++b))))))
 (ah (aa (a=2))
 (ai (ew a) fun a=>
 ak (ak (af (aa (c=c)) (U ())) (U ())) (ai (eP c) fun b=>
 af (aa (a.length+b.length<=9223372036854775807)) (U (a++b))))
 (ai (ew a) fun a=>
 ak (ak (af (aa (c=c)) (U ())) (ak (af (aa (d=d)) (U ())) (U ()))) (ai (eP c) fun b=>
 ak (ak (af (aa (d=d)) (U ())) (U ())) (af (aa (a.length+b.length<=9223372036854775807)) (ai (eP d) fun c=>
 ak (ak (af (aa (a.length+b.length<=9223372036854775807)) (af (aa (a++b=a++b)) (U ()))) (U ())) (af (aa (au (a++b)+c.length<=9223372036854775807)) (U (a++b++c))))))))
def tb135:=ax 135 (az 135 ad [] Su fG w_ [.tmp 2] 38 []) tb69
def Sw:zTb tb135:=aB Ss Sv aU func135 rfl call135
abbrev B9:SPat:=⟨[(0,.sl dc)],[]⟩
abbrev Ib:SPat:=⟨[(0,.sl dc),(3,.s),(4,.i .i64)],[]⟩
def Sx:Nat->Option SPat:=fun k=>bif k==3 then U Ib else bif k==2000000 then U qC else bif k==2000001 then U Ib else aj
def s6:List Knd->Option zBy:=fun a=>
 ai (ew a.length) fun b=>
 bindE (Y:=zBy) (aD (fun(a,b,c)=>
 ah (aa (c<(a.length:Int)))
 (bindE (Y:=List Knd×zBy×Int) (af (aa (0<=c)) (aq a c.toNat fun d=>ai (ew d.1) fun d=>
 af (aa (b.length+d.length<=9223372036854775807)) (af (aa (0<=c)) (aq a c.toNat fun e=>ah (aa (e.1=3))
 (af (aa (0<=c)) (aq a c.toNat fun e=>ai (eP e.2) fun e=>
 af (aa (au (b++d)+e.length<=9223372036854775807)) (U (an (a,b++d++e,c)))))
 (U (an (a,b++d,c))))))) fun(a,b,c)=>
 U (an (a,b,wrap .i64 (c+1))))
 (U (ao (an b)))) ((a,b,(0:Int)))) fun a=>
 U (a)
def tb216:=ax 216 (az 216 ad [] B9 fG s6 [.tmp 2] 37 []) tb135
def Sy:zTb tb216:=aB Sw aL Sx func216 rfl call216
abbrev Ic:SPat:=⟨[(0,.agg (pl cB))],[]⟩
abbrev Sz:SPat:=⟨[(1,.ptr 1 0),(3,.s),(4,.i .i64)],[.box 1 (pl cB)]⟩
abbrev SA:SPat:=⟨[(1,.ptr 1 0),(3,.s),(6,.i .i64)],[.box 1 (pl cB)]⟩
abbrev SB:SPat:=⟨[(1,.ptr 1 0),(3,.s)],[.box 1 (pl cB)]⟩
def SC:Nat->Option SPat:=fun k=>bif k==6 then U Sz else bif k==12 then U SA else bif k==2000000 then U SB else bif k==2000002 then U qC else aj
def SD:Nat->List Nat×bc:=fun id=>bif id==1 then([0,1,3,4,7,8],(.br 2 [1,0] [3,4,7,8] [] (.br 5 j_ [7,8] [6] (.br 9 [8,7,5,4,3,2,1,0] [6] [10] (.br 11 fw [] [] .fin .fin) .fin) .fin) .fin))else bif id==4 then([0,1,2,5,6,9,10,11,14,15,17,18,19],(.br 3 [2,1] [0,5,6,9,10,11,14,15,17,18,19] [4] (.br 7 [6,5,3,2,1] [0,9,10,11,14,15,17,18,19,4] [8] (.br 12 [11,10,9,7,6,5,3,2,1] [0,14,15,17,18,19,4,8] [13,16] (.br 20 [19,18,17,12,11,10,9,7,6,5,3,2,1] [0,14,15,4,8,13,16] [21] (.br 22 wu [] [] .fin .fin) .fin) .fin) .fin) .fin))else bif id==9 then([0,1,2,5,6,9,10,13,14],(.br 3 [2,1] [0,5,6,9,10,13,14] [4] (.br 7 [6,5,3,2,1] [0,9,10,13,14,4] [8] (.br 11 [10,9,7,6,5,3,2,1] [0,13,14,4,8] [12] (.br 15 [14,13,11,10,9,7,6,5,3,2,1] [0,4,8,12] [16] (.br 17 iu [] [] .fin .fin) .fin) .fin) .fin) .fin))else bif id==14 then(HS,(.br 7 [6,5,4,3,2,1] [0,9,10,11,12,13,14,17,18,19,20,21,22] [8] (.br 15 [14,13,12,11,10,9,7,6,5,4,3,2,1] [0,17,18,19,20,21,22,8] [16] (.br 23 HT [0,8,16] [24] (.br 25 BX [] [] .fin .fin) .fin) .fin) .fin))else([],.fin)
def xc:Mth->Option zBy:=fun(a,b,c,d,e,f,g,h)=>ai (ew a) fun i=>ak (ak (af (aa (b=b)) (U ())) (ak (af (aa (c=c)) (U ())) (U ()))) (ai (eP b) fun j=>ak (ak (af (aa (c=c)) (U ())) (U ())) (af (aa (i.length+j.length<=9223372036854775807)) (ai (eP c) fun k=>ak (ak (af (aa (i.length+j.length<=9223372036854775807)) (af (aa (i++j=i++j)) (U ()))) (U ())) (af (aa (au (i++j)+k.length<=9223372036854775807)) (ah (aa (wrap .i64 (Int.tdiv (Int.tmod a (16:Int)) (8:Int))=1)) (U (i++j++k)) (ai (ew d) fun l=>ak (ak (af (aa (i++j++k=i++j++k)) (U ())) (ak (af (aa (e=e)) (U ())) (ak (af (aa (f=f)) (U ())) (ak (af (aa ((f.length:Int)=(f.length:Int))) (U ())) (ak (af (aa (f=f)) (U ())) (ak (af (aa (g=g)) (U ())) (ak (af (aa ((g.length:Int)=(g.length:Int))) (U ())) (U ())))))))) (af (aa (au (i++j++k)+l.length<=9223372036854775807)) (ai (ew e) fun m=>ak (ak (af (aa (i++j++k=i++j++k)) (U ())) (ak (af (aa (f=f)) (U ())) (ak (af (aa ((f.length:Int)=(f.length:Int))) (U ())) (ak (af (aa (f=f)) (U ())) (ak (af (aa (g=g)) (U ())) (ak (af (aa ((g.length:Int)=(g.length:Int))) (U ())) (ak (af (aa (au (i++j++k)+l.length<=9223372036854775807)) (af (aa (i++j++k++l=i++j++k++l)) (U ()))) (U ())))))))) (af (aa (au (i++j++k++l)+m.length<=9223372036854775807)) (ai (eP f.length) fun n=>ak (ak (af (aa (i++j++k=i++j++k)) (U ())) (ak (af (aa (f=f)) (U ())) (ak (af (aa (g=g)) (U ())) (ak (af (aa ((g.length:Int)=(g.length:Int))) (U ())) (ak (af (aa (au (i++j++k)+l.length<=9223372036854775807)) (af (aa (i++j++k++l=i++j++k++l)) (U ()))) (ak (af (aa (au (i++j++k++l)+m.length<=9223372036854775807)) (af (aa (i++j++k++l++m=i++j++k++l++m)) (U ()))) (U ()))))))) (af (aa (au (i++j++k++l++m)+n.length<=9223372036854775807)) (af (aa (au (i++j++k++l++m++n)+f.length<=9223372036854775807)) (ai (ew g.length) fun o=>ak (ak (af (aa (i++j++k=i++j++k)) (U ())) (ak (af (aa (f=f)) (U ())) (ak (af (aa (au (i++j++k)+l.length<=9223372036854775807)) (af (aa (i++j++k++l=i++j++k++l)) (U ()))) (ak (af (aa (au (i++j++k++l)+m.length<=9223372036854775807)) (af (aa (i++j++k++l++m=i++j++k++l++m)) (U ()))) (ak (af (aa (au (i++j++k++l++m)+n.length<=9223372036854775807)) (af (aa (i++j++k++l++m++n=i++j++k++l++m++n)) (U ()))) (ak (af (aa (au (i++j++k++l++m++n)+f.length<=9223372036854775807)) (af (aa (i++j++k++l++m++n++f=i++j++k++l++m++n++f)) (U ()))) (U ()))))))) (af (aa (au (i++j++k++l++m++n++f)+o.length<=9223372036854775807)) (bindE (Y:=zBy×Mth) (aD (fun(a,b,c,d,e,f,g,h,i,j)=>ah (aa (b<(i.length:Int))) (af (aa (0<=b)) (aq i b.toNat fun k=>ai (eP k.1) fun l=>ak (ak (af (aa (a=a)) (U ())) (ak (af (aa (k.2.1=k.2.1)) (U ())) (ak (af (aa (k.2.2.1=k.2.2.1)) (U ())) (ak (af (aa (k.2.2.2=k.2.2.2)) (U ())) (U ()))))) (af (aa (a.length+l.length<=9223372036854775807)) (ai (eP k.2.1) fun m=>ak (ak (af (aa (a=a)) (U ())) (ak (af (aa (k.2.2.1=k.2.2.1)) (U ())) (ak (af (aa (k.2.2.2=k.2.2.2)) (U ())) (ak (af (aa (a.length+l.length<=9223372036854775807)) (af (aa (a++l=a++l)) (U ()))) (U ()))))) (af (aa (au (a++l)+m.length<=9223372036854775807)) (ai (eP k.2.2.1) fun n=>ak (ak (af (aa (a=a)) (U ())) (ak (af (aa (k.2.2.2=k.2.2.2)) (U ())) (ak (af (aa (a.length+l.length<=9223372036854775807)) (af (aa (a++l=a++l)) (U ()))) (ak (af (aa (au (a++l)+m.length<=9223372036854775807)) (af (aa (a++l++m=a++l++m)) (U ()))) (U ()))))) (af (aa (au (a++l++m)+n.length<=9223372036854775807)) (ai (eP k.2.2.2) fun k=>ak (ak (af (aa (a=a)) (U ())) (ak (af (aa (a.length+l.length<=9223372036854775807)) (af (aa (a++l=a++l)) (U ()))) (ak (af (aa (au (a++l)+m.length<=9223372036854775807)) (af (aa (a++l++m=a++l++m)) (U ()))) (ak (af (aa (au (a++l++m)+n.length<=9223372036854775807)) (af (aa (a++l++m++n=a++l++m++n)) (U ()))) (U ()))))) (af (aa (au (a++l++m++n)+k.length<=9223372036854775807)) (U (an (a++l++m++n++k,wrap .i64 (b+1),c,d,e,f,g,h,i,j)))))))))))) (U (ao (an (a,c,d,e,f,g,h,i,j))))) ((i++j++k++l++m++n++f++o,(0:Int),a,b,c,d,e,f,g,h))) fun(a,b,c,d,e,f,g,h,i)=>ai (ew i.length) fun j=>af (aa (a.length+j.length<=9223372036854775807)) (bindE (Y:=zBy) (aD (fun(a,b,c,d,e,f,g,h,i,j)=>ah (aa (b<(j.length:Int))) (af (aa (0<=b)) (aq j b.toNat fun k=>af (aa (0<=b)) (aq j b.toNat fun l=>af (aa (0<=b)) (aq j b.toNat fun m=>ai (eP k.1) fun k=>let n:=af (aa (0<=b)) (aq j b.toNat fun a=>af (aa (a.1=m.1)&&(aa (a.2.1=m.2.1)&&(aa (a.2.2=m.2.2)&&ad))) (U ()));ak (ak (af (aa (a=a)) (U ())) (ak (af (aa (j=j)) (U ())) (ak (af (aa (b=b)) (U ())) (ak (af (aa (0<=b)) (aq j b.toNat fun a=>af (aa (a.1=l.1)&&(aa (a.2.1=l.2.1)&&(aa (a.2.2=l.2.2)&&ad))) (U ()))) (ak (af (aa (l.2.1=l.2.1)&&(aa (l.2.2=l.2.2)&&ad)) (U ())) (ak (af (aa (l.2.1=l.2.1)) (U ())) (ak (af (aa (j=j)) (U ())) (ak (af (aa (b=b)) (U ())) (ak n (ak (af (aa (m.2.2=m.2.2)&&ad) (U ())) (ak (af (aa (m.2.2=m.2.2)) (U ())) (U ())))))))))))) (af (aa (a.length+k.length<=9223372036854775807)) (ai (s6 l.2.1) fun l=>ak (ak (af (aa (a=a)) (U ())) (ak (af (aa (j=j)) (U ())) (ak (af (aa (b=b)) (U ())) (ak n (ak (af (aa (m.2.2=m.2.2)&&ad) (U ())) (ak (af (aa (m.2.2=m.2.2)) (U ())) (ak (af (aa (a.length+k.length<=9223372036854775807)) (af (aa (a++k=a++k)) (U ()))) (U ())))))))) (af (aa (au (a++k)+l.length<=9223372036854775807)) (ai (s6 m.2.2) fun m=>ak (ak (af (aa (a=a)) (U ())) (ak (af (aa (a.length+k.length<=9223372036854775807)) (af (aa (a++k=a++k)) (U ()))) (ak (af (aa (au (a++k)+l.length<=9223372036854775807)) (af (aa (a++k++l=a++k++l)) (U ()))) (U ())))) (af (aa (au (a++k++l)+m.length<=9223372036854775807)) (U (an (a++k++l++m,wrap .i64 (b+1),c,d,e,f,g,h,i,j)))))))))))) (U (ao (an a)))) ((a++j,(0:Int),b,c,d,e,f,g,h,i))) fun a=>U a))))))))))))))))
def tb137:=ax 137 (az 137 ad [] Ic fG xc [.tmp 2] 114 []) tb216
def SE:zTb tb137:=aB Sy SD SC func137 rfl call137
abbrev xd:SPat:=⟨[(1,.ptr 1 0),(3,.s),(4,.i .i64)],iy⟩
abbrev SF:SPat:=⟨[(1,.ptr 1 0),(3,.s),(5,.i .i64)],iy⟩
abbrev SG:SPat:=⟨[(1,.ptr 1 0),(3,.s),(6,.i .i64)],iy⟩
abbrev SH:SPat:=⟨[(1,.ptr 1 0),(3,.s),(7,.i .i64)],iy⟩
abbrev mu:SPat:=⟨[(1,.ptr 1 0),(3,.s)],iy⟩
def SI:Nat->Option SPat:=fun k=>bif k==3 then U xd else bif k==8 then U SF else bif k==13 then U SG else bif k==18 then U SH else bif k==2000000 then U mu else bif k==2000002 then U mu else bif k==2000004 then U mu else bif k==2000006 then U qC else aj
def SJ:Nat->List Nat×bc:=fun id=>bif id==6 then([0,1,2,5,6,9,10,13,14,15],(.br 3 [2,1] [0,5,6,9,10,13,14,15] [4] (.br 7 [6,5,3,2,1] [0,9,10,13,14,15,4] [8] (.br 11 [10,9,7,6,5,3,2,1] [0,13,14,15,4,8] [12] (.br 16 [15,14,13,11,10,9,7,6,5,3,2,1] [0,4,8,12] [17] (.br 18 sM [] [] .fin .fin) .fin) .fin) .fin) .fin))else bif id==15 then(HS,(.br 7 [6,5,4,3,2,1] [0,9,10,11,12,13,14,17,18,19,20,21,22] [8] (.br 15 [14,13,12,11,10,9,7,6,5,4,3,2,1] [0,17,18,19,20,21,22,8] [16] (.br 23 HT [0,8,16] [24] (.br 25 BX [] [] .fin .fin) .fin) .fin) .fin))else([],.fin)
def oY:Cls->Option zBy:=fun(a,b,c,d,e,f,g)=>ai (ew a.length) fun h=>af (aa ((4:Nat)+h.length<=9223372036854775807)) (bindE (Y:=zBy×Cls) (aD (fun(a,b,c,d,e,f,g,h,i)=>ah (aa (b<(c.length:Int))) (af (aa (0<=b)) (aq c b.toNat fun j=>ai (w_ (j.1,j.2.1,j.2.2.1,j.2.2.2)) fun j=>af (aa (a.length+j.length<=9223372036854775807)) (U (an (a++j,wrap .i64 (b+1),c,d,e,f,g,h,i))))) (U (ao (an (a,c,d,e,f,g,h,i))))) (([(83:UInt8),84,79,87]++h,(0:Int),a,b,c,d,e,f,g))) fun(a,b,c,d,e,f,g,h)=>ai (ew c) fun i=>ak (ak (af (aa (a=a)) (U ())) (ak (af (aa (d=d)) (U ())) (ak (af (aa (e=e)) (U ())) (ak (af (aa (f=f)) (U ())) (ak (af (aa ((f.length:Int)=(f.length:Int))) (U ())) (U ())))))) (af (aa (a.length+i.length<=9223372036854775807)) (ai (eP d) fun j=>ak (ak (af (aa (a=a)) (U ())) (ak (af (aa (e=e)) (U ())) (ak (af (aa (f=f)) (U ())) (ak (af (aa ((f.length:Int)=(f.length:Int))) (U ())) (ak (af (aa (a.length+i.length<=9223372036854775807)) (af (aa (a++i=a++i)) (U ()))) (U ())))))) (af (aa (au (a++i)+j.length<=9223372036854775807)) (ai (eP e) fun k=>ak (ak (af (aa (a=a)) (U ())) (ak (af (aa (f=f)) (U ())) (ak (af (aa ((f.length:Int)=(f.length:Int))) (U ())) (ak (af (aa (a.length+i.length<=9223372036854775807)) (af (aa (a++i=a++i)) (U ()))) (ak (af (aa (au (a++i)+j.length<=9223372036854775807)) (af (aa (a++i++j=a++i++j)) (U ()))) (U ())))))) (af (aa (au (a++i++j)+k.length<=9223372036854775807)) (ai (ew f.length) fun l=>ak (ak (af (aa (a=a)) (U ())) (ak (af (aa (a.length+i.length<=9223372036854775807)) (af (aa (a++i=a++i)) (U ()))) (ak (af (aa (au (a++i)+j.length<=9223372036854775807)) (af (aa (a++i++j=a++i++j)) (U ()))) (ak (af (aa (au (a++i++j)+k.length<=9223372036854775807)) (af (aa (a++i++j++k=a++i++j++k)) (U ()))) (U ()))))) (af (aa (au (a++i++j++k)+l.length<=9223372036854775807)) (bindE (Y:=zBy×Cls) (aD (fun(a,b,c,d,e,f,g,h,i)=>ah (aa (b<(g.length:Int))) (af (aa (0<=b)) (aq g b.toNat fun j=>ai (eP j) fun j=>af (aa (a.length+j.length<=9223372036854775807)) (U (an (a++j,wrap .i64 (b+1),c,d,e,f,g,h,i))))) (U (ao (an (a,c,d,e,f,g,h,i))))) ((a++i++j++k++l,(0:Int),b,c,d,e,f,g,h))) fun(a,b,c,d,e,f,g,h)=>ai (ew g.length) fun i=>af (aa (a.length+i.length<=9223372036854775807)) (bindE (Y:=zBy×Cls) (aD (fun(a,b,c,d,e,f,g,h,i)=>ah (aa (b<(h.length:Int))) (af (aa (0<=b)) (aq h b.toNat fun j=>af (aa (0<=b)) (aq h b.toNat fun k=>af (aa (0<=b)) (aq h b.toNat fun l=>ai (ew j.1) fun j=>let m:=af (aa (0<=b)) (aq h b.toNat fun a=>af (aa (a.1=l.1)&&(aa (a.2.1=l.2.1)&&(aa (a.2.2=l.2.2)&&ad))) (U ()));ak (ak (af (aa (a=a)) (U ())) (ak (af (aa (h=h)) (U ())) (ak (af (aa (b=b)) (U ())) (ak (af (aa (0<=b)) (aq h b.toNat fun a=>af (aa (a.1=k.1)&&(aa (a.2.1=k.2.1)&&(aa (a.2.2=k.2.2)&&ad))) (U ()))) (ak (af (aa (k.2.1=k.2.1)&&(aa (k.2.2=k.2.2)&&ad)) (U ())) (ak (af (aa (k.2.1=k.2.1)) (U ())) (ak (af (aa (h=h)) (U ())) (ak (af (aa (b=b)) (U ())) (ak m (ak (af (aa (l.2.2=l.2.2)&&ad) (U ())) (ak (af (aa (l.2.2=l.2.2)) (U ())) (U ())))))))))))) (af (aa (a.length+j.length<=9223372036854775807)) (ai (eP k.2.1) fun k=>ak (ak (af (aa (a=a)) (U ())) (ak (af (aa (h=h)) (U ())) (ak (af (aa (b=b)) (U ())) (ak m (ak (af (aa (l.2.2=l.2.2)&&ad) (U ())) (ak (af (aa (l.2.2=l.2.2)) (U ())) (ak (af (aa (a.length+j.length<=9223372036854775807)) (af (aa (a++j=a++j)) (U ()))) (U ())))))))) (af (aa (au (a++j)+k.length<=9223372036854775807)) (ai (eP l.2.2) fun l=>ak (ak (af (aa (a=a)) (U ())) (ak (af (aa (a.length+j.length<=9223372036854775807)) (af (aa (a++j=a++j)) (U ()))) (ak (af (aa (au (a++j)+k.length<=9223372036854775807)) (af (aa (a++j++k=a++j++k)) (U ()))) (U ())))) (af (aa (au (a++j++k)+l.length<=9223372036854775807)) (U (an (a++j++k++l,wrap .i64 (b+1),c,d,e,f,g,h,i)))))))))))) (U (ao (an (a,c,d,e,f,g,h,i))))) ((a++i,(0:Int),b,c,d,e,f,g,h))) fun(a,b,c,d,e,f,g,h)=>ai (ew h.length) fun i=>af (aa (a.length+i.length<=9223372036854775807)) (bindE (Y:=zBy) (aD (fun(a,b,c,d,e,f,g,h,i)=>ah (aa (b<(i.length:Int))) (af (aa (0<=b)) (aq i b.toNat fun j=>ai (xc (j.1,j.2.1,j.2.2.1,j.2.2.2.1,j.2.2.2.2.1,j.2.2.2.2.2.1,j.2.2.2.2.2.2.1,j.2.2.2.2.2.2.2)) fun j=>af (aa (a.length+j.length<=9223372036854775807)) (U (an (a++j,wrap .i64 (b+1),c,d,e,f,g,h,i))))) (U (ao (an a)))) ((a++i,(0:Int),b,c,d,e,f,g,h))) fun a=>U a)))))))))))
def tb55:=ax 55 (az 55 ad [] iz fG oY [.tmp 2] 121 []) tb137
def SK:zTb tb55:=aB SE SJ SI func55 rfl call55
abbrev SL:SPat:=⟨[(0,.ptr 100000 0),(1,.i .i64)],iQ⟩
abbrev SM:SPat:=⟨[(4,.s)],iQ⟩
abbrev SN:SPat:=⟨[(0,.ptr 100000 0),(1,.i .i64),(22,.b)],iQ⟩
def SO:Nat->Option SPat:=fun k=>bif k==1000002 then U SN else aj
def SP:Nat->List Nat×bc:=fun id=>bif id==1 then(BU,.fin)else bif id==5 then([0,1,2,3,4,5,6,7,8,9,10,11,12,13,14],(.br 15 oS [] [] .fin .fin))else([],.fin)
def qE:Int×zBy×Int×Bool->Option (zBy×zBy×Int×Bool):=fun(a,b,c,d)=>
 bindE (Y:=Int×Bool×zBy×Int×Bool) (ah (d)
 (U (an (a,ad,b,c,d)))
 (U (an (a,aa ((b.length:Int)<wrap .i64 (c+a)),b,c,d)))) fun(a,b,c,d,e)=>
 ah (b)
 (U (([],c,d,ad)))
 (af (aa (0<=wrap .i64 (wrap .i64 (d+a)-a))&&aa (wrap .i64 (wrap .i64 (d+a)-a)<=wrap .i64 (d+a))&&aa (wrap .i64 (d+a)<=(c.length:Int))) (U ((kZ (aH (wrap .i64 (wrap .i64 (d+a)-a))) (nY (aH (wrap .i64 (d+a))) c),c,wrap .i64 (d+a),e))))
def tb219:=ax 219 (az 219 ag [(0,[])] SL SM qE [.tmp 4] 50 [100000]) tb55
def SQ:zTb tb219:=aB SK SP SO func219 rfl call219
abbrev oZ:SPat:=⟨[(0,.ptr 100000 0)],iQ⟩
abbrev Ie:SPat:=⟨[(2,.i .i64)],iQ⟩
abbrev SS:SPat:=⟨[(0,.ptr 100000 0),(18,.b)],iQ⟩
def SU:Nat->Option SPat:=fun k=>bif k==1000002 then U SS else aj
def SW:Nat->List Nat×bc:=fun id=>bif id==1 then(BT,.fin)else bif id==5 then(nB,(.br 11 fw [] [] .fin .fin))else([],.fin)
def e7:zBy×Int×Bool->Option (Int×zBy×Int×Bool):=fun(a,b,c)=>
 bindE (Y:=Bool×zBy×Int×Bool) (ah (c)
 (U (an (ad,a,b,c)))
 (U (an (aa ((a.length:Int)<=b),a,b,c)))) fun(a,b,c,d)=>
 ah (a)
 (U (((0:Int),b,c,ad)))
 (af (aa (0<=wrap .i64 (wrap .i64 (c+1)-1))) (aq b (aH (wrap .i64 (wrap .i64 (c+1)-1))) fun a=>U ((wrap .i64 (a.toNat:Int),b,wrap .i64 (c+1),d))))
def tb221:=ax 221 (az 221 ag [(0,[])] oZ Ie e7 [.tmp 2] 41 [100000]) tb219
def SX:zTb tb221:=aB SQ SW SU func221 rfl call221
end
end Go.Proofs.YtdpapeledldifaaGreat
