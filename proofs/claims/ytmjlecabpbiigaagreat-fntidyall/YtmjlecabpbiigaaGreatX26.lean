/- Part 27 of the proof of FnTidyAll; no condition. -/
import Derived.Test.YtmjlecabpbiigaaGreatX25
import Derived.Lib.Bytealg
import Derived.Laws.Externs
open Option renaming some -> U
open Decidable renaming decide -> aa
open Bool renaming true -> ae
open Bool renaming false -> ag
open Option renaming none -> aj
open Sum renaming inr -> an
open Sum renaming inl -> ao
open List renaming length -> au
open Int renaming toNat -> aw
open List renaming drop -> cU
open List renaming take -> de
set_option autoImplicit true
set_option relaxedAutoImplicit true
set_option linter.all false
namespace Go.Proofs.YtmjlecabpbiigaaGreat
noncomputable section
open Go Go.AM Go.TM
open Go.Proofs.Tryz
open Sum (inl inr)
set_option maxRecDepth 100000
abbrev Cx:SPat:=⟨[(0,.s),(1,.i .u8)],[]⟩
abbrev kr:SPat:=⟨[(2,.i .i64)],[]⟩
def Cy:List UInt8×Int->Option Int:=fun(s,c)=>U (Lib.indexByte s c.toNat.toUInt8)
def IG:TEnt:=⟨198,ae,[],Cx,kr.Den,Cy,fun y=>U (.i .i64 y,[])⟩
def QB:kg Tryz.prog 198 IG.W:=by
 rintro args ob K ⟨⟨s,c⟩,y,v,obs,h1,h2,h3,h4,h5⟩
 refine AC.le h1 h2 ?_
 have h3:U (Lib.indexByte s c.toNat.toUInt8)=U y:=h3
 have h4:U (V.i .i64 y,([]:List TO))=U (v,obs):=h4
 obtain⟨rfl,rfl⟩:=Prod.mk.inj (Option.some.inj h4)
 have hy:y=Lib.indexByte s c.toNat.toUInt8:=(Option.some.inj h3).symm
 subst hy
 intro w G vs fO hlen hr hO hown
 have hr:RL w G [SV.s s,SV.i .u8 c] vs.toList zf:=hr
 have hO:aW w G [] fO:=hO
 have hz:fO=zf:=hO
 subst hz
 have hvs:vs = #[.string ⟨s.toArray⟩,.int .u8 c]:=by
  simp only[RL,R]at hr
  obtain⟨v1,r1,f1,f2,e1,⟨_,rfl⟩,⟨v2,r2,f3,f4,e2,⟨_,rfl⟩,_,_⟩,_⟩:=hr
  have hsz:vs.toList.length=2:=hlen
  rw[e1,e2]at hsz
  have:r2=[]:=by simpa using hsz
  rw[this]at e2
  rw[e2]at e1
  exact Array.toList_inj.1 (by rw[e1])
 refine .inr ⟨.int .i64 (Lib.indexByte s c.toNat.toUInt8),w,?_,?_⟩
 ·rw[run_callFunc_extern func198 (by kernel_rfl) (by kernel_rfl) (by kernel_rfl) (e:=Extern.BytealgIndexByte.indexByte) (by kernel_rfl),hvs]
  have hrun:=Lib.run_indexByteString (P:=Tryz.prog) ⟨(s:List UInt8).toArray⟩ (c:Int) w
  exact(congrArg (fun r=>Result.andThen r fun v w'=>Result.ok (Next.value v) w') hrun).trans rfl
 ·exact⟨_,[],G,zf,zf,h5,by simp[e,R],rfl,⟨fun g=>by simp[zf],fun g _=>by simp[zf],hown.2.2.1,fun g hg=>by simp[zf]at hg⟩,fun g h=>h,fun g _ h=>.inl h,fun g _ h=>by simp[zf]at h,fun g _ _=>rfl,fun n _=>rfl,by simp[aQ,bo],bJ _,rfl,rfl,rfl⟩
def tb198:=az 198 IG tbT0
def IH:zTb tb198:=jy.ins jy.nil QB
end
noncomputable section
open Go Go.AM Go.TM
open Go.Proofs.Tryz
open Sum (inl inr)
set_option maxRecDepth 100000
set_option maxHeartbeats 4000000
abbrev jb:SPat:=⟨[(0,.i .i64)],[]⟩
abbrev fW:SPat:=⟨[(2,.s)],[]⟩
def II:Nat->List Nat×a_:=fun id=>bif id==7 then([0,1,3,4,5,6],(.br 2 [1,0] [3,4,5,6] [] (.br 7 [6,5,4,3] [0,1] [8,9] (.br 10 dG [] [] .fin .fin) .fin) (.br 7 [6,5,4,3] [0,1] [8] (.br 2 [1,0] [3,4,5,6,8] [9] (.br 10 dG [] [] .fin .fin) .fin) .fin)))else([],.fin)
def Cz (R:jb.Den->Option fW.Den):TEnt:=⟨186,ae,[],jb,fW.Den,R,wF T [.tmp 2] 28 fW []⟩
def nM (R186:Int->Option (List UInt8)):Int->Option (List UInt8):=fun n=>
 ai (aa (n < -9223372036854775807))
  (U ([(45:UInt8),57,50,50,51,51,55,50,48,51,54,56,53,52,55,55,53,56,48,56]))
  (ai (aa (n<0))
   (ah (R186 (IntKind.wrap .i64 ((0:Int)-n))) fun y=>
   af (aa ((1:Nat)+au y<=9223372036854775807)) (U ([(45:UInt8)]++y)))
   (ai (aa (n<10))
    (af (aa (0<=IntKind.wrap .u8 (IntKind.wrap .i64 ((48:Int)+n)))&&aa (IntKind.wrap .u8 (IntKind.wrap .i64 ((48:Int)+n))<=255)) (U ([UInt8.ofNat (aw (IntKind.wrap .u8 (IntKind.wrap .i64 ((48:Int)+n))))])))
    (ca
     (ah (R186 (IntKind.wrap .i64 (Int.tdiv n (10:Int)))) fun y=>
     ak (ak (af (aa (n=n)) (U ())) (ak (af (aa (Int.tmod n (10:Int)=Int.tmod n (10:Int))) (U ())) (ak (af (aa (IntKind.wrap .i64 ((48:Int)+Int.tmod n (10:Int))=IntKind.wrap .i64 ((48:Int)+Int.tmod n (10:Int)))) (U ())) (ak (af (aa (IntKind.wrap .u8 (IntKind.wrap .i64 ((48:Int)+Int.tmod n (10:Int)))=IntKind.wrap .u8 (IntKind.wrap .i64 ((48:Int)+Int.tmod n (10:Int))))) (U ())) (U ()))))) (af (aa (0<=IntKind.wrap .u8 (IntKind.wrap .i64 ((48:Int)+Int.tmod n (10:Int))))&&aa (IntKind.wrap .u8 (IntKind.wrap .i64 ((48:Int)+Int.tmod n (10:Int)))<=255)) (ak (ak (af (aa (n=n)) (U ())) (ak (af (aa (IntKind.wrap .i64 (Int.tdiv n (10:Int))=IntKind.wrap .i64 (Int.tdiv n (10:Int)))) (U ())) (U ()))) (af (aa (au y+1<=9223372036854775807)) (U (y++[UInt8.ofNat (aw (IntKind.wrap .u8 (IntKind.wrap .i64 ((48:Int)+Int.tmod n (10:Int)))))]))))))
     (af (aa (0<=IntKind.wrap .u8 (IntKind.wrap .i64 ((48:Int)+Int.tmod n (10:Int))))&&aa (IntKind.wrap .u8 (IntKind.wrap .i64 ((48:Int)+Int.tmod n (10:Int)))<=255)) (ak (ak (af (aa (n=n)) (U ())) (ak (af (aa (IntKind.wrap .i64 (Int.tdiv n (10:Int))=IntKind.wrap .i64 (Int.tdiv n (10:Int)))) (U ())) (U ()))) (ah (R186 (IntKind.wrap .i64 (Int.tdiv n (10:Int)))) fun y=>
     ak (ak (af (aa (n=n)) (U ())) (ak (af (aa (Int.tmod n (10:Int)=Int.tmod n (10:Int))) (U ())) (ak (af (aa (IntKind.wrap .i64 ((48:Int)+Int.tmod n (10:Int))=IntKind.wrap .i64 ((48:Int)+Int.tmod n (10:Int)))) (U ())) (ak (af (aa (IntKind.wrap .u8 (IntKind.wrap .i64 ((48:Int)+Int.tmod n (10:Int)))=IntKind.wrap .u8 (IntKind.wrap .i64 ((48:Int)+Int.tmod n (10:Int))))) (U ())) (ak (af (aa ([UInt8.ofNat (aw (IntKind.wrap .u8 (IntKind.wrap .i64 ((48:Int)+Int.tmod n (10:Int)))))]=[UInt8.ofNat (aw (IntKind.wrap .u8 (IntKind.wrap .i64 ((48:Int)+Int.tmod n (10:Int)))))])) (U ())) (U ())))))) (af (aa (au y+1<=9223372036854775807)) (U (y++[UInt8.ofNat (aw (IntKind.wrap .u8 (IntKind.wrap .i64 ((48:Int)+Int.tmod n (10:Int)))))])))))))))
def QC (R186:Int->Option (List UInt8))(x:Int):sZ T (az 186 (Cz R186) tb198) II 28 aR (Ip Tryz.f186) jb fW x=nM R186 x:=by kernel_rfl
def mB:Nat->Int->Option (List UInt8)
 |0=>fun _=>aj
 |n+1=>nM (mB n)
def IJ:∀n,kg Tryz.prog 186 (Cz (mB n)).W
 |0=>fun args ob K ⟨x,y,v,obs,h1,h2,h3,_⟩=>by cases h3
 |n+1=>Cl (jy.ins IH (IJ n)) Cp Cw ae [] jb fW [] II aR func186 rfl results186 ntmps186 (by kernel_rfl) (by kernel_rfl) call186 (mB (n+1)) fun x _ h=>(QC (mB n) x).trans h
def jX:Int->Option (List UInt8):=mB 24
def QD:TEnt:=Cz jX
def tb186:=az 186 QD tb198
def QE:zTb tb186:=jy.ins IH (IJ 24)
end
noncomputable section
open Go Go.AM Go.TM
open Go.Proofs.Tryz
open Sum (inl inr)
open Go.IntKind (wrap)
set_option maxRecDepth 100000
set_option maxHeartbeats 4000000
abbrev td:SPat:=⟨[(0,.sl .byte)],[]⟩
abbrev QF:SPat:=⟨[(2,.ptr 10 0)],[.box 10 (pl kn)]⟩
def wS:zBy->Option (zBy×Int):=fun a=>
 ai (aa (2000<(a.length:Int)))
 (af (aa (2000<=(a.length:Int))) (U ((cU (0:Nat) (de (2000:Nat) a),(0:Int)))))
 (U ((a,(0:Int))))
def tb14:=az 14 (aB 14 ag [] td QF wS [.tmp 2] 11 [10]) tb186
def QG:zTb tb14:=aC QE aI aR func14 rfl call14
abbrev IK:SPat:=⟨[(0,.ptr 100000 0),(1,.i .i64)],jW⟩
abbrev IL:SPat:=⟨[(4,.i .i64)],jW⟩
def QH:Nat->Option SPat:=fun k=>bif k==1000004 then U IK else aj
def QI:Nat->List Nat×a_:=fun id=>bif id==7 then([0,1,2,3,4,5,6,7,8,9,10,11,12,13,14,15,16,17,18,19,20,21,22,23,24,25,26,27,28,29,30,31,32,33,34,35,36,37,38,39,40,41,42,43,44],(.br 45 [44,43,42,41,40,39,38,37,36,35,34,33,32,31,30,29,28,27,26,25,24,23,22,21,20,19,18,17,16,15,14,13,12,11,10,9,8,7,6,5,4,3,2,1,0] [] [] .fin .fin))else([],.fin)
def dn:Int×zBy×Int->Option (Int×zBy×Int):=fun(a,b,c)=>
 bindE (Y:=Int×zBy×Int) (ai (aa (a<1))
 (U (an (0,b,wrap .i64 (c+1))))
 (ai (aa ((b.length:Int)=0))
 (U (an (0,b,wrap .i64 (c+1))))
 (U (ao (a,b,wrap .i64 (c+1)))))) fun(a,b,c)=>
 ai (aa (wrap .i64 (c-1)<(b.length:Int)))
 (af (aa (0<=wrap .i64 (c-1))) (aq b (aw (wrap .i64 (c-1))) fun d=>af (!aa (a=0)) (U ((Int.tmod (wrap .i64 (d.toNat:Int)) a,b,c)))))
 (af (!aa ((b.length:Int)=0)) (af (aa (0<=Int.tmod (wrap .i64 (c-1)) (b.length:Int))) (aq b (aw (Int.tmod (wrap .i64 (c-1)) (b.length:Int))) fun d=>af (!aa ((b.length:Int)=0)) (af (aa (0<=Int.tmod (wrap .i64 (wrap .i64 (wrap .i64 (c-1)*7)+3)) (b.length:Int))) (aq b (aw (Int.tmod (wrap .i64 (wrap .i64 (wrap .i64 (c-1)*7)+3)) (b.length:Int))) fun e=>af (!aa ((b.length:Int)=0)) (af (!aa (a=0)) (U ((Int.tmod (pP IntKind.i64 (wrap .i64 (wrap .i64 (wrap .i64 (wrap .i64 (wrap .i64 (d.toNat:Int)*131)+wrap .i64 (wrap .i64 (e.toNat:Int)*1117))+wrap .i64 (wrap .i64 (c-1)*29))+wrap .i64 (wrap .i64 (Int.tdiv (wrap .i64 (c-1)) (b.length:Int))*53))) (wrap .i64 (Int.tdiv (wrap .i64 (wrap .i64 (wrap .i64 (wrap .i64 (wrap .i64 (d.toNat:Int)*131)+wrap .i64 (wrap .i64 (e.toNat:Int)*1117))+wrap .i64 (wrap .i64 (c-1)*29))+wrap .i64 (wrap .i64 (Int.tdiv (wrap .i64 (c-1)) (b.length:Int))*53))) (64:Int)))) a,b,c)))))))))
def tb43:=az 43 (aB 43 ag [(0,[])] IK IL dn [.tmp 4] 99 [100000]) tb14
def QJ:zTb tb43:=aC QG QI QH func43 rfl call43
abbrev QK:SPat:=⟨[(0,.ptr 100000 0),(1,.sl .str)],jW⟩
abbrev wT:SPat:=⟨[(4,.s)],jW⟩
def df:List zBy×zBy×Int->Option (zBy×zBy×Int):=fun(a,b,c)=>
 ah (dn ((a.length:Int),b,c)) fun(b,c,d)=>
 af (aa (0<=b)) (aq a b.toNat fun a=>U ((a,c,d)))
def tb45:=az 45 (aB 45 ag [(0,[])] QK wT df [.tmp 4] 12 [100000]) tb43
def QL:zTb tb45:=aC QJ aI aR func45 rfl call45
abbrev CA:SPat:=⟨[(0,.ptr 100000 0),(1,.s)],jW⟩
def wU:zBy×zBy×Int->Option (zBy×zBy×Int):=fun(a,b,c)=>let d:=[(109:UInt8),101,116,104,111,100,32,110,101,120,116,32,40,41,76,65,59,32,48,32,50,32,49,10,32,32,114,101,102,108,111,97,100,32,48,10,32,32,103,101,116,32,65,32,110,32,76,65,59,10,32,32,103,105,118,101,114,101,102,10];let e:=[(109:UInt8),101,116,104,111,100,32,103,101,116,32,40,41,73,32,48,32,50,32,49,10,32,32,114,101,102,108,111,97,100,32,48,10,32,32,103,101,116,32,65,32,120,32,73,10,32,32,103,105,118,101,105,110,116,10];let f:=[(99:UInt8),108,97,115,115,32,65,32,79,98,106,32,48,10,102,105,101,108,100,32,120,32,73,32,48,10,102,105,101,108,100,32,110,32,76,65,59,32,48,10,102,105,101,108,100,32,115,32,73,32,49,10];let g:=[(99:UInt8),108,97,115,115,32,85,32,79,98,106,32,48,10,102,105,101,108,100,32,97,32,76,65,59,32,49,10,109,101,116,104,111,100,32,101,97,116,32,40,76,65,59];let h:=[(41:UInt8),73,32,49,32,50,32,49,10,32,32,114,101,102,108,111,97,100,32,48,10,32,32,103,101,116,32,65,32,120,32,73,10,32,32,103,105,118,101,105,110,116,10];let i:=[(109:UInt8),101,116,104,111,100,32,103,101,116,32,40,41,73,32,48,32,49,32,49,10,32,32,112,117,115,104,32,54,10,32,32,103,105,118,101,105,110,116,10];let j:=[(109:UInt8),101,116,104,111,100,32,109,107,32,40,41,76,65,59,32,49,32,49,32,48,10,32,32,110,101,119,32,65,10,32,32,103,105,118,101,114,101,102,10];let k:=[(109:UInt8),101,116,104,111,100,32,116,97,107,101,32,40,76,65,59,41,73,32,48,32,50,32,50,10,32,32,114,101,102,108,111,97,100,32,49,10,32,32];let l:=[(109:UInt8),101,116,104,111,100,32,109,97,107,101,32,40,41,76,65,59,32,49,32,49,32,48,10,32,32,110,101,119,32];let m:=[(99:UInt8),108,97,115,115,32,67,32,79,98,106,32,48,10,102,97,99,101,32,70,10];let n:=[(10:UInt8),102,105,101,108,100,32,121,32,73,32,48,10];let o:=[(99:UInt8),108,97,115,115,32,70,32,79,98,106,32];let p:=[(99:UInt8),108,97,115,115,32,66,32,65,32];ai (aa (a=[(65:UInt8)]))
 (ah (df ([[],[],[(102:UInt8),105,101,108,100,32,122,32,73,32,48,10]],b,c)) fun(a,b,c)=>
 af (aa ((52:Nat)+a.length<=9223372036854775807)) (af (aa (au (f++a)+55<=9223372036854775807)) (af (aa (au (f++a++e)+60<=9223372036854775807)) (af (aa (au (f++a++e++d)+40<=9223372036854775807)) (ah (df ([[],[(109:UInt8),101,116,104,111,100,32,104,105,100,32,40,41,86,32,50,32,48,32,49,10,32,32,103,105,118,101,10]],b,c)) fun(b,c,g)=>
 af (aa (au (f++a++e++d++j)+b.length<=9223372036854775807)) (ah (df ([[],List.append [(109:UInt8),101,116,104,111,100,32,98,101,103,105,110,32,40,41,86,32,49,32,49,32,48,10,32,32,112,117,115,104,32,49,48,10,32,32,112] [(114:UInt8),105,110,116,10,32,32,112,117,115,104,32,51,10,32,32,112,117,116,97,108,108,32,65,32,115,32,73,10,32,32,103,105,118,101,10],[(109:UInt8),101,116,104,111,100,32,98,101,103,105,110,32,40,41,86,32,49,32,50,32,48,10,32,32,112,117,115,104,32,49,10,32,32,112,117,115,104,32,48,10,32,32,100,105,118,10,32,32,112,114,105,110,116,10,32,32,103,105,118,101,10]],c,g)) fun(c,g,h)=>
 af (aa (au (f++a++e++d++j++b)+c.length<=9223372036854775807)) (U ((f++a++e++d++j++b++c,g,h)))))))))
 (ai (aa (a=[(66:UInt8)]))
 (ah (df ([[(48:UInt8)],[(48:UInt8)],[(50:UInt8)]],b,c)) fun(a,b,c)=>
 af (aa ((10:Nat)+a.length<=9223372036854775807)) (af (aa (au (p++a)+13<=9223372036854775807)) (ah (df ([[(109:UInt8),101,116,104,111,100,32,103,101,116,32,40,41,73,32,48,32,49,32,49,10,32,32,112,117,115,104,32,53,10,32,32,103,105,118,101,105,110,116,10],List.append [(109:UInt8),101,116,104,111,100,32,103,101,116,32,40,41,73,32,48,32,50,32,49,10,32,32,114,101,102,108,111,97,100,32,48,10,32,32,115,112,101,99] [(105:UInt8),97,108,32,65,32,103,101,116,32,40,41,73,10,32,32,112,117,115,104,32,49,10,32,32,97,100,100,10,32,32,103,105,118,101,105,110,116,10],[(109:UInt8),101,116,104,111,100,32,103,101,116,32,40,41,73,32,50,32,49,32,49,10,32,32,112,117,115,104,32,57,10,32,32,103,105,118,101,105,110,116,10],[(109:UInt8),101,116,104,111,100,32,110,101,120,116,32,40,41,76,65,59,32,48,32,49,32,49,10,32,32,110,101,119,32,66,10,32,32,103,105,118,101,114,101,102,10],[(109:UInt8),101,116,104,111,100,32,103,101,116,32,40,41,73,32,48,32,49,32,49,10,32,32,110,117,108,108,10,32,32,103,105,118,101,105,110,116,10],[(109:UInt8),101,116,104,111,100,32,98,101,103,105,110,32,40,41,86,32,49,32,49,32,48,10,32,32,112,117,115,104,32,50,48,10,32,32,112,114,105,110,116,10,32,32,103,105,118,101,10]],b,c)) fun(b,c,d)=>
 af (aa (au (p++a++n)+b.length<=9223372036854775807)) (U ((p++a++n++b,c,d))))))
 (ai (aa (a=[(67:UInt8)]))
 (ah (df ([[],i,i],b,c)) fun(a,b,c)=>
 af (aa ((21:Nat)+a.length<=9223372036854775807)) (af (aa (au (m++a)+39<=9223372036854775807)) (ah (df ([[(118:UInt8),105,114,116,117,97,108,32,65,32,103,101,116,32,40,41,73],[(103:UInt8),101,116,32,65,32,120,32,73]],b,c)) fun(b,c,d)=>
 af (aa (au (m++a++k)+b.length<=9223372036854775807)) (af (aa (au (m++a++k++b)+11<=9223372036854775807)) (U ((m++a++k++b++[(10:UInt8),32,32,103,105,118,101,105,110,116,10],c,d)))))))
 (ai (aa (a=[(70:UInt8)]))
 (ah (df ([[(53:UInt8)],[(53:UInt8)],[(53:UInt8)],[(52:UInt8)]],b,c)) fun(a,b,c)=>
 af (aa ((12:Nat)+a.length<=9223372036854775807)) (af (aa (au (o++a)+39<=9223372036854775807)) (U ((o++a++[(10:UInt8),109,101,116,104,111,100,32,103,101,116,32,40,41,73,32,56,10,109,101,116,104,111,100,32,116,97,107,101,32,40,76,65,59,41,73,32,56,10],b,c)))))
 (ah (df ([[(65:UInt8)],[(65:UInt8)],[(66:UInt8)]],b,c)) fun(a,b,c)=>
 af (aa ((116:Nat)+a.length<=9223372036854775807)) (af (aa (au (List.append g h++l++a)+11<=9223372036854775807)) (U ((List.append g h++l++a++[(10:UInt8),32,32,103,105,118,101,114,101,102,10],b,c))))))))
def tb111:=az 111 (aB 111 ag [(0,[])] CA wT wU [.tmp 4] 71 [100000]) tb45
def QM:zTb tb111:=aC QL aI aR func111 rfl call111
abbrev QN:SPat:=⟨[(0,.s),(1,.i .u8),(2,.i .i64)],[]⟩
abbrev QO:SPat:=⟨[(6,.own .str ae)],[]⟩
abbrev CB:SPat:=⟨[(0,.s),(1,.i .u8),(2,.i .i64),(7,.own .str ae),(8,.i .i64),(9,.i .i64)],[]⟩
abbrev QP:SPat:=⟨[(0,.s),(7,.own .str ae),(8,.i .i64)],[]⟩
def QQ:Nat->Option SPat:=fun k=>bif k==4 then U CB else bif k==1000006 then U CB else bif k==2000000 then U QP else bif k==2000001 then U CB else aj
def nN:zBy×Int×Int->Option (List zBy):=fun(a,b,c)=>
 bindE (Y:=zBy×List zBy×Int) (aE (fun(a,b,c,d,e,f)=>
 bindE (Y:=zBy×Int×Int×List zBy×Int×Int) (ai (aa (f<(a.length:Int)))
 (ai (aa ((d.length:Int)<c))
 (U (ao (a,b,c,d,e,f)))
 (U (an (an (ao (a,d,e))))))
 (U (an (an (ao (a,d,e)))))) fun(a,b,c,d,e,f)=>
 bindE (Y:=zBy×Int×Int×List zBy×Int×Int) (af (aa (0<=f)) (aq a f.toNat fun g=>ai (aa ((g.toNat:Int)=b))
 (af (aa (0<=e)&&aa (e<=f)&&aa (f<=(a.length:Int))) (af (aa (d.length+1<=9223372036854775807)&&aa ((d.length+1)*16<=140737488355328)) (U (ao (a,b,c,d++[cU e.toNat (de f.toNat a)],wrap .i64 (f+1),f)))))
 (U (ao (a,b,c,d,e,f))))) fun(a,b,c,d,e,f)=>
 U (ao (a,b,c,d,e,wrap .i64 (f+1)))) ((a,b,c,[],(0:Int),(0:Int)))) fun(a,b,c)=>
 af (aa (0<=c)&&aa (c<=(a.length:Int))&&aa ((a.length:Int)<=(a.length:Int))) (af (aa (b.length+1<=9223372036854775807)&&aa ((b.length+1)*16<=140737488355328)) (U (b++[cU c.toNat (de (aw (a.length:Int)) a)])))
def tb190:=az 190 (aB 190 ae [] QN QO nN [.tmp 6] 43 []) tb111
def QR:zTb tb190:=aC QM aI QQ func190 rfl call190
abbrev dH:SPat:=⟨[],[]⟩
abbrev QT:SPat:=⟨[(0,.own .str ae)],[]⟩
def th:PUnit->Option (List zBy):=fun _=>
 U ([[(110:UInt8),111,112],[(112:UInt8),117,115,104],[(110:UInt8),117,108,108],[(108:UInt8),111,97,100],[(115:UInt8),116,111,114,101],[(114:UInt8),101,102,108,111,97,100],[(114:UInt8),101,102,115,116,111,114,101],[(112:UInt8),111,112],[(100:UInt8),117,112],[(115:UInt8),119,97,112],[(97:UInt8),100,100],[(115:UInt8),117,98],[(109:UInt8),117,108],[(100:UInt8),105,118],[(105:UInt8),102,122,101,114,111],[(105:UInt8),102,110,101,103],[(105:UInt8),102,110,117,108,108],[(105:UInt8),102,115,97,109,101],[(103:UInt8),111],[(110:UInt8),101,119],[(103:UInt8),101,116],[(112:UInt8),117,116],[(103:UInt8),101,116,97,108,108],[(112:UInt8),117,116,97,108,108],[(118:UInt8),105,114,116,117,97,108],[(115:UInt8),112,101,99,105,97,108],[(115:UInt8),116,97,116,105,99],[(102:UInt8),97,99,101],[(99:UInt8),97,115,116],[(105:UInt8),115],[(103:UInt8),105,118,101,105,110,116],[(103:UInt8),105,118,101,114,101,102],[(103:UInt8),105,118,101],[(116:UInt8),104,114,111,119],[(112:UInt8),114,105,110,116]])
def tb200:=az 200 (aB 200 ae [] dH QT th [.tmp 0] 2 []) tb190
def QU:zTb tb200:=aC QR aI aR func200 rfl call200
abbrev QV:SPat:=⟨[(0,.sl .str),(1,.s)],[]⟩
abbrev mC:SPat:=⟨[(4,.i .i64)],[]⟩
abbrev QW:SPat:=⟨[(0,.sl .str),(1,.s),(5,.i .i64)],[]⟩
def QX:Nat->Option SPat:=fun k=>bif k==2 then U QW else bif k==2000000 then U dH else aj
def qQ:List zBy×zBy->Option Int:=fun(a,b)=>
 bindE (aE (fun(a,b,c)=>
 ai (aa (c<(a.length:Int)))
 (af (aa (0<=c)) (aq a c.toNat fun d=>ai (aa (d=b))
 (U (an (an c)))
 (U (ao (a,b,wrap .i64 (c+1))))))
 (U (an (ao ())))) ((a,b,(0:Int)))) fun _=>
 U ((-1:Int))
def tb199:=az 199 (aB 199 ae [] QV mC qQ [.tmp 4] 19 []) tb200
def QY:zTb tb199:=aC QU aI QX func199 rfl call199
abbrev QZ:SPat:=⟨[(3,.i .i64),(4,.b)],[]⟩
abbrev Q0:SPat:=⟨[(3,.i .i64),(8,.b)],[]⟩
abbrev Q1:SPat:=⟨[(3,.i .i64),(13,.b)],[]⟩
def Q2:Nat->Option SPat:=fun k=>bif k==1000005 then U QZ else bif k==1000010 then U Q0 else bif k==1000014 then U Q1 else aj
def pf:Int->Option Int:=fun a=>
 bindE (ai (aa (a=19))
 (U (ao (a,ae)))
 (ai (aa (a=28))
 (U (ao (a,ae)))
 (U (ao (a,aa (a=29)))))) fun(a,b)=>
 ai (b)
 (U ((2:Int)))
 (bindE (ai (aa (a=20))
 (U (ao (a,ae)))
 (ai (aa (a=21))
 (U (ao (a,ae)))
 (ai (aa (a=22))
 (U (ao (a,ae)))
 (U (ao (a,aa (a=23))))))) fun(a,b)=>
 ai (b)
 (U ((4:Int)))
 (bindE (ai (aa (a=24))
 (U (ao (a,ae)))
 (ai (aa (a=25))
 (U (ao (a,ae)))
 (U (ao (a,aa (a=26)))))) fun(a,b)=>
 ai (b)
 (U ((5:Int)))
 (ai (aa (a=27))
 (U ((6:Int)))
 (U ((0:Int))))))
def tb175:=az 175 (aB 175 ae [] jb kr pf [.tmp 2] 19 []) tb199
def Q3:zTb tb175:=aC QY aI Q2 func175 rfl call175
abbrev Q4:SPat:=⟨[(0,.ptr 100000 0),(1,.agg (pl dM))],iF⟩
abbrev wV:SPat:=⟨[(4,.i .i64)],iF⟩
abbrev Q5:SPat:=⟨[(0,.ptr 100000 0),(3,.ptr 3 0),(5,.i .i64)],[.box 3 (pl dM),.box 100000 (pl jz)]⟩
abbrev Q6:SPat:=⟨[(0,.ptr 100000 0),(3,.ptr 3 0)],[.box 3 (pl dM),.box 100000 (pl jz)]⟩
def Q7:Nat->Option SPat:=fun k=>bif k==2 then U Q5 else bif k==2000000 then U Q6 else aj
def Q8:Nat->List Nat×a_:=fun id=>bif id==4 then(nI,.fin)else bif id==6 then(fK,(.br 7 [6] fT [] (.br 8 s5 [0] [9,10,11] (.br 12 ko [] [] .fin .fin) .fin) .fin))else([],.fin)
def pg :  Cst×List Cst×Int×Int×Int×List Int×List Fld×List Mth×Bool->Option (Int×List Cst×Int×Int×Int×List Int×List Fld×List Mth×Bool):=fun((a,b,c,d),e,f,g,h,i,j,k,l)=>
 bindE (Y :=  Cst×List Cst×Int×Int×Int×List Int×List Fld×List Mth×Bool) (aE (fun(a,(b,c,d,e),f,g,h,i,j,k,l,m)=>
 ai (aa (a<(f.length:Int)))
 (af (aa (0<=a)&&aa (a<(f.length:Int))) (aq f a.toNat fun n=>ai (aa (n.1=b)&&(aa (n.2.1=c)&&(aa (n.2.2.1=d)&&(aa (n.2.2.2=e)&&ae))))
 (U (an (an (wrap .i64 (a+1),f,g,h,i,j,k,l,m))))
 (U (ao (wrap .i64 (a+1),(b,c,d,e),f,g,h,i,j,k,l,m)))))
 (U (an (ao ((b,c,d,e),f,g,h,i,j,k,l,m))))) (((0:Int),(a,b,c,d),e,f,g,h,i,j,k,l))) fun((a,b,c,d),e,f,g,h,i,j,k,l)=>
 af (aa (e.length+1<=9223372036854775807)&&aa ((e.length+1)*40<=140737488355328)) (U (((↑(au (e++[(a,b,c,d)])):Int),e++[(a,b,c,d)],f,g,h,i,j,k,l)))
def tb222:=az 222 (aB 222 ag [(0,[])] Q4 wV pg [.tmp 4] 46 [100000]) tb175
def Q9:zTb tb222:=aC Q3 Q8 Q7 func222 rfl call222
abbrev wW:SPat:=⟨[(0,.ptr 100000 0),(1,.s)],iF⟩
def lQ:zBy×List Cst×Int×Int×Int×List Int×List Fld×List Mth×Bool->Option (Int×List Cst×Int×Int×Int×List Int×List Fld×List Mth×Bool):=fun(a,b,c,d,e,f,g,h,i)=>
 ai (aa (60<(a.length:Int)))
 (U (((0:Int),b,c,d,e,f,g,h,ae)))
 (ah (pg (((1:Int),a,(0:Int),(0:Int)),b,c,d,e,f,g,h,i)) fun(a,b,c,d,e,f,g,h,i)=>
 U ((a,b,c,d,e,f,g,h,i)))
def tb210:=az 210 (aB 210 ag [(0,[])] wW wV lQ [.tmp 4] 15 [100000]) tb222
def Q_:zTb tb210:=aC Q9 aI aR func210 rfl call210
def nO:zBy×List Cst×Int×Int×Int×List Int×List Fld×List Mth×Bool->Option (Int×List Cst×Int×Int×Int×List Int×List Fld×List Mth×Bool):=fun(a,b,c,d,e,f,g,h,i)=>
 ah (lQ (a,b,c,d,e,f,g,h,i)) fun(a,b,c,d,e,f,g,h,i)=>
 ah (pg (((2:Int),[],a,(0:Int)),b,c,d,e,f,g,h,i)) fun(a,b,c,d,e,f,g,h,i)=>
 U ((a,b,c,d,e,f,g,h,i))
def tb208:=az 208 (aB 208 ag [(0,[])] wW wV nO [.tmp 4] 11 [100000]) tb210
def Ra:zTb tb208:=aC Q_ aI aR func208 rfl call208
abbrev Rb:SPat:=⟨[(0,.ptr 100000 0),(1,.i .i64),(2,.s),(3,.s),(4,.s)],iF⟩
abbrev Rc:SPat:=⟨[(10,.i .i64)],iF⟩
def wX:Int×zBy×zBy×zBy×List Cst×Int×Int×Int×List Int×List Fld×List Mth×Bool->Option (Int×List Cst×Int×Int×Int×List Int×List Fld×List Mth×Bool):=fun(a,b,c,d,e,f,g,h,i,j,k,l)=>
 ah (nO (b,e,f,g,h,i,j,k,l)) fun(b,e,f,g,h,i,j,k,l)=>
 ah (lQ (c,e,f,g,h,i,j,k,l)) fun(c,e,f,g,h,i,j,k,l)=>
 ah (lQ (d,e,f,g,h,i,j,k,l)) fun(d,e,f,g,h,i,j,k,l)=>
 ah (pg (((3:Int),[],c,d),e,f,g,h,i,j,k,l)) fun(c,d,e,f,g,h,i,j,k)=>
 ah (pg ((a,[],b,c),d,e,f,g,h,i,j,k)) fun(a,b,c,d,e,f,g,h,i)=>
 U ((a,b,c,d,e,f,g,h,i))
def tb220:=az 220 (aB 220 ag [(0,[])] Rb Rc wX [.tmp 10] 33 [100000]) tb208
def Rf:zTb tb220:=aC Ra aI aR func220 rfl call220
abbrev fy:SPat:=⟨[(0,.s)],[]⟩
abbrev IM:SPat:=⟨[(0,.s),(3,.i .i64),(4,.i .i64)],[]⟩
abbrev CC:SPat:=⟨[(0,.s),(3,.i .i64)],[]⟩
def Rg:Nat->Option SPat:=fun k=>bif k==3 then U IM else bif k==1000007 then U IM else bif k==2000000 then U CC else aj
def nP:zBy->Option Int:=fun a=>
 bindE (Y:=zBy×Int) (aE (fun(a,b,c)=>
 ai (aa (c<(a.length:Int)))
 (bindE (Y:=zBy×Int×Int) (af (aa (0<=c)) (aq a c.toNat fun d=>ai (aa ((d.toNat:Int)<48))
 (U (an (an (an (-1:Int)))))
 (af (aa (0<=c)) (aq a c.toNat fun d=>ai (aa (57<(d.toNat:Int)))
 (U (an (an (an (-1:Int)))))
 (ai (aa (5<=c))
 (U (an (an (an (-1:Int)))))
 (U (ao (a,b,c)))))))) fun(a,b,c)=>
 af (aa (0<=c)) (aq a c.toNat fun d=>U (ao (a,wrap .i64 (wrap .i64 (b*10)+wrap .i64 (wrap .u8 ((d.toNat:Int)-48))),wrap .i64 (c+1)))))
 (U (an (ao (a,b))))) ((a,(0:Int),(0:Int)))) fun(a,b)=>
 ai (aa ((a.length:Int)=0))
 (U ((-1:Int)))
 (ai (aa (1<(a.length:Int)))
 (aq a 0 fun a=>ai (aa ((a.toNat:Int)=48))
 (U ((-1:Int)))
 (U b))
 (U b))
def tb223:=az 223 (aB 223 ae [] fy kr nP [.tmp 2] 47 []) tb220
def Rh:zTb tb223:=aC Rf aI Rg func223 rfl call223
abbrev Ri:SPat:=⟨[(2,.i .i64),(3,.b)],[]⟩
abbrev Rj:SPat:=⟨[(0,.s),(13,.b)],[]⟩
def Rk:Nat->Option SPat:=fun k=>bif k==1000002 then U Rj else aj
def wY:zBy->Option (Int×Bool):=fun a=>
 bindE (Y:=zBy×Bool) (ai (aa (1<(a.length:Int)))
 (aq a 0 fun b=>U (ao (a,aa ((b.toNat:Int)=45))))
 (U (ao (a,ag)))) fun(a,b)=>
 ai (b)
 (af (aa (1<=(a.length:Int))&&aa ((a.length:Int)<=(a.length:Int))) (ah (nP (cU (1:Nat) (de (aw (a.length:Int)) a))) fun a=>
 U ((wrap .i64 ((0:Int)-a),aa (0<a)))))
 (ah (nP a) fun a=>
 U ((a,aa (0<=a))))
def tb221:=az 221 (aB 221 ae [] fy Ri wY [.tmp 2,.tmp 3] 26 []) tb223
def Rl:zTb tb221:=aC Rh aI Rk func221 rfl call221
abbrev IN:SPat:=⟨[(0,.i .i64),(1,.i .i64),(2,.i .i64)],[]⟩
abbrev lR:SPat:=⟨[(6,.b)],[]⟩
def eY:Int×Int×Int->Option Bool:=fun(a,b,c)=>
 ai (aa (b<=a))
 (U (aa (a<=c)))
 (U ag)
def tb49:=az 49 (aB 49 ae [] IN lR eY [.tmp 6] 15 []) tb221
def Rm:zTb tb49:=aC Rl aI aR func49 rfl call49
def Rn:Nat->Option SPat:=fun k=>bif k==2000000 then U jb else aj
def kY:Int->Option Int:=fun a=>
 bindE (ai (aa (a=1))
 (U (an (2:Int)))
 (ai (aa (a=3))
 (U (an (1:Int)))
 (ai (aa (a=4))
 (U (an (1:Int)))
 (ai (aa (a=5))
 (U (an (1:Int)))
 (ai (aa (a=6))
 (U (an (1:Int)))
 (U (ao a))))))) fun a=>
 ah (eY (a,14,18)) fun b=>
 ai (b)
 (U ((2:Int)))
 (ah (eY (a,19,29)) fun b=>
 ai (b)
 (U ((2:Int)))
 (ah (eY (a,0,34)) fun a=>
 ai (a)
 (U ((0:Int)))
 (U ((-1:Int)))))
def tb172:=az 172 (aB 172 ae [] jb kr kY [.tmp 2] 19 []) tb49
def Ro:zTb tb172:=aC Rm aI Rn func172 rfl call172
def ia:zBy×List Cst×Int×Int×Int×List Int×List Fld×List Mth×Bool->Option (Int×List Cst×Int×Int×Int×List Int×List Fld×List Mth×Bool):=fun(a,b,c,d,e,f,g,h,i)=>
 ah (nP a) fun a=>
 ai (aa (a<0))
 (U (((0:Int),b,c,d,e,f,g,h,ae)))
 (U ((a,b,c,d,e,f,g,h,i)))
def tb209:=az 209 (aB 209 ag [(0,[])] wW wV ia [.tmp 4] 14 [100000]) tb172
def Rp:zTb tb209:=aC Ro aI aR func209 rfl call209
abbrev Rq:SPat:=⟨[(0,.ptr 100000 0)],iF⟩
abbrev Rs:SPat:=⟨[(2,.ptrI 7007 0)],[.arr 7007 cE ae,.box 100000 (pl [.own cD ae,.i .i64,.i .i64,.i .i64,.own (.int .i64) ae,.own bA ae,.ar 7007,.b])]⟩
def Rt:Nat->List Nat×a_:=fun id=>bif id==1 then(Cs,(.br 13 jA [] [] .fin .fin))else([],.fin)
def nQ:List Cst×Int×Int×Int×List Int×List Fld×List Mth×Bool->Option (Nat×List Mth×List Cst×Int×Int×Int×List Int×List Fld×Bool):=fun(a,b,c,d,e,f,g,h)=>
 af (aa (0<=wrap .i64 ((g.length:Int)-1))&&aa (wrap .i64 ((g.length:Int)-1)<(g.length:Int))) (U ((aw (wrap .i64 ((g.length:Int)-1)),g,a,b,c,d,e,f,h)))
def tb213:=az 213 (aB 213 ag [(0,[])] Rq Rs nQ [.tmp 2] 16 [7007,100000]) tb209
def Ru:zTb tb213:=aC Rp Rt aR func213 rfl call213
abbrev Rv:SPat:=⟨[(0,.ptr 100000 0)],[.box 100000 (pl lP),.arr 100001 cE ae]⟩
abbrev Rw:SPat:=⟨[(2,.ptrI 100001 0)],[.box 100000 (pl lP),.arr 100001 cE ae]⟩
def Rx:Nat->List Nat×a_:=fun id=>bif id==1 then(Cs,(.br 13 jA [] [] .fin .fin))else([],.fin)
def nR:(List Cst×Int×Int×Int×List Int×List Fld×Bool)×List Mth->Option (Nat×(List Cst×Int×Int×Int×List Int×List Fld×Bool)×List Mth):=fun((a,b,c,d,e,f,g),h)=>
 af (aa (0<=wrap .i64 ((h.length:Int)-1))&&aa (wrap .i64 ((h.length:Int)-1)<(h.length:Int))) (U ((aw (wrap .i64 ((h.length:Int)-1)),(a,b,c,d,e,f,g),h)))
def zPj:=az 7000213 (aB 213 ag [(0,[]),(0,[6])] Rv Rw nR [.tmp 2] 16 [100000,100001]) tb213
def Ry:zTb zPj:=aC Ru Rx aR func213 rfl call213
def eK:Int->Option zBy:=fun a=>
 af (aa (0<=wrap .u8 a)&&aa (wrap .u8 a<=255)) (U ([UInt8.ofNat (aw (wrap .u8 a))]))
def tb56:=az 56 (aB 56 ae [] jb fW eK [.tmp 2] 7 []) zPj
def Rz:zTb tb56:=aC Ry aI aR func56 rfl call56
def eZ:Int->Option zBy:=fun a=>
 af (aa (0<=wrap .u8 (wrap .i64 (Int.tdiv a (256:Int))))&&aa (wrap .u8 (wrap .i64 (Int.tdiv a (256:Int)))<=255)) (af (aa (0<=wrap .u8 (Int.tmod a (256:Int)))&&aa (wrap .u8 (Int.tmod a (256:Int))<=255)) (U ([UInt8.ofNat (aw (wrap .u8 (wrap .i64 (Int.tdiv a (256:Int))))),UInt8.ofNat (aw (wrap .u8 (Int.tmod a (256:Int))))])))
def tb58:=az 58 (aB 58 ae [] jb fW eZ [.tmp 2] 11 []) tb56
def RA:zTb tb58:=aC Rz aI aR func58 rfl call58
abbrev wZ:SPat:=⟨[(0,.sl bA)],[]⟩
abbrev IP:SPat:=⟨[(0,.sl bA),(3,.s),(4,.i .i64)],[]⟩
abbrev qR:SPat:=⟨[(3,.s)],[]⟩
def RB:Nat->Option SPat:=fun k=>bif k==3 then U IP else bif k==2000000 then U qR else bif k==2000002 then U IP else aj
def ph:List Fld->Option zBy:=fun a=>
 bindE (Y:=zBy) (aE (fun(a,b,c)=>
 ai (aa (c<(a.length:Int)))
 (af (aa (0<=c)) (aq a c.toNat fun d=>ah (eK d.2.1) fun e=>
 af (aa (b.length+e.length<=9223372036854775807)) (ah (kY d.2.1) fun f=>
 bindE (Y:=List Fld×zBy×Int) (ai (aa (f=1))
 (ah (eK d.2.2) fun d=>
 af (aa (au (b++e)+d.length<=9223372036854775807)) (U (ao (a,b++e++d,c))))
 (ai (aa (f=2))
 (ah (eZ (Int.tmod (wrap .i64 (d.2.2+65536)) (65536:Int))) fun d=>
 af (aa (au (b++e)+d.length<=9223372036854775807)) (U (ao (a,b++e++d,c))))
 (U (ao (a,b++e,c))))) fun(a,b,c)=>
 U (ao (a,b,wrap .i64 (c+1))))))
 (U (an (ao b)))) ((a,[],(0:Int)))) fun a=>
 U (a)
def tb137:=az 137 (aB 137 ae [] wZ fW ph [.tmp 2] 41 []) tb58
def RC:zTb tb137:=aC RA aI RB func137 rfl call137
abbrev CD:SPat:=⟨[(0,.ptr 100000 0),(1,.sl .str)],iF⟩
abbrev tj:SPat:=⟨[],iF⟩
abbrev RD:SPat:=⟨[(0,.ptr 100000 0),(1,.sl .str),(4,.ptr 4 0)],[.box 4 (pl fx),.box 100000 (pl jz)]⟩
abbrev RE:SPat:=⟨[(0,.ptr 100000 0),(1,.sl .str),(4,.ptr 4 0),(5,.i .i64),(35,.b)],[.box 4 (pl fx),.box 100000 (pl jz)]⟩
abbrev RF:SPat:=⟨[(0,.ptr 100000 0),(1,.sl .str),(4,.ptr 4 0),(5,.i .i64),(49,.b)],[.box 4 (pl fx),.box 100000 (pl jz)]⟩
abbrev RG:SPat:=⟨[(0,.ptr 100000 0),(1,.sl .str),(4,.ptr 4 0),(5,.i .i64),(70,.b)],[.box 4 (pl fx),.box 100000 (pl jz)]⟩
abbrev RH:SPat:=⟨[(0,.ptr 100000 0),(1,.sl .str),(4,.ptr 4 0),(5,.i .i64),(93,.b)],[.box 4 (pl fx),.box 100000 (pl jz)]⟩
abbrev RI:SPat:=⟨[(0,.ptr 100000 0),(4,.ptr 4 0)],[.box 4 (pl fx),.box 100000 (pl jz)]⟩
def RJ:Nat->Option SPat:=fun k=>bif k==1000003 then U RD else bif k==1000006 then U RE else bif k==1000008 then U RF else bif k==1000010 then U RG else bif k==1000015 then U RH else bif k==2000000 then U RI else aj
def RK:Nat->List Nat×a_:=fun id=>bif id==0 then([1,2,3],(.br 0 [] [1,2,3] [] (.br 4 [3,2,1,0] [] [5] (.br 6 [] [1,2,3,5] [] (.br 7 dv [] [] .fin .fin) .fin) (.br 6 [] [1,2,3] [] (.br 4 [3,2,1,0] [] [5] (.br 7 dv [] [] .fin .fin) .fin) .fin)) (.br 6 [] [1,2,3] [] (.br 0 [] [1,2,3] [] (.br 4 [3,2,1,0] [] [5] (.br 7 dv [] [] .fin .fin) .fin) .fin) .fin)))else bif id==8 then(lM,(.br 11 fw [] [12] (.br 13 jA [] [] .fin .fin) .fin))else bif id==19 then([0,2,7],(.br 1 [0] [2,7] [] (.br 3 gp [7] gP (.br 8 [7] [0,2,4,5,6] [] (.br 9 [8,7,3,2,1,0] gP [10,11,12] (.br 13 jA [] [] .fin .fin) .fin) .fin) (.br 8 [7] [0,2] [] (.br 3 gp [7] gP (.br 9 [8,7,3,2,1,0] gP [10,11,12] (.br 13 jA [] [] .fin .fin) .fin) .fin) .fin)) (.br 8 [7] [0,2] [] (.br 1 [0] [2,7] [] (.br 3 gp [7] gP (.br 9 [8,7,3,2,1,0] gP [10,11,12] (.br 13 jA [] [] .fin .fin) .fin) .fin) .fin) .fin)))else([],.fin)
def w4:List zBy×List Cst×Int×Int×Int×List Int×List Fld×List Mth×Bool->Option (List Cst×Int×Int×Int×List Int×List Fld×List Mth×Bool):=fun(a,b,c,d,e,f,g,h,i)=>aq a 0 fun j=>let b:=fun(j:Int)=>bindE (Y:=List zBy×(Int×Int×Int)×List Cst×Int×Int×Int×List Int×List Fld×List Mth×Bool) (ai (aa ((h.length:Int)=0)) (U (an (b,c,d,e,f,g,h,ae))) (ai (aa (j<0)) (U (an (b,c,d,e,f,g,h,ae))) (U (ao (a,((0:Int),j,(0:Int)),b,c,d,e,f,g,h,i))))) fun(a,(b,c,d),e,f,g,h,i,j,k,l)=>ah (pf c) fun m=>bindE (Y:=(Int×Int×Int)×List Cst×Int×Int×Int×List Int×List Fld×List Mth×Bool) (bindE (Y:=List zBy×Int×Bool×(Int×Int×Int)×List Cst×Int×Int×Int×List Int×List Fld×List Mth×Bool) (ai (aa (m=2)) (U (ao (a,m,aa ((a.length:Int)=2),(b,c,d),e,f,g,h,i,j,k,l))) (U (ao (a,m,ag,(b,c,d),e,f,g,h,i,j,k,l)))) fun(a,b,c,(d,e,f),g,h,i,j,k,l,m,n)=>ai c (aq a 1 fun a=>ah (nO (a,g,h,i,j,k,l,m,n)) fun(a,b,c,f,g,h,i,j,k)=>U (ao ((d,e,a),b,c,f,g,h,i,j,k))) (bindE (Y:=List zBy×Int×Bool×(Int×Int×Int)×List Cst×Int×Int×Int×List Int×List Fld×List Mth×Bool) (ai (aa (2<b)) (U (ao (a,b,aa ((a.length:Int)=4),(d,e,f),g,h,i,j,k,l,m,n))) (U (ao (a,b,ag,(d,e,f),g,h,i,j,k,l,m,n)))) fun(a,b,c,(d,e,f),g,h,i,j,k,l,m,n)=>ai c (aq a 1 fun c=>aq a 2 fun f=>aq a 3 fun a=>ah (wX (b,c,f,a,g,h,i,j,k,l,m,n)) fun(a,b,c,f,g,h,i,j,k)=>U (ao ((d,e,a),b,c,f,g,h,i,j,k))) (bindE (Y:=List zBy×Int×Bool×(Int×Int×Int)×List Cst×Int×Int×Int×List Int×List Fld×List Mth×Bool) (ai (aa (e=1)) (U (ao (a,b,aa ((a.length:Int)=2),(d,e,f),g,h,i,j,k,l,m,n))) (U (ao (a,b,ag,(d,e,f),g,h,i,j,k,l,m,n)))) fun(a,b,c,(d,e,f),g,h,i,j,k,l,m,n)=>ai c (aq a 1 fun a=>ah (wY a) fun(a,b)=>ai (!b) (U (ao ((d,e,a),g,h,i,j,k,l,m,ae))) (U (ao ((d,e,a),g,h,i,j,k,l,m,n)))) (bindE (Y:=List zBy×Int×Bool×(Int×Int×Int)×List Cst×Int×Int×Int×List Int×List Fld×List Mth×Bool) (ai (aa (b=0)) (ah (kY e) fun c=>ai (aa (0<c)) (U (ao (a,b,aa ((a.length:Int)=2),(d,e,f),g,h,i,j,k,l,m,n))) (U (ao (a,b,ag,(d,e,f),g,h,i,j,k,l,m,n)))) (U (ao (a,b,ag,(d,e,f),g,h,i,j,k,l,m,n)))) fun(a,b,c,(d,e,f),g,h,i,j,k,l,m,n)=>ai c (aq a 1 fun a=>ah (ia (a,g,h,i,j,k,l,m,n)) fun(a,b,c,f,g,h,i,j,k)=>U (ao ((d,e,a),b,c,f,g,h,i,j,k))) (ai (aa (b=0)) (ah (kY e) fun b=>ai (aa (b=0)) (ai (aa ((a.length:Int)=1)) (U (ao ((d,e,f),g,h,i,j,k,l,m,n))) (U (an (g,h,i,j,k,l,m,ae)))) (U (an (g,h,i,j,k,l,m,ae)))) (U (an (g,h,i,j,k,l,m,ae)))))))) fun((a,b,c),d,e,f,g,h,i,j,k)=>ah (eY (c,(-32768:Int),65535)) fun l=>ai (!l) (U ((d,e,f,g,h,i,j,ae))) (let l:=fun(d:List Fld) (e:Bool) (f:List Mth) (g:Mth) (h:Nat) (i:List Cst) (j:Int) (k:Int) (l:Int) (m:List Int) (n:Nat)=>ah (ph [(a,b,c)]) fun a=>ak (ak (af (h==h&&ae) (U ())) (ak (af (h==h&&ae) (U ())) (ak (aq f h fun a=>af (aa (a.2.2.2.2.2.1=g.2.2.2.2.2.1)) (U ())) (U ())))) (af (aa (g.2.2.2.2.2.1.length+a.length<=9223372036854775807)) (aq f n fun b=>U ((i,j,k,l,m,d,List.set f n (b.1,b.2.1,b.2.2.1,b.2.2.2.1,b.2.2.2.2.1,g.2.2.2.2.2.1++a,b.2.2.2.2.2.2.1,b.2.2.2.2.2.2.2),e))));let m:=fun(d:List Int) (e:List Fld) (f:Bool) (g:Nat) (h:List Mth) (i:List Cst) (j:Int) (k:Int) (m:Int)=>ah (nR ((i,j,k,m,d,e,f),h)) fun(d,(e,f,h,i,j,k,m),n)=>ak (ak (af (aa (a=a)&&(aa (b=b)&&(aa (c=c)&&ae))) (U ())) (U ())) (aq n d fun a=>l k m n a d e f h i j g);ca (ah (nQ (d,e,f,g,h,i,j,k)) fun(d,e,f,g,h,i,j,k,n)=>ak (ak (af (aa (a=a)&&(aa (b=b)&&(aa (c=c)&&ae))) (U ())) (U ())) (ca (ah (nR ((f,g,h,i,j,k,n),e)) fun(e,(f,g,h,i,j,k,m),n)=>ak (ak (af (aa (a=a)&&(aa (b=b)&&(aa (c=c)&&ae))) (U ())) (U ())) (aq n e fun a=>ak (ak (af (e==e&&ae) (U ())) (ak (af (e==e&&ae) (U ())) (ak (aq n e fun b=>af (aa (b.2.2.2.2.2.1=a.2.2.2.2.2.1)) (U ())) (U ())))) (l k m n a e f g h i j d))) (m j k n d e f g h i))) (ah (nQ (d,e,f,g,h,i,j,k)) fun(d,e,f,g,h,i,j,k,l)=>ak (ak (af (aa (a=a)&&(aa (b=b)&&(aa (c=c)&&ae))) (U ())) (U ())) (m j k l d e f g h i)));let c:=fun(c:List zBy)=>ak (ak (af (aa (a=a)) (U ())) (ak (aq a 0 fun a=>af (aa (a=j)&&ae) (U ())) (ak (af (aa (j=j)) (U ())) (U ())))) (ah (qQ (c,j)) fun a=>b a);ca (ah (th ()) fun d=>ak (ak (af (aa (a=a)) (U ())) (ak (aq a 0 fun a=>af (aa (a=j)&&ae) (U ())) (ak (af (aa (j=j)) (U ())) (U ())))) (ca (ah (qQ (d,j)) fun c=>ak (ak (af (aa (a=a)) (U ())) (ak (aq a 0 fun a=>af (aa (a=j)&&ae) (U ())) (ak (af (aa (j=j)) (U ())) (ak (af (aa (c=c)&&ae) (U ())) (U ()))))) (b c)) (c d))) (ak (ak (af (aa (a=a)) (U ())) (ak (aq a 0 fun a=>af (aa (a=j)&&ae) (U ())) (ak (af (aa (j=j)) (U ())) (U ())))) (ah (th ()) fun a=>c a))
def tb207:=az 207 (aB 207 ag [(0,[])] CD tj w4 [] 147 [100000]) tb137
def RM:zTb tb207:=aC RC RK RJ func207 rfl call207
abbrev RN:SPat:=⟨[(0,.ptr 100000 0),(1,.agg (pl dM))],[.box 100000 (pl s9),.arr 100001 (.int .i64) ae]⟩
abbrev CE:SPat:=⟨[(4,.i .i64)],[.box 100000 (pl s9),.arr 100001 (.int .i64) ae]⟩
abbrev RP:SPat:=⟨[(0,.ptr 100000 0),(3,.ptr 3 0),(5,.i .i64)],[.box 3 (pl dM),.box 100000 (pl s9),.arr 100001 (.int .i64) ae]⟩
abbrev RQ:SPat:=⟨[(0,.ptr 100000 0),(3,.ptr 3 0)],[.box 3 (pl dM),.box 100000 (pl s9),.arr 100001 (.int .i64) ae]⟩
def RR:Nat->Option SPat:=fun k=>bif k==2 then U RP else bif k==2000000 then U RQ else aj
def RS:Nat->List Nat×a_:=fun id=>bif id==4 then(nI,.fin)else bif id==6 then(fK,(.br 7 [6] fT [] (.br 8 s5 [0] [9,10,11] (.br 12 ko [] [] .fin .fin) .fin) .fin))else([],.fin)
def tk :  Cst×(List Cst×Int×Int×Int×List Fld×List Mth×Bool)×List Int->Option (Int×(List Cst×Int×Int×Int×List Fld×List Mth×Bool)×List Int):=fun((a,b,c,d),(e,f,g,h,i,j,k),l)=>
 bindE (Y :=  Cst×(List Cst×Int×Int×Int×List Fld×List Mth×Bool)×List Int) (aE (fun(a,(b,c,d,e),(f,g,h,i,j,k,l),m)=>
 ai (aa (a<(f.length:Int)))
 (af (aa (0<=a)&&aa (a<(f.length:Int))) (aq f a.toNat fun n=>ai (aa (n.1=b)&&(aa (n.2.1=c)&&(aa (n.2.2.1=d)&&(aa (n.2.2.2=e)&&ae))))
 (U (an (an (wrap .i64 (a+1),(f,g,h,i,j,k,l),m))))
 (U (ao (wrap .i64 (a+1),(b,c,d,e),(f,g,h,i,j,k,l),m)))))
 (U (an (ao ((b,c,d,e),(f,g,h,i,j,k,l),m))))) (((0:Int),(a,b,c,d),(e,f,g,h,i,j,k),l))) fun((a,b,c,d),(e,f,g,h,i,j,k),l)=>
 af (aa (e.length+1<=9223372036854775807)&&aa ((e.length+1)*40<=140737488355328)) (U (((↑(au (e++[(a,b,c,d)])):Int),(e++[(a,b,c,d)],f,g,h,i,j,k),l)))
def zPn:=az 5000222 (aB 222 ag [(0,[]),(0,[4])] RN CE tk [.tmp 4] 46 [100000,100001]) tb207
def RT:zTb zPn:=aC RM RS RR func222 rfl call222
abbrev IQ:SPat:=⟨[(0,.ptr 100000 0),(1,.s)],[.box 100000 (pl s9),.arr 100001 (.int .i64) ae]⟩
def w5:zBy×(List Cst×Int×Int×Int×List Fld×List Mth×Bool)×List Int->Option (Int×(List Cst×Int×Int×Int×List Fld×List Mth×Bool)×List Int):=fun(a,(b,c,d,e,f,g,h),i)=>
 ai (aa (60<(a.length:Int)))
 (U (((0:Int),(b,c,d,e,f,g,ae),i)))
 (ah (tk (((1:Int),a,(0:Int),(0:Int)),(b,c,d,e,f,g,h),i)) fun(a,(b,c,d,e,f,g,h),i)=>
 U ((a,(b,c,d,e,f,g,h),i)))
def zPo:=az 5000210 (aB 210 ag [(0,[]),(0,[4])] IQ CE w5 [.tmp 4] 15 [100000,100001]) zPn
def RU:zTb zPo:=aC RT aI aR func210 rfl call210
def w6:zBy×(List Cst×Int×Int×Int×List Fld×List Mth×Bool)×List Int->Option (Int×(List Cst×Int×Int×Int×List Fld×List Mth×Bool)×List Int):=fun(a,(b,c,d,e,f,g,h),i)=>
 ah (w5 (a,(b,c,d,e,f,g,h),i)) fun(a,(b,c,d,e,f,g,h),i)=>
 ah (tk (((2:Int),[],a,(0:Int)),(b,c,d,e,f,g,h),i)) fun(a,(b,c,d,e,f,g,h),i)=>
 U ((a,(b,c,d,e,f,g,h),i))
def zPp:=az 5000208 (aB 208 ag [(0,[]),(0,[4])] IQ CE w6 [.tmp 4] 11 [100000,100001]) zPo
def RV:zTb zPp:=aC RU aI aR func208 rfl call208
abbrev RW:SPat:=⟨[(0,.ptr 100000 0),(1,.agg (pl dM))],[.box 100000 (pl s_),.arr 100001 bA ae]⟩
abbrev CF:SPat:=⟨[(4,.i .i64)],[.box 100000 (pl s_),.arr 100001 bA ae]⟩
abbrev RX:SPat:=⟨[(0,.ptr 100000 0),(3,.ptr 3 0),(5,.i .i64)],[.box 3 (pl dM),.box 100000 (pl s_),.arr 100001 bA ae]⟩
abbrev RY:SPat:=⟨[(0,.ptr 100000 0),(3,.ptr 3 0)],[.box 3 (pl dM),.box 100000 (pl s_),.arr 100001 bA ae]⟩
def RZ:Nat->Option SPat:=fun k=>bif k==2 then U RX else bif k==2000000 then U RY else aj
def R0:Nat->List Nat×a_:=fun id=>bif id==4 then(nI,.fin)else bif id==6 then(fK,(.br 7 [6] fT [] (.br 8 s5 [0] [9,10,11] (.br 12 ko [] [] .fin .fin) .fin) .fin))else([],.fin)
def w8 :  Cst×(List Cst×Int×Int×Int×List Int×List Mth×Bool)×List Fld->Option (Int×(List Cst×Int×Int×Int×List Int×List Mth×Bool)×List Fld):=fun((a,b,c,d),(e,f,g,h,i,j,k),l)=>
 bindE (Y :=  Cst×(List Cst×Int×Int×Int×List Int×List Mth×Bool)×List Fld) (aE (fun(a,(b,c,d,e),(f,g,h,i,j,k,l),m)=>
 ai (aa (a<(f.length:Int)))
 (af (aa (0<=a)&&aa (a<(f.length:Int))) (aq f a.toNat fun n=>ai (aa (n.1=b)&&(aa (n.2.1=c)&&(aa (n.2.2.1=d)&&(aa (n.2.2.2=e)&&ae))))
 (U (an (an (wrap .i64 (a+1),(f,g,h,i,j,k,l),m))))
 (U (ao (wrap .i64 (a+1),(b,c,d,e),(f,g,h,i,j,k,l),m)))))
 (U (an (ao ((b,c,d,e),(f,g,h,i,j,k,l),m))))) (((0:Int),(a,b,c,d),(e,f,g,h,i,j,k),l))) fun((a,b,c,d),(e,f,g,h,i,j,k),l)=>
 af (aa (e.length+1<=9223372036854775807)&&aa ((e.length+1)*40<=140737488355328)) (U (((↑(au (e++[(a,b,c,d)])):Int),(e++[(a,b,c,d)],f,g,h,i,j,k),l)))
def zPk:=az 6000222 (aB 222 ag [(0,[]),(0,[5])] RW CF w8 [.tmp 4] 46 [100000,100001]) zPp
def R1:zTb zPk:=aC RV R0 RZ func222 rfl call222
abbrev IR:SPat:=⟨[(0,.ptr 100000 0),(1,.s)],[.box 100000 (pl s_),.arr 100001 bA ae]⟩
def tl:zBy×(List Cst×Int×Int×Int×List Int×List Mth×Bool)×List Fld->Option (Int×(List Cst×Int×Int×Int×List Int×List Mth×Bool)×List Fld):=fun(a,(b,c,d,e,f,g,h),i)=>
 ai (aa (60<(a.length:Int)))
 (U (((0:Int),(b,c,d,e,f,g,ae),i)))
 (ah (w8 (((1:Int),a,(0:Int),(0:Int)),(b,c,d,e,f,g,h),i)) fun(a,(b,c,d,e,f,g,h),i)=>
 U ((a,(b,c,d,e,f,g,h),i)))
def zPl:=az 6000210 (aB 210 ag [(0,[]),(0,[5])] IR CF tl [.tmp 4] 15 [100000,100001]) zPk
def R2:zTb zPl:=aC R1 aI aR func210 rfl call210
def w9:zBy×(List Cst×Int×Int×Int×List Int×List Mth×Bool)×List Fld->Option (Int×(List Cst×Int×Int×Int×List Int×List Mth×Bool)×List Fld):=fun(a,(b,c,d,e,f,g,h),i)=>
 ah (nP a) fun a=>
 ai (aa (a<0))
 (U (((0:Int),(b,c,d,e,f,g,ae),i)))
 (U ((a,(b,c,d,e,f,g,h),i)))
def zPm:=az 6000209 (aB 209 ag [(0,[]),(0,[5])] IR CF w9 [.tmp 4] 14 [100000,100001]) zPl
def R3:zTb zPm:=aC R2 aI aR func209 rfl call209
abbrev R4:SPat:=⟨[(0,.i .i64),(1,.i .i64)],[]⟩
abbrev dp:SPat:=⟨[(4,.b)],[]⟩
def ib:Int×Int->Option Bool:=fun(a,b)=>
 af (!aa (b=0)) (U (aa (Int.tmod (wrap .i64 (Int.tdiv a b)) (2:Int)=1)))
def tb121:=az 121 (aB 121 ae [] R4 dp ib [.tmp 4] 10 []) zPm
def R5:zTb tb121:=aC R3 aI aR func121 rfl call121
abbrev R6:SPat:=⟨[(0,.ptr 100000 0),(1,.sl .str),(4,.ptr 4 0)],[.box 4 (pl fR),.box 100000 (pl jz)]⟩
abbrev R7:SPat:=⟨[(0,.ptr 100000 0),(4,.ptr 4 0)],[.box 4 (pl fR),.box 100000 (pl jz)]⟩
def R8:Nat->Option SPat:=fun k=>bif k==1000004 then U R6 else bif k==1000006 then U R7 else aj
def R9:Nat->List Nat×a_:=fun id=>bif id==0 then(nJ,(.br 4 [3,2,1,0] wJ [] (.br 9 gq qI [] (.br 14 jB [] [15] (.br 16 [] [0,1,2,3,5,6,7,8,10,11,12,13,15] [] (.br 17 jC [] [] .fin .fin) .fin) (.br 16 [] nJ [] (.br 14 jB [] [15] (.br 17 jC [] [] .fin .fin) .fin) .fin)) (.br 16 [] nJ [] (.br 9 gq qI [] (.br 14 jB [] [15] (.br 17 jC [] [] .fin .fin) .fin) .fin) .fin)) (.br 16 [] nJ [] (.br 4 [3,2,1,0] wJ [] (.br 9 gq qI [] (.br 14 jB [] [15] (.br 17 jC [] [] .fin .fin) .fin) .fin) .fin) .fin)))else bif id==6 then(fK,(.br 7 [6] fT [] (.br 8 s5 [0] [9,10,11] (.br 12 ko [] [] .fin .fin) .fin) .fin))else([],.fin)
def w_:List zBy×List Cst×Int×Int×Int×List Int×List Fld×List Mth×Bool->Option (List Cst×Int×Int×Int×List Int×List Fld×List Mth×Bool):=fun(a,b,c,d,e,f,g,h,i)=>aq a 1 fun j=>aq a 2 fun k=>aq a 3 fun l=>let m:=fun(b:List Mth) (c:Bool) (d:List Fld) (e:Int) (f:Int) (g:List Cst) (h:Int) (i:Int) (j:Int) (k:List Int) (l:Int)=>bindE (Y:=List zBy×Mth×List Cst×Int×Int×Int×List Int×List Fld×List Mth×Bool) (ai (aa ((a.length:Int)=6)) (aq a 4 fun m=>ah (ia (m,g,h,i,j,k,d,b,c)) fun(b,c,d,g,h,i,j,k,m)=>aq a 5 fun n=>ah (ia (n,c,d,g,h,i,j,k,m)) fun(c,d,g,h,i,j,k,m,n)=>U (ao (a,(f,e,l,b,c,[],[],[]),d,g,h,i,j,k,m,n))) (U (ao (a,(f,e,l,(0:Int),(0:Int),[],[],[]),g,h,i,j,k,d,b,c)))) fun(a,(b,c,d,e,f,g,h,i),j,k,l,m,n,o,p,q)=>bindE (Y :=  Mth×List Cst×Int×Int×Int×List Int×List Fld×List Mth×Bool) (ah (ib (b,8)) fun r=>ai (!aa (aa ((a.length:Int)=4)=r)) (U (ao ((b,c,d,e,f,g,h,i),j,k,l,m,n,o,p,ae))) (U (ao ((b,c,d,e,f,g,h,i),j,k,l,m,n,o,p,q)))) fun((a,b,c,d,e,f,g,h),i,j,k,l,m,n,o,p)=>af (aa (o.length+1<=9223372036854775807)&&aa ((o.length+1)*104<=140737488355328)) (U ((i,j,k,l,m,n,o++[(a,b,c,d,e,f,g,h)],p)));let n:=ak (af (aa (a=a)) (U ())) (ak (aq a 2 fun a=>af (aa (a=k)&&ae) (U ())) (ak (af (aa (k=k)) (U ())) (ak (af (aa (a=a)) (U ())) (ak (aq a 3 fun a=>af (aa (a=l)&&ae) (U ())) (ak (af (aa (l=l)) (U ())) (U ()))))));let o:=fun(b:List Fld) (c:List Mth) (d:Bool) (e:Int) (f:List Cst) (g:Int) (h:Int) (i:Int) (j:List Int)=>ah (lQ (k,f,g,h,i,j,b,c,d)) fun(b,c,d,f,g,h,i,j,k)=>ak (ak (af (aa (a=a)) (U ())) (ak (aq a 3 fun a=>af (aa (a=l)&&ae) (U ())) (ak (af (aa (l=l)) (U ())) (U ())))) (ah (ia (l,c,d,f,g,h,i,j,k)) fun(a,c,d,f,g,h,i,j,k)=>m j k i e a c d f g h b);ca (ah (lQ (j,b,c,d,e,f,g,h,i)) fun(b,c,d,e,f,g,h,i,p)=>ak n (ca (ah (lQ (k,c,d,e,f,g,h,i,p)) fun(c,d,e,f,g,h,i,n,o)=>ak (ak (af (aa (a=a)) (U ())) (ak (aq a 3 fun a=>af (aa (a=l)&&ae) (U ())) (ak (af (aa (l=l)) (U ())) (U ())))) (ca (ah (ia (l,d,e,f,g,h,i,n,o)) fun(d,e,f,g,h,i,n,o,p)=>ak (ak (af (aa (a=a)) (U ())) (ak (aq a 1 fun a=>af (aa (a=j)&&ae) (U ())) (ak (af (aa (j=j)) (U ())) (ak (af (aa (a=a)) (U ())) (ak (aq a 2 fun a=>af (aa (a=k)&&ae) (U ())) (ak (af (aa (k=k)) (U ())) (ak (af (aa (a=a)) (U ())) (ak (aq a 3 fun a=>af (aa (a=l)&&ae) (U ())) (ak (af (aa (l=l)) (U ())) (ak (af (aa (d=d)&&(aa (b=b)&&(aa (c=c)&&ae))) (U ())) (U ()))))))))))) (m o p n b d e f g h i c)) (ak (ak (af (aa (a=a)) (U ())) (ak (aq a 1 fun a=>af (aa (a=j)&&ae) (U ())) (ak (af (aa (j=j)) (U ())) (ak (af (aa (a=a)) (U ())) (ak (aq a 2 fun a=>af (aa (a=k)&&ae) (U ())) (ak (af (aa (k=k)) (U ())) (ak (af (aa (a=a)) (U ())) (ak (aq a 3 fun a=>af (aa (a=l)&&ae) (U ())) (ak (af (aa (l=l)) (U ())) (U ())))))))))) (ah (ia (l,d,e,f,g,h,i,n,o)) fun(a,d,e,f,g,h,i,j,k)=>m j k i b a d e f g h c)))) (ak (ak (af (aa (a=a)) (U ())) (ak (aq a 1 fun a=>af (aa (a=j)&&ae) (U ())) (ak (af (aa (j=j)) (U ())) n))) (o h i p b c d e f g)))) (ak (ak (af (aa (a=a)) (U ())) (ak (aq a 1 fun a=>af (aa (a=j)&&ae) (U ())) (ak (af (aa (j=j)) (U ())) (ak (af (aa (a=a)) (U ())) (ak (aq a 2 fun a=>af (aa (a=k)&&ae) (U ())) (ak (af (aa (k=k)) (U ())) (ak (af (aa (a=a)) (U ())) (ak (aq a 3 fun a=>af (aa (a=l)&&ae) (U ())) (ak (af (aa (l=l)) (U ())) (U ())))))))))) (ah (lQ (j,b,c,d,e,f,g,h,i)) fun(a,b,c,d,e,f,g,h,i)=>ak n (o g h i a b c d e f)))
def tb211:=az 211 (aB 211 ag [(0,[])] CD tj w_ [] 58 [100000]) tb121
def R_:zTb tb211:=aC R5 R9 R8 func211 rfl call211
abbrev Sa:SPat:=⟨[(0,.ptr 100000 0),(4,.ptr 4 0)],[.box 4 (pl Cu),.box 100000 (pl jz)]⟩
def Sb:Nat->Option SPat:=fun k=>bif k==1000003 then U Sa else aj
def Sc:Nat->List Nat×a_:=fun id=>bif id==0 then(nJ,(.br 4 [3,2,1,0] wJ [] (.br 9 gq qI [] (.br 14 jB [] [15] (.br 16 [] [0,1,2,3,5,6,7,8,10,11,12,13,15] [] (.br 17 jC [] [] .fin .fin) .fin) (.br 16 [] nJ [] (.br 14 jB [] [15] (.br 17 jC [] [] .fin .fin) .fin) .fin)) (.br 16 [] nJ [] (.br 9 gq qI [] (.br 14 jB [] [15] (.br 17 jC [] [] .fin .fin) .fin) .fin) .fin)) (.br 16 [] nJ [] (.br 4 [3,2,1,0] wJ [] (.br 9 gq qI [] (.br 14 jB [] [15] (.br 17 jC [] [] .fin .fin) .fin) .fin) .fin) .fin)))else bif id==3 then([0,2,7],(.br 1 [0] [2,7] [] (.br 3 gp [7] gP (.br 8 [7] [0,2,4,5,6] [] (.br 9 gq [] [10,11] (.br 12 ko [] [] .fin .fin) .fin) .fin) (.br 8 [7] [0,2] [] (.br 3 gp [7] gP (.br 9 gq [] [10,11] (.br 12 ko [] [] .fin .fin) .fin) .fin) .fin)) (.br 8 [7] [0,2] [] (.br 1 [0] [2,7] [] (.br 3 gp [7] gP (.br 9 gq [] [10,11] (.br 12 ko [] [] .fin .fin) .fin) .fin) .fin) .fin)))else([],.fin)
def xc:List zBy×List Cst×Int×Int×Int×List Int×List Fld×List Mth×Bool->Option (List Cst×Int×Int×Int×List Int×List Fld×List Mth×Bool):=fun(a,b,c,d,e,f,g,h,i)=>aq a 1 fun j=>aq a 2 fun k=>aq a 3 fun l=>let m:=fun(b:List Mth) (c:Bool) (d:List Fld) (e:Int) (f:Int) (g:List Cst) (h:Int) (i:Int) (j:Int) (k:List Int) (l:Int)=>bindE (Y:=(Int×Int×Int×Int)×List Cst×Int×Int×Int×List Int×List Fld×List Mth×Bool) (aq a 4 fun m=>ai (!aa (m=[(45:UInt8)])) (aq a 4 fun a=>ah (nO (a,g,h,i,j,k,d,b,c)) fun(a,b,c,d,g,h,i,j,k)=>U (ao ((e,l,f,a),b,c,d,g,h,i,j,k))) (U (ao ((e,l,f,(0:Int)),g,h,i,j,k,d,b,c)))) fun((a,b,c,d),e,f,g,h,i,j,k,l)=>let m:=fun(e:List Fld) (f:Bool) (g:List Mth) (h:Mth) (i:Nat) (j:Nat) (k:List Cst) (l:Int) (m:Int) (n:Int) (o:List Int)=>af (aa (h.2.2.2.2.2.2.1.length+1<=9223372036854775807)&&aa ((h.2.2.2.2.2.2.1.length+1)*32<=140737488355328)) (af (aa (i=j)&&aa (j<g.length)) (af (aa (j<g.length)) (U ((k,l,m,n,o,e,List.set g j (h.1,h.2.1,h.2.2.1,h.2.2.2.1,h.2.2.2.2.1,h.2.2.2.2.2.1,h.2.2.2.2.2.2.1++[(a,b,c,d)],h.2.2.2.2.2.2.2),f)))));let n:=fun(e:List Int) (f:List Fld) (g:Bool) (h:Nat) (i:List Mth) (j:List Cst) (k:Int) (l:Int) (n:Int)=>ah (nR ((j,k,l,n,e,f,g),i)) fun(e,(f,g,i,j,k,l,n),o)=>ak (ak (af (aa (a=a)&&(aa (b=b)&&(aa (c=c)&&(aa (d=d)&&ae)))) (U ())) (U ())) (aq o e fun a=>af (aa (e=e)&&aa (e<o.length)) (af (aa (e=e)&&aa (e<o.length)) (af (aa (e=e)&&aa (e<o.length)) (m l n o a h e f g i j k))));ca (ah (nQ (e,f,g,h,i,j,k,l)) fun(e,f,g,h,i,j,k,l,o)=>ak (ak (af (aa (a=a)&&(aa (b=b)&&(aa (c=c)&&(aa (d=d)&&ae)))) (U ())) (U ())) (ca (ah (nR ((g,h,i,j,k,l,o),f)) fun(f,(g,h,i,j,k,l,n),o)=>ak (ak (af (aa (a=a)&&(aa (b=b)&&(aa (c=c)&&(aa (d=d)&&ae)))) (U ())) (U ())) (aq o f fun a=>af (aa (f=f)&&aa (f<o.length)) (af (aa (f=f)&&aa (f<o.length)) (af (aa (f=f)&&aa (f<o.length)) (ak (ak (af (f==f&&ae) (U ())) (ak (af (f==f&&ae) (U ())) (ak (af (aa (f=f)&&aa (f<o.length)) (af (aa (f=f)&&aa (f<o.length)) (af (aa (f=f)&&aa (f<o.length)) (U ())))) (U ())))) (m l n o a e f g h i j k)))))) (n k l o e f g h i j))) (ah (nQ (e,f,g,h,i,j,k,l)) fun(e,f,g,h,i,j,k,l,m)=>ak (ak (af (aa (a=a)&&(aa (b=b)&&(aa (c=c)&&(aa (d=d)&&ae)))) (U ())) (U ())) (n k l m e f g h i j));let n:=ak (af (aa (a=a)) (U ())) (ak (aq a 2 fun a=>af (aa (a=k)&&ae) (U ())) (ak (af (aa (k=k)) (U ())) (ak (af (aa (a=a)) (U ())) (ak (aq a 3 fun a=>af (aa (a=l)&&ae) (U ())) (ak (af (aa (l=l)) (U ())) (U ()))))));let o:=fun(b:List Fld) (c:List Mth) (d:Bool) (e:Int) (f:List Cst) (g:Int) (h:Int) (i:Int) (j:List Int)=>ah (ia (k,f,g,h,i,j,b,c,d)) fun(b,c,d,f,g,h,i,j,k)=>ak (ak (af (aa (a=a)) (U ())) (ak (aq a 3 fun a=>af (aa (a=l)&&ae) (U ())) (ak (af (aa (l=l)) (U ())) (U ())))) (ah (ia (l,c,d,f,g,h,i,j,k)) fun(a,c,d,f,g,h,i,j,k)=>m j k i e a c d f g h b);ca (ah (ia (j,b,c,d,e,f,g,h,i)) fun(b,c,d,e,f,g,h,i,p)=>ak n (ca (ah (ia (k,c,d,e,f,g,h,i,p)) fun(c,d,e,f,g,h,i,n,o)=>ak (ak (af (aa (a=a)) (U ())) (ak (aq a 3 fun a=>af (aa (a=l)&&ae) (U ())) (ak (af (aa (l=l)) (U ())) (U ())))) (ca (ah (ia (l,d,e,f,g,h,i,n,o)) fun(d,e,f,g,h,i,n,o,p)=>ak (ak (af (aa (a=a)) (U ())) (ak (aq a 1 fun a=>af (aa (a=j)&&ae) (U ())) (ak (af (aa (j=j)) (U ())) (ak (af (aa (a=a)) (U ())) (ak (aq a 2 fun a=>af (aa (a=k)&&ae) (U ())) (ak (af (aa (k=k)) (U ())) (ak (af (aa (a=a)) (U ())) (ak (aq a 3 fun a=>af (aa (a=l)&&ae) (U ())) (ak (af (aa (l=l)) (U ())) (ak (af (aa (b=b)&&(aa (c=c)&&(aa (d=d)&&ae))) (U ())) (U ()))))))))))) (m o p n b d e f g h i c)) (ak (ak (af (aa (a=a)) (U ())) (ak (aq a 1 fun a=>af (aa (a=j)&&ae) (U ())) (ak (af (aa (j=j)) (U ())) (ak (af (aa (a=a)) (U ())) (ak (aq a 2 fun a=>af (aa (a=k)&&ae) (U ())) (ak (af (aa (k=k)) (U ())) (ak (af (aa (a=a)) (U ())) (ak (aq a 3 fun a=>af (aa (a=l)&&ae) (U ())) (ak (af (aa (l=l)) (U ())) (U ())))))))))) (ah (ia (l,d,e,f,g,h,i,n,o)) fun(a,d,e,f,g,h,i,j,k)=>m j k i b a d e f g h c)))) (ak (ak (af (aa (a=a)) (U ())) (ak (aq a 1 fun a=>af (aa (a=j)&&ae) (U ())) (ak (af (aa (j=j)) (U ())) n))) (o h i p b c d e f g)))) (ak (ak (af (aa (a=a)) (U ())) (ak (aq a 1 fun a=>af (aa (a=j)&&ae) (U ())) (ak (af (aa (j=j)) (U ())) (ak (af (aa (a=a)) (U ())) (ak (aq a 2 fun a=>af (aa (a=k)&&ae) (U ())) (ak (af (aa (k=k)) (U ())) (ak (af (aa (a=a)) (U ())) (ak (aq a 3 fun a=>af (aa (a=l)&&ae) (U ())) (ak (af (aa (l=l)) (U ())) (U ())))))))))) (ah (ia (j,b,c,d,e,f,g,h,i)) fun(a,b,c,d,e,f,g,h,i)=>ak n (o g h i a b c d e f)))
def tb212:=az 212 (aB 212 ag [(0,[])] CD tj xc [] 43 [100000]) tb211
def Sd:zTb tb212:=aC R_ Sc Sb func212 rfl call212
abbrev xd:SPat:=⟨[(0,.ptr 100000 0),(1,.s)],[.box 100000 (pl lP),.opn 100001 cE (.all ae) (pl nK),.arr 100002 cO ae]⟩
abbrev xe:SPat:=⟨[(4,.i .i64)],[.box 100000 (pl lP),.opn 100001 cE (.all ae) (pl nK),.arr 100002 cO ae]⟩
def xg:zBy×(List Cst×Int×Int×Int×List Int×List Fld×Bool)×(List Mth×Nat×Int×Int×Int×Int×Int×zBy×List Trp)×List Frm->Option (Int×(List Cst×Int×Int×Int×List Int×List Fld×Bool)×(List Mth×Nat×Int×Int×Int×Int×Int×zBy×List Trp)×List Frm):=fun(a,(b,c,d,e,f,g,h),(i,j,k,l,m,n,o,p,q),r)=>
 ah (nP a) fun a=>
 ai (aa (a<0))
 (af (aa (j=j)&&aa (j<i.length)) (U (((0:Int),(b,c,d,e,f,g,ae),(i,j,k,l,m,n,o,p,q),r))))
 (af (aa (j=j)&&aa (j<i.length)) (U ((a,(b,c,d,e,f,g,h),(i,j,k,l,m,n,o,p,q),r))))
def zJd:=az 807000209 (aB 209 ag [(0,[]),(0,[6]),(0,[6,7])] xd xe xg [.tmp 4] 14 [100000,100001,100002]) tb212
def Se:zTb zJd:=aC Sd aI aR func209 rfl call209
abbrev Sf:SPat:=⟨[(0,.i .u8)],[]⟩
abbrev e7:SPat:=⟨[(2,.b)],[]⟩
def xh:Int->Option Bool:=fun a=>
 ai (aa (97<=a))
 (ai (aa (a<=122))
 (U ae)
 (ai (aa (65<=a))
 (U (aa (a<=90)))
 (U ag)))
 (ai (aa (65<=a))
 (U (aa (a<=90)))
 (U ag))
def tb164:=az 164 (aB 164 ae [] Sf e7 xh [.tmp 2] 17 []) zJd
def Sg:zTb tb164:=aC Se aI aR func164 rfl call164
def Sh:Nat->Option SPat:=fun k=>bif k==2 then U CC else bif k==2000000 then U fy else bif k==2000001 then U CC else aj
def kZ:zBy->Option Bool:=fun a=>
 bindE (Y:=zBy) (aE (fun(a,b)=>
 ai (aa (b<(a.length:Int)))
 (bindE (Y:=zBy×Int) (af (aa (0<=b)) (aq a b.toNat fun c=>ah (xh (c.toNat:Int)) fun c=>
 ai (!c)
 (ai (aa (b=0))
 (U (an (an (an ag))))
 (af (aa (0<=b)) (aq a b.toNat fun c=>ai (aa ((c.toNat:Int)<48))
 (U (an (an (an ag))))
 (af (aa (0<=b)) (aq a b.toNat fun c=>ai (aa (57<(c.toNat:Int)))
 (U (an (an (an ag))))
 (U (ao (a,b))))))))
 (U (ao (a,b))))) fun(a,b)=>
 U (ao (a,wrap .i64 (b+1))))
 (U (an (ao a)))) ((a,(0:Int)))) fun a=>
 ah (eY ((a.length:Int),1,8)) fun a=>
 U (a)
def tb112:=az 112 (aB 112 ae [] fy e7 kZ [.tmp 2] 34 []) tb164
def Si:zTb tb112:=aC Sg aI Sh func112 rfl call112
abbrev xi:SPat:=⟨[(0,.s),(1,.i .i64)],[]⟩
abbrev Sj:SPat:=⟨[(0,.s),(1,.i .i64),(5,.i .i64)],[]⟩
def Sk:Nat->Option SPat:=fun k=>bif k==6 then U Sj else bif k==1000003 then U xi else bif k==1000005 then U xi else bif k==2000000 then U dH else aj
def qS:zBy×Int->Option Int:=fun(a,b)=>
 bindE (Y:=zBy×Int) (ai (aa (b<(a.length:Int)))
 (af (aa (0<=b)) (aq a b.toNat fun c=>ai (aa ((c.toNat:Int)=73))
 (U (an (wrap .i64 (b+1))))
 (U (ao (a,b)))))
 (U (ao (a,b)))) fun(a,b)=>
 bindE (Y:=zBy×Int) (ai (aa ((a.length:Int)<=b))
 (U (an (-1:Int)))
 (af (aa (0<=b)) (aq a b.toNat fun c=>ai (!aa ((c.toNat:Int)=76))
 (U (an (-1:Int)))
 (U (ao (a,b)))))) fun(a,b)=>
 bindE (aE (fun(a,b,c)=>
 ai (aa (c<(a.length:Int)))
 (af (aa (0<=c)) (aq a c.toNat fun d=>ai (aa ((d.toNat:Int)=59))
 (af (aa (0<=wrap .i64 (b+1))&&aa (wrap .i64 (b+1)<=c)&&aa (c<=(a.length:Int))) (ah (kZ (cU (aw (wrap .i64 (b+1))) (de c.toNat a))) fun a=>
 ai (a)
 (U (an (an (wrap .i64 (c+1)))))
 (U (an (an (-1:Int))))))
 (U (ao (a,b,wrap .i64 (c+1))))))
 (U (an (ao ())))) ((a,b,wrap .i64 (b+1)))) fun _=>
 U ((-1:Int))
def tb170:=az 170 (aB 170 ae [] xi mC qS [.tmp 4] 48 []) tb112
def Sl:zTb tb170:=aC Si aI Sk func170 rfl call170
def mD:zBy->Option Bool:=fun a=>
 ai (aa (0<(a.length:Int)))
 (ah (qS (a,0)) fun b=>
 U (aa (b=(a.length:Int))))
 (U ag)
def tb123:=az 123 (aB 123 ae [] fy e7 mD [.tmp 2] 13 []) tb170
def Sn:zTb tb123:=aC Sl aI aR func123 rfl call123
abbrev So:SPat:=⟨[(0,.ptr 100000 0),(1,.agg (pl dM))],[.box 100000 (pl lP),.opn 100001 cE (.all ae) (pl nK),.arr 100002 cO ae]⟩
abbrev Sp:SPat:=⟨[(0,.ptr 100000 0),(3,.ptr 3 0),(5,.i .i64)],[.box 3 (pl dM),.box 100000 (pl lP),.opn 100001 cE (.all ae) (pl nK),.arr 100002 cO ae]⟩
abbrev Sq:SPat:=⟨[(0,.ptr 100000 0),(3,.ptr 3 0)],[.box 3 (pl dM),.box 100000 (pl lP),.opn 100001 cE (.all ae) (pl nK),.arr 100002 cO ae]⟩
def Sr:Nat->Option SPat:=fun k=>bif k==2 then U Sp else bif k==2000000 then U Sq else aj
def Ss:Nat->List Nat×a_:=fun id=>bif id==4 then(nI,.fin)else bif id==6 then(fK,(.br 7 [6] fT [] (.br 8 s5 [0] [9,10,11] (.br 12 ko [] [] .fin .fin) .fin) .fin))else([],.fin)
def tn :  Cst×(List Cst×Int×Int×Int×List Int×List Fld×Bool)×(List Mth×Nat×Int×Int×Int×Int×Int×zBy×List Trp)×List Frm->Option (Int×(List Cst×Int×Int×Int×List Int×List Fld×Bool)×(List Mth×Nat×Int×Int×Int×Int×Int×zBy×List Trp)×List Frm):=fun((a,b,c,d),(e,f,g,h,i,j,k),(l,m,n,o,p,q,r,s,t),u)=>
 bindE (Y :=  Cst×(List Cst×Int×Int×Int×List Int×List Fld×Bool)×(List Mth×Nat×Int×Int×Int×Int×Int×zBy×List Trp)×List Frm) (af (aa (m=m)&&aa (m<l.length)) (aE (fun(a,(b,c,d,e),(f,g,h,i,j,k,l),(m,n,o,p,q,r,s,t,u),v)=>
 ai (aa (a<(f.length:Int)))
 (af (aa (0<=a)&&aa (a<(f.length:Int))) (aq f a.toNat fun w=>ai (aa (w.1=b)&&(aa (w.2.1=c)&&(aa (w.2.2.1=d)&&(aa (w.2.2.2=e)&&ae))))
 (iD (iD (af (aa (n=n)&&aa (n<m.length)) (U ((wrap .i64 (a+1),(f,g,h,i,j,k,l),(m,n,o,p,q,r,s,t,u),v))))))
 (af (aa (n=n)&&aa (n<m.length)) (U (ao (wrap .i64 (a+1),(b,c,d,e),(f,g,h,i,j,k,l),(m,n,o,p,q,r,s,t,u),v))))))
 (iD (af (aa (n=n)&&aa (n<m.length)) (U (ao ((b,c,d,e),(f,g,h,i,j,k,l),(m,n,o,p,q,r,s,t,u),v)))))) (((0:Int),(a,b,c,d),(e,f,g,h,i,j,k),(l,m,n,o,p,q,r,s,t),u)))) fun((a,b,c,d),(e,f,g,h,i,j,k),(l,m,n,o,p,q,r,s,t),u)=>
 af (aa (e.length+1<=9223372036854775807)&&aa ((e.length+1)*40<=140737488355328)) (af (aa (m=m)&&aa (m<l.length)) (U (((↑(au (e++[(a,b,c,d)])):Int),(e++[(a,b,c,d)],f,g,h,i,j,k),(l,m,n,o,p,q,r,s,t),u))))
def zJa:=az 807000222 (aB 222 ag [(0,[]),(0,[6]),(0,[6,7])] So xe tn [.tmp 4] 46 [100000,100001,100002]) tb123
def Su:zTb zJa:=aC Sn Ss Sr func222 rfl call222
def xj:zBy×(List Cst×Int×Int×Int×List Int×List Fld×Bool)×(List Mth×Nat×Int×Int×Int×Int×Int×zBy×List Trp)×List Frm->Option (Int×(List Cst×Int×Int×Int×List Int×List Fld×Bool)×(List Mth×Nat×Int×Int×Int×Int×Int×zBy×List Trp)×List Frm):=fun(a,(b,c,d,e,f,g,h),(i,j,k,l,m,n,o,p,q),r)=>
 ai (aa (60<(a.length:Int)))
 (af (aa (j=j)&&aa (j<i.length)) (U (((0:Int),(b,c,d,e,f,g,ae),(i,j,k,l,m,n,o,p,q),r))))
 (ah (tn (((1:Int),a,(0:Int),(0:Int)),(b,c,d,e,f,g,h),(i,j,k,l,m,n,o,p,q),r)) fun(a,(b,c,d,e,f,g,h),(i,j,k,l,m,n,o,p,q),r)=>
 af (aa (j=j)&&aa (j<i.length)) (U ((a,(b,c,d,e,f,g,h),(i,j,k,l,m,n,o,p,q),r))))
def zJc:=az 807000210 (aB 210 ag [(0,[]),(0,[6]),(0,[6,7])] xd xe xj [.tmp 4] 15 [100000,100001,100002]) zJa
def Sv:zTb zJc:=aC Su aI aR func210 rfl call210
def xk:zBy×(List Cst×Int×Int×Int×List Int×List Fld×Bool)×(List Mth×Nat×Int×Int×Int×Int×Int×zBy×List Trp)×List Frm->Option (Int×(List Cst×Int×Int×Int×List Int×List Fld×Bool)×(List Mth×Nat×Int×Int×Int×Int×Int×zBy×List Trp)×List Frm):=fun(a,(b,c,d,e,f,g,h),(i,j,k,l,m,n,o,p,q),r)=>
 ah (xj (a,(b,c,d,e,f,g,h),(i,j,k,l,m,n,o,p,q),r)) fun(a,(b,c,d,e,f,g,h),(i,j,k,l,m,n,o,p,q),r)=>
 ah (tn (((2:Int),[],a,(0:Int)),(b,c,d,e,f,g,h),(i,j,k,l,m,n,o,p,q),r)) fun(a,(b,c,d,e,f,g,h),(i,j,k,l,m,n,o,p,q),r)=>
 af (aa (j=j)&&aa (j<i.length)) (U ((a,(b,c,d,e,f,g,h),(i,j,k,l,m,n,o,p,q),r)))
def zJe:=az 807000208 (aB 208 ag [(0,[]),(0,[6]),(0,[6,7])] xd xe xk [.tmp 4] 11 [100000,100001,100002]) zJc
def Sw:zTb zJe:=aC Sv aI aR func208 rfl call208
abbrev Sx:SPat:=⟨[(4,.own c9 ae)],[.box 100000 (pl lP),.opn 100001 cE (.all ae) (pl nK),.arr 100002 cO ae]⟩
abbrev IS:SPat:=⟨[(0,.ptr 100000 0),(5,.own c9 ae),(6,.own .str ae),(7,.i .i64)],[.box 100000 (pl lP),.opn 100001 cE (.all ae) (pl nK),.arr 100002 cO ae]⟩
abbrev Sy:SPat:=⟨[(5,.own c9 ae)],[.box 100000 (pl lP),.opn 100001 cE (.all ae) (pl nK),.arr 100002 cO ae]⟩
def Sz:Nat->Option SPat:=fun k=>bif k==6 then U IS else bif k==2000000 then U Sy else bif k==2000002 then U IS else aj
def SA:Nat->List Nat×a_:=fun id=>bif id==16 then(Cs,(.br 13 [12,11,10,9,8,7,6,5,4,3,2,1] [0] [14] (.br 15 [14,13,12,11,10,9,8,7,6,5,4,3,2,1] [0] [] (.br 16 s6 [] [] (.br 17 jC [] [] .fin .fin) .fin) .fin) .fin))else([],.fin)
def tp:zBy×(List Cst×Int×Int×Int×List Int×List Fld×Bool)×(List Mth×Nat×Int×Int×Int×Int×Int×zBy×List Trp)×List Frm->Option (List Knd×(List Cst×Int×Int×Int×List Int×List Fld×Bool)×(List Mth×Nat×Int×Int×Int×Int×Int×zBy×List Trp)×List Frm):=fun(a,(b,c,d,e,f,g,h),(i,j,k,l,m,n,o,p,q),r)=>
 ai (aa (a=[(46:UInt8)]))
 (af (aa (j=j)&&aa (j<i.length)) (U (([],(b,c,d,e,f,g,h),(i,j,k,l,m,n,o,p,q),r))))
 (ah (nN (a,44,8)) fun a=>
 bindE (Y:=List Knd×(List Cst×Int×Int×Int×List Int×List Fld×Bool)×(List Mth×Nat×Int×Int×Int×Int×Int×zBy×List Trp)×List Frm) (af (aa (j=j)&&aa (j<i.length)) (aE (fun(a,b,c,(d,e,f,g,h,i,j),(k,l,m,n,o,p,q,r,s),t)=>
 ai (aa (c<(b.length:Int)))
 (bindE (Y:=List Knd×List zBy×Int×(List Cst×Int×Int×Int×List Int×List Fld×Bool)×(List Mth×Nat×Int×Int×Int×Int×Int×zBy×List Trp)×List Frm) (af (aa (0<=c)&&aa (c<(b.length:Int))) (aq b c.toNat fun u=>ai (aa (u=[(73:UInt8)]))
 (af (aa (a.length+1<=9223372036854775807)&&aa ((a.length+1)*16<=140737488355328)) (af (aa (l=l)&&aa (l<k.length)) (U (ao (a++[((1:Int),(0:Int))],b,c,(d,e,f,g,h,i,j),(k,l,m,n,o,p,q,r,s),t)))))
 (af (aa (0<=c)&&aa (c<(b.length:Int))) (aq b c.toNat fun u=>ai (aa (u=[(78:UInt8)]))
 (af (aa (a.length+1<=9223372036854775807)&&aa ((a.length+1)*16<=140737488355328)) (af (aa (l=l)&&aa (l<k.length)) (U (ao (a++[((2:Int),(0:Int))],b,c,(d,e,f,g,h,i,j),(k,l,m,n,o,p,q,r,s),t)))))
 (af (aa (0<=c)&&aa (c<(b.length:Int))) (aq b c.toNat fun u=>ai (aa (u=[(45:UInt8)]))
 (af (aa (a.length+1<=9223372036854775807)&&aa ((a.length+1)*16<=140737488355328)) (af (aa (l=l)&&aa (l<k.length)) (U (ao (a++[((0:Int),(0:Int))],b,c,(d,e,f,g,h,i,j),(k,l,m,n,o,p,q,r,s),t)))))
 (af (aa (0<=c)&&aa (c<(b.length:Int))) (aq b c.toNat fun u=>ah (mD u) fun u=>
 ai (u)
 (af (aa (0<=c)&&aa (c<(b.length:Int))) (aq b c.toNat fun u=>af (aa (0<=c)&&aa (c<(b.length:Int))) (aq b c.toNat fun v=>af (aa (1<=wrap .i64 ((v.length:Int)-1))&&aa (wrap .i64 ((v.length:Int)-1)<=(u.length:Int))) (ah (xk (cU (1:Nat) (de (aw (wrap .i64 ((v.length:Int)-1))) u),(d,e,f,g,h,i,j),(k,l,m,n,o,p,q,r,s),t)) fun(d,(e,f,g,h,i,j,k),(l,m,n,o,p,q,r,s,t),u)=>
 af (aa (a.length+1<=9223372036854775807)&&aa ((a.length+1)*16<=140737488355328)) (af (aa (m=m)&&aa (m<l.length)) (U (ao (a++[((3:Int),d)],b,c,(e,f,g,h,i,j,k),(l,m,n,o,p,q,r,s,t),u))))))))
 (af (aa (l=l)&&aa (l<k.length)) (U (ao (a,b,c,(d,e,f,g,h,i,ae),(k,l,m,n,o,p,q,r,s),t)))))))))))) fun(a,b,c,(d,e,f,g,h,i,j),(k,l,m,n,o,p,q,r,s),t)=>
 af (aa (l=l)&&aa (l<k.length)) (U (ao (a,b,wrap .i64 (c+1),(d,e,f,g,h,i,j),(k,l,m,n,o,p,q,r,s),t))))
 (iD (af (aa (l=l)&&aa (l<k.length)) (U (ao (a,(d,e,f,g,h,i,j),(k,l,m,n,o,p,q,r,s),t)))))) (([],a,(0:Int),(b,c,d,e,f,g,h),(i,j,k,l,m,n,o,p,q),r)))) fun(a,(b,c,d,e,f,g,h),(i,j,k,l,m,n,o,p,q),r)=>
 af (aa (j=j)&&aa (j<i.length)) (U ((a,(b,c,d,e,f,g,h),(i,j,k,l,m,n,o,p,q),r))))
def zJb:=az 807000214 (aB 214 ag [(0,[]),(0,[6]),(0,[6,7])] xd Sx tp [.tmp 4] 77 [100000,100001,100002]) zJe
def SB:zTb zJb:=aC Sw SA Sz func214 rfl call214
abbrev SC:SPat:=⟨[(0,.ptr 100000 0),(1,.s),(13,.b)],iF⟩
abbrev SD:SPat:=⟨[(0,.ptr 100000 0),(4,.own .str ae),(5,.b)],iF⟩
abbrev SE:SPat:=⟨[(0,.ptr 100000 0),(4,.own .str ae),(5,.b),(31,.b)],iF⟩
abbrev SF:SPat:=⟨[(0,.ptr 100000 0),(4,.own .str ae),(5,.b),(76,.b)],iF⟩
abbrev SG:SPat:=⟨[(0,.ptr 100000 0),(4,.own .str ae),(5,.b),(102,.b)],iF⟩
abbrev SH:SPat:=⟨[(0,.ptr 100000 0),(4,.own .str ae),(5,.b),(139,.b)],iF⟩
abbrev SI:SPat:=⟨[(0,.ptr 100000 0),(4,.own .str ae),(5,.b),(157,.b)],iF⟩
abbrev SJ:SPat:=⟨[(0,.ptr 100000 0),(4,.own .str ae),(173,.b)],iF⟩
def SK:Nat->Option SPat:=fun k=>bif k==1000001 then U SC else bif k==1000005 then U SD else bif k==1000006 then U SE else bif k==1000010 then U SF else bif k==1000012 then U SG else bif k==1000014 then U SH else bif k==1000016 then U SI else bif k==1000018 then U SJ else bif k==2000000 then U tj else aj
def SL:Nat->List Nat×a_:=fun id=>bif id==10 then(nI,(.br 10 [9,8,7,6] fT [] (.br 11 [10,9,8,7,6] fT [] (.br 12 [11,10,9,8,7,6,5,4,3,2,1] [0] [13,14,15] (.br 16 s6 [] [] .fin .fin) .fin) .fin) .fin))else bif id==12 then([0,1,2,3,4,5,6,7,8,9,11,12,13,14,16,17,18,19],(.br 10 [9,8,7,6] [0,1,2,3,4,5,11,12,13,14,16,17,18,19] [] (.br 15 [14,13,12,11,10,9,8,7,6] [0,1,2,3,4,5,16,17,18,19] [] (.br 20 [19,18,17,16,15,14,13,12,11,10,9,8,7,6] fT [21] (.br 22 [21,20,19,18,17,16,15,14,13,12,11,10,9,8,7,6] fT [] (.br 23 [22,21,20,19,18,17,16,15,14,13,12,11,10,9,8,7,6,5,4,3,2,1] [0] [24,25,26] (.br 27 Iv [] [] .fin .fin) .fin) .fin) .fin) .fin) .fin))else bif id==18 then([0,2,7,8,9,10,12,13,14,15,17,18,19,20],(.br 1 [0] [2,7,8,9,10,12,13,14,15,17,18,19,20] [] (.br 3 gp [7,8,9,10,12,13,14,15,17,18,19,20] gP (.br 11 [10,9,8,7,3,2,1,0] [12,13,14,15,17,18,19,20,4,5,6] [] (.br 16 [15,14,13,12,11,10,9,8,7,3,2,1,0] [17,18,19,20,4,5,6] [] (.br 21 [20,19,18,17,16,15,14,13,12,11,10,9,8,7,3,2,1,0] gP [22] (.br 23 [22,21,20,19,18,17,16,15,14,13,12,11,10,9,8,7,3,2,1,0] gP [] (.br 24 Iw [] [25,26] (.br 27 Iv [] [] .fin .fin) .fin) .fin) .fin) .fin) .fin) .fin) .fin))else([],.fin)
def xl:zBy×List Cst×Int×Int×Int×List Int×List Fld×List Mth×Bool->Option (List Cst×Int×Int×Int×List Int×List Fld×List Mth×Bool):=fun(a,b,c,d,e,f,g,h,i)=>bindE (Y:=zBy×Bool×List Cst×Int×Int×Int×List Int×List Fld×List Mth×Bool) (ai (aa (2<(a.length:Int))) (af (aa (2<=(a.length:Int))) (U (ao (a,aa (cU (0:Nat) (de (2:Nat) a)=[(32:UInt8),32]),b,c,d,e,f,g,h,i)))) (U (ao (a,ag,b,c,d,e,f,g,h,i)))) fun(a,b,c,d,e,f,g,h,i,j)=>ai b (af (aa (2<=(a.length:Int))&&aa ((a.length:Int)<=(a.length:Int))) (ah (nN (cU (2:Nat) (de (aw (a.length:Int)) a),(32:Int),(4:Int))) fun a=>ah (w4 (a,c,d,e,f,g,h,i,j)) fun(a,b,c,d,e,f,g,h)=>U ((a,b,c,d,e,f,g,h)))) (ah (nN (a,32,6)) fun a=>bindE (Y:=List zBy×Bool×List Cst×Int×Int×Int×List Int×List Fld×List Mth×Bool) (U (ao (a,aa (0<(i.length:Int)),c,d,e,f,g,h,i,j))) fun(a,b,c,d,e,f,g,h,i,j)=>bindE (Y:=List Cst×Int×Int×Int×List Int×List Fld×List Mth×Bool) (bindE (Y:=List zBy×Bool×Bool×List Cst×Int×Int×Int×List Int×List Fld×List Mth×Bool) (af (aa (0<(a.length:Int))) (aq a (nat_lit 0) fun k=>ai (aa (k=[(99:UInt8),108,97,115,115])) (ai (aa ((a.length:Int)=4)) (U (ao (a,b,aa (e=0),c,d,e,f,g,h,i,j))) (U (ao (a,b,ag,c,d,e,f,g,h,i,j)))) (U (ao (a,b,ag,c,d,e,f,g,h,i,j))))) fun(a,b,c,d,e,f,g,h,i,j,k)=>ai c (af (aa (1<(a.length:Int))) (aq a (nat_lit 1) fun b=>ah (nO (b,d,e,f,g,h,i,j,k)) fun(b,c,d,_,e,f,g,h,i)=>af (aa (2<(a.length:Int))) (aq a (nat_lit 2) fun j=>ah (nO (j,c,d,b,e,f,g,h,i)) fun(b,c,d,e,_,f,g,h,i)=>af (aa (3<(a.length:Int))) (aq a (nat_lit 3) fun a=>ah (ia (a,c,d,e,b,f,g,h,i)) fun(a,b,_,c,d,e,f,g,h)=>U (ao (b,a,c,d,e,f,g,h)))))) (bindE (Y:=List zBy×Bool×Bool×List Cst×Int×Int×Int×List Int×List Fld×List Mth×Bool) (af (aa (0<(a.length:Int))) (aq a (nat_lit 0) fun c=>ai (aa (c=[(102:UInt8),97,99,101])) (U (ao (a,b,aa ((a.length:Int)=2),d,e,f,g,h,i,j,k))) (U (ao (a,b,ag,d,e,f,g,h,i,j,k))))) fun(a,b,c,d,e,f,g,h,i,j,k)=>ai c (af (aa (1<(a.length:Int))) (aq a (nat_lit 1) fun a=>ah (w6 (a,(d,e,f,g,i,j,k),h)) fun(a,(b,c,d,e,f,g,h),i)=>af (aa (i.length+1<=9223372036854775807)&&aa ((i.length+1)*8<=140737488355328)) (U (ao (b,c,d,e,i++[a],f,g,h))))) (bindE (Y:=List zBy×Bool×Bool×List Cst×Int×Int×Int×List Int×List Fld×List Mth×Bool) (af (aa (0<(a.length:Int))) (aq a (nat_lit 0) fun c=>ai (aa (c=[(102:UInt8),105,101,108,100])) (U (ao (a,b,aa ((a.length:Int)=4),d,e,f,g,h,i,j,k))) (U (ao (a,b,ag,d,e,f,g,h,i,j,k))))) fun(a,b,c,d,e,f,g,h,i,j,k)=>ai c (af (aa (1<(a.length:Int))) (aq a (nat_lit 1) fun b=>af (aa (2<(a.length:Int))) (aq a (nat_lit 2) fun c=>af (aa (3<(a.length:Int))) (aq a (nat_lit 3) fun l=>ah (tl (b,(d,e,f,g,h,j,k),i)) fun(b,(d,e,f,g,h,i,j),k)=>ak (ak (af (aa (2<(a.length:Int))) (U ())) (ak (aq a (nat_lit 2) fun a=>af (aa (a=c)) (U ())) (ak (af (aa (3<(a.length:Int))) (U ())) (ak (aq a (nat_lit 3) fun a=>af (aa (a=l)) (U ())) (U ()))))) (ah (tl (c,(d,e,f,g,h,i,j),k)) fun(c,(d,e,f,g,h,i,j),k)=>ak (ak (af (aa (3<(a.length:Int))) (U ())) (ak (aq a (nat_lit 3) fun a=>af (aa (a=l)) (U ())) (U ()))) (ah (w9 (l,(d,e,f,g,h,i,j),k)) fun(a,(d,e,f,g,h,i,j),k)=>af (aa (k.length+1<=9223372036854775807)&&aa ((k.length+1)*24<=140737488355328)) (U (ao (d,e,f,g,h,k++[(a,b,c)],i,j))))))))) (bindE (Y:=List zBy×Bool×Bool×List Cst×Int×Int×Int×List Int×List Fld×List Mth×Bool) (af (aa (0<(a.length:Int))) (aq a (nat_lit 0) fun c=>ai (aa (c=[(109:UInt8),101,116,104,111,100])) (ai (aa ((a.length:Int)=4)) (U (ao (a,b,ae,d,e,f,g,h,i,j,k))) (U (ao (a,b,aa ((a.length:Int)=6),d,e,f,g,h,i,j,k)))) (U (ao (a,b,ag,d,e,f,g,h,i,j,k))))) fun(a,b,c,d,e,f,g,h,i,j,k)=>ai c (ah (w_ (a,d,e,f,g,h,i,j,k)) fun(a,b,c,d,e,f,g,h)=>U (ao (a,b,c,d,e,f,g,h))) (bindE (Y:=List zBy×Bool×Bool×List Cst×Int×Int×Int×List Int×List Fld×List Mth×Bool) (af (aa (0<(a.length:Int))) (aq a (nat_lit 0) fun c=>ai (aa (c=[(116:UInt8),114,97,112])) (ai (aa ((a.length:Int)=5)) (U (ao (a,b,b,d,e,f,g,h,i,j,k))) (U (ao (a,b,ag,d,e,f,g,h,i,j,k)))) (U (ao (a,b,ag,d,e,f,g,h,i,j,k))))) fun(a,b,c,d,e,f,g,h,i,j,k)=>ai c (ah (xc (a,d,e,f,g,h,i,j,k)) fun(a,b,c,d,e,f,g,h)=>U (ao (a,b,c,d,e,f,g,h))) (bindE (Y:=List zBy×Bool×List Cst×Int×Int×Int×List Int×List Fld×List Mth×Bool) (af (aa (0<(a.length:Int))) (aq a (nat_lit 0) fun c=>ai (aa (c=[(102:UInt8),114,97,109,101])) (ai (aa ((a.length:Int)=4)) (U (ao (a,b,d,e,f,g,h,i,j,k))) (U (ao (a,ag,d,e,f,g,h,i,j,k)))) (U (ao (a,ag,d,e,f,g,h,i,j,k))))) fun(a,b,c,d,e,f,g,h,i,j)=>ai b (af (aa (1<(a.length:Int))) (aq a (nat_lit 1) fun b=>af (aa (2<(a.length:Int))) (aq a (nat_lit 2) fun k=>af (aa (3<(a.length:Int))) (aq a (nat_lit 3) fun l=>ah (nQ (c,d,e,f,g,h,i,j)) fun(c,d,e,f,g,h,i,j,m)=>ak (ak (af (aa (1<(a.length:Int))) (U ())) (ak (aq a (nat_lit 1) fun a=>af (aa (a=b)) (U ())) (ak (af (aa (2<(a.length:Int))) (U ())) (ak (aq a (nat_lit 2) fun a=>af (aa (a=k)) (U ())) (ak (af (aa (3<(a.length:Int))) (U ())) (ak (aq a (nat_lit 3) fun a=>af (aa (a=l)) (U ())) (U ()))))))) (ah (nR ((e,f,g,h,i,j,m),d)) fun(d,(e,f,g,h,i,j,m),n)=>ak (ak (af (aa (1<(a.length:Int))) (U ())) (ak (aq a (nat_lit 1) fun a=>af (aa (a=b)) (U ())) (ak (af (aa (2<(a.length:Int))) (U ())) (ak (aq a (nat_lit 2) fun a=>af (aa (a=k)) (U ())) (ak (af (aa (3<(a.length:Int))) (U ())) (ak (aq a (nat_lit 3) fun a=>af (aa (a=l)) (U ())) (U ()))))))) (aq n d fun o=>af (aa (d=d)&&aa (d<n.length)) (af (aa (d=d)&&aa (d<n.length)) (af (aa (d=d)&&aa (d<n.length)) (ah (xg (b,(e,f,g,h,i,j,m),(n,d,o.1,o.2.1,o.2.2.1,o.2.2.2.1,o.2.2.2.2.1,o.2.2.2.2.2.1,o.2.2.2.2.2.2.1),o.2.2.2.2.2.2.2)) fun(b,(e,f,g,h,i,j,m),(n,o,p,q,r,s,t,u,v),w)=>ak (ak (af (aa (2<(a.length:Int))) (U ())) (ak (aq a (nat_lit 2) fun a=>af (aa (a=k)) (U ())) (ak (af (aa (3<(a.length:Int))) (U ())) (ak (aq a (nat_lit 3) fun a=>af (aa (a=l)) (U ())) (ak (af (d==d&&ae) (U ())) (ak (af (d==d&&ae) (U ())) (ak (af (aa (d=o)&&aa (o<n.length)) (af (aa (d=o)&&aa (o<n.length)) (af (aa (d=o)&&aa (o<n.length)) (U ())))) (U ())))))))) (ah (tp (k,(e,f,g,h,i,j,m),(n,o,p,q,r,s,t,u,v),w)) fun(e,(f,g,h,i,j,k,m),(n,o,p,q,r,s,t,u,v),w)=>ak (ak (af (aa (3<(a.length:Int))) (U ())) (ak (aq a (nat_lit 3) fun a=>af (aa (a=l)) (U ())) (ak (af (d==d&&ae) (U ())) (ak (af (d==d&&ae) (U ())) (ak (af (aa (d=o)&&aa (o<n.length)) (af (aa (d=o)&&aa (o<n.length)) (af (aa (d=o)&&aa (o<n.length)) (U ())))) (U ())))))) (ah (tp (l,(f,g,h,i,j,k,m),(n,o,p,q,r,s,t,u,v),w)) fun(a,(f,g,h,i,j,k,l),(m,n,o,p,q,r,s,t,u),v)=>let d:=ak (af (d==d&&ae) (U ())) (ak (af (d==d&&ae) (U ())) (ak (af (aa (d=n)&&aa (n<m.length)) (af (aa (d=n)&&aa (n<m.length)) (af (aa (d=n)&&aa (n<m.length)) (U ())))) (U ())));ak d (ak d (af (aa (v.length+1<=9223372036854775807)&&aa ((v.length+1)*56<=140737488355328)) (af (aa (c=n)&&aa (n<m.length)) (af (aa (n<m.length)) (U (ao (f,g,h,i,j,k,List.set m n (o,p,q,r,s,t,u,v++[(b,e,a)]),l)))))))))))))))))) (U (ao (c,d,e,f,g,h,i,ae))))))))) fun(a,b,c,d,e,f,g,h)=>U ((a,b,c,d,e,f,g,h)))
def tb191:=az 191 (aB 191 ag [(0,[])] wW tj xl [] 213 [100000]) zJb
def SM:zTb tb191:=aC SB SL SK func191 rfl call191
abbrev gQ:SPat:=⟨[(0,.agg (pl ch))],[]⟩
def xm:Cls->Option Bool:=fun(a,_,_,_,b,c,d)=>
 ai (aa ((a.length:Int)<=60))
 (ai (aa ((b.length:Int)<=3))
 (ai (aa ((c.length:Int)<=5))
 (U (aa ((d.length:Int)<=6)))
 (U ag))
 (U ag))
 (U ag)
def tb177:=az 177 (aB 177 ae [] gQ e7 xm [.tmp 2] 25 []) tb191
def SN:zTb tb177:=aC SM aI aR func177 rfl call177
abbrev SO:SPat:=⟨[(0,.agg (pl dM))],[]⟩
def SP:Nat->List Nat×a_:=fun id=>bif id==3 then([0,1,3,4,5,8,9],(.br 2 [1,0] [3,4,5,8,9] [] (.br 6 [5,4,3,2,1,0] [8,9] [7,10] (.br 11 fw [] [] .fin .fin) .fin) .fin))else bif id==5 then([0,1,3,4],(.br 2 [1,0] [3,4] [] (.br 5 iE [] [6] (.br 7 dv [] [] .fin .fin) .fin) .fin))else bif id==6 then([0,1,3,4,7,8],(.br 2 [1,0] [3,4,7,8] [] (.br 5 iE [7,8] [6] (.br 9 [8,7,5,4,3,2,1,0] [6] [10] (.br 11 fw [] [] .fin .fin) .fin) .fin) .fin))else([],.fin)
def xo:Cst->Option zBy:=fun(a,b,c,d)=>
 ai (aa (a=1))
 (ah (eK a) fun a=>
 ak (ak (af (aa (b=b)) (U ())) (ak (af (aa ((b.length:Int)=(b.length:Int))) (U ())) (ak (af (aa (b=b)) (U ())) (U ())))) (ah (eK b.length) fun c=>
 ak (ak (af (aa (b=b)) (U ())) (U ())) (af (aa (a.length+c.length<=9223372036854775807)) (af (aa (au (a++c)+b.length<=9223372036854775807)) (U (a++c++b))))))
 (ai (aa (a=2))
 (ah (eK a) fun a=>
 ak (ak (af (aa (c=c)) (U ())) (U ())) (ah (eZ c) fun b=>
 af (aa (a.length+b.length<=9223372036854775807)) (U (a++b))))
 (ah (eK a) fun a=>
 ak (ak (af (aa (c=c)) (U ())) (ak (af (aa (d=d)) (U ())) (U ()))) (ah (eZ c) fun b=>
 ak (ak (af (aa (d=d)) (U ())) (U ())) (af (aa (a.length+b.length<=9223372036854775807)) (ah (eZ d) fun c=>
 ak (ak (af (aa (a.length+b.length<=9223372036854775807)) (af (aa (a++b=a++b)) (U ()))) (U ())) (af (aa (au (a++b)+c.length<=9223372036854775807)) (U (a++b++c))))))))
def tb57:=az 57 (aB 57 ae [] SO fW xo [.tmp 2] 38 []) tb177
def SQ:zTb tb57:=aC SN SP aR func57 rfl call57
abbrev CG:SPat:=⟨[(0,.sl c9)],[]⟩
abbrev IT:SPat:=⟨[(0,.sl c9),(3,.s),(4,.i .i64)],[]⟩
def SS:Nat->Option SPat:=fun k=>bif k==3 then U IT else bif k==2000000 then U qR else bif k==2000001 then U IT else aj
def tq:List Knd->Option zBy:=fun a=>
 ah (eK a.length) fun b=>
 bindE (Y:=zBy) (aE (fun(a,b,c)=>
 ai (aa (c<(a.length:Int)))
 (bindE (Y:=List Knd×zBy×Int) (af (aa (0<=c)) (aq a c.toNat fun d=>ah (eK d.1) fun d=>
 af (aa (b.length+d.length<=9223372036854775807)) (af (aa (0<=c)) (aq a c.toNat fun e=>ai (aa (e.1=3))
 (af (aa (0<=c)) (aq a c.toNat fun e=>ah (eZ e.2) fun e=>
 af (aa (au (b++d)+e.length<=9223372036854775807)) (U (ao (a,b++d++e,c)))))
 (U (ao (a,b++d,c))))))) fun(a,b,c)=>
 U (ao (a,b,wrap .i64 (c+1))))
 (U (an (ao b)))) ((a,b,(0:Int)))) fun a=>
 U (a)
def tb131:=az 131 (aB 131 ae [] CG fW tq [.tmp 2] 37 []) tb57
def SU:zTb tb131:=aC SQ aI SS func131 rfl call131
abbrev xp:SPat:=⟨[(0,.agg (pl cy))],[]⟩
abbrev SW:SPat:=⟨[(1,.ptr 1 0),(3,.s),(4,.i .i64)],[.box 1 (pl cy)]⟩
abbrev SX:SPat:=⟨[(1,.ptr 1 0),(3,.s),(6,.i .i64)],[.box 1 (pl cy)]⟩
abbrev SY:SPat:=⟨[(1,.ptr 1 0),(3,.s)],[.box 1 (pl cy)]⟩
def SZ:Nat->Option SPat:=fun k=>bif k==6 then U SW else bif k==12 then U SX else bif k==2000000 then U SY else bif k==2000002 then U qR else aj
def S0:Nat->List Nat×a_:=fun id=>bif id==1 then([0,1,3,4,7,8],(.br 2 [1,0] [3,4,7,8] [] (.br 5 iE [7,8] [6] (.br 9 [8,7,5,4,3,2,1,0] [6] [10] (.br 11 fw [] [] .fin .fin) .fin) .fin) .fin))else bif id==4 then([0,1,2,5,6,9,10,11,14,15,17,18,19],(.br 3 [2,1] [0,5,6,9,10,11,14,15,17,18,19] [4] (.br 7 [6,5,3,2,1] [0,9,10,11,14,15,17,18,19,4] [8] (.br 12 [11,10,9,7,6,5,3,2,1] [0,14,15,17,18,19,4,8] [13,16] (.br 20 [19,18,17,12,11,10,9,7,6,5,3,2,1] [0,14,15,4,8,13,16] [21] (.br 22 wK [] [] .fin .fin) .fin) .fin) .fin) .fin))else bif id==9 then([0,1,2,5,6,9,10,13,14],(.br 3 [2,1] [0,5,6,9,10,13,14] [4] (.br 7 [6,5,3,2,1] [0,9,10,13,14,4] [8] (.br 11 [10,9,7,6,5,3,2,1] [0,13,14,4,8] [12] (.br 15 [14,13,11,10,9,7,6,5,3,2,1] [0,4,8,12] [16] (.br 17 jC [] [] .fin .fin) .fin) .fin) .fin) .fin))else bif id==14 then(Ix,(.br 7 [6,5,4,3,2,1] [0,9,10,11,12,13,14,17,18,19,20,21,22] [8] (.br 15 [14,13,12,11,10,9,7,6,5,4,3,2,1] [0,17,18,19,20,21,22,8] [16] (.br 23 Iy [0,8,16] [24] (.br 25 Ct [] [] .fin .fin) .fin) .fin) .fin))else([],.fin)
def xq:Mth->Option zBy:=fun(a,b,c,d,e,f,g,h)=>ah (eK a) fun i=>ak (ak (af (aa (b=b)) (U ())) (ak (af (aa (c=c)) (U ())) (U ()))) (ah (eZ b) fun j=>ak (ak (af (aa (c=c)) (U ())) (U ())) (af (aa (i.length+j.length<=9223372036854775807)) (ah (eZ c) fun k=>ak (ak (af (aa (i.length+j.length<=9223372036854775807)) (af (aa (i++j=i++j)) (U ()))) (U ())) (af (aa (au (i++j)+k.length<=9223372036854775807)) (ai (aa (wrap .i64 (Int.tdiv (Int.tmod a (16:Int)) (8:Int))=1)) (U (i++j++k)) (ah (eK d) fun l=>ak (ak (af (aa (i++j++k=i++j++k)) (U ())) (ak (af (aa (e=e)) (U ())) (ak (af (aa (f=f)) (U ())) (ak (af (aa ((f.length:Int)=(f.length:Int))) (U ())) (ak (af (aa (f=f)) (U ())) (ak (af (aa (g=g)) (U ())) (ak (af (aa ((g.length:Int)=(g.length:Int))) (U ())) (U ())))))))) (af (aa (au (i++j++k)+l.length<=9223372036854775807)) (ah (eK e) fun m=>ak (ak (af (aa (i++j++k=i++j++k)) (U ())) (ak (af (aa (f=f)) (U ())) (ak (af (aa ((f.length:Int)=(f.length:Int))) (U ())) (ak (af (aa (f=f)) (U ())) (ak (af (aa (g=g)) (U ())) (ak (af (aa ((g.length:Int)=(g.length:Int))) (U ())) (ak (af (aa (au (i++j++k)+l.length<=9223372036854775807)) (af (aa (i++j++k++l=i++j++k++l)) (U ()))) (U ())))))))) (af (aa (au (i++j++k++l)+m.length<=9223372036854775807)) (ah (eZ f.length) fun n=>ak (ak (af (aa (i++j++k=i++j++k)) (U ())) (ak (af (aa (f=f)) (U ())) (ak (af (aa (g=g)) (U ())) (ak (af (aa ((g.length:Int)=(g.length:Int))) (U ())) (ak (af (aa (au (i++j++k)+l.length<=9223372036854775807)) (af (aa (i++j++k++l=i++j++k++l)) (U ()))) (ak (af (aa (au (i++j++k++l)+m.length<=9223372036854775807)) (af (aa (i++j++k++l++m=i++j++k++l++m)) (U ()))) (U ()))))))) (af (aa (au (i++j++k++l++m)+n.length<=9223372036854775807)) (af (aa (au (i++j++k++l++m++n)+f.length<=9223372036854775807)) (ah (eK g.length) fun o=>ak (ak (af (aa (i++j++k=i++j++k)) (U ())) (ak (af (aa (f=f)) (U ())) (ak (af (aa (au (i++j++k)+l.length<=9223372036854775807)) (af (aa (i++j++k++l=i++j++k++l)) (U ()))) (ak (af (aa (au (i++j++k++l)+m.length<=9223372036854775807)) (af (aa (i++j++k++l++m=i++j++k++l++m)) (U ()))) (ak (af (aa (au (i++j++k++l++m)+n.length<=9223372036854775807)) (af (aa (i++j++k++l++m++n=i++j++k++l++m++n)) (U ()))) (ak (af (aa (au (i++j++k++l++m++n)+f.length<=9223372036854775807)) (af (aa (i++j++k++l++m++n++f=i++j++k++l++m++n++f)) (U ()))) (U ()))))))) (af (aa (au (i++j++k++l++m++n++f)+o.length<=9223372036854775807)) (bindE (Y:=zBy×Mth) (aE (fun(a,b,c,d,e,f,g,h,i,j)=>ai (aa (b<(i.length:Int))) (af (aa (0<=b)) (aq i b.toNat fun k=>ah (eZ k.1) fun l=>ak (ak (af (aa (a=a)) (U ())) (ak (af (aa (k.2.1=k.2.1)) (U ())) (ak (af (aa (k.2.2.1=k.2.2.1)) (U ())) (ak (af (aa (k.2.2.2=k.2.2.2)) (U ())) (U ()))))) (af (aa (a.length+l.length<=9223372036854775807)) (ah (eZ k.2.1) fun m=>ak (ak (af (aa (a=a)) (U ())) (ak (af (aa (k.2.2.1=k.2.2.1)) (U ())) (ak (af (aa (k.2.2.2=k.2.2.2)) (U ())) (ak (af (aa (a.length+l.length<=9223372036854775807)) (af (aa (a++l=a++l)) (U ()))) (U ()))))) (af (aa (au (a++l)+m.length<=9223372036854775807)) (ah (eZ k.2.2.1) fun n=>ak (ak (af (aa (a=a)) (U ())) (ak (af (aa (k.2.2.2=k.2.2.2)) (U ())) (ak (af (aa (a.length+l.length<=9223372036854775807)) (af (aa (a++l=a++l)) (U ()))) (ak (af (aa (au (a++l)+m.length<=9223372036854775807)) (af (aa (a++l++m=a++l++m)) (U ()))) (U ()))))) (af (aa (au (a++l++m)+n.length<=9223372036854775807)) (ah (eZ k.2.2.2) fun k=>ak (ak (af (aa (a=a)) (U ())) (ak (af (aa (a.length+l.length<=9223372036854775807)) (af (aa (a++l=a++l)) (U ()))) (ak (af (aa (au (a++l)+m.length<=9223372036854775807)) (af (aa (a++l++m=a++l++m)) (U ()))) (ak (af (aa (au (a++l++m)+n.length<=9223372036854775807)) (af (aa (a++l++m++n=a++l++m++n)) (U ()))) (U ()))))) (af (aa (au (a++l++m++n)+k.length<=9223372036854775807)) (U (ao (a++l++m++n++k,wrap .i64 (b+1),c,d,e,f,g,h,i,j)))))))))))) (U (an (ao (a,c,d,e,f,g,h,i,j))))) ((i++j++k++l++m++n++f++o,(0:Int),a,b,c,d,e,f,g,h))) fun(a,b,c,d,e,f,g,h,i)=>ah (eK i.length) fun j=>af (aa (a.length+j.length<=9223372036854775807)) (bindE (Y:=zBy) (aE (fun(a,b,c,d,e,f,g,h,i,j)=>ai (aa (b<(j.length:Int))) (af (aa (0<=b)) (aq j b.toNat fun k=>af (aa (0<=b)) (aq j b.toNat fun l=>af (aa (0<=b)) (aq j b.toNat fun m=>ah (eZ k.1) fun k=>let n:=af (aa (0<=b)) (aq j b.toNat fun a=>af (aa (a.1=m.1)&&(aa (a.2.1=m.2.1)&&(aa (a.2.2=m.2.2)&&ae))) (U ()));ak (ak (af (aa (a=a)) (U ())) (ak (af (aa (j=j)) (U ())) (ak (af (aa (b=b)) (U ())) (ak (af (aa (0<=b)) (aq j b.toNat fun a=>af (aa (a.1=l.1)&&(aa (a.2.1=l.2.1)&&(aa (a.2.2=l.2.2)&&ae))) (U ()))) (ak (af (aa (l.2.1=l.2.1)&&(aa (l.2.2=l.2.2)&&ae)) (U ())) (ak (af (aa (l.2.1=l.2.1)) (U ())) (ak (af (aa (j=j)) (U ())) (ak (af (aa (b=b)) (U ())) (ak n (ak (af (aa (m.2.2=m.2.2)&&ae) (U ())) (ak (af (aa (m.2.2=m.2.2)) (U ())) (U ())))))))))))) (af (aa (a.length+k.length<=9223372036854775807)) (ah (tq l.2.1) fun l=>ak (ak (af (aa (a=a)) (U ())) (ak (af (aa (j=j)) (U ())) (ak (af (aa (b=b)) (U ())) (ak n (ak (af (aa (m.2.2=m.2.2)&&ae) (U ())) (ak (af (aa (m.2.2=m.2.2)) (U ())) (ak (af (aa (a.length+k.length<=9223372036854775807)) (af (aa (a++k=a++k)) (U ()))) (U ())))))))) (af (aa (au (a++k)+l.length<=9223372036854775807)) (ah (tq m.2.2) fun m=>ak (ak (af (aa (a=a)) (U ())) (ak (af (aa (a.length+k.length<=9223372036854775807)) (af (aa (a++k=a++k)) (U ()))) (ak (af (aa (au (a++k)+l.length<=9223372036854775807)) (af (aa (a++k++l=a++k++l)) (U ()))) (U ())))) (af (aa (au (a++k++l)+m.length<=9223372036854775807)) (U (ao (a++k++l++m,wrap .i64 (b+1),c,d,e,f,g,h,i,j)))))))))))) (U (an (ao a)))) ((a++j,(0:Int),b,c,d,e,f,g,h,i))) fun a=>U a))))))))))))))))
def tb59:=az 59 (aB 59 ae [] xp fW xq [.tmp 2] 114 []) tb131
def S1:zTb tb59:=aC SU S0 SZ func59 rfl call59
abbrev xr:SPat:=⟨[(1,.ptr 1 0),(3,.s),(4,.i .i64)],iG⟩
abbrev S2:SPat:=⟨[(1,.ptr 1 0),(3,.s),(5,.i .i64)],iG⟩
abbrev S3:SPat:=⟨[(1,.ptr 1 0),(3,.s),(6,.i .i64)],iG⟩
abbrev S4:SPat:=⟨[(1,.ptr 1 0),(3,.s),(7,.i .i64)],iG⟩
abbrev mE:SPat:=⟨[(1,.ptr 1 0),(3,.s)],iG⟩
def S5:Nat->Option SPat:=fun k=>bif k==3 then U xr else bif k==8 then U S2 else bif k==13 then U S3 else bif k==18 then U S4 else bif k==2000000 then U mE else bif k==2000002 then U mE else bif k==2000004 then U mE else bif k==2000006 then U qR else aj
def S6:Nat->List Nat×a_:=fun id=>bif id==6 then([0,1,2,5,6,9,10,13,14,15],(.br 3 [2,1] [0,5,6,9,10,13,14,15] [4] (.br 7 [6,5,3,2,1] [0,9,10,13,14,15,4] [8] (.br 11 [10,9,7,6,5,3,2,1] [0,13,14,15,4,8] [12] (.br 16 [15,14,13,11,10,9,7,6,5,3,2,1] [0,4,8,12] [17] (.br 18 mz [] [] .fin .fin) .fin) .fin) .fin) .fin))else bif id==15 then(Ix,(.br 7 [6,5,4,3,2,1] [0,9,10,11,12,13,14,17,18,19,20,21,22] [8] (.br 15 [14,13,12,11,10,9,7,6,5,4,3,2,1] [0,17,18,19,20,21,22,8] [16] (.br 23 Iy [0,8,16] [24] (.br 25 Ct [] [] .fin .fin) .fin) .fin) .fin))else([],.fin)
def mF:Cls->Option zBy:=fun(a,b,c,d,e,f,g)=>ah (eK a.length) fun h=>af (aa ((4:Nat)+h.length<=9223372036854775807)) (bindE (Y:=zBy×Cls) (aE (fun(a,b,c,d,e,f,g,h,i)=>ai (aa (b<(c.length:Int))) (af (aa (0<=b)) (aq c b.toNat fun j=>ah (xo (j.1,j.2.1,j.2.2.1,j.2.2.2)) fun j=>af (aa (a.length+j.length<=9223372036854775807)) (U (ao (a++j,wrap .i64 (b+1),c,d,e,f,g,h,i))))) (U (an (ao (a,c,d,e,f,g,h,i))))) (([(83:UInt8),84,79,87]++h,(0:Int),a,b,c,d,e,f,g))) fun(a,b,c,d,e,f,g,h)=>ah (eK c) fun i=>ak (ak (af (aa (a=a)) (U ())) (ak (af (aa (d=d)) (U ())) (ak (af (aa (e=e)) (U ())) (ak (af (aa (f=f)) (U ())) (ak (af (aa ((f.length:Int)=(f.length:Int))) (U ())) (U ())))))) (af (aa (a.length+i.length<=9223372036854775807)) (ah (eZ d) fun j=>ak (ak (af (aa (a=a)) (U ())) (ak (af (aa (e=e)) (U ())) (ak (af (aa (f=f)) (U ())) (ak (af (aa ((f.length:Int)=(f.length:Int))) (U ())) (ak (af (aa (a.length+i.length<=9223372036854775807)) (af (aa (a++i=a++i)) (U ()))) (U ())))))) (af (aa (au (a++i)+j.length<=9223372036854775807)) (ah (eZ e) fun k=>ak (ak (af (aa (a=a)) (U ())) (ak (af (aa (f=f)) (U ())) (ak (af (aa ((f.length:Int)=(f.length:Int))) (U ())) (ak (af (aa (a.length+i.length<=9223372036854775807)) (af (aa (a++i=a++i)) (U ()))) (ak (af (aa (au (a++i)+j.length<=9223372036854775807)) (af (aa (a++i++j=a++i++j)) (U ()))) (U ())))))) (af (aa (au (a++i++j)+k.length<=9223372036854775807)) (ah (eK f.length) fun l=>ak (ak (af (aa (a=a)) (U ())) (ak (af (aa (a.length+i.length<=9223372036854775807)) (af (aa (a++i=a++i)) (U ()))) (ak (af (aa (au (a++i)+j.length<=9223372036854775807)) (af (aa (a++i++j=a++i++j)) (U ()))) (ak (af (aa (au (a++i++j)+k.length<=9223372036854775807)) (af (aa (a++i++j++k=a++i++j++k)) (U ()))) (U ()))))) (af (aa (au (a++i++j++k)+l.length<=9223372036854775807)) (bindE (Y:=zBy×Cls) (aE (fun(a,b,c,d,e,f,g,h,i)=>ai (aa (b<(g.length:Int))) (af (aa (0<=b)) (aq g b.toNat fun j=>ah (eZ j) fun j=>af (aa (a.length+j.length<=9223372036854775807)) (U (ao (a++j,wrap .i64 (b+1),c,d,e,f,g,h,i))))) (U (an (ao (a,c,d,e,f,g,h,i))))) ((a++i++j++k++l,(0:Int),b,c,d,e,f,g,h))) fun(a,b,c,d,e,f,g,h)=>ah (eK g.length) fun i=>af (aa (a.length+i.length<=9223372036854775807)) (bindE (Y:=zBy×Cls) (aE (fun(a,b,c,d,e,f,g,h,i)=>ai (aa (b<(h.length:Int))) (af (aa (0<=b)) (aq h b.toNat fun j=>af (aa (0<=b)) (aq h b.toNat fun k=>af (aa (0<=b)) (aq h b.toNat fun l=>ah (eK j.1) fun j=>let m:=af (aa (0<=b)) (aq h b.toNat fun a=>af (aa (a.1=l.1)&&(aa (a.2.1=l.2.1)&&(aa (a.2.2=l.2.2)&&ae))) (U ()));ak (ak (af (aa (a=a)) (U ())) (ak (af (aa (h=h)) (U ())) (ak (af (aa (b=b)) (U ())) (ak (af (aa (0<=b)) (aq h b.toNat fun a=>af (aa (a.1=k.1)&&(aa (a.2.1=k.2.1)&&(aa (a.2.2=k.2.2)&&ae))) (U ()))) (ak (af (aa (k.2.1=k.2.1)&&(aa (k.2.2=k.2.2)&&ae)) (U ())) (ak (af (aa (k.2.1=k.2.1)) (U ())) (ak (af (aa (h=h)) (U ())) (ak (af (aa (b=b)) (U ())) (ak m (ak (af (aa (l.2.2=l.2.2)&&ae) (U ())) (ak (af (aa (l.2.2=l.2.2)) (U ())) (U ())))))))))))) (af (aa (a.length+j.length<=9223372036854775807)) (ah (eZ k.2.1) fun k=>ak (ak (af (aa (a=a)) (U ())) (ak (af (aa (h=h)) (U ())) (ak (af (aa (b=b)) (U ())) (ak m (ak (af (aa (l.2.2=l.2.2)&&ae) (U ())) (ak (af (aa (l.2.2=l.2.2)) (U ())) (ak (af (aa (a.length+j.length<=9223372036854775807)) (af (aa (a++j=a++j)) (U ()))) (U ())))))))) (af (aa (au (a++j)+k.length<=9223372036854775807)) (ah (eZ l.2.2) fun l=>ak (ak (af (aa (a=a)) (U ())) (ak (af (aa (a.length+j.length<=9223372036854775807)) (af (aa (a++j=a++j)) (U ()))) (ak (af (aa (au (a++j)+k.length<=9223372036854775807)) (af (aa (a++j++k=a++j++k)) (U ()))) (U ())))) (af (aa (au (a++j++k)+l.length<=9223372036854775807)) (U (ao (a++j++k++l,wrap .i64 (b+1),c,d,e,f,g,h,i)))))))))))) (U (an (ao (a,c,d,e,f,g,h,i))))) ((a++i,(0:Int),b,c,d,e,f,g,h))) fun(a,b,c,d,e,f,g,h)=>ah (eK h.length) fun i=>af (aa (a.length+i.length<=9223372036854775807)) (bindE (Y:=zBy) (aE (fun(a,b,c,d,e,f,g,h,i)=>ai (aa (b<(i.length:Int))) (af (aa (0<=b)) (aq i b.toNat fun j=>ah (xq (j.1,j.2.1,j.2.2.1,j.2.2.2.1,j.2.2.2.2.1,j.2.2.2.2.2.1,j.2.2.2.2.2.2.1,j.2.2.2.2.2.2.2)) fun j=>af (aa (a.length+j.length<=9223372036854775807)) (U (ao (a++j,wrap .i64 (b+1),c,d,e,f,g,h,i))))) (U (an (ao a)))) ((a++i,(0:Int),b,c,d,e,f,g,h))) fun a=>U a)))))))))))
def tb20:=az 20 (aB 20 ae [] gQ fW mF [.tmp 2] 121 []) tb59
def S7:zTb tb20:=aC S1 S6 S5 func20 rfl call20
abbrev S8:SPat:=⟨[(0,.ptr 100000 0),(1,.i .i64)],ja⟩
abbrev S9:SPat:=⟨[(4,.s)],ja⟩
abbrev S_:SPat:=⟨[(0,.ptr 100000 0),(1,.i .i64),(22,.b)],ja⟩
def Ta:Nat->Option SPat:=fun k=>bif k==1000002 then U S_ else aj
def Tb:Nat->List Nat×a_:=fun id=>bif id==1 then([0,1,2,3,4,5,6,7,8,9,10,11,12,13,14,15,16,17],.fin)else bif id==5 then([0,1,2,3,4,5,6,7,8,9,10,11,12,13,14],(.br 15 s7 [] [] .fin .fin))else([],.fin)
def qT:Int×zBy×Int×Bool->Option (zBy×zBy×Int×Bool):=fun(a,b,c,d)=>
 bindE (Y:=Int×Bool×zBy×Int×Bool) (ai (d)
 (U (ao (a,ae,b,c,d)))
 (U (ao (a,aa ((b.length:Int)<wrap .i64 (c+a)),b,c,d)))) fun(a,b,c,d,e)=>
 ai (b)
 (U (([],c,d,ae)))
 (af (aa (0<=wrap .i64 (wrap .i64 (d+a)-a))&&aa (wrap .i64 (wrap .i64 (d+a)-a)<=wrap .i64 (d+a))&&aa (wrap .i64 (d+a)<=(c.length:Int))) (U ((cU (aw (wrap .i64 (wrap .i64 (d+a)-a))) (de (aw (wrap .i64 (d+a))) c),c,wrap .i64 (d+a),e))))
def tb114:=az 114 (aB 114 ag [(0,[])] S8 S9 qT [.tmp 4] 50 [100000]) tb20
def Tc:zTb tb114:=aC S7 Tb Ta func114 rfl call114
abbrev pj:SPat:=⟨[(0,.ptr 100000 0)],ja⟩
abbrev IU:SPat:=⟨[(2,.i .i64)],ja⟩
abbrev Td:SPat:=⟨[(0,.ptr 100000 0),(18,.b)],ja⟩
def Te:Nat->Option SPat:=fun k=>bif k==1000002 then U Td else aj
def Tf:Nat->List Nat×a_:=fun id=>bif id==1 then(wL,.fin)else bif id==5 then(lM,(.br 11 fw [] [] .fin .fin))else([],.fin)
def fA:zBy×Int×Bool->Option (Int×zBy×Int×Bool):=fun(a,b,c)=>
 bindE (Y:=Bool×zBy×Int×Bool) (ai (c)
 (U (ao (ae,a,b,c)))
 (U (ao (aa ((a.length:Int)<=b),a,b,c)))) fun(a,b,c,d)=>
 ai (a)
 (U (((0:Int),b,c,ae)))
 (af (aa (0<=wrap .i64 (wrap .i64 (c+1)-1))) (aq b (aw (wrap .i64 (wrap .i64 (c+1)-1))) fun a=>U ((wrap .i64 (a.toNat:Int),b,wrap .i64 (c+1),d))))
def tb116:=az 116 (aB 116 ag [(0,[])] pj IU fA [.tmp 2] 41 [100000]) tb114
def Tg:zTb tb116:=aC Tc Tf Te func116 rfl call116
def e_:zBy×Int×Bool->Option (Int×zBy×Int×Bool):=fun(a,b,c)=>
 ah (fA (a,b,c)) fun(a,b,c,d)=>
 ah (fA (b,c,d)) fun(b,c,d,e)=>
 U ((wrap .i64 (wrap .i64 (a*256)+b),c,d,e))
def tb117:=az 117 (aB 117 ag [(0,[])] pj IU e_ [.tmp 2] 13 [100000]) tb116
def Th:zTb tb117:=aC Tg aI aR func117 rfl call117
abbrev Ti:SPat:=⟨[(2,.ptr 2 0)],[.box 2 (pl dM),.box 100000 (pl lL)]⟩
abbrev Tj:SPat:=⟨[(0,.ptr 100000 0),(2,.ptr 2 0),(3,.ptr 3 0),(24,.b)],[.box 2 (pl dM),.box 3 (pl dM),.box 100000 (pl lL)]⟩
abbrev Tk:SPat:=⟨[(2,.ptr 2 0),(3,.ptr 3 0)],[.box 2 (pl dM),.box 3 (pl dM),.box 100000 (pl lL)]⟩
def Tl:Nat->Option SPat:=fun k=>bif k==1000012 then U Tj else bif k==2000000 then U Tk else aj
def xt:zBy×Int×Bool->Option ( Cst×zBy×Int×Bool):=fun(a,b,c)=>
 ah (fA (a,b,c)) fun(a,b,c,d)=>
 bindE (Y :=  Cst×Cst×zBy×Int×Bool) (ai (aa (a=1))
 (ah (fA (b,c,d)) fun(b,c,d,e)=>
 ah (qT (b,c,d,e)) fun(b,c,d,e)=>
 U (ao (((0:Int),[],(0:Int),(0:Int)),(a,b,(0:Int),(0:Int)),c,d,e)))
 (ai (aa (a=2))
 (ah (e_ (b,c,d)) fun(b,c,d,e)=>
 U (ao (((0:Int),[],(0:Int),(0:Int)),(a,[],b,(0:Int)),c,d,e)))
 (bindE (Y:=Bool×Cst×Cst×zBy×Int×Bool) (ai (aa (a=3))
 (U (ao (ae,((0:Int),[],(0:Int),(0:Int)),(a,[],(0:Int),(0:Int)),b,c,d)))
 (ai (aa (a=4))
 (U (ao (ae,((0:Int),[],(0:Int),(0:Int)),(a,[],(0:Int),(0:Int)),b,c,d)))
 (ai (aa (a=5))
 (U (ao (ae,((0:Int),[],(0:Int),(0:Int)),(a,[],(0:Int),(0:Int)),b,c,d)))
 (U (ao (aa (a=6),((0:Int),[],(0:Int),(0:Int)),(a,[],(0:Int),(0:Int)),b,c,d)))))) fun(a,(b,c,d,e),(f,g,h,i),j,k,l)=>
 ai (a)
 (ah (e_ (j,k,l)) fun(a,h,i,j)=>
 ah (e_ (h,i,j)) fun(h,i,j,k)=>
 U (ao ((b,c,d,e),(f,g,a,h),i,j,k)))
 (U (ao ((b,c,d,e),(f,g,h,i),j,k,ae)))))) fun((_,_,_,_),(a,b,c,d),e,f,g)=>
 U (((a,b,c,d),e,f,g))
def tb165:=az 165 (aB 165 ag [(0,[])] pj Ti xt [.cell 2 65] 36 [100000]) tb117
def Tm:zTb tb165:=aC Th aI Tl func165 rfl call165
abbrev Tn:SPat:=⟨[(2,.own cD ae)],ja⟩
abbrev IV:SPat:=⟨[(0,.ptr 100000 0),(3,.own cD ae),(4,.i .i64),(5,.i .i64)],ja⟩
abbrev To:SPat:=⟨[(0,.ptr 100000 0),(3,.own cD ae),(4,.i .i64)],ja⟩
abbrev Tp:SPat:=⟨[(3,.own cD ae)],ja⟩
def Tq:Nat->Option SPat:=fun k=>bif k==6 then U IV else bif k==1000005 then U To else bif k==1000008 then U IV else bif k==2000000 then U Tp else aj
def xu:zBy×Int×Bool->Option (List Cst×zBy×Int×Bool):=fun(a,b,c)=>
 ah (fA (a,b,c)) fun(a,b,c,d)=>
 bindE (Y:=List Cst×Int×zBy×Int×Bool) (ai (aa (60<a))
 (U (ao ([],a,b,c,ae)))
 (U (ao ([],a,b,c,d)))) fun(a,b,c,d,e)=>
 bindE (Y:=List Cst×zBy×Int×Bool) (aE (fun(a,b,c,d,e,f)=>
 bindE (Y:=List Cst×Int×Int×zBy×Int×Bool) (ai (aa (c<b))
 (ai (!f)
 (U (ao (a,b,c,d,e,f)))
 (U (an (an (ao (a,d,e,f))))))
 (U (an (an (ao (a,d,e,f)))))) fun(a,b,c,d,e,f)=>
 ah (xt (d,e,f)) fun((d,e,f,g),h,i,j)=>
 af (aa (a.length+1<=9223372036854775807)&&aa ((a.length+1)*40<=140737488355328)) (U (ao (a++[(d,e,f,g)],b,wrap .i64 (c+1),h,i,j)))) ((a,b,(0:Int),c,d,e))) fun(a,b,c,d)=>
 U ((a,b,c,d))
def tb115:=az 115 (aB 115 ag [(0,[])] pj Tn xu [.tmp 2] 32 [100000]) tb165
def Tr:zTb tb115:=aC Tm aI Tq func115 rfl call115
abbrev Ts:SPat:=⟨[(2,.own c9 ae)],ja⟩
abbrev CH:SPat:=⟨[(0,.ptr 100000 0),(3,.own c9 ae),(4,.i .i64),(5,.i .i64)],ja⟩
abbrev Tt:SPat:=⟨[(0,.ptr 100000 0),(3,.own c9 ae),(4,.i .i64)],ja⟩
abbrev Tu:SPat:=⟨[(0,.ptr 100000 0),(3,.own c9 ae),(4,.i .i64),(5,.i .i64),(6,.ptr 6 0)],[.box 6 (pl [.i .i64,.i .i64]),.box 100000 (pl lL)]⟩
abbrev Tv:SPat:=⟨[(3,.own c9 ae)],ja⟩
def Tw:Nat->Option SPat:=fun k=>bif k==6 then U CH else bif k==1000005 then U Tt else bif k==1000008 then U CH else bif k==1000011 then U Tu else bif k==2000000 then U Tv else bif k==2000001 then U CH else aj
def tt:zBy×Int×Bool->Option (List Knd×zBy×Int×Bool):=fun(a,b,c)=>
 ah (fA (a,b,c)) fun(a,b,c,d)=>
 bindE (Y:=List Knd×Int×zBy×Int×Bool) (ai (aa (8<a))
 (U (ao ([],a,b,c,ae)))
 (U (ao ([],a,b,c,d)))) fun(a,b,c,d,e)=>
 bindE (Y:=List Knd×zBy×Int×Bool) (aE (fun(a,b,c,d,e,f)=>
 bindE (Y:=List Knd×Int×Int×zBy×Int×Bool) (ai (aa (c<b))
 (ai (!f)
 (U (ao (a,b,c,d,e,f)))
 (U (an (an (ao (a,d,e,f))))))
 (U (an (an (ao (a,d,e,f)))))) fun(a,b,c,d,e,f)=>
 bindE (Y:=List Knd×Int×Int×zBy×Int×Bool) (ah (fA (d,e,f)) fun(d,e,f,g)=>
 bindE (Y:=List Knd×Int×Int×(Int×Int)×zBy×Int×Bool) (ai (aa (d=3))
 (ah (e_ (e,f,g)) fun(e,f,g,h)=>
 U (ao (a,b,c,(d,e),f,g,h)))
 (U (ao (a,b,c,(d,(0:Int)),e,f,g)))) fun(a,b,c,(d,e),f,g,h)=>
 ai (aa (3<d))
 (af (aa (a.length+1<=9223372036854775807)&&aa ((a.length+1)*16<=140737488355328)) (U (ao (a++[(d,e)],b,c,f,g,ae))))
 (af (aa (a.length+1<=9223372036854775807)&&aa ((a.length+1)*16<=140737488355328)) (U (ao (a++[(d,e)],b,c,f,g,h))))) fun(a,b,c,d,e,f)=>
 U (ao (a,b,wrap .i64 (c+1),d,e,f))) ((a,b,(0:Int),c,d,e))) fun(a,b,c,d)=>
 U ((a,b,c,d))
def tb192:=az 192 (aB 192 ag [(0,[])] pj Ts tt [.tmp 2] 47 [100000]) tb115
def Tx:zTb tb192:=aC Tr aI Tw func192 rfl call192
abbrev Ty:SPat:=⟨[(0,.ptr 100000 0),(1,.agg (pl [.i .i64,.i .i64,.i .i64,.i .i64,.i .i64,.s,.nil,.nil]))],ja⟩
abbrev Tz:SPat:=⟨[(4,.ptr 4 0)],[.box 4 (pl fR),.box 100000 (pl lL)]⟩
abbrev IW:SPat:=⟨[(0,.ptr 100000 0),(3,.ptr 3 0),(4,.ptr 4 0),(6,.i .i64),(7,.i .i64)],qN⟩
abbrev IX:SPat:=⟨[(0,.ptr 100000 0),(3,.ptr 3 0),(4,.ptr 4 0),(6,.i .i64),(8,.i .i64)],qN⟩
abbrev TA:SPat:=⟨[(0,.ptr 100000 0),(3,.ptr 3 0),(4,.ptr 4 0),(5,.i .i64)],qN⟩
abbrev IY:SPat:=⟨[(0,.ptr 100000 0),(3,.ptr 3 0),(4,.ptr 4 0),(6,.i .i64)],qN⟩
abbrev TB:SPat:=⟨[(0,.ptr 100000 0),(3,.ptr 3 0),(4,.ptr 4 0)],qN⟩
abbrev TC:SPat:=⟨[(3,.ptr 3 0),(4,.ptr 4 0)],qN⟩
def TD:Nat->Option SPat:=fun k=>bif k==11 then U IW else bif k==18 then U IX else bif k==1000006 then U TA else bif k==1000010 then U IY else bif k==1000013 then U IW else bif k==1000017 then U IY else bif k==1000020 then U IX else bif k==2000000 then U TB else bif k==2000002 then U TC else aj
def TE:Nat->List Nat×a_:=fun id=>bif id==13 then([0,1,2,4,6,8],(.br 3 [2] [0,1,4,6,8] [] (.br 5 [4,3,2] [0,1,6,8] [] (.br 7 [6,5,4,3,2] [0,1,8] [] (.br 9 [8,7,6,5,4,3,2] [0,1] [10] (.br 11 [10,9,8,7,6,5,4,3,2] [0,1] [] (.br 12 ko [] [13] (.br 14 jB [] [] .fin .fin) .fin) .fin) .fin) .fin) .fin) .fin))else bif id==20 then([0,1,2,4,6],(.br 3 [2] [0,1,4,6] [] (.br 5 [4,3,2] [0,1,6] [] (.br 7 [6,5,4,3,2] [0,1] [8] (.br 9 [8,7,6,5,4,3,2] [0,1] [] (.br 10 dG [] [11] (.br 12 ko [] [] .fin .fin) .fin) .fin) .fin) .fin) .fin))else([],.fin)
def xv:(Int×Int×Int×Int×Int×zBy)×zBy×Int×Bool->Option ( Mth×zBy×Int×Bool):=fun((a,b,c,_,_,d),e,f,g)=>
 ah (fA (e,f,g)) fun(e,f,g,h)=>
 ah (fA (f,g,h)) fun(f,g,h,i)=>
 ah (e_ (g,h,i)) fun(g,h,i,j)=>
 bindE (Y:=Int×Mth×Mth×zBy×Int×Bool) (ai (aa (120<g))
 (U (ao (g,(a,b,c,e,f,d,[],[]),((0:Int),(0:Int),(0:Int),(0:Int),(0:Int),[],[],[]),h,i,ae)))
 (U (ao (g,(a,b,c,e,f,d,[],[]),((0:Int),(0:Int),(0:Int),(0:Int),(0:Int),[],[],[]),h,i,j)))) fun(a,(b,c,d,e,f,_,g,h),(i,j,k,l,m,n,o,p),q,r,s)=>
 ah (qT (a,q,r,s)) fun(a,q,r,s)=>
 ah (fA (q,r,s)) fun(q,r,s,t)=>
 bindE (Y:=Int×Mth×Mth×zBy×Int×Bool) (ai (aa (3<q))
 (U (ao (q,(b,c,d,e,f,a,g,h),(i,j,k,l,m,n,o,p),r,s,ae)))
 (U (ao (q,(b,c,d,e,f,a,g,h),(i,j,k,l,m,n,o,p),r,s,t)))) fun(a,(b,c,d,e,f,g,h,i),(j,k,l,m,n,o,p,q),r,s,t)=>
 bindE (Y :=  Mth×Mth×zBy×Int×Bool) (aE (fun(a,b,(c,d,e,f,g,h,i,j),(k,l,m,n,o,p,q,r),s,t,u)=>
 bindE (Y:=Int×Int×Mth×Mth×zBy×Int×Bool) (ai (aa (b<a))
 (ai (!u)
 (U (ao (a,b,(c,d,e,f,g,h,i,j),(k,l,m,n,o,p,q,r),s,t,u)))
 (U (an (an (ao ((c,d,e,f,g,h,i,j),(k,l,m,n,o,p,q,r),s,t,u))))))
 (U (an (an (ao ((c,d,e,f,g,h,i,j),(k,l,m,n,o,p,q,r),s,t,u)))))) fun(a,b,(c,d,e,f,g,h,i,j),(k,l,m,n,o,p,q,r),s,t,u)=>
 ah (e_ (s,t,u)) fun(s,t,u,v)=>
 ah (e_ (t,u,v)) fun(t,u,v,w)=>
 ah (e_ (u,v,w)) fun(u,v,w,x)=>
 ah (e_ (v,w,x)) fun(v,w,x,y)=>
 af (aa (i.length+1<=9223372036854775807)&&aa ((i.length+1)*32<=140737488355328)) (U (ao (a,wrap .i64 (b+1),(c,d,e,f,g,h,i++[(s,t,u,v)],j),(k,l,m,n,o,p,q,r),w,x,y)))) ((a,(0:Int),(b,c,d,e,f,g,h,i),(j,k,l,m,n,o,p,q),r,s,t))) fun((a,b,c,d,e,f,g,h),(i,j,k,l,m,n,o,p),q,r,s)=>
 ah (fA (q,r,s)) fun(q,r,s,t)=>
 bindE (Y:=Int×Mth×Mth×zBy×Int×Bool) (ai (aa (8<q))
 (U (ao (q,(a,b,c,d,e,f,g,h),(i,j,k,l,m,n,o,p),r,s,ae)))
 (U (ao (q,(a,b,c,d,e,f,g,h),(i,j,k,l,m,n,o,p),r,s,t)))) fun(a,(b,c,d,e,f,g,h,i),(j,k,l,m,n,o,p,q),r,s,t)=>
 bindE (Y :=  Mth×Mth×zBy×Int×Bool) (aE (fun(a,b,(c,d,e,f,g,h,i,j),(k,l,m,n,o,p,q,r),s,t,u)=>
 bindE (Y:=Int×Int×Mth×Mth×zBy×Int×Bool) (ai (aa (b<a))
 (ai (!u)
 (U (ao (a,b,(c,d,e,f,g,h,i,j),(k,l,m,n,o,p,q,r),s,t,u)))
 (U (an (an (ao ((c,d,e,f,g,h,i,j),(k,l,m,n,o,p,q,r),s,t,u))))))
 (U (an (an (ao ((c,d,e,f,g,h,i,j),(k,l,m,n,o,p,q,r),s,t,u)))))) fun(a,b,(c,d,e,f,g,h,i,j),(k,l,m,n,o,p,q,r),s,t,u)=>
 ah (e_ (s,t,u)) fun(s,t,u,v)=>
 ah (tt (t,u,v)) fun(t,u,v,w)=>
 ah (tt (u,v,w)) fun(u,v,w,x)=>
 af (aa (j.length+1<=9223372036854775807)&&aa ((j.length+1)*56<=140737488355328)) (U (ao (a,wrap .i64 (b+1),(c,d,e,f,g,h,i,j++[(s,t,u)]),(k,l,m,n,o,p,q,r),v,w,x)))) ((a,(0:Int),(b,c,d,e,f,g,h,i),(j,k,l,m,n,o,p,q),r,s,t))) fun((a,b,c,d,e,f,g,h),(_,_,_,_,_,_,_,_),i,j,k)=>
 U (((a,b,c,d,e,f,g,h),i,j,k))
def tb166:=az 166 (aB 166 ag [(0,[])] Ty Tz xv [.cell 4 72] 91 [100000]) tb192
def TF:zTb tb166:=aC Tx TE TD func166 rfl call166
abbrev TG:SPat:=⟨[(2,.ptr 2 0)],[.box 2 (pl fR),.box 100000 (pl lL)]⟩
def xw:zBy×Int×Bool->Option ( Mth×zBy×Int×Bool):=fun(a,b,c)=>
 ah (fA (a,b,c)) fun(a,b,c,d)=>
 ah (e_ (b,c,d)) fun(b,c,d,e)=>
 ah (e_ (c,d,e)) fun(c,d,e,f)=>
 ai (aa (wrap .i64 (Int.tdiv (Int.tmod a (16:Int)) (8:Int))=1))
 (U (((a,b,c,(0:Int),(0:Int),[],[],[]),d,e,f)))
 (ah (xv ((a,b,c,(0:Int),(0:Int),[]),d,e,f)) fun((a,b,c,d,e,f,g,h),i,j,k)=>
 U (((a,b,c,d,e,f,g,h),i,j,k)))
def tb118:=az 118 (aB 118 ag [(0,[])] pj TG xw [.cell 2 72] 20 [100000]) tb166
def TH:zTb tb118:=aC TF aI aR func118 rfl call118
abbrev TJ:SPat:=⟨[(2,.ptr 2 0)],[.box 2 (pl eW),.box 100000 (pl lL)]⟩
abbrev IZ:SPat:=⟨[(0,.ptr 100000 0),(2,.ptr 2 0),(3,.ptr 3 0),(4,.i .i64),(5,.i .i64)],qO⟩
abbrev I0:SPat:=⟨[(0,.ptr 100000 0),(2,.ptr 2 0),(3,.ptr 3 0),(4,.i .i64),(6,.i .i64)],qO⟩
abbrev I1:SPat:=⟨[(0,.ptr 100000 0),(2,.ptr 2 0),(3,.ptr 3 0),(4,.i .i64),(7,.i .i64)],qO⟩
abbrev CI:SPat:=⟨[(0,.ptr 100000 0),(2,.ptr 2 0),(3,.ptr 3 0)],qO⟩
abbrev CJ:SPat:=⟨[(0,.ptr 100000 0),(2,.ptr 2 0),(3,.ptr 3 0),(4,.i .i64)],qO⟩
abbrev TL:SPat:=⟨[(2,.ptr 2 0),(3,.ptr 3 0)],qO⟩
def TN:Nat->Option SPat:=fun k=>bif k==12 then U IZ else bif k==19 then U I0 else bif k==26 then U I1 else bif k==1000004 then U CI else bif k==1000011 then U CJ else bif k==1000014 then U IZ else bif k==1000018 then U CJ else bif k==1000021 then U I0 else bif k==1000025 then U CJ else bif k==1000028 then U I1 else bif k==2000000 then U CI else bif k==2000002 then U CI else bif k==2000004 then U TL else aj
def TP:Nat->List Nat×a_:=fun id=>bif id==14 then(hZ,(.br 3 [2] [0,1] [] (.br 4 [3,2] [0,1] [] (.br 5 iE [] [6] (.br 7 dv [] [] .fin .fin) .fin) .fin) .fin))else bif id==21 then([0,1,2,4,6],(.br 3 [2] [0,1,4,6] [] (.br 5 [4,3,2] [0,1,6] [] (.br 7 [6,5,4,3,2] [0,1] [8] (.br 9 [8,7,6,5,4,3,2] [0,1] [] (.br 10 dG [] [11] (.br 12 ko [] [] .fin .fin) .fin) .fin) .fin) .fin) .fin))else bif id==28 then(hZ,(.br 3 [2] [0,1] [] (.br 4 [3,2] [0,1] [] (.br 5 iE [] [6] (.br 7 dv [] [] .fin .fin) .fin) .fin) .fin))else([],.fin)
def tu:zBy×Int×Bool->Option ( Cls×zBy×Int×Bool):=fun(a,b,c)=>
 bindE (Y :=  Cls×Cls×zBy×Int×Bool) (ah (qT (4,a,b,c)) fun(a,b,c,d)=>
 ai (!aa (a=[(83:UInt8),84,79,87]))
 (U (ao (([],(0:Int),(0:Int),(0:Int),[],[],[]),([],(0:Int),(0:Int),(0:Int),[],[],[]),b,c,ae)))
 (U (ao (([],(0:Int),(0:Int),(0:Int),[],[],[]),([],(0:Int),(0:Int),(0:Int),[],[],[]),b,c,d)))) fun((a,b,c,d,e,f,g),(_,_,_,_,h,i,j),k,l,m)=>
 ah (xu (k,l,m)) fun(k,l,m,n)=>
 ah (fA (l,m,n)) fun(l,m,n,o)=>
 ah (e_ (m,n,o)) fun(m,n,o,p)=>
 ah (e_ (n,o,p)) fun(n,o,p,q)=>
 ah (fA (o,p,q)) fun(o,p,q,r)=>
 bindE (Y:=Int×Cls×Cls×zBy×Int×Bool) (ai (aa (3<o))
 (U (ao (o,(a,b,c,d,e,f,g),(k,l,m,n,h,i,j),p,q,ae)))
 (U (ao (o,(a,b,c,d,e,f,g),(k,l,m,n,h,i,j),p,q,r)))) fun(a,(b,c,d,e,f,g,h),(i,j,k,l,m,n,o),p,q,r)=>
 bindE (Y :=  Cls×Cls×zBy×Int×Bool) (aE (fun(a,b,(c,d,e,f,g,h,i),(j,k,l,m,n,o,p),q,r,s)=>
 bindE (Y:=Int×Int×Cls×Cls×zBy×Int×Bool) (ai (aa (b<a))
 (ai (!s)
 (U (ao (a,b,(c,d,e,f,g,h,i),(j,k,l,m,n,o,p),q,r,s)))
 (U (an (an (ao ((c,d,e,f,g,h,i),(j,k,l,m,n,o,p),q,r,s))))))
 (U (an (an (ao ((c,d,e,f,g,h,i),(j,k,l,m,n,o,p),q,r,s)))))) fun(a,b,(c,d,e,f,g,h,i),(j,k,l,m,n,o,p),q,r,s)=>
 ah (e_ (q,r,s)) fun(q,r,s,t)=>
 af (aa (n.length+1<=9223372036854775807)&&aa ((n.length+1)*8<=140737488355328)) (U (ao (a,wrap .i64 (b+1),(c,d,e,f,g,h,i),(j,k,l,m,n++[q],o,p),r,s,t)))) ((a,(0:Int),(b,c,d,e,f,g,h),(i,j,k,l,m,n,o),p,q,r))) fun((a,b,c,d,e,f,g),(h,i,j,k,l,m,n),o,p,q)=>
 ah (fA (o,p,q)) fun(o,p,q,r)=>
 bindE (Y:=Int×Cls×Cls×zBy×Int×Bool) (ai (aa (5<o))
 (U (ao (o,(a,b,c,d,e,f,g),(h,i,j,k,l,m,n),p,q,ae)))
 (U (ao (o,(a,b,c,d,e,f,g),(h,i,j,k,l,m,n),p,q,r)))) fun(a,(b,c,d,e,f,g,h),(i,j,k,l,m,n,o),p,q,r)=>
 bindE (Y :=  Cls×Cls×zBy×Int×Bool) (aE (fun(a,b,(c,d,e,f,g,h,i),(j,k,l,m,n,o,p),q,r,s)=>
 bindE (Y:=Int×Int×Cls×Cls×zBy×Int×Bool) (ai (aa (b<a))
 (ai (!s)
 (U (ao (a,b,(c,d,e,f,g,h,i),(j,k,l,m,n,o,p),q,r,s)))
 (U (an (an (ao ((c,d,e,f,g,h,i),(j,k,l,m,n,o,p),q,r,s))))))
 (U (an (an (ao ((c,d,e,f,g,h,i),(j,k,l,m,n,o,p),q,r,s)))))) fun(a,b,(c,d,e,f,g,h,i),(j,k,l,m,n,o,p),q,r,s)=>
 ah (fA (q,r,s)) fun(q,r,s,t)=>
 ah (e_ (r,s,t)) fun(r,s,t,u)=>
 ah (e_ (s,t,u)) fun(s,t,u,v)=>
 af (aa (o.length+1<=9223372036854775807)&&aa ((o.length+1)*24<=140737488355328)) (U (ao (a,wrap .i64 (b+1),(c,d,e,f,g,h,i),(j,k,l,m,n,o++[(q,r,s)],p),t,u,v)))) ((a,(0:Int),(b,c,d,e,f,g,h),(i,j,k,l,m,n,o),p,q,r))) fun((a,b,c,d,e,f,g),(h,i,j,k,l,m,n),o,p,q)=>
 ah (fA (o,p,q)) fun(o,p,q,r)=>
 bindE (Y:=Int×Cls×Cls×zBy×Int×Bool) (ai (aa (6<o))
 (U (ao (o,(a,b,c,d,e,f,g),(h,i,j,k,l,m,n),p,q,ae)))
 (U (ao (o,(a,b,c,d,e,f,g),(h,i,j,k,l,m,n),p,q,r)))) fun(a,(b,c,d,e,f,g,h),(i,j,k,l,m,n,o),p,q,r)=>
 bindE (Y :=  Cls×Cls×zBy×Int×Bool) (aE (fun(a,b,(c,d,e,f,g,h,i),(j,k,l,m,n,o,p),q,r,s)=>
 bindE (Y:=Int×Int×Cls×Cls×zBy×Int×Bool) (ai (aa (b<a))
 (ai (!s)
 (U (ao (a,b,(c,d,e,f,g,h,i),(j,k,l,m,n,o,p),q,r,s)))
 (U (an (an (ao ((c,d,e,f,g,h,i),(j,k,l,m,n,o,p),q,r,s))))))
 (U (an (an (ao ((c,d,e,f,g,h,i),(j,k,l,m,n,o,p),q,r,s)))))) fun(a,b,(c,d,e,f,g,h,i),(j,k,l,m,n,o,p),q,r,s)=>
 ah (xw (q,r,s)) fun((q,r,s,t,u,v,w,x),y,z,A)=>
 af (aa (p.length+1<=9223372036854775807)&&aa ((p.length+1)*104<=140737488355328)) (U (ao (a,wrap .i64 (b+1),(c,d,e,f,g,h,i),(j,k,l,m,n,o,p++[(q,r,s,t,u,v,w,x)]),y,z,A)))) ((a,(0:Int),(b,c,d,e,f,g,h),(i,j,k,l,m,n,o),p,q,r))) fun((_,_,_,_,_,_,_),(a,b,c,d,e,f,g),h,i,j)=>
 U (((a,b,c,d,e,f,g),h,i,j))
def tb50:=az 50 (aB 50 ag [(0,[])] pj TJ tu [.cell 2 36] 111 [100000]) tb118
def TQ:zTb tb50:=aC TH TP TN func50 rfl call50
abbrev CK:SPat:=⟨[(2,.ptr 2 0),(3,.b)],[.box 2 (pl eW)]⟩
def kt:zBy->Option (Bool×Cls):=fun a=>
 ai (aa (900<(a.length:Int)))
 (U ((ag,[],(0:Int),(0:Int),(0:Int),[],[],[])))
 (ah (tu (a,0,ag)) fun((b,c,d,e,f,g,h),_,i,j)=>
 ai (j)
 (U ((ag,[],(0:Int),(0:Int),(0:Int),[],[],[])))
 (ai (!aa (i=(a.length:Int)))
 (U ((ag,[],(0:Int),(0:Int),(0:Int),[],[],[])))
 (ah (mF (b,c,d,e,f,g,h)) fun i=>
 ai (!aa (i=a))
 (U ((ag,[],(0:Int),(0:Int),(0:Int),[],[],[])))
 (U ((ae,b,c,d,e,f,g,h))))))
def tb18:=az 18 (aB 18 ae [] fy CK kt [.cell 2 36,.tmp 3] 36 []) tb50
def TR:zTb tb18:=aC TQ aI aR func18 rfl call18
abbrev I2:SPat:=⟨[(0,.sl cD),(1,.sl cD)],[]⟩
abbrev TT:SPat:=⟨[(0,.sl cD),(1,.sl cD),(5,.i .i64)],[]⟩
def TU:Nat->Option SPat:=fun k=>bif k==4 then U TT else bif k==2000000 then U dH else aj
def TV:Nat->List Nat×a_:=fun id=>bif id==6 then(lN,.fin)else([],.fin)
def xx:List Cst×List Cst->Option Bool:=fun(a,b)=>
 ai (!aa ((a.length:Int)=(b.length:Int)))
 (U ag)
 (bindE (aE (fun(a,b,c)=>
 ai (aa (c<(a.length:Int)))
 (af (aa (0<=c)) (aq a c.toNat fun d=>af (aa (0<=c)) (aq b c.toNat fun e=>ai (!(aa (d.1=e.1)&&(aa (d.2.1=e.2.1)&&(aa (d.2.2.1=e.2.2.1)&&(aa (d.2.2.2=e.2.2.2)&&ae)))))
 (U (an (an ag)))
 (U (ao (a,b,wrap .i64 (c+1)))))))
 (U (an (ao ())))) ((a,b,(0:Int)))) fun _=>
 U ae)
def tb193:=az 193 (aB 193 ae [] I2 dp xx [.tmp 4] 26 []) tb18
def TW:zTb tb193:=aC TR TV TU func193 rfl call193
abbrev I3:SPat:=⟨[(0,.sl c9),(1,.sl c9)],[]⟩
abbrev TX:SPat:=⟨[(0,.sl c9),(1,.sl c9),(5,.i .i64)],[]⟩
def TY:Nat->Option SPat:=fun k=>bif k==4 then U TX else bif k==2000000 then U dH else aj
def TZ:Nat->List Nat×a_:=fun id=>bif id==6 then(lN,.fin)else([],.fin)
def tv:List Knd×List Knd->Option Bool:=fun(a,b)=>
 ai (!aa ((a.length:Int)=(b.length:Int)))
 (U ag)
 (bindE (aE (fun(a,b,c)=>
 ai (aa (c<(a.length:Int)))
 (af (aa (0<=c)) (aq a c.toNat fun d=>af (aa (0<=c)) (aq b c.toNat fun e=>ai (!(aa (d.1=e.1)&&(aa (d.2=e.2)&&ae)))
 (U (an (an ag)))
 (U (ao (a,b,wrap .i64 (c+1)))))))
 (U (an (ao ())))) ((a,b,(0:Int)))) fun _=>
 U ae)
def tb224:=az 224 (aB 224 ae [] I3 dp tv [.tmp 4] 26 []) tb193
def T0:zTb tb224:=aC TW TZ TY func224 rfl call224
abbrev T1:SPat:=⟨[(0,.sl cO),(1,.sl cO)],[]⟩
abbrev I4:SPat:=⟨[(0,.sl cO),(1,.sl cO),(5,.i .i64)],[]⟩
def T2:Nat->Option SPat:=fun k=>bif k==4 then U I4 else bif k==2000000 then U dH else bif k==2000001 then U I4 else aj
def T3:Nat->List Nat×a_:=fun id=>bif id==6 then([0,1,2,3,4,5,6,7,8,9,10,11,12,13,14,15,16,17,18,19,20,21],(.br 22 wK [] [23,24,25,26,27,28,29,30,31,32,33,34,35] (.br 36 [35,34,33,32,31,30,29,28,27,26,25,24,23,22,21,20,19,18,17,16,15,14,13,12,11,10,9,8,7,6,5,4,3,2,1,0] [] [37,38] .fin .fin) .fin))else([],.fin)
def xy:List Frm×List Frm->Option Bool:=fun(a,b)=>
 ai (!aa ((a.length:Int)=(b.length:Int)))
 (U ag)
 (bindE (aE (fun(a,b,c)=>
 ai (aa (c<(a.length:Int)))
 (bindE (Y:=List Frm×List Frm×Int) (af (aa (0<=c)) (aq a c.toNat fun d=>af (aa (0<=c)) (aq b c.toNat fun e=>ai (!aa (d.1=e.1))
 (U (an (an (an ag))))
 (af (aa (0<=c)) (aq a c.toNat fun d=>af (aa (0<=c)) (aq b c.toNat fun e=>ah (tv (d.2.1,e.2.1)) fun d=>
 ai (!d)
 (U (an (an (an ag))))
 (af (aa (0<=c)) (aq a c.toNat fun d=>af (aa (0<=c)) (aq b c.toNat fun e=>ah (tv (d.2.2,e.2.2)) fun d=>
 ai (!d)
 (U (an (an (an ag))))
 (U (ao (a,b,c)))))))))))) fun(a,b,c)=>
 U (ao (a,b,wrap .i64 (c+1))))
 (U (an (ao ())))) ((a,b,(0:Int)))) fun _=>
 U ae)
def tb215:=az 215 (aB 215 ae [] T1 dp xy [.tmp 4] 56 []) tb224
def T4:zTb tb215:=aC T0 T3 T2 func215 rfl call215
end
end Go.Proofs.YtmjlecabpbiigaaGreat
