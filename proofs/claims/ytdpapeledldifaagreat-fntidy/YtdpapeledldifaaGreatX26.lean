/- Part 27 of the proof of FnTidy; no condition. -/
import Derived.Test.YtdpapeledldifaaGreatX25
import Derived.Lib.Bytealg
import Derived.Laws.Externs
set_option autoImplicit true
set_option relaxedAutoImplicit true
set_option linter.all false
namespace Go.Proofs.YtdpapeledldifaaGreat
noncomputable section
open Go Go.AM Go.TM
open Go.Proofs.Tryz
open Sum (inl inr)
set_option maxRecDepth 100000
abbrev ti322:SPat:=⟨[(0,.s),(1,.i .u8)],[]⟩
abbrev zJG:SPat:=⟨[(2,.i .i64)],[]⟩
def F322:List UInt8×Int→Option Int:=fun(s,c)=>some (Lib.indexByte s c.toNat.toUInt8)
def te322:TEnt:=⟨322,true,[],ti322,zJG.Den,F322,fun y=>some (.i .i64 y,[])⟩
def c322:zIk Tryz.prog 322 te322.W:=by
 rintro args ob K ⟨⟨s,c⟩,y,v,obs,h1,h2,h3,h4,h5⟩
 refine AC.le h1 h2 ?_
 have h3:some (Lib.indexByte s c.toNat.toUInt8)=some y:=h3
 have h4:some (V.i .i64 y,([]:List TO))=some (v,obs):=h4
 obtain⟨rfl,rfl⟩:=Prod.mk.inj (Option.some.inj h4)
 have hy:y=Lib.indexByte s c.toNat.toUInt8:=(Option.some.inj h3).symm
 subst hy
 intro w G vs fO hlen hr hO hown
 have hr:RL w G [SV.s s,SV.i .u8 c] vs.toList zf:=hr
 have hO:ROs w G [] fO:=hO
 have hz:fO=zf:=hO
 subst hz
 have hvs:vs = #[.string ⟨s.toArray⟩,.int .u8 c]:=by
  simp only[RL,R]at hr
  obtain⟨v1,r1,f1,f2,e1,⟨_,rfl⟩,⟨v2,r2,f3,f4,e2,⟨_,rfl⟩,_,_⟩,_⟩:=hr
  have hsz:vs.toList.length=2:=hlen
  rw[e1,e2]at hsz
  have:r2=[]:=by simpa using hsz
  rw[this]at e2
  rw[e2]at e1
  exact Array.toList_inj.1 (by rw[e1])
 refine .inr ⟨.int .i64 (Lib.indexByte s c.toNat.toUInt8),w,?_,?_⟩
 ·rw[run_callFunc_extern func322 (by kernel_rfl) (by kernel_rfl) (by kernel_rfl) (e:=Extern.BytealgIndexByte.indexByte) (by kernel_rfl),hvs]
  have hrun:=Lib.run_indexByteString (P:=Tryz.prog) ⟨(s:List UInt8).toArray⟩ (c:Int) w
  exact(congrArg (fun r=>Result.andThen r fun v w'=>Result.ok (Next.value v) w') hrun).trans rfl
 ·exact⟨_,[],G,zf,zf,h5,by simp[e,R],rfl,⟨fun g=>by simp[zf],fun g _=>by simp[zf],hown.2.2.1,fun g hg=>by simp[zf]at hg⟩,fun g h=>h,fun g _ h=>.inl h,fun g _ h=>by simp[zf]at h,fun g _ _=>rfl,fun n _=>rfl,by simp[names,eOs],zLr _,rfl,rfl,rfl⟩
def tb322:=insT 322 te322 tbT0
def ok322:zTb tb322:=TbOk.ins TbOk.nil c322
end
noncomputable section
open Go Go.AM Go.TM
open Go.Proofs.Tryz
open Sum (inl inr)
set_option maxRecDepth 100000
set_option maxHeartbeats 4000000
abbrev zGT:SPat:=⟨[(0,.i .i64)],[]⟩
abbrev zEU:SPat:=⟨[(2,.s)],[]⟩
def tp274:Nat→List Nat×Plan:=fun id=>bif id==7 then([0,1,3,4,5,6],(.br 2 [1,0] [3,4,5,6] [] (.br 7 [6,5,4,3] zn0 [8,9] (.br 10 zn1 [] [] .fin .fin) .fin) (.br 7 [6,5,4,3] zn0 [8] (.br 2 [1,0] [3,4,5,6,8] [9] (.br 10 zn1 [] [] .fin .fin) .fin) .fin)))else([],.fin)
def zWD (R:zGT.Den→Option zEU.Den):TEnt:=⟨274,true,[],zGT,zEU.Den,R,resF T [.tmp 2] 28 zEU []⟩
def H274 (R274:Int→Option (List UInt8)):Int→Option (List UInt8):=fun n=>
 cndO (decide (n < -9223372036854775807))
  (some ([(45:UInt8),57,50,50,51,51,55,50,48,51,54,56,53,52,55,55,53,56,48,56]))
  (cndO (decide (n<0))
   (zAA (R274 (IntKind.wrap .i64 ((0:Int)-n))) fun y=>
   grdO (decide ((1:Nat)+List.length y≤9223372036854775807)) (some ([(45:UInt8)]++y)))
   (cndO (decide (n<10))
    (grdO (decide (0≤IntKind.wrap .u8 (IntKind.wrap .i64 ((48:Int)+n)))&&decide (IntKind.wrap .u8 (IntKind.wrap .i64 ((48:Int)+n))≤255)) (some ([UInt8.ofNat (Int.toNat (IntKind.wrap .u8 (IntKind.wrap .i64 ((48:Int)+n))))])))
    (zBK
     (zAA (R274 (IntKind.wrap .i64 (Int.tdiv n (10:Int)))) fun y=>
     seqU (seqU (grdO (decide (n=n)) (some ())) (seqU (grdO (decide (Int.tmod n (10:Int)=Int.tmod n (10:Int))) (some ())) (seqU (grdO (decide (IntKind.wrap .i64 ((48:Int)+Int.tmod n (10:Int))=IntKind.wrap .i64 ((48:Int)+Int.tmod n (10:Int)))) (some ())) (seqU (grdO (decide (IntKind.wrap .u8 (IntKind.wrap .i64 ((48:Int)+Int.tmod n (10:Int)))=IntKind.wrap .u8 (IntKind.wrap .i64 ((48:Int)+Int.tmod n (10:Int))))) (some ())) (some ()))))) (grdO (decide (0≤IntKind.wrap .u8 (IntKind.wrap .i64 ((48:Int)+Int.tmod n (10:Int))))&&decide (IntKind.wrap .u8 (IntKind.wrap .i64 ((48:Int)+Int.tmod n (10:Int)))≤255)) (seqU (seqU (grdO (decide (n=n)) (some ())) (seqU (grdO (decide (IntKind.wrap .i64 (Int.tdiv n (10:Int))=IntKind.wrap .i64 (Int.tdiv n (10:Int)))) (some ())) (some ()))) (grdO (decide (List.length y+1≤9223372036854775807)) (some (y++[UInt8.ofNat (Int.toNat (IntKind.wrap .u8 (IntKind.wrap .i64 ((48:Int)+Int.tmod n (10:Int)))))]))))))
     (grdO (decide (0≤IntKind.wrap .u8 (IntKind.wrap .i64 ((48:Int)+Int.tmod n (10:Int))))&&decide (IntKind.wrap .u8 (IntKind.wrap .i64 ((48:Int)+Int.tmod n (10:Int)))≤255)) (seqU (seqU (grdO (decide (n=n)) (some ())) (seqU (grdO (decide (IntKind.wrap .i64 (Int.tdiv n (10:Int))=IntKind.wrap .i64 (Int.tdiv n (10:Int)))) (some ())) (some ()))) (zAA (R274 (IntKind.wrap .i64 (Int.tdiv n (10:Int)))) fun y=>
     seqU (seqU (grdO (decide (n=n)) (some ())) (seqU (grdO (decide (Int.tmod n (10:Int)=Int.tmod n (10:Int))) (some ())) (seqU (grdO (decide (IntKind.wrap .i64 ((48:Int)+Int.tmod n (10:Int))=IntKind.wrap .i64 ((48:Int)+Int.tmod n (10:Int)))) (some ())) (seqU (grdO (decide (IntKind.wrap .u8 (IntKind.wrap .i64 ((48:Int)+Int.tmod n (10:Int)))=IntKind.wrap .u8 (IntKind.wrap .i64 ((48:Int)+Int.tmod n (10:Int))))) (some ())) (seqU (grdO (decide ([UInt8.ofNat (Int.toNat (IntKind.wrap .u8 (IntKind.wrap .i64 ((48:Int)+Int.tmod n (10:Int)))))]=[UInt8.ofNat (Int.toNat (IntKind.wrap .u8 (IntKind.wrap .i64 ((48:Int)+Int.tmod n (10:Int)))))])) (some ())) (some ())))))) (grdO (decide (List.length y+1≤9223372036854775807)) (some (y++[UInt8.ofNat (Int.toNat (IntKind.wrap .u8 (IntKind.wrap .i64 ((48:Int)+Int.tmod n (10:Int)))))])))))))))
def r274 (R274:Int→Option (List UInt8))(x:Int):funT T (insT 274 (zWD R274) tb322) tp274 28 noIv (bodyOf Tryz.f274) zGT zEU x=H274 R274 x:=by kernel_rfl
def G274:Nat→Int→Option (List UInt8)
 |0=>fun _=>none
 |n+1=>H274 (G274 n)
def cR274:∀n,zIk Tryz.prog 274 (zWD (G274 n)).W
 |0=>fun args ob K ⟨x,y,v,obs,h1,h2,h3,_⟩=>by cases h3
 |n+1=>zXO (TbOk.ins ok322 (cR274 n)) layOk mixed true [] zGT zEU [] tp274 noIv func274 rfl results274 ntmps274 (by kernel_rfl) (by kernel_rfl) call274 (G274 (n+1)) fun x _ h=>(r274 (G274 n) x).trans h
def F274:Int→Option (List UInt8):=G274 24
def te274:TEnt:=zWD F274
def tb274:=insT 274 te274 tb322
def ok274:zTb tb274:=TbOk.ins ok322 (cR274 24)
end
noncomputable section
open Go Go.AM Go.TM
open Go.Proofs.Tryz
open Sum (inl inr)
open Go.IntKind (wrap)
set_option maxRecDepth 100000
set_option maxHeartbeats 4000000
abbrev ti49:SPat:=⟨[(0,.sl .byte)],[]⟩
abbrev to49:SPat:=⟨[(2,.ptr 10 0)],[.box 10 (pl plR)]⟩
def F49:zBy→Option (zBy×Int):=fun a=>
 cndO (decide (2000<(a.length:Int)))
 (grdO (decide (2000≤(a.length:Int))) (some ((List.drop (0:Nat) (List.take (2000:Nat) a),(0:Int)))))
 (some ((a,(0:Int))))
def tb49:=insT 49 (mkE 49 false [] ti49 to49 F49 [.tmp 2] 11 [10]) tb274
def ok49:zTb tb49:=okI ok274 noPl noIv func49 rfl call49
abbrev ti51:SPat:=⟨[(0,.ptr 100000 0),(1,.i .i64)],zo0⟩
abbrev to51:SPat:=⟨[(4,.i .i64)],zo0⟩
def tv51:Nat→Option SPat:=fun k=>bif k==1000004 then some ti51 else none
def tp51:Nat→List Nat×Plan:=fun id=>bif id==7 then([0,1,2,3,4,5,6,7,8,9,10,11,12,13,14,15,16,17,18,19,20,21,22,23,24,25,26,27,28,29,30,31,32,33,34,35,36,37,38,39,40,41,42,43,44],(.br 45 [44,43,42,41,40,39,38,37,36,35,34,33,32,31,30,29,28,27,26,25,24,23,22,21,20,19,18,17,16,15,14,13,12,11,10,9,8,7,6,5,4,3,2,1,0] [] [] .fin .fin))else([],.fin)
def F51:Int×zBy×Int→Option (Int×zBy×Int):=fun(a,b,c)=>
 bindE (Y:=Int×zBy×Int) (cndO (decide (a<1))
 (some (inr (0,b,wrap .i64 (c+1))))
 (cndO (decide ((b.length:Int)=0))
 (some (inr (0,b,wrap .i64 (c+1))))
 (some (inl (a,b,wrap .i64 (c+1)))))) fun(a,b,c)=>
 cndO (decide (wrap .i64 (c-1)<(b.length:Int)))
 (grdO (decide (0≤wrap .i64 (c-1))) (atO b (Int.toNat (wrap .i64 (c-1))) fun d=>grdO (!decide (a=0)) (some ((Int.tmod (wrap .i64 (d.toNat:Int)) a,b,c)))))
 (grdO (!decide ((b.length:Int)=0)) (grdO (decide (0≤Int.tmod (wrap .i64 (c-1)) (b.length:Int))) (atO b (Int.toNat (Int.tmod (wrap .i64 (c-1)) (b.length:Int))) fun d=>grdO (!decide ((b.length:Int)=0)) (grdO (decide (0≤Int.tmod (wrap .i64 (wrap .i64 (wrap .i64 (c-1)*7)+3)) (b.length:Int))) (atO b (Int.toNat (Int.tmod (wrap .i64 (wrap .i64 (wrap .i64 (c-1)*7)+3)) (b.length:Int))) fun e=>grdO (!decide ((b.length:Int)=0)) (grdO (!decide (a=0)) (some ((Int.tmod (xorI IntKind.i64 (wrap .i64 (wrap .i64 (wrap .i64 (wrap .i64 (wrap .i64 (d.toNat:Int)*131)+wrap .i64 (wrap .i64 (e.toNat:Int)*1117))+wrap .i64 (wrap .i64 (c-1)*29))+wrap .i64 (wrap .i64 (Int.tdiv (wrap .i64 (c-1)) (b.length:Int))*53))) (wrap .i64 (Int.tdiv (wrap .i64 (wrap .i64 (wrap .i64 (wrap .i64 (wrap .i64 (d.toNat:Int)*131)+wrap .i64 (wrap .i64 (e.toNat:Int)*1117))+wrap .i64 (wrap .i64 (c-1)*29))+wrap .i64 (wrap .i64 (Int.tdiv (wrap .i64 (c-1)) (b.length:Int))*53))) (64:Int)))) a,b,c)))))))))
def tb51:=insT 51 (mkE 51 false [(0,[])] ti51 to51 F51 [.tmp 4] 99 [100000]) tb49
def ok51:zTb tb51:=okI ok49 tp51 tv51 func51 rfl call51
abbrev ti119:SPat:=⟨[(0,.ptr 100000 0),(1,.sl .str)],zo0⟩
abbrev to119:SPat:=⟨[(4,.s)],zo0⟩
def F119:List zBy×zBy×Int→Option (zBy×zBy×Int):=fun(a,b,c)=>
 zAA (F51 ((a.length:Int),b,c)) fun(b,c,d)=>
 grdO (decide (0≤b)) (atO a b.toNat fun a=>some ((a,c,d)))
def tb119:=insT 119 (mkE 119 false [(0,[])] ti119 to119 F119 [.tmp 4] 12 [100000]) tb51
def ok119:zTb tb119:=okI ok51 noPl noIv func119 rfl call119
abbrev zCA:SPat:=⟨[],[]⟩
abbrev to302:SPat:=⟨[(0,.own .str true)],[]⟩
def F302:PUnit→Option (List zBy):=fun _=>
 some ([[(110:UInt8),111,112],[(112:UInt8),117,115,104],[(110:UInt8),117,108,108],[(108:UInt8),111,97,100],[(115:UInt8),116,111,114,101],[(114:UInt8),101,102,108,111,97,100],[(114:UInt8),101,102,115,116,111,114,101],[(112:UInt8),111,112],[(100:UInt8),117,112],[(115:UInt8),119,97,112],[(97:UInt8),100,100],[(115:UInt8),117,98],[(109:UInt8),117,108],[(100:UInt8),105,118],[(105:UInt8),102,122,101,114,111],[(105:UInt8),102,110,101,103],[(105:UInt8),102,110,117,108,108],[(105:UInt8),102,115,97,109,101],[(103:UInt8),111],[(110:UInt8),101,119],[(103:UInt8),101,116],[(112:UInt8),117,116],[(103:UInt8),101,116,97,108,108],[(112:UInt8),117,116,97,108,108],[(118:UInt8),105,114,116,117,97,108],[(115:UInt8),112,101,99,105,97,108],[(115:UInt8),116,97,116,105,99],[(102:UInt8),97,99,101],[(99:UInt8),97,115,116],[(105:UInt8),115],[(103:UInt8),105,118,101,105,110,116],[(103:UInt8),105,118,101,114,101,102],[(103:UInt8),105,118,101],[(116:UInt8),104,114,111,119],[(112:UInt8),114,105,110,116]])
def tb302:=insT 302 (mkE 302 true [] zCA to302 F302 [.tmp 0] 2 []) tb119
def ok302:zTb tb302:=okI ok119 noPl noIv func302 rfl call302
abbrev ti278:SPat:=⟨[(0,.s),(1,.i .u8),(2,.i .i64)],[]⟩
abbrev to278:SPat:=⟨[(6,.own .str true)],[]⟩
abbrev zQx:SPat:=⟨[(0,.s),(1,.i .u8),(2,.i .i64),(7,.own .str true),(8,.i .i64),(9,.i .i64)],[]⟩
abbrev zMZ:SPat:=⟨[(0,.s),(7,.own .str true),(8,.i .i64)],[]⟩
def tv278:Nat→Option SPat:=fun k=>bif k==4 then some zQx else bif k==1000006 then some zQx else bif k==2000000 then some zMZ else bif k==2000001 then some zQx else none
def F278:zBy×Int×Int→Option (List zBy):=fun(a,b,c)=>
 bindE (Y:=zBy×List zBy×Int) (zAE (fun(a,b,c,d,e,f)=>
 bindE (Y:=zBy×Int×Int×List zBy×Int×Int) (cndO (decide (f<(a.length:Int)))
 (cndO (decide ((d.length:Int)<c))
 (some (inl (a,b,c,d,e,f)))
 (some (inr (inr (inl (a,d,e))))))
 (some (inr (inr (inl (a,d,e)))))) fun(a,b,c,d,e,f)=>
 bindE (Y:=zBy×Int×Int×List zBy×Int×Int) (grdO (decide (0≤f)) (atO a f.toNat fun g=>cndO (decide ((g.toNat:Int)=b))
 (grdO (decide (0≤e)&&decide (e≤f)&&decide (f≤(a.length:Int))) (grdO (decide (d.length+1≤9223372036854775807)&&decide ((d.length+1)*16≤140737488355328)) (some (inl (a,b,c,d++[List.drop e.toNat (List.take f.toNat a)],wrap .i64 (f+1),f)))))
 (some (inl (a,b,c,d,e,f))))) fun(a,b,c,d,e,f)=>
 some (inl (a,b,c,d,e,wrap .i64 (f+1)))) ((a,b,c,[],(0:Int),(0:Int)))) fun(a,b,c)=>
 grdO (decide (0≤c)&&decide (c≤(a.length:Int))&&decide ((a.length:Int)≤(a.length:Int))) (grdO (decide (b.length+1≤9223372036854775807)&&decide ((b.length+1)*16≤140737488355328)) (some (b++[List.drop c.toNat (List.take (Int.toNat (a.length:Int)) a)])))
def tb278:=insT 278 (mkE 278 true [] ti278 to278 F278 [.tmp 6] 43 []) tb302
def ok278:zTb tb278:=okI ok302 noPl tv278 func278 rfl call278
abbrev ti301:SPat:=⟨[(0,.sl .str),(1,.s)],[]⟩
abbrev zNR:SPat:=⟨[(4,.i .i64)],[]⟩
abbrev ts301_2:SPat:=⟨[(0,.sl .str),(1,.s),(5,.i .i64)],[]⟩
def tv301:Nat→Option SPat:=fun k=>bif k==2 then some ts301_2 else bif k==2000000 then some zCA else none
def F301:List zBy×zBy→Option Int:=fun(a,b)=>
 bindE (zAE (fun(a,b,c)=>
 cndO (decide (c<(a.length:Int)))
 (grdO (decide (0≤c)) (atO a c.toNat fun d=>cndO (decide (d=b))
 (some (inr (inr c)))
 (some (inl (a,b,wrap .i64 (c+1))))))
 (some (inr (inl ())))) ((a,b,(0:Int)))) fun _=>
 some ((-1:Int))
def tb301:=insT 301 (mkE 301 true [] ti301 zNR F301 [.tmp 4] 19 []) tb278
def ok301:zTb tb301:=okI ok278 noPl tv301 func301 rfl call301
abbrev ti107:SPat:=⟨[(0,.i .i64),(1,.i .i64),(2,.i .i64)],[]⟩
abbrev zKj:SPat:=⟨[(6,.b)],[]⟩
def F107:Int×Int×Int→Option Bool:=fun(a,b,c)=>
 cndO (decide (b≤a))
 (some (decide (a≤c)))
 (some false)
def tb107:=insT 107 (mkE 107 true [] ti107 zKj F107 [.tmp 6] 15 []) tb301
def ok107:zTb tb107:=okI ok301 noPl noIv func107 rfl call107
def tv251:Nat→Option SPat:=fun k=>bif k==2000000 then some zGT else none
def F251:Int→Option Int:=fun a=>
 bindE (cndO (decide (a=1))
 (some (inr (2:Int)))
 (cndO (decide (a=3))
 (some (inr (1:Int)))
 (cndO (decide (a=4))
 (some (inr (1:Int)))
 (cndO (decide (a=5))
 (some (inr (1:Int)))
 (cndO (decide (a=6))
 (some (inr (1:Int)))
 (some (inl a))))))) fun a=>
 zAA (F107 (a,14,18)) fun b=>
 cndO (b)
 (some ((2:Int)))
 (zAA (F107 (a,19,29)) fun b=>
 cndO (b)
 (some ((2:Int)))
 (zAA (F107 (a,0,34)) fun a=>
 cndO (a)
 (some ((0:Int)))
 (some ((-1:Int)))))
def tb251:=insT 251 (mkE 251 true [] zGT zJG F251 [.tmp 2] 19 []) tb107
def ok251:zTb tb251:=okI ok107 noPl tv251 func251 rfl call251
abbrev ti273:SPat:=⟨[(0,.ptr 100000 0),(1,.s)],zo1⟩
abbrev zIc:SPat:=⟨[],zo1⟩
def tp273:Nat→List Nat×Plan:=fun id=>bif id==1 then([0,1,2,3,4,5,7],(.br 6 [] [0,1,2,3,4,5,7] [] (.br 8 [7,6] zn2 [9,10] (.br 11 [10,9,8,7,6] zn2 [] (.br 12 [11,10,9,8,7,6] zn2 [13,14,15] (.br 16 zn3 [] [] .fin .fin) .fin) .fin) .fin) .fin))else([],.fin)
def F273:zBy×(zBy×zBy×zBy×Int×zBy)×zBy×Int→Option ((zBy×zBy×zBy×Int×zBy)×zBy×Int):=fun(a,(b,c,d,e,f),g,h)=>
 grdO (decide (b.length+2≤9223372036854775807)) (grdO (decide (List.length (b++[(32:UInt8),32])+a.length≤9223372036854775807)) (grdO (decide (List.length (b++[(32:UInt8),32]++a)+1≤9223372036854775807)) (zAA (F302 ()) fun i=>
 seqU (seqU (grdO (decide (e=e)) (some ())) (seqU (grdO (decide (wrap .i64 (e+1)=wrap .i64 (e+1))) (some ())) (seqU (grdO (decide (a=a)) (some ())) (some ())))) (zAA (F278 (a,32,1)) fun j=>
 seqU (seqU (grdO (decide (e=e)) (some ())) (seqU (grdO (decide (wrap .i64 (e+1)=wrap .i64 (e+1))) (some ())) (some ()))) (atO j 0 fun j=>zAA (F301 (i,j)) fun i=>
 seqU (seqU (grdO (decide (e=e)) (some ())) (seqU (grdO (decide (wrap .i64 (e+1)=wrap .i64 (e+1))) (some ())) (some ()))) (zAA (F251 i) fun i=>
 seqU (seqU (grdO (decide (e=e)) (some ())) (seqU (grdO (decide (wrap .i64 (e+1)=wrap .i64 (e+1))) (some ())) (some ()))) (some (((b++[(32:UInt8),32]++a++[(10:UInt8)],c,d,wrap .i64 (wrap .i64 (e+1)+i),f),g,h)))))))))
def tb273:=insT 273 (mkE 273 false [(0,[]),(0,[0])] ti273 zIc F273 [] 31 [100000,100001]) tb251
def ok273:zTb tb273:=okI ok251 tp273 noIv func273 rfl call273
abbrev zRH:SPat:=⟨[(0,.ptr 100000 0)],zo1⟩
abbrev to277:SPat:=⟨[(2,.s)],zo1⟩
def F277:(zBy×zBy×zBy×Int×zBy)×zBy×Int→Option (zBy×(zBy×zBy×zBy×Int×zBy)×zBy×Int):=fun((a,b,c,d,e),f,g)=>
 zAA (F51 (3,f,g)) fun(f,g,h)=>
 zAA (F274 f) fun f=>
 some ((f,(a,b,c,d,e),g,h))
def tb277:=insT 277 (mkE 277 false [(0,[]),(0,[0])] zRH to277 F277 [.tmp 2] 9 [100000,100001]) tb273
def ok277:zTb tb277:=okI ok273 noPl noIv func277 rfl call277
abbrev ti105:SPat:=⟨[(0,.ptr 100000 0),(1,.sl (.int .i64))],zo0⟩
def F105:List Int×zBy×Int→Option (Int×zBy×Int):=fun(a,b,c)=>
 zAA (F51 ((a.length:Int),b,c)) fun(b,c,d)=>
 grdO (decide (0≤b)) (atO a b.toNat fun a=>some ((a,c,d)))
def tb105:=insT 105 (mkE 105 false [(0,[])] ti105 to51 F105 [.tmp 4] 12 [100000]) tb277
def ok105:zTb tb105:=okI ok277 noPl noIv func105 rfl call105
def tv303:Nat→Option SPat:=fun k=>bif k==2000000 then some zIc else none
def F303:(zBy×zBy×zBy×Int×zBy)×zBy×Int→Option ((zBy×zBy×zBy×Int×zBy)×zBy×Int):=fun((a,b,c,d,e),f,g)=>let h:=[(114:UInt8),101,102,108,111,97,100,32];let i:=[(112:UInt8),117,115,104,32];zAA (F51 (6,f,g)) fun(f,g,j)=>
 bindE (Y:=(zBy×zBy×zBy×Int×zBy)×zBy×Int) (cndO (decide (f=0))
 (zAA (F277 ((a,b,c,d,e),g,j)) fun(a,(b,c,d,e,f),g,i)=>
 grdO (decide ((8:Nat)+a.length≤9223372036854775807)) (zAA (F273 (h++a,(b,c,d,e,f),g,i)) fun((a,b,c,d,e),f,g)=>
 zAA (F273 ([(103:UInt8),101,116,32,65,32,120,32,73],(a,b,c,d,e),f,g)) fun((a,b,c,d,e),f,g)=>
 some (inl ((a,b,c,d,e),f,g))))
 (cndO (decide (f=1))
 (zAA (F277 ((a,b,c,d,e),g,j)) fun(a,(b,c,d,e,f),g,i)=>
 grdO (decide ((8:Nat)+a.length≤9223372036854775807)) (zAA (F273 (h++a,(b,c,d,e,f),g,i)) fun((a,b,c,d,e),f,g)=>
 zAA (F273 ([(118:UInt8),105,114,116,117,97,108,32,65,32,103,101,116,32,40,41,73],(a,b,c,d,e),f,g)) fun((a,b,c,d,e),f,g)=>
 some (inl ((a,b,c,d,e),f,g))))
 (cndO (decide (f=2))
 (zAA (F273 ([(103:UInt8),101,116,97,108,108,32,65,32,115,32,73],(a,b,c,d,e),g,j)) fun((a,b,c,d,e),f,g)=>
 some (inl ((a,b,c,d,e),f,g)))
 (cndO (decide (f=3))
 (zAA (F105 ([(0:Int),1,2,7,32767,(-32768:Int),(-1:Int)],g,j)) fun(f,g,h)=>
 zAA (F274 f) fun f=>
 grdO (decide ((5:Nat)+f.length≤9223372036854775807)) (zAA (F273 (i++f,(a,b,c,d,e),g,h)) fun((a,b,c,d,e),f,g)=>
 zAA (F105 ([(0:Int),1,3,(-2:Int)],f,g)) fun(f,g,h)=>
 zAA (F274 f) fun f=>
 grdO (decide ((5:Nat)+f.length≤9223372036854775807)) (zAA (F273 (i++f,(a,b,c,d,e),g,h)) fun((a,b,c,d,e),f,g)=>
 zAA (F119 ([[(97:UInt8),100,100],[(115:UInt8),117,98],[(109:UInt8),117,108],[(100:UInt8),105,118]],f,g)) fun(f,g,h)=>
 zAA (F273 (f,(a,b,c,d,e),g,h)) fun((a,b,c,d,e),f,g)=>
 some (inl ((a,b,c,d,e),f,g)))))
 (zAA (F105 ([(0:Int),1,2,5,(-1:Int),(100:Int)],g,j)) fun(f,g,h)=>
 zAA (F274 f) fun f=>
 grdO (decide ((5:Nat)+f.length≤9223372036854775807)) (zAA (F273 (i++f,(a,b,c,d,e),g,h)) fun((a,b,c,d,e),f,g)=>
 some (inl ((a,b,c,d,e),f,g)))))))) fun((a,b,c,d,e),f,g)=>
 some (((a,b,c,d,e),f,g))
def tb303:=insT 303 (mkE 303 false [(0,[]),(0,[0])] zRH zIc F303 [] 59 [100000,100001]) tb105
def ok303:zTb tb303:=okI ok105 noPl tv303 func303 rfl call303
abbrev zMI:SPat:=⟨[(0,.ptr 100000 0),(2,.ptr 100001 0),(8,.i .i64),(15,.b)],zo1⟩
def tv304:Nat→Option SPat:=fun k=>bif k==1000007 then some zMI else bif k==2000000 then some zIc else none
def F304:(zBy×zBy×zBy×Int×zBy)×zBy×Int→Option ((zBy×zBy×zBy×Int×zBy)×zBy×Int):=fun((a,b,c,d,e),f,g)=>let h:=[(114:UInt8),101,102,108,111,97,100,32];zAA (F51 (10,f,g)) fun(f,g,i)=>
 bindE (Y:=(zBy×zBy×zBy×Int×zBy)×zBy×Int) (cndO (decide (f=0))
 (zAA (F273 ([(110:UInt8),117,108,108],(a,b,c,d,e),g,i)) fun((a,b,c,d,e),f,g)=>
 some (inl ((a,b,c,d,e),f,g)))
 (bindE (Y:=Int×Bool×(zBy×zBy×zBy×Int×zBy)×zBy×Int) (cndO (decide (f=1))
 (some (inl (f,true,(a,b,c,d,e),g,i)))
 (some (inl (f,decide (f=2),(a,b,c,d,e),g,i)))) fun(a,b,(c,d,e,f,g),i,j)=>
 cndO (b)
 (zAA (F273 ([(110:UInt8),101,119,32,66],(c,d,e,f,g),i,j)) fun((a,b,c,d,e),f,g)=>
 some (inl ((a,b,c,d,e),f,g)))
 (cndO (decide (a=3))
 (zAA (F273 ([(115:UInt8),116,97,116,105,99,32,65,32,109,107,32,40,41,76,65,59],(c,d,e,f,g),i,j)) fun((a,b,c,d,e),f,g)=>
 some (inl ((a,b,c,d,e),f,g)))
 (cndO (decide (a=4))
 (zAA (F277 ((c,d,e,f,g),i,j)) fun(a,(b,c,d,e,f),g,i)=>
 grdO (decide ((8:Nat)+a.length≤9223372036854775807)) (zAA (F273 (h++a,(b,c,d,e,f),g,i)) fun((a,b,c,d,e),f,g)=>
 zAA (F119 ([[(66:UInt8)],[(65:UInt8)],[(67:UInt8)],[(70:UInt8)]],f,g)) fun(f,g,h)=>
 grdO (decide ((5:Nat)+f.length≤9223372036854775807)) (zAA (F273 ([(99:UInt8),97,115,116,32]++f,(a,b,c,d,e),g,h)) fun((a,b,c,d,e),f,g)=>
 some (inl ((a,b,c,d,e),f,g)))))
 (cndO (decide (a=5))
 (zAA (F277 ((c,d,e,f,g),i,j)) fun(a,(b,c,d,e,f),g,i)=>
 grdO (decide ((8:Nat)+a.length≤9223372036854775807)) (zAA (F273 (h++a,(b,c,d,e,f),g,i)) fun((a,b,c,d,e),f,g)=>
 zAA (F273 ([(118:UInt8),105,114,116,117,97,108,32,65,32,110,101,120,116,32,40,41,76,65,59],(a,b,c,d,e),f,g)) fun((a,b,c,d,e),f,g)=>
 some (inl ((a,b,c,d,e),f,g))))
 (cndO (decide (a=6))
 (zAA (F119 ([[(67:UInt8)],[(65:UInt8)],[(79:UInt8),98,106],[(70:UInt8)]],i,j)) fun(a,b,h)=>
 grdO (decide ((4:Nat)+a.length≤9223372036854775807)) (zAA (F273 ([(110:UInt8),101,119,32]++a,(c,d,e,f,g),b,h)) fun((a,b,c,d,e),f,g)=>
 some (inl ((a,b,c,d,e),f,g))))
 (zAA (F273 ([(110:UInt8),101,119,32,65],(c,d,e,f,g),i,j)) fun((a,b,c,d,e),f,g)=>
 some (inl ((a,b,c,d,e),f,g))))))))) fun((a,b,c,d,e),f,g)=>
 some (((a,b,c,d,e),f,g))
def tb304:=insT 304 (mkE 304 false [(0,[]),(0,[0])] zRH zIc F304 [] 54 [100000,100001]) tb303
def ok304:zTb tb304:=okI ok303 noPl tv304 func304 rfl call304
def tp308:Nat→List Nat×Plan:=fun id=>bif id==1 then(zn4,(.br 16 zn3 [] [] .fin .fin))else([],.fin)
def F308:(zBy×zBy×zBy×Int×zBy)×zBy×Int→Option (zBy×(zBy×zBy×zBy×Int×zBy)×zBy×Int):=fun((a,b,c,d,e),f,g)=>let h:=[(44:UInt8)];grdO (decide (e.length+1≤9223372036854775807)) (grdO (decide (List.length (e++h)+e.length≤9223372036854775807)) (grdO (decide (List.length (e++h++e)+1≤9223372036854775807)) (grdO (decide (List.length (e++h++e++h)+e.length≤9223372036854775807)) (some ((e++h++e++h++e,(a,b,c,d,e),f,g))))))
def tb308:=insT 308 (mkE 308 false [(0,[]),(0,[0])] zRH to277 F308 [.tmp 2] 19 [100000,100001]) tb304
def ok308:zTb tb308:=okI ok304 tp308 noIv func308 rfl call308
abbrev ti307:SPat:=⟨[(0,.ptr 100000 0),(1,.s),(2,.s)],zo1⟩
def tp307:Nat→List Nat×Plan:=fun id=>bif id==0 then([0,1,2,3,4,5,6,7,8,9,13,16],(.br 10 [9,8,7,6] [0,1,2,3,4,5,13,16] [11,12,14,15,17,18,19,20] (.br 21 zn5 [] [] .fin .fin) .fin))else([],.fin)
def F307:zBy×zBy×(zBy×zBy×zBy×Int×zBy)×zBy×Int→Option ((zBy×zBy×zBy×Int×zBy)×zBy×Int):=fun(a,b,(c,d,e,f,g),h,i)=>let j:=[(102:UInt8),114,97,109,101,32];let k:=[(32:UInt8)];grdO (decide (e.length+6≤9223372036854775807)) (zAA (F274 f) fun l=>
 seqU (seqU (grdO (decide (e=e)) (some ())) (seqU (grdO (decide (e.length+6≤9223372036854775807)) (grdO (decide (e++j=e++j)) (some ()))) (seqU (grdO (decide (a=a)) (some ())) (seqU (grdO (decide (b=b)) (some ())) (some ()))))) (grdO (decide (List.length (e++j)+l.length≤9223372036854775807)) (grdO (decide (List.length (e++j++l)+1≤9223372036854775807)) (grdO (decide (List.length (e++j++l++k)+a.length≤9223372036854775807)) (grdO (decide (List.length (e++j++l++k++a)+1≤9223372036854775807)) (grdO (decide (List.length (e++j++l++k++a++k)+b.length≤9223372036854775807)) (grdO (decide (List.length (e++j++l++k++a++k++b)+1≤9223372036854775807)) (some (((c,d,e++j++l++k++a++k++b++[(10:UInt8)],f,g),h,i))))))))))
def tb307:=insT 307 (mkE 307 false [(0,[]),(0,[0])] ti307 zIc F307 [] 27 [100000,100001]) tb308
def ok307:zTb tb307:=okI ok308 tp307 noIv func307 rfl call307
abbrev zMH:SPat:=⟨[(0,.ptr 100000 0),(2,.ptr 100001 0),(3,.s)],zo1⟩
def tv305:Nat→Option SPat:=fun k=>bif k==2000000 then some zMH else none
def F305:(zBy×zBy×zBy×Int×zBy)×zBy×Int→Option ((zBy×zBy×zBy×Int×zBy)×zBy×Int):=fun((a,b,c,d,e),f,g)=>let h:=[(114:UInt8),101,102,108,111,97,100,32];let i:=[(105:UInt8),102,110,117,108,108];let j:=[(105:UInt8),102,115,97,109,101];let k:=[(46:UInt8)];zAA (F119 ([[(105:UInt8),102,122,101,114,111],[(105:UInt8),102,110,101,103],i,j],f,g)) fun(f,g,l)=>
 bindE (Y:=zBy×(zBy×zBy×zBy×Int×zBy)×zBy×Int) (cndO (decide (f=i))
 (zAA (F277 ((a,b,c,d,e),g,l)) fun(a,(b,c,d,e,g),i,j)=>
 grdO (decide ((8:Nat)+a.length≤9223372036854775807)) (zAA (F273 (h++a,(b,c,d,e,g),i,j)) fun((a,b,c,d,e),g,h)=>
 some (inl (f,(a,b,c,d,e),g,h))))
 (cndO (decide (f=j))
 (zAA (F277 ((a,b,c,d,e),g,l)) fun(a,(b,c,d,e,g),i,j)=>
 grdO (decide ((8:Nat)+a.length≤9223372036854775807)) (zAA (F273 (h++a,(b,c,d,e,g),i,j)) fun((a,b,c,d,e),g,i)=>
 zAA (F277 ((a,b,c,d,e),g,i)) fun(a,(b,c,d,e,g),i,j)=>
 grdO (decide ((8:Nat)+a.length≤9223372036854775807)) (zAA (F273 (h++a,(b,c,d,e,g),i,j)) fun((a,b,c,d,e),g,h)=>
 some (inl (f,(a,b,c,d,e),g,h)))))
 (zAA (F303 ((a,b,c,d,e),g,l)) fun((a,b,c,d,e),g,h)=>
 some (inl (f,(a,b,c,d,e),g,h))))) fun(a,(b,c,d,e,f),g,h)=>
 grdO (decide (a.length+1≤9223372036854775807)) (zAA (F274 (wrap .i64 (wrap .i64 (e+3)+4))) fun i=>
 grdO (decide (List.length (a++[(32:UInt8)])+i.length≤9223372036854775807)) (zAA (F273 (a++[(32:UInt8)]++i,(b,c,d,e,f),g,h)) fun((a,b,c,d,e),f,g)=>
 zAA (F273 ([(112:UInt8),117,115,104,32,53,48],(a,b,c,d,e),f,g)) fun((a,b,c,d,e),f,g)=>
 zAA (F273 ([(112:UInt8),114,105,110,116],(a,b,c,d,e),f,g)) fun((a,b,c,d,e),f,g)=>
 zAA (F308 ((a,b,c,d,e),f,g)) fun(a,(b,c,d,e,f),g,h)=>
 zAA (F119 ([k,k,k,k,k,k,k,[(73:UInt8)]],g,h)) fun(g,h,i)=>
 zAA (F307 (a,g,(b,c,d,e,f),h,i)) fun((a,b,c,d,e),f,g)=>
 some (((a,b,c,d,e),f,g))))
def tb305:=insT 305 (mkE 305 false [(0,[]),(0,[0])] zRH zIc F305 [] 58 [100000,100001]) tb307
def ok305:zTb tb305:=okI ok307 noPl tv305 func305 rfl call305
def tv306:Nat→Option SPat:=fun k=>bif k==2000000 then some zIc else none
def F306:(zBy×zBy×zBy×Int×zBy)×zBy×Int→Option ((zBy×zBy×zBy×Int×zBy)×zBy×Int):=fun((a,b,c,d,e),f,g)=>let h:=[(114:UInt8),101,102,115,116,111,114,101,32];let i:=[(114:UInt8),101,102,108,111,97,100,32];let j:=[(112:UInt8),114,105,110,116];zAA (F51 (5,f,g)) fun(f,g,k)=>
 bindE (Y:=(zBy×zBy×zBy×Int×zBy)×zBy×Int) (cndO (decide (f=0))
 (zAA (F277 ((a,b,c,d,e),g,k)) fun(a,(b,c,d,e,f),g,h)=>
 grdO (decide ((8:Nat)+a.length≤9223372036854775807)) (zAA (F273 (i++a,(b,c,d,e,f),g,h)) fun((a,b,c,d,e),f,g)=>
 zAA (F273 ([(115:UInt8),116,97,116,105,99,32,85,32,101,97,116,32,40,76,65,59,41,73],(a,b,c,d,e),f,g)) fun((a,b,c,d,e),f,g)=>
 zAA (F273 (j,(a,b,c,d,e),f,g)) fun((a,b,c,d,e),f,g)=>
 some (inl ((a,b,c,d,e),f,g))))
 (cndO (decide (f=1))
 (zAA (F273 ([(115:UInt8),116,97,116,105,99,32,85,32,109,97,107,101,32,40,41,76,65,59],(a,b,c,d,e),g,k)) fun((a,b,c,d,e),f,g)=>
 zAA (F277 ((a,b,c,d,e),f,g)) fun(a,(b,c,d,e,f),g,i)=>
 grdO (decide ((9:Nat)+a.length≤9223372036854775807)) (zAA (F273 (h++a,(b,c,d,e,f),g,i)) fun((a,b,c,d,e),f,g)=>
 some (inl ((a,b,c,d,e),f,g))))
 (cndO (decide (f=2))
 (zAA (F273 ([(103:UInt8),101,116,97,108,108,32,85,32,97,32,76,65,59],(a,b,c,d,e),g,k)) fun((a,b,c,d,e),f,g)=>
 zAA (F277 ((a,b,c,d,e),f,g)) fun(a,(b,c,d,e,f),g,i)=>
 grdO (decide ((9:Nat)+a.length≤9223372036854775807)) (zAA (F273 (h++a,(b,c,d,e,f),g,i)) fun((a,b,c,d,e),f,g)=>
 some (inl ((a,b,c,d,e),f,g))))
 (cndO (decide (f=3))
 (zAA (F277 ((a,b,c,d,e),g,k)) fun(a,(b,c,d,e,f),g,h)=>
 grdO (decide ((8:Nat)+a.length≤9223372036854775807)) (zAA (F273 (i++a,(b,c,d,e,f),g,h)) fun((a,b,c,d,e),f,g)=>
 zAA (F273 ([(112:UInt8),117,116,97,108,108,32,85,32,97,32,76,65,59],(a,b,c,d,e),f,g)) fun((a,b,c,d,e),f,g)=>
 some (inl ((a,b,c,d,e),f,g))))
 (zAA (F273 ([(110:UInt8),101,119,32,67],(a,b,c,d,e),g,k)) fun((a,b,c,d,e),f,g)=>
 zAA (F277 ((a,b,c,d,e),f,g)) fun(a,(b,c,d,e,f),g,h)=>
 grdO (decide ((8:Nat)+a.length≤9223372036854775807)) (zAA (F273 (i++a,(b,c,d,e,f),g,h)) fun((a,b,c,d,e),f,g)=>
 zAA (F273 ([(102:UInt8),97,99,101,32,70,32,116,97,107,101,32,40,76,65,59,41,73],(a,b,c,d,e),f,g)) fun((a,b,c,d,e),f,g)=>
 zAA (F273 (j,(a,b,c,d,e),f,g)) fun((a,b,c,d,e),f,g)=>
 some (inl ((a,b,c,d,e),f,g)))))))) fun((a,b,c,d,e),f,g)=>
 some (((a,b,c,d,e),f,g))
def tb306:=insT 306 (mkE 306 false [(0,[]),(0,[0])] zRH zIc F306 [] 58 [100000,100001]) tb305
def ok306:zTb tb306:=okI ok305 noPl tv306 func306 rfl call306
abbrev zMd:SPat:=⟨[(0,.ptr 100000 0),(2,.ptr 100001 0),(8,.i .i64),(11,.b)],zo1⟩
abbrev zMb:SPat:=⟨[(0,.ptr 100000 0),(2,.ptr 100001 0),(8,.i .i64),(18,.b)],zo1⟩
def tv275:Nat→Option SPat:=fun k=>bif k==1000005 then some zMd else bif k==1000010 then some zMb else bif k==2000000 then some zIc else none
def F275:(zBy×zBy×zBy×Int×zBy)×zBy×Int→Option ((zBy×zBy×zBy×Int×zBy)×zBy×Int):=fun((a,b,c,d,e),f,g)=>let h:=[(114:UInt8),101,102,108,111,97,100,32];let i:=[(112:UInt8),114,105,110,116];let j:=[(110:UInt8),111,112];let k:=[(67:UInt8)];zAA (F51 (14,f,g)) fun(f,g,l)=>
 bindE (Y:=(zBy×zBy×zBy×Int×zBy)×zBy×Int) (bindE (Y:=Int×Bool×(zBy×zBy×zBy×Int×zBy)×zBy×Int) (cndO (decide (f=0))
 (some (inl (f,true,(a,b,c,d,e),g,l)))
 (some (inl (f,decide (f=1),(a,b,c,d,e),g,l)))) fun(a,b,(c,d,e,f,g),l,m)=>
 cndO (b)
 (zAA (F303 ((c,d,e,f,g),l,m)) fun((a,b,c,d,e),f,g)=>
 zAA (F273 (i,(a,b,c,d,e),f,g)) fun((a,b,c,d,e),f,g)=>
 some (inl ((a,b,c,d,e),f,g)))
 (bindE (Y:=Int×Bool×(zBy×zBy×zBy×Int×zBy)×zBy×Int) (cndO (decide (a=2))
 (some (inl (a,true,(c,d,e,f,g),l,m)))
 (cndO (decide (a=3))
 (some (inl (a,true,(c,d,e,f,g),l,m)))
 (some (inl (a,decide (a=4),(c,d,e,f,g),l,m))))) fun(a,b,(c,d,e,f,g),l,m)=>
 cndO (b)
 (zAA (F304 ((c,d,e,f,g),l,m)) fun((a,b,c,d,e),f,g)=>
 zAA (F277 ((a,b,c,d,e),f,g)) fun(a,(b,c,d,e,f),g,h)=>
 grdO (decide ((9:Nat)+a.length≤9223372036854775807)) (zAA (F273 ([(114:UInt8),101,102,115,116,111,114,101,32]++a,(b,c,d,e,f),g,h)) fun((a,b,c,d,e),f,g)=>
 some (inl ((a,b,c,d,e),f,g))))
 (cndO (decide (a=5))
 (zAA (F277 ((c,d,e,f,g),l,m)) fun(a,(b,c,d,e,f),g,i)=>
 grdO (decide ((8:Nat)+a.length≤9223372036854775807)) (zAA (F273 (h++a,(b,c,d,e,f),g,i)) fun((a,b,c,d,e),f,g)=>
 zAA (F303 ((a,b,c,d,e),f,g)) fun((a,b,c,d,e),f,g)=>
 zAA (F273 ([(112:UInt8),117,116,32,65,32,120,32,73],(a,b,c,d,e),f,g)) fun((a,b,c,d,e),f,g)=>
 some (inl ((a,b,c,d,e),f,g))))
 (cndO (decide (a=6))
 (zAA (F305 ((c,d,e,f,g),l,m)) fun((a,b,c,d,e),f,g)=>
 some (inl ((a,b,c,d,e),f,g)))
 (cndO (decide (a=7))
 (zAA (F303 ((c,d,e,f,g),l,m)) fun((a,b,c,d,e),f,g)=>
 zAA (F273 ([(112:UInt8),117,116,97,108,108,32,65,32,115,32,73],(a,b,c,d,e),f,g)) fun((a,b,c,d,e),f,g)=>
 some (inl ((a,b,c,d,e),f,g)))
 (cndO (decide (a=8))
 (zAA (F119 ([k,k,k,[(65:UInt8)]],l,m)) fun(a,b,h)=>
 grdO (decide ((4:Nat)+a.length≤9223372036854775807)) (zAA (F273 ([(110:UInt8),101,119,32]++a,(c,d,e,f,g),b,h)) fun((a,b,c,d,e),f,g)=>
 zAA (F273 ([(102:UInt8),97,99,101,32,70,32,103,101,116,32,40,41,73],(a,b,c,d,e),f,g)) fun((a,b,c,d,e),f,g)=>
 zAA (F273 (i,(a,b,c,d,e),f,g)) fun((a,b,c,d,e),f,g)=>
 some (inl ((a,b,c,d,e),f,g))))
 (cndO (decide (a=9))
 (zAA (F277 ((c,d,e,f,g),l,m)) fun(a,(b,c,d,e,f),g,j)=>
 grdO (decide ((8:Nat)+a.length≤9223372036854775807)) (zAA (F273 (h++a,(b,c,d,e,f),g,j)) fun((a,b,c,d,e),f,g)=>
 zAA (F119 ([[(66:UInt8)],[(65:UInt8)],[(70:UInt8)],k],f,g)) fun(f,g,h)=>
 grdO (decide ((3:Nat)+f.length≤9223372036854775807)) (zAA (F273 ([(105:UInt8),115,32]++f,(a,b,c,d,e),g,h)) fun((a,b,c,d,e),f,g)=>
 zAA (F273 (i,(a,b,c,d,e),f,g)) fun((a,b,c,d,e),f,g)=>
 some (inl ((a,b,c,d,e),f,g)))))
 (cndO (decide (a=10))
 (zAA (F277 ((c,d,e,f,g),l,m)) fun(a,(b,c,d,e,f),g,i)=>
 grdO (decide ((8:Nat)+a.length≤9223372036854775807)) (zAA (F273 (h++a,(b,c,d,e,f),g,i)) fun((a,b,c,d,e),f,g)=>
 zAA (F304 ((a,b,c,d,e),f,g)) fun((a,b,c,d,e),f,g)=>
 zAA (F273 ([(112:UInt8),117,116,32,65,32,110,32,76,65,59],(a,b,c,d,e),f,g)) fun((a,b,c,d,e),f,g)=>
 some (inl ((a,b,c,d,e),f,g))))
 (cndO (decide (a=11))
 (zAA (F119 ([j,j,[(110:UInt8),117,108,108],[(97:UInt8),100,100],[(118:UInt8),105,114,116,117,97,108,32,65,32,104,105,100,32,40,41,86],[(115:UInt8),112,101,99,105,97,108,32,65,32,103,101,116,32,40,41,73],[(103:UInt8),101,116,97,108,108,32,65,32,120,32,73],[(108:UInt8),111,97,100,32,48],[(112:UInt8),117,115,104,32,49]],l,m)) fun(a,b,h)=>
 zAA (F273 (a,(c,d,e,f,g),b,h)) fun((a,b,c,d,e),f,g)=>
 zAA (F119 ([j,[(112:UInt8),111,112],[(112:UInt8),111,112],[(100:UInt8),117,112],[(115:UInt8),119,97,112]],f,g)) fun(f,g,h)=>
 zAA (F273 (f,(a,b,c,d,e),g,h)) fun((a,b,c,d,e),f,g)=>
 some (inl ((a,b,c,d,e),f,g)))
 (zAA (F306 ((c,d,e,f,g),l,m)) fun((a,b,c,d,e),f,g)=>
 some (inl ((a,b,c,d,e),f,g)))))))))))) fun((a,b,c,d,e),f,g)=>
 some (((a,b,c,d,e),f,g))
def tb275:=insT 275 (mkE 275 false [(0,[]),(0,[0])] zRH zIc F275 [] 100 [100000,100001]) tb306
def ok275:zTb tb275:=okI ok306 noPl tv275 func275 rfl call275
abbrev ti276:SPat:=⟨[(0,.ptr 100000 0),(1,.i .i64)],zo1⟩
abbrev zMa:SPat:=⟨[(0,.ptr 100000 0),(1,.i .i64),(4,.s),(5,.s)],zo1⟩
def tv276:Nat→Option SPat:=fun k=>bif k==1000004 then some zMa else none
def tp276:Nat→List Nat×Plan:=fun id=>bif id==6 then([0,1,5,9,10,11,12,16],(.br 2 [1] [0,5,9,10,11,12,16] [3,4] (.br 6 [5,2,1] [0,9,10,11,12,16,3,4] [7,8] (.br 13 [12,11,10,9,6,5,2,1] [0,16,3,4,7,8] [14,15,17,18,19,20] (.br 21 zn5 [] [] .fin .fin) .fin) .fin) .fin))else([],.fin)
def F276:Int×(zBy×zBy×zBy×Int×zBy)×zBy×Int→Option ((zBy×zBy×zBy×Int×zBy)×zBy×Int):=fun(a,(b,c,d,e,f),g,h)=>let i:=[(116:UInt8),114,97,112,32];let j:=[(32:UInt8)];zAA (F119 ([[(45:UInt8)],[(69:UInt8),114,114],[(69:UInt8),114,114],[(65:UInt8)],[(66:UInt8)]],g,h)) fun(g,h,k)=>
 grdO (decide ((1:Nat)+g.length≤9223372036854775807)) (grdO (decide (List.length ([(76:UInt8)]++g)+1≤9223372036854775807)) (bindE (Y:=Int×zBy×zBy×(zBy×zBy×zBy×Int×zBy)×zBy×Int) (cndO (decide (g=[(45:UInt8)]))
 (some (inl (a,g,[(76:UInt8),79,98,106,59],(b,c,d,e,f),h,k)))
 (some (inl (a,g,[(76:UInt8)]++g++[(59:UInt8)],(b,c,d,e,f),h,k)))) fun(a,b,c,(d,e,f,g,h),k,l)=>
 zAA (F274 (wrap .i64 (wrap .i64 (g+3)+5))) fun m=>
 grdO (decide ((3:Nat)+m.length≤9223372036854775807)) (zAA (F273 ([(103:UInt8),111,32]++m,(d,e,f,g,h),k,l)) fun((d,_,e,f,h),k,l)=>
 zAA (F274 a) fun a=>
 seqU (seqU (grdO (decide (g=g)) (some ())) (seqU (grdO (decide (f=f)) (some ())) (seqU (grdO (decide (b=b)) (some ())) (some ())))) (grdO (decide ((5:Nat)+a.length≤9223372036854775807)) (grdO (decide (List.length (i++a)+1≤9223372036854775807)) (zAA (F274 g) fun g=>
 seqU (seqU (grdO (decide (f=f)) (some ())) (seqU (grdO (decide (b=b)) (some ())) (seqU (grdO (decide ((5:Nat)+a.length≤9223372036854775807)) (grdO (decide (i++a=i++a)) (some ()))) (seqU (grdO (decide (List.length (i++a)+1≤9223372036854775807)) (grdO (decide (i++a++j=i++a++j)) (some ()))) (some ()))))) (grdO (decide (List.length (i++a++j)+g.length≤9223372036854775807)) (grdO (decide (List.length (i++a++j++g)+1≤9223372036854775807)) (zAA (F274 f) fun m=>
 seqU (seqU (grdO (decide (b=b)) (some ())) (seqU (grdO (decide ((5:Nat)+a.length≤9223372036854775807)) (grdO (decide (i++a=i++a)) (some ()))) (seqU (grdO (decide (List.length (i++a)+1≤9223372036854775807)) (grdO (decide (i++a++j=i++a++j)) (some ()))) (seqU (grdO (decide (List.length (i++a++j)+g.length≤9223372036854775807)) (grdO (decide (i++a++j++g=i++a++j++g)) (some ()))) (seqU (grdO (decide (List.length (i++a++j++g)+1≤9223372036854775807)) (grdO (decide (i++a++j++g++j=i++a++j++g++j)) (some ()))) (some ())))))) (grdO (decide (List.length (i++a++j++g++j)+m.length≤9223372036854775807)) (grdO (decide (List.length (i++a++j++g++j++m)+1≤9223372036854775807)) (grdO (decide (List.length (i++a++j++g++j++m++j)+b.length≤9223372036854775807)) (grdO (decide (List.length (i++a++j++g++j++m++j++b)+1≤9223372036854775807)) (zAA (F308 ((d,i++a++j++g++j++m++j++b++[(10:UInt8)],e,f,h),k,l)) fun(a,(b,d,e,f,g),h,i)=>
 zAA (F307 (a,c,(b,d,e,f,g),h,i)) fun((a,b,c,d,e),f,g)=>
 zAA (F273 ([(112:UInt8),111,112],(a,b,c,d,e),f,g)) fun((a,b,c,d,e),f,g)=>
 zAA (F273 ([(112:UInt8),117,115,104,32,55,55],(a,b,c,d,e),f,g)) fun((a,b,c,d,e),f,g)=>
 zAA (F273 ([(112:UInt8),114,105,110,116],(a,b,c,d,e),f,g)) fun((a,b,c,d,e),f,g)=>
 zAA (F308 ((a,b,c,d,e),f,g)) fun(a,(b,c,d,e,f),g,h)=>
 zAA (F307 (a,[(46:UInt8)],(b,c,d,e,f),g,h)) fun((a,b,c,d,e),f,g)=>
 some (((a,b,c,d,e),f,g))))))))))))))))
def tb276:=insT 276 (mkE 276 false [(0,[]),(0,[0])] ti276 zIc F276 [] 68 [100000,100001]) tb275
def ok276:zTb tb276:=okI ok275 tp276 tv276 func276 rfl call276
abbrev ti217:SPat:=⟨[(0,.ptr 100000 0),(1,.s)],zo0⟩
abbrev ts217_3:SPat:=⟨[(0,.ptr 100000 0),(1,.s),(5,.ptr 11 0),(6,.i .i64)],[.box 11 (pl zo2),.box 100000 (pl plR)]⟩
abbrev ts217_9:SPat:=⟨[(0,.ptr 100000 0),(1,.s),(5,.ptr 11 0),(7,.i .i64),(8,.i .i64)],[.box 11 (pl zo2),.box 100000 (pl plR)]⟩
abbrev zGr:SPat:=⟨[(0,.ptr 100000 0),(1,.s),(5,.ptr 11 0)],[.box 11 (pl zo2),.box 100000 (pl plR)]⟩
abbrev zMo:SPat:=⟨[(1,.s),(5,.ptr 11 0)],[.box 11 (pl zo2),.box 100000 (pl plR)]⟩
abbrev zMn:SPat:=⟨[(0,.ptr 100000 0),(1,.s),(5,.ptr 11 0),(7,.i .i64)],[.box 11 (pl zo2),.box 100000 (pl plR)]⟩
def tv217:Nat→Option SPat:=fun k=>bif k==3 then some ts217_3 else bif k==9 then some ts217_9 else bif k==1000014 then some zGr else bif k==1000018 then some zMo else bif k==2000000 then some zGr else bif k==2000002 then some zMn else none
def tp217:Nat→List Nat×Plan:=fun id=>bif id==18 then([0,1,2,3,4,5,6,7,8,9,10,11,12,13,14,15,16,17],(.br 18 zn6 [] [] .fin .fin))else([],.fin)
def F217:zBy×zBy×Int→Option (zBy×zBy×Int):=fun(a,b,c)=>let d:=[(32:UInt8),40,41,86,32,49,32,51,32,51,10];let e:=[(109:UInt8),101,116,104,111,100,32];bindE (Y:=zBy×(zBy×zBy×zBy×Int×zBy)×zBy×Int) (zAE (fun(a,b,(c,d,e,f,g),h,i)=>
 cndO (decide (b<3))
 (zAA (F119 ([[(110:UInt8),117,108,108],[(110:UInt8),117,108,108],[(110:UInt8),101,119,32,65]],h,i)) fun(h,i,j)=>
 zAA (F273 (h,(c,d,e,f,g),i,j)) fun((c,d,e,f,g),h,i)=>
 zAA (F274 b) fun j=>
 grdO (decide ((9:Nat)+j.length≤9223372036854775807)) (zAA (F273 ([(114:UInt8),101,102,115,116,111,114,101,32]++j,(c,d,e,f,g),h,i)) fun((c,d,e,f,g),h,i)=>
 some (inl (a,wrap .i64 (b+1),(c,d,e,f,g),h,i))))
 (some (inr (inl (a,(c,d,e,f,g),h,i))))) ((a,(0:Int),([],[],[],(0:Int),[(76:UInt8),65,59]),b,c))) fun(a,(b,c,f,g,h),i,j)=>
 zAA (F51 (6,i,j)) fun(i,j,k)=>
 bindE (Y:=zBy×Int×(zBy×zBy×zBy×Int×zBy)×zBy×Int) (zAE (fun(a,b,c,(d,e,f,g,h),i,j)=>
 cndO (decide (0<c))
 (cndO (decide (g<80))
 (zAA (F275 ((d,e,f,g,h),i,j)) fun((d,e,f,g,h),i,j)=>
 some (inl (a,b,wrap .i64 (c-1),(d,e,f,g,h),i,j)))
 (some (inr (inl (a,b,(d,e,f,g,h),i,j)))))
 (some (inr (inl (a,b,(d,e,f,g,h),i,j))))) ((a,g,wrap .i64 ((1:Int)+i),(b,c,f,g,h),j,k))) fun(a,b,(c,f,g,h,i),j,k)=>
 bindE (Y:=zBy×(zBy×zBy×zBy×Int×zBy)×zBy×Int) (zAA (F51 (3,j,k)) fun(d,e,j)=>
 cndO (decide (d=0))
 (zAA (F276 (b,(c,f,g,h,i),e,j)) fun((b,c,d,e,f),g,h)=>
 some (inl (a,(b,c,d,e,f),g,h)))
 (some (inl (a,(c,f,g,h,i),e,j)))) fun(a,(b,c,f,g,h),i,j)=>
 bindE (Y:=zBy×(zBy×zBy×zBy×Int×zBy)×zBy×Int) (zAA (F51 (8,i,j)) fun(d,e,i)=>
 cndO (decide (d=0))
 (zAA (F277 ((b,c,f,g,h),e,i)) fun(b,(c,d,e,f,g),h,i)=>
 grdO (decide ((8:Nat)+b.length≤9223372036854775807)) (zAA (F273 ([(114:UInt8),101,102,108,111,97,100,32]++b,(c,d,e,f,g),h,i)) fun((b,c,d,e,f),g,h)=>
 zAA (F273 ([(116:UInt8),104,114,111,119],(b,c,d,e,f),g,h)) fun((b,c,d,e,f),g,h)=>
 some (inl (a,(b,c,d,e,f),g,h))))
 (zAA (F273 ([(103:UInt8),105,118,101],(b,c,f,g,h),e,i)) fun((b,c,d,e,f),g,h)=>
 some (inl (a,(b,c,d,e,f),g,h)))) fun(a,(b,c,f,_,_),g,h)=>
 grdO (decide ((7:Nat)+a.length≤9223372036854775807)) (grdO (decide (List.length (e++a)+11≤9223372036854775807)) (grdO (decide (List.length (e++a++d)+b.length≤9223372036854775807)) (grdO (decide (List.length (e++a++d++b)+c.length≤9223372036854775807)) (grdO (decide (List.length (e++a++d++b++c)+f.length≤9223372036854775807)) (some ((e++a++d++b++c++f,g,h)))))))
def tb217:=insT 217 (mkE 217 false [(0,[])] ti217 to119 F217 [.tmp 4] 82 [100000]) tb276
def ok217:zTb tb217:=okI ok276 tp217 tv217 func217 rfl call217
abbrev zML:SPat:=⟨[(3,.i .i64),(4,.b)],[]⟩
abbrev zMK:SPat:=⟨[(3,.i .i64),(8,.b)],[]⟩
abbrev zMJ:SPat:=⟨[(3,.i .i64),(13,.b)],[]⟩
def tv291:Nat→Option SPat:=fun k=>bif k==1000005 then some zML else bif k==1000010 then some zMK else bif k==1000014 then some zMJ else none
def F291:Int→Option Int:=fun a=>
 bindE (cndO (decide (a=19))
 (some (inl (a,true)))
 (cndO (decide (a=28))
 (some (inl (a,true)))
 (some (inl (a,decide (a=29)))))) fun(a,b)=>
 cndO (b)
 (some ((2:Int)))
 (bindE (cndO (decide (a=20))
 (some (inl (a,true)))
 (cndO (decide (a=21))
 (some (inl (a,true)))
 (cndO (decide (a=22))
 (some (inl (a,true)))
 (some (inl (a,decide (a=23))))))) fun(a,b)=>
 cndO (b)
 (some ((4:Int)))
 (bindE (cndO (decide (a=24))
 (some (inl (a,true)))
 (cndO (decide (a=25))
 (some (inl (a,true)))
 (some (inl (a,decide (a=26)))))) fun(a,b)=>
 cndO (b)
 (some ((5:Int)))
 (cndO (decide (a=27))
 (some ((6:Int)))
 (some ((0:Int))))))
def tb291:=insT 291 (mkE 291 true [] zGT zJG F291 [.tmp 2] 19 []) tb217
def ok291:zTb tb291:=okI ok217 noPl tv291 func291 rfl call291
abbrev ti326:SPat:=⟨[(0,.ptr 100000 0),(1,.agg (pl zo4))],zo3⟩
abbrev to326:SPat:=⟨[(4,.i .i64)],zo3⟩
abbrev ts326_2:SPat:=⟨[(0,.ptr 100000 0),(3,.ptr 3 0),(5,.i .i64)],[.box 3 (pl zo4),.box 100000 (pl plB)]⟩
abbrev zLp:SPat:=⟨[(0,.ptr 100000 0),(3,.ptr 3 0)],[.box 3 (pl zo4),.box 100000 (pl plB)]⟩
def tv326:Nat→Option SPat:=fun k=>bif k==2 then some ts326_2 else bif k==2000000 then some zLp else none
def tp326:Nat→List Nat×Plan:=fun id=>bif id==4 then(zn7,.fin)else bif id==6 then(zn8,(.br 7 [6] zn2 [] (.br 8 zn9 [0] [9,10,11] (.br 12 zn10 [] [] .fin .fin) .fin) .fin))else([],.fin)
def F326 :  Cst×List Cst×Int×Int×Int×List Int×List Fld×List Mth×Bool→Option (Int×List Cst×Int×Int×Int×List Int×List Fld×List Mth×Bool):=fun((a,b,c,d),e,f,g,h,i,j,k,l)=>
 bindE (Y :=  Cst×List Cst×Int×Int×Int×List Int×List Fld×List Mth×Bool) (zAE (fun(a,(b,c,d,e),f,g,h,i,j,k,l,m)=>
 cndO (decide (a<(f.length:Int)))
 (grdO (decide (0≤a)&&decide (a<(f.length:Int))) (atO f a.toNat fun n=>cndO (decide (n.1=b)&&(decide (n.2.1=c)&&(decide (n.2.2.1=d)&&(decide (n.2.2.2=e)&&true))))
 (some (inr (inr (wrap .i64 (a+1),f,g,h,i,j,k,l,m))))
 (some (inl (wrap .i64 (a+1),(b,c,d,e),f,g,h,i,j,k,l,m)))))
 (some (inr (inl ((b,c,d,e),f,g,h,i,j,k,l,m))))) (((0:Int),(a,b,c,d),e,f,g,h,i,j,k,l))) fun((a,b,c,d),e,f,g,h,i,j,k,l)=>
 grdO (decide (e.length+1≤9223372036854775807)&&decide ((e.length+1)*40≤140737488355328)) (some (((↑(List.length (e++[(a,b,c,d)])):Int),e++[(a,b,c,d)],f,g,h,i,j,k,l)))
def tb326:=insT 326 (mkE 326 false [(0,[])] ti326 to326 F326 [.tmp 4] 46 [100000]) tb291
def ok326:zTb tb326:=okI ok291 tp326 tv326 func326 rfl call326
abbrev ti312:SPat:=⟨[(0,.ptr 100000 0),(1,.s)],zo3⟩
def F312:zBy×List Cst×Int×Int×Int×List Int×List Fld×List Mth×Bool→Option (Int×List Cst×Int×Int×Int×List Int×List Fld×List Mth×Bool):=fun(a,b,c,d,e,f,g,h,i)=>
 cndO (decide (60<(a.length:Int)))
 (some (((0:Int),b,c,d,e,f,g,h,true)))
 (zAA (F326 (((1:Int),a,(0:Int),(0:Int)),b,c,d,e,f,g,h,i)) fun(a,b,c,d,e,f,g,h,i)=>
 some ((a,b,c,d,e,f,g,h,i)))
def tb312:=insT 312 (mkE 312 false [(0,[])] ti312 to326 F312 [.tmp 4] 15 [100000]) tb326
def ok312:zTb tb312:=okI ok326 noPl noIv func312 rfl call312
def F310:zBy×List Cst×Int×Int×Int×List Int×List Fld×List Mth×Bool→Option (Int×List Cst×Int×Int×Int×List Int×List Fld×List Mth×Bool):=fun(a,b,c,d,e,f,g,h,i)=>
 zAA (F312 (a,b,c,d,e,f,g,h,i)) fun(a,b,c,d,e,f,g,h,i)=>
 zAA (F326 (((2:Int),[],a,(0:Int)),b,c,d,e,f,g,h,i)) fun(a,b,c,d,e,f,g,h,i)=>
 some ((a,b,c,d,e,f,g,h,i))
def tb310:=insT 310 (mkE 310 false [(0,[])] ti312 to326 F310 [.tmp 4] 11 [100000]) tb312
def ok310:zTb tb310:=okI ok312 noPl noIv func310 rfl call310
abbrev ti324:SPat:=⟨[(0,.ptr 100000 0),(1,.i .i64),(2,.s),(3,.s),(4,.s)],zo3⟩
abbrev to324:SPat:=⟨[(10,.i .i64)],zo3⟩
def F324:Int×zBy×zBy×zBy×List Cst×Int×Int×Int×List Int×List Fld×List Mth×Bool→Option (Int×List Cst×Int×Int×Int×List Int×List Fld×List Mth×Bool):=fun(a,b,c,d,e,f,g,h,i,j,k,l)=>
 zAA (F310 (b,e,f,g,h,i,j,k,l)) fun(b,e,f,g,h,i,j,k,l)=>
 zAA (F312 (c,e,f,g,h,i,j,k,l)) fun(c,e,f,g,h,i,j,k,l)=>
 zAA (F312 (d,e,f,g,h,i,j,k,l)) fun(d,e,f,g,h,i,j,k,l)=>
 zAA (F326 (((3:Int),[],c,d),e,f,g,h,i,j,k,l)) fun(c,d,e,f,g,h,i,j,k)=>
 zAA (F326 ((a,[],b,c),d,e,f,g,h,i,j,k)) fun(a,b,c,d,e,f,g,h,i)=>
 some ((a,b,c,d,e,f,g,h,i))
def tb324:=insT 324 (mkE 324 false [(0,[])] ti324 to324 F324 [.tmp 10] 33 [100000]) tb310
def ok324:zTb tb324:=okI ok310 noPl noIv func324 rfl call324
abbrev zEV:SPat:=⟨[(0,.s)],[]⟩
abbrev zVO:SPat:=⟨[(0,.s),(3,.i .i64),(4,.i .i64)],[]⟩
abbrev zEl:SPat:=⟨[(0,.s),(3,.i .i64)],[]⟩
def tv327:Nat→Option SPat:=fun k=>bif k==3 then some zVO else bif k==1000007 then some zVO else bif k==2000000 then some zEl else none
def F327:zBy→Option Int:=fun a=>
 bindE (Y:=zBy×Int) (zAE (fun(a,b,c)=>
 cndO (decide (c<(a.length:Int)))
 (bindE (Y:=zBy×Int×Int) (grdO (decide (0≤c)) (atO a c.toNat fun d=>cndO (decide ((d.toNat:Int)<48))
 (some (inr (inr (inr (-1:Int)))))
 (grdO (decide (0≤c)) (atO a c.toNat fun d=>cndO (decide (57<(d.toNat:Int)))
 (some (inr (inr (inr (-1:Int)))))
 (cndO (decide (5≤c))
 (some (inr (inr (inr (-1:Int)))))
 (some (inl (a,b,c)))))))) fun(a,b,c)=>
 grdO (decide (0≤c)) (atO a c.toNat fun d=>some (inl (a,wrap .i64 (wrap .i64 (b*10)+wrap .i64 (wrap .u8 ((d.toNat:Int)-48))),wrap .i64 (c+1)))))
 (some (inr (inl (a,b))))) ((a,(0:Int),(0:Int)))) fun(a,b)=>
 cndO (decide ((a.length:Int)=0))
 (some ((-1:Int)))
 (cndO (decide (1<(a.length:Int)))
 (atO a 0 fun a=>cndO (decide ((a.toNat:Int)=48))
 (some ((-1:Int)))
 (some b))
 (some b))
def tb327:=insT 327 (mkE 327 true [] zEV zJG F327 [.tmp 2] 47 []) tb324
def ok327:zTb tb327:=okI ok324 noPl tv327 func327 rfl call327
abbrev to325:SPat:=⟨[(2,.i .i64),(3,.b)],[]⟩
abbrev zLq:SPat:=⟨[(0,.s),(13,.b)],[]⟩
def tv325:Nat→Option SPat:=fun k=>bif k==1000002 then some zLq else none
def F325:zBy→Option (Int×Bool):=fun a=>
 bindE (Y:=zBy×Bool) (cndO (decide (1<(a.length:Int)))
 (atO a 0 fun b=>some (inl (a,decide ((b.toNat:Int)=45))))
 (some (inl (a,false)))) fun(a,b)=>
 cndO (b)
 (grdO (decide (1≤(a.length:Int))&&decide ((a.length:Int)≤(a.length:Int))) (zAA (F327 (List.drop (1:Nat) (List.take (Int.toNat (a.length:Int)) a))) fun a=>
 some ((wrap .i64 ((0:Int)-a),decide (0<a)))))
 (zAA (F327 a) fun a=>
 some ((a,decide (0≤a))))
def tb325:=insT 325 (mkE 325 true [] zEV to325 F325 [.tmp 2,.tmp 3] 26 []) tb327
def ok325:zTb tb325:=okI ok327 noPl tv325 func325 rfl call325
def F311:zBy×List Cst×Int×Int×Int×List Int×List Fld×List Mth×Bool→Option (Int×List Cst×Int×Int×Int×List Int×List Fld×List Mth×Bool):=fun(a,b,c,d,e,f,g,h,i)=>
 zAA (F327 a) fun a=>
 cndO (decide (a<0))
 (some (((0:Int),b,c,d,e,f,g,h,true)))
 (some ((a,b,c,d,e,f,g,h,i)))
def tb311:=insT 311 (mkE 311 false [(0,[])] ti312 to326 F311 [.tmp 4] 14 [100000]) tb325
def ok311:zTb tb311:=okI ok325 noPl noIv func311 rfl call311
abbrev ti315:SPat:=⟨[(0,.ptr 100000 0)],zo3⟩
abbrev to315:SPat:=⟨[(2,.ptrI 7007 0)],[.arr 7007 tg53 true,.box 100000 (pl [.own tg27 true,.i .i64,.i .i64,.i .i64,.own (.int .i64) true,.own tg89 true,.ar 7007,.b])]⟩
def tp315:Nat→List Nat×Plan:=fun id=>bif id==1 then(zn11,(.br 13 zn12 [] [] .fin .fin))else([],.fin)
def F315:List Cst×Int×Int×Int×List Int×List Fld×List Mth×Bool→Option (Nat×List Mth×List Cst×Int×Int×Int×List Int×List Fld×Bool):=fun(a,b,c,d,e,f,g,h)=>
 grdO (decide (0≤wrap .i64 ((g.length:Int)-1))&&decide (wrap .i64 ((g.length:Int)-1)<(g.length:Int))) (some ((Int.toNat (wrap .i64 ((g.length:Int)-1)),g,a,b,c,d,e,f,h)))
def tb315:=insT 315 (mkE 315 false [(0,[])] ti315 to315 F315 [.tmp 2] 16 [7007,100000]) tb311
def ok315:zTb tb315:=okI ok311 tp315 noIv func315 rfl call315
abbrev zVz:SPat:=⟨[(0,.ptr 100000 0)],[.box 100000 (pl zo5),.arr 100001 tg53 true]⟩
abbrev zVs:SPat:=⟨[(2,.ptrI 100001 0)],[.box 100000 (pl zo5),.arr 100001 tg53 true]⟩
def zVn:Nat→List Nat×Plan:=fun id=>bif id==1 then(zn11,(.br 13 zn12 [] [] .fin .fin))else([],.fin)
def F7000315:(List Cst×Int×Int×Int×List Int×List Fld×Bool)×List Mth→Option (Nat×(List Cst×Int×Int×Int×List Int×List Fld×Bool)×List Mth):=fun((a,b,c,d,e,f,g),h)=>
 grdO (decide (0≤wrap .i64 ((h.length:Int)-1))&&decide (wrap .i64 ((h.length:Int)-1)<(h.length:Int))) (some ((Int.toNat (wrap .i64 ((h.length:Int)-1)),(a,b,c,d,e,f,g),h)))
def zPM:=insT 7000315 (mkE 315 false [(0,[]),(0,[6])] zVz zVs F7000315 [.tmp 2] 16 [100000,100001]) tb315
def zWj:zTb zPM:=okI ok315 zVn noIv func315 rfl call315
def F134:Int→Option zBy:=fun a=>
 grdO (decide (0≤wrap .u8 a)&&decide (wrap .u8 a≤255)) (some ([UInt8.ofNat (Int.toNat (wrap .u8 a))]))
def tb134:=insT 134 (mkE 134 true [] zGT zEU F134 [.tmp 2] 7 []) zPM
def ok134:zTb tb134:=okI zWj noPl noIv func134 rfl call134
def F136:Int→Option zBy:=fun a=>
 grdO (decide (0≤wrap .u8 (wrap .i64 (Int.tdiv a (256:Int))))&&decide (wrap .u8 (wrap .i64 (Int.tdiv a (256:Int)))≤255)) (grdO (decide (0≤wrap .u8 (Int.tmod a (256:Int)))&&decide (wrap .u8 (Int.tmod a (256:Int))≤255)) (some ([UInt8.ofNat (Int.toNat (wrap .u8 (wrap .i64 (Int.tdiv a (256:Int))))),UInt8.ofNat (Int.toNat (wrap .u8 (Int.tmod a (256:Int))))])))
def tb136:=insT 136 (mkE 136 true [] zGT zEU F136 [.tmp 2] 11 []) tb134
def ok136:zTb tb136:=okI ok134 noPl noIv func136 rfl call136
abbrev ti194:SPat:=⟨[(0,.sl tg89)],[]⟩
abbrev zVa:SPat:=⟨[(0,.sl tg89),(3,.s),(4,.i .i64)],[]⟩
abbrev zBr:SPat:=⟨[(3,.s)],[]⟩
def tv194:Nat→Option SPat:=fun k=>bif k==3 then some zVa else bif k==2000000 then some zBr else bif k==2000002 then some zVa else none
def F194:List Fld→Option zBy:=fun a=>
 bindE (Y:=zBy) (zAE (fun(a,b,c)=>
 cndO (decide (c<(a.length:Int)))
 (grdO (decide (0≤c)) (atO a c.toNat fun d=>zAA (F134 d.2.1) fun e=>
 grdO (decide (b.length+e.length≤9223372036854775807)) (zAA (F251 d.2.1) fun f=>
 bindE (Y:=List Fld×zBy×Int) (cndO (decide (f=1))
 (zAA (F134 d.2.2) fun d=>
 grdO (decide (List.length (b++e)+d.length≤9223372036854775807)) (some (inl (a,b++e++d,c))))
 (cndO (decide (f=2))
 (zAA (F136 (Int.tmod (wrap .i64 (d.2.2+65536)) (65536:Int))) fun d=>
 grdO (decide (List.length (b++e)+d.length≤9223372036854775807)) (some (inl (a,b++e++d,c))))
 (some (inl (a,b++e,c))))) fun(a,b,c)=>
 some (inl (a,b,wrap .i64 (c+1))))))
 (some (inr (inl b)))) ((a,[],(0:Int)))) fun a=>
 some (a)
def tb194:=insT 194 (mkE 194 true [] ti194 zEU F194 [.tmp 2] 41 []) tb136
def ok194:zTb tb194:=okI ok136 noPl tv194 func194 rfl call194
abbrev ti309:SPat:=⟨[(0,.ptr 100000 0),(1,.sl .str)],zo3⟩
abbrev zVt:SPat:=⟨[],zo3⟩
abbrev zMG:SPat:=⟨[(0,.ptr 100000 0),(1,.sl .str),(4,.ptr 4 0)],[.box 4 (pl zo6),.box 100000 (pl plB)]⟩
abbrev zMF:SPat:=⟨[(0,.ptr 100000 0),(1,.sl .str),(4,.ptr 4 0),(5,.i .i64),(35,.b)],[.box 4 (pl zo6),.box 100000 (pl plB)]⟩
abbrev zME:SPat:=⟨[(0,.ptr 100000 0),(1,.sl .str),(4,.ptr 4 0),(5,.i .i64),(49,.b)],[.box 4 (pl zo6),.box 100000 (pl plB)]⟩
abbrev zMD:SPat:=⟨[(0,.ptr 100000 0),(1,.sl .str),(4,.ptr 4 0),(5,.i .i64),(70,.b)],[.box 4 (pl zo6),.box 100000 (pl plB)]⟩
abbrev zMC:SPat:=⟨[(0,.ptr 100000 0),(1,.sl .str),(4,.ptr 4 0),(5,.i .i64),(93,.b)],[.box 4 (pl zo6),.box 100000 (pl plB)]⟩
abbrev zMB:SPat:=⟨[(0,.ptr 100000 0),(4,.ptr 4 0)],[.box 4 (pl zo6),.box 100000 (pl plB)]⟩
def tv309:Nat→Option SPat:=fun k=>bif k==1000003 then some zMG else bif k==1000006 then some zMF else bif k==1000008 then some zME else bif k==1000010 then some zMD else bif k==1000015 then some zMC else bif k==2000000 then some zMB else none
def tp309:Nat→List Nat×Plan:=fun id=>bif id==0 then([1,2,3],(.br 0 [] [1,2,3] [] (.br 4 [3,2,1,0] [] [5] (.br 6 [] [1,2,3,5] [] (.br 7 zn13 [] [] .fin .fin) .fin) (.br 6 [] [1,2,3] [] (.br 4 [3,2,1,0] [] [5] (.br 7 zn13 [] [] .fin .fin) .fin) .fin)) (.br 6 [] [1,2,3] [] (.br 0 [] [1,2,3] [] (.br 4 [3,2,1,0] [] [5] (.br 7 zn13 [] [] .fin .fin) .fin) .fin) .fin)))else bif id==8 then(zn14,(.br 11 zn15 [] [12] (.br 13 zn12 [] [] .fin .fin) .fin))else bif id==19 then([0,2,7],(.br 1 [0] [2,7] [] (.br 3 zn16 [7] zn17 (.br 8 [7] [0,2,4,5,6] [] (.br 9 [8,7,3,2,1,0] zn17 [10,11,12] (.br 13 zn12 [] [] .fin .fin) .fin) .fin) (.br 8 [7] [0,2] [] (.br 3 zn16 [7] zn17 (.br 9 [8,7,3,2,1,0] zn17 [10,11,12] (.br 13 zn12 [] [] .fin .fin) .fin) .fin) .fin)) (.br 8 [7] [0,2] [] (.br 1 [0] [2,7] [] (.br 3 zn16 [7] zn17 (.br 9 [8,7,3,2,1,0] zn17 [10,11,12] (.br 13 zn12 [] [] .fin .fin) .fin) .fin) .fin) .fin)))else([],.fin)
def F309:List zBy×List Cst×Int×Int×Int×List Int×List Fld×List Mth×Bool→Option (List Cst×Int×Int×Int×List Int×List Fld×List Mth×Bool):=fun(a,b,c,d,e,f,g,h,i)=>atO a 0 fun j=>let b:=fun(j:Int)=>bindE (Y:=List zBy×(Int×Int×Int)×List Cst×Int×Int×Int×List Int×List Fld×List Mth×Bool) (cndO (decide ((h.length:Int)=0)) (some (inr (b,c,d,e,f,g,h,true))) (cndO (decide (j<0)) (some (inr (b,c,d,e,f,g,h,true))) (some (inl (a,((0:Int),j,(0:Int)),b,c,d,e,f,g,h,i))))) fun(a,(b,c,d),e,f,g,h,i,j,k,l)=>zAA (F291 c) fun m=>bindE (Y:=(Int×Int×Int)×List Cst×Int×Int×Int×List Int×List Fld×List Mth×Bool) (bindE (Y:=List zBy×Int×Bool×(Int×Int×Int)×List Cst×Int×Int×Int×List Int×List Fld×List Mth×Bool) (cndO (decide (m=2)) (some (inl (a,m,decide ((a.length:Int)=2),(b,c,d),e,f,g,h,i,j,k,l))) (some (inl (a,m,false,(b,c,d),e,f,g,h,i,j,k,l)))) fun(a,b,c,(d,e,f),g,h,i,j,k,l,m,n)=>cndO c (atO a 1 fun a=>zAA (F310 (a,g,h,i,j,k,l,m,n)) fun(a,b,c,f,g,h,i,j,k)=>some (inl ((d,e,a),b,c,f,g,h,i,j,k))) (bindE (Y:=List zBy×Int×Bool×(Int×Int×Int)×List Cst×Int×Int×Int×List Int×List Fld×List Mth×Bool) (cndO (decide (2<b)) (some (inl (a,b,decide ((a.length:Int)=4),(d,e,f),g,h,i,j,k,l,m,n))) (some (inl (a,b,false,(d,e,f),g,h,i,j,k,l,m,n)))) fun(a,b,c,(d,e,f),g,h,i,j,k,l,m,n)=>cndO c (atO a 1 fun c=>atO a 2 fun f=>atO a 3 fun a=>zAA (F324 (b,c,f,a,g,h,i,j,k,l,m,n)) fun(a,b,c,f,g,h,i,j,k)=>some (inl ((d,e,a),b,c,f,g,h,i,j,k))) (bindE (Y:=List zBy×Int×Bool×(Int×Int×Int)×List Cst×Int×Int×Int×List Int×List Fld×List Mth×Bool) (cndO (decide (e=1)) (some (inl (a,b,decide ((a.length:Int)=2),(d,e,f),g,h,i,j,k,l,m,n))) (some (inl (a,b,false,(d,e,f),g,h,i,j,k,l,m,n)))) fun(a,b,c,(d,e,f),g,h,i,j,k,l,m,n)=>cndO c (atO a 1 fun a=>zAA (F325 a) fun(a,b)=>cndO (!b) (some (inl ((d,e,a),g,h,i,j,k,l,m,true))) (some (inl ((d,e,a),g,h,i,j,k,l,m,n)))) (bindE (Y:=List zBy×Int×Bool×(Int×Int×Int)×List Cst×Int×Int×Int×List Int×List Fld×List Mth×Bool) (cndO (decide (b=0)) (zAA (F251 e) fun c=>cndO (decide (0<c)) (some (inl (a,b,decide ((a.length:Int)=2),(d,e,f),g,h,i,j,k,l,m,n))) (some (inl (a,b,false,(d,e,f),g,h,i,j,k,l,m,n)))) (some (inl (a,b,false,(d,e,f),g,h,i,j,k,l,m,n)))) fun(a,b,c,(d,e,f),g,h,i,j,k,l,m,n)=>cndO c (atO a 1 fun a=>zAA (F311 (a,g,h,i,j,k,l,m,n)) fun(a,b,c,f,g,h,i,j,k)=>some (inl ((d,e,a),b,c,f,g,h,i,j,k))) (cndO (decide (b=0)) (zAA (F251 e) fun b=>cndO (decide (b=0)) (cndO (decide ((a.length:Int)=1)) (some (inl ((d,e,f),g,h,i,j,k,l,m,n))) (some (inr (g,h,i,j,k,l,m,true)))) (some (inr (g,h,i,j,k,l,m,true)))) (some (inr (g,h,i,j,k,l,m,true)))))))) fun((a,b,c),d,e,f,g,h,i,j,k)=>zAA (F107 (c,(-32768:Int),65535)) fun l=>cndO (!l) (some ((d,e,f,g,h,i,j,true))) (let l:=fun(d:List Fld) (e:Bool) (f:List Mth) (g:Mth) (h:Nat) (i:List Cst) (j:Int) (k:Int) (l:Int) (m:List Int) (n:Nat)=>zAA (F194 [(a,b,c)]) fun a=>seqU (seqU (grdO (h==h&&true) (some ())) (seqU (grdO (h==h&&true) (some ())) (seqU (atO f h fun a=>grdO (decide (a.2.2.2.2.2.1=g.2.2.2.2.2.1)) (some ())) (some ())))) (grdO (decide (g.2.2.2.2.2.1.length+a.length≤9223372036854775807)) (atO f n fun b=>some ((i,j,k,l,m,d,List.set f n (b.1,b.2.1,b.2.2.1,b.2.2.2.1,b.2.2.2.2.1,g.2.2.2.2.2.1++a,b.2.2.2.2.2.2.1,b.2.2.2.2.2.2.2),e))));let m:=fun(d:List Int) (e:List Fld) (f:Bool) (g:Nat) (h:List Mth) (i:List Cst) (j:Int) (k:Int) (m:Int)=>zAA (F7000315 ((i,j,k,m,d,e,f),h)) fun(d,(e,f,h,i,j,k,m),n)=>seqU (seqU (grdO (decide (a=a)&&(decide (b=b)&&(decide (c=c)&&true))) (some ())) (some ())) (atO n d fun a=>l k m n a d e f h i j g);zBK (zAA (F315 (d,e,f,g,h,i,j,k)) fun(d,e,f,g,h,i,j,k,n)=>seqU (seqU (grdO (decide (a=a)&&(decide (b=b)&&(decide (c=c)&&true))) (some ())) (some ())) (zBK (zAA (F7000315 ((f,g,h,i,j,k,n),e)) fun(e,(f,g,h,i,j,k,m),n)=>seqU (seqU (grdO (decide (a=a)&&(decide (b=b)&&(decide (c=c)&&true))) (some ())) (some ())) (atO n e fun a=>seqU (seqU (grdO (e==e&&true) (some ())) (seqU (grdO (e==e&&true) (some ())) (seqU (atO n e fun b=>grdO (decide (b.2.2.2.2.2.1=a.2.2.2.2.2.1)) (some ())) (some ())))) (l k m n a e f g h i j d))) (m j k n d e f g h i))) (zAA (F315 (d,e,f,g,h,i,j,k)) fun(d,e,f,g,h,i,j,k,l)=>seqU (seqU (grdO (decide (a=a)&&(decide (b=b)&&(decide (c=c)&&true))) (some ())) (some ())) (m j k l d e f g h i)));let c:=fun(c:List zBy)=>seqU (seqU (grdO (decide (a=a)) (some ())) (seqU (atO a 0 fun a=>grdO (decide (a=j)&&true) (some ())) (seqU (grdO (decide (j=j)) (some ())) (some ())))) (zAA (F301 (c,j)) fun a=>b a);zBK (zAA (F302 ()) fun d=>seqU (seqU (grdO (decide (a=a)) (some ())) (seqU (atO a 0 fun a=>grdO (decide (a=j)&&true) (some ())) (seqU (grdO (decide (j=j)) (some ())) (some ())))) (zBK (zAA (F301 (d,j)) fun c=>seqU (seqU (grdO (decide (a=a)) (some ())) (seqU (atO a 0 fun a=>grdO (decide (a=j)&&true) (some ())) (seqU (grdO (decide (j=j)) (some ())) (seqU (grdO (decide (c=c)&&true) (some ())) (some ()))))) (b c)) (c d))) (seqU (seqU (grdO (decide (a=a)) (some ())) (seqU (atO a 0 fun a=>grdO (decide (a=j)&&true) (some ())) (seqU (grdO (decide (j=j)) (some ())) (some ())))) (zAA (F302 ()) fun a=>c a))
def tb309:=insT 309 (mkE 309 false [(0,[])] ti309 zVt F309 [] 147 [100000]) tb194
def ok309:zTb tb309:=okI ok194 tp309 tv309 func309 rfl call309
abbrev zWB:SPat:=⟨[(0,.ptr 100000 0),(1,.agg (pl zo4))],[.box 100000 (pl zo7),.arr 100001 (.int .i64) true]⟩
abbrev zJF:SPat:=⟨[(4,.i .i64)],[.box 100000 (pl zo7),.arr 100001 (.int .i64) true]⟩
abbrev zQv:SPat:=⟨[(0,.ptr 100000 0),(3,.ptr 3 0),(5,.i .i64)],[.box 3 (pl zo4),.box 100000 (pl zo7),.arr 100001 (.int .i64) true]⟩
abbrev zHl:SPat:=⟨[(0,.ptr 100000 0),(3,.ptr 3 0)],[.box 3 (pl zo4),.box 100000 (pl zo7),.arr 100001 (.int .i64) true]⟩
def zVG:Nat→Option SPat:=fun k=>bif k==2 then some zQv else bif k==2000000 then some zHl else none
def zVp:Nat→List Nat×Plan:=fun id=>bif id==4 then(zn7,.fin)else bif id==6 then(zn8,(.br 7 [6] zn2 [] (.br 8 zn9 [0] [9,10,11] (.br 12 zn10 [] [] .fin .fin) .fin) .fin))else([],.fin)
def F5000326 :  Cst×(List Cst×Int×Int×Int×List Fld×List Mth×Bool)×List Int→Option (Int×(List Cst×Int×Int×Int×List Fld×List Mth×Bool)×List Int):=fun((a,b,c,d),(e,f,g,h,i,j,k),l)=>
 bindE (Y :=  Cst×(List Cst×Int×Int×Int×List Fld×List Mth×Bool)×List Int) (zAE (fun(a,(b,c,d,e),(f,g,h,i,j,k,l),m)=>
 cndO (decide (a<(f.length:Int)))
 (grdO (decide (0≤a)&&decide (a<(f.length:Int))) (atO f a.toNat fun n=>cndO (decide (n.1=b)&&(decide (n.2.1=c)&&(decide (n.2.2.1=d)&&(decide (n.2.2.2=e)&&true))))
 (some (inr (inr (wrap .i64 (a+1),(f,g,h,i,j,k,l),m))))
 (some (inl (wrap .i64 (a+1),(b,c,d,e),(f,g,h,i,j,k,l),m)))))
 (some (inr (inl ((b,c,d,e),(f,g,h,i,j,k,l),m))))) (((0:Int),(a,b,c,d),(e,f,g,h,i,j,k),l))) fun((a,b,c,d),(e,f,g,h,i,j,k),l)=>
 grdO (decide (e.length+1≤9223372036854775807)&&decide ((e.length+1)*40≤140737488355328)) (some (((↑(List.length (e++[(a,b,c,d)])):Int),(e++[(a,b,c,d)],f,g,h,i,j,k),l)))
def zPQ:=insT 5000326 (mkE 326 false [(0,[]),(0,[4])] zWB zJF F5000326 [.tmp 4] 46 [100000,100001]) tb309
def zWn:zTb zPQ:=okI ok309 zVp zVG func326 rfl call326
abbrev zPL:SPat:=⟨[(0,.ptr 100000 0),(1,.s)],[.box 100000 (pl zo7),.arr 100001 (.int .i64) true]⟩
def F5000312:zBy×(List Cst×Int×Int×Int×List Fld×List Mth×Bool)×List Int→Option (Int×(List Cst×Int×Int×Int×List Fld×List Mth×Bool)×List Int):=fun(a,(b,c,d,e,f,g,h),i)=>
 cndO (decide (60<(a.length:Int)))
 (some (((0:Int),(b,c,d,e,f,g,true),i)))
 (zAA (F5000326 (((1:Int),a,(0:Int),(0:Int)),(b,c,d,e,f,g,h),i)) fun(a,(b,c,d,e,f,g,h),i)=>
 some ((a,(b,c,d,e,f,g,h),i)))
def zPR:=insT 5000312 (mkE 312 false [(0,[]),(0,[4])] zPL zJF F5000312 [.tmp 4] 15 [100000,100001]) zPQ
def zWo:zTb zPR:=okI zWn noPl noIv func312 rfl call312
def F5000310:zBy×(List Cst×Int×Int×Int×List Fld×List Mth×Bool)×List Int→Option (Int×(List Cst×Int×Int×Int×List Fld×List Mth×Bool)×List Int):=fun(a,(b,c,d,e,f,g,h),i)=>
 zAA (F5000312 (a,(b,c,d,e,f,g,h),i)) fun(a,(b,c,d,e,f,g,h),i)=>
 zAA (F5000326 (((2:Int),[],a,(0:Int)),(b,c,d,e,f,g,h),i)) fun(a,(b,c,d,e,f,g,h),i)=>
 some ((a,(b,c,d,e,f,g,h),i))
def zPS:=insT 5000310 (mkE 310 false [(0,[]),(0,[4])] zPL zJF F5000310 [.tmp 4] 11 [100000,100001]) zPR
def zWp:zTb zPS:=okI zWo noPl noIv func310 rfl call310
abbrev zWA:SPat:=⟨[(0,.ptr 100000 0),(1,.agg (pl zo4))],[.box 100000 (pl zo8),.arr 100001 tg89 true]⟩
abbrev zJE:SPat:=⟨[(4,.i .i64)],[.box 100000 (pl zo8),.arr 100001 tg89 true]⟩
abbrev zQu:SPat:=⟨[(0,.ptr 100000 0),(3,.ptr 3 0),(5,.i .i64)],[.box 3 (pl zo4),.box 100000 (pl zo8),.arr 100001 tg89 true]⟩
abbrev zHk:SPat:=⟨[(0,.ptr 100000 0),(3,.ptr 3 0)],[.box 3 (pl zo4),.box 100000 (pl zo8),.arr 100001 tg89 true]⟩
def zVF:Nat→Option SPat:=fun k=>bif k==2 then some zQu else bif k==2000000 then some zHk else none
def zVo:Nat→List Nat×Plan:=fun id=>bif id==4 then(zn7,.fin)else bif id==6 then(zn8,(.br 7 [6] zn2 [] (.br 8 zn9 [0] [9,10,11] (.br 12 zn10 [] [] .fin .fin) .fin) .fin))else([],.fin)
def F6000326 :  Cst×(List Cst×Int×Int×Int×List Int×List Mth×Bool)×List Fld→Option (Int×(List Cst×Int×Int×Int×List Int×List Mth×Bool)×List Fld):=fun((a,b,c,d),(e,f,g,h,i,j,k),l)=>
 bindE (Y :=  Cst×(List Cst×Int×Int×Int×List Int×List Mth×Bool)×List Fld) (zAE (fun(a,(b,c,d,e),(f,g,h,i,j,k,l),m)=>
 cndO (decide (a<(f.length:Int)))
 (grdO (decide (0≤a)&&decide (a<(f.length:Int))) (atO f a.toNat fun n=>cndO (decide (n.1=b)&&(decide (n.2.1=c)&&(decide (n.2.2.1=d)&&(decide (n.2.2.2=e)&&true))))
 (some (inr (inr (wrap .i64 (a+1),(f,g,h,i,j,k,l),m))))
 (some (inl (wrap .i64 (a+1),(b,c,d,e),(f,g,h,i,j,k,l),m)))))
 (some (inr (inl ((b,c,d,e),(f,g,h,i,j,k,l),m))))) (((0:Int),(a,b,c,d),(e,f,g,h,i,j,k),l))) fun((a,b,c,d),(e,f,g,h,i,j,k),l)=>
 grdO (decide (e.length+1≤9223372036854775807)&&decide ((e.length+1)*40≤140737488355328)) (some (((↑(List.length (e++[(a,b,c,d)])):Int),(e++[(a,b,c,d)],f,g,h,i,j,k),l)))
def zPN:=insT 6000326 (mkE 326 false [(0,[]),(0,[5])] zWA zJE F6000326 [.tmp 4] 46 [100000,100001]) zPS
def zWk:zTb zPN:=okI zWp zVo zVF func326 rfl call326
abbrev zPK:SPat:=⟨[(0,.ptr 100000 0),(1,.s)],[.box 100000 (pl zo8),.arr 100001 tg89 true]⟩
def F6000312:zBy×(List Cst×Int×Int×Int×List Int×List Mth×Bool)×List Fld→Option (Int×(List Cst×Int×Int×Int×List Int×List Mth×Bool)×List Fld):=fun(a,(b,c,d,e,f,g,h),i)=>
 cndO (decide (60<(a.length:Int)))
 (some (((0:Int),(b,c,d,e,f,g,true),i)))
 (zAA (F6000326 (((1:Int),a,(0:Int),(0:Int)),(b,c,d,e,f,g,h),i)) fun(a,(b,c,d,e,f,g,h),i)=>
 some ((a,(b,c,d,e,f,g,h),i)))
def zPO:=insT 6000312 (mkE 312 false [(0,[]),(0,[5])] zPK zJE F6000312 [.tmp 4] 15 [100000,100001]) zPN
def zWl:zTb zPO:=okI zWk noPl noIv func312 rfl call312
def F6000311:zBy×(List Cst×Int×Int×Int×List Int×List Mth×Bool)×List Fld→Option (Int×(List Cst×Int×Int×Int×List Int×List Mth×Bool)×List Fld):=fun(a,(b,c,d,e,f,g,h),i)=>
 zAA (F327 a) fun a=>
 cndO (decide (a<0))
 (some (((0:Int),(b,c,d,e,f,g,true),i)))
 (some ((a,(b,c,d,e,f,g,h),i)))
def zPP:=insT 6000311 (mkE 311 false [(0,[]),(0,[5])] zPK zJE F6000311 [.tmp 4] 14 [100000,100001]) zPO
def zWm:zTb zPP:=okI zWl noPl noIv func311 rfl call311
abbrev ti108:SPat:=⟨[(0,.i .i64),(1,.i .i64)],[]⟩
abbrev zBu:SPat:=⟨[(4,.b)],[]⟩
def F108:Int×Int→Option Bool:=fun(a,b)=>
 grdO (!decide (b=0)) (some (decide (Int.tmod (wrap .i64 (Int.tdiv a b)) (2:Int)=1)))
def tb108:=insT 108 (mkE 108 true [] ti108 zBu F108 [.tmp 4] 10 []) zPP
def ok108:zTb tb108:=okI zWm noPl noIv func108 rfl call108
abbrev zMA:SPat:=⟨[(0,.ptr 100000 0),(1,.sl .str),(4,.ptr 4 0)],[.box 4 (pl plN),.box 100000 (pl plB)]⟩
abbrev zLz:SPat:=⟨[(0,.ptr 100000 0),(4,.ptr 4 0)],[.box 4 (pl plN),.box 100000 (pl plB)]⟩
def tv313:Nat→Option SPat:=fun k=>bif k==1000004 then some zMA else bif k==1000006 then some zLz else none
def tp313:Nat→List Nat×Plan:=fun id=>bif id==0 then(zn18,(.br 4 [3,2,1,0] zn19 [] (.br 9 zn20 zn21 [] (.br 14 zn22 [] [15] (.br 16 [] [0,1,2,3,5,6,7,8,10,11,12,13,15] [] (.br 17 zn23 [] [] .fin .fin) .fin) (.br 16 [] zn18 [] (.br 14 zn22 [] [15] (.br 17 zn23 [] [] .fin .fin) .fin) .fin)) (.br 16 [] zn18 [] (.br 9 zn20 zn21 [] (.br 14 zn22 [] [15] (.br 17 zn23 [] [] .fin .fin) .fin) .fin) .fin)) (.br 16 [] zn18 [] (.br 4 [3,2,1,0] zn19 [] (.br 9 zn20 zn21 [] (.br 14 zn22 [] [15] (.br 17 zn23 [] [] .fin .fin) .fin) .fin) .fin) .fin)))else bif id==6 then(zn8,(.br 7 [6] zn2 [] (.br 8 zn9 [0] [9,10,11] (.br 12 zn10 [] [] .fin .fin) .fin) .fin))else([],.fin)
def F313:List zBy×List Cst×Int×Int×Int×List Int×List Fld×List Mth×Bool→Option (List Cst×Int×Int×Int×List Int×List Fld×List Mth×Bool):=fun(a,b,c,d,e,f,g,h,i)=>atO a 1 fun j=>atO a 2 fun k=>atO a 3 fun l=>let m:=fun(b:List Mth) (c:Bool) (d:List Fld) (e:Int) (f:Int) (g:List Cst) (h:Int) (i:Int) (j:Int) (k:List Int) (l:Int)=>bindE (Y:=List zBy×Mth×List Cst×Int×Int×Int×List Int×List Fld×List Mth×Bool) (cndO (decide ((a.length:Int)=6)) (atO a 4 fun m=>zAA (F311 (m,g,h,i,j,k,d,b,c)) fun(b,c,d,g,h,i,j,k,m)=>atO a 5 fun n=>zAA (F311 (n,c,d,g,h,i,j,k,m)) fun(c,d,g,h,i,j,k,m,n)=>some (inl (a,(f,e,l,b,c,[],[],[]),d,g,h,i,j,k,m,n))) (some (inl (a,(f,e,l,(0:Int),(0:Int),[],[],[]),g,h,i,j,k,d,b,c)))) fun(a,(b,c,d,e,f,g,h,i),j,k,l,m,n,o,p,q)=>bindE (Y :=  Mth×List Cst×Int×Int×Int×List Int×List Fld×List Mth×Bool) (zAA (F108 (b,8)) fun r=>cndO (!decide (decide ((a.length:Int)=4)=r)) (some (inl ((b,c,d,e,f,g,h,i),j,k,l,m,n,o,p,true))) (some (inl ((b,c,d,e,f,g,h,i),j,k,l,m,n,o,p,q)))) fun((a,b,c,d,e,f,g,h),i,j,k,l,m,n,o,p)=>grdO (decide (o.length+1≤9223372036854775807)&&decide ((o.length+1)*104≤140737488355328)) (some ((i,j,k,l,m,n,o++[(a,b,c,d,e,f,g,h)],p)));let n:=seqU (grdO (decide (a=a)) (some ())) (seqU (atO a 2 fun a=>grdO (decide (a=k)&&true) (some ())) (seqU (grdO (decide (k=k)) (some ())) (seqU (grdO (decide (a=a)) (some ())) (seqU (atO a 3 fun a=>grdO (decide (a=l)&&true) (some ())) (seqU (grdO (decide (l=l)) (some ())) (some ()))))));let o:=fun(b:List Fld) (c:List Mth) (d:Bool) (e:Int) (f:List Cst) (g:Int) (h:Int) (i:Int) (j:List Int)=>zAA (F312 (k,f,g,h,i,j,b,c,d)) fun(b,c,d,f,g,h,i,j,k)=>seqU (seqU (grdO (decide (a=a)) (some ())) (seqU (atO a 3 fun a=>grdO (decide (a=l)&&true) (some ())) (seqU (grdO (decide (l=l)) (some ())) (some ())))) (zAA (F311 (l,c,d,f,g,h,i,j,k)) fun(a,c,d,f,g,h,i,j,k)=>m j k i e a c d f g h b);zBK (zAA (F312 (j,b,c,d,e,f,g,h,i)) fun(b,c,d,e,f,g,h,i,p)=>seqU n (zBK (zAA (F312 (k,c,d,e,f,g,h,i,p)) fun(c,d,e,f,g,h,i,n,o)=>seqU (seqU (grdO (decide (a=a)) (some ())) (seqU (atO a 3 fun a=>grdO (decide (a=l)&&true) (some ())) (seqU (grdO (decide (l=l)) (some ())) (some ())))) (zBK (zAA (F311 (l,d,e,f,g,h,i,n,o)) fun(d,e,f,g,h,i,n,o,p)=>seqU (seqU (grdO (decide (a=a)) (some ())) (seqU (atO a 1 fun a=>grdO (decide (a=j)&&true) (some ())) (seqU (grdO (decide (j=j)) (some ())) (seqU (grdO (decide (a=a)) (some ())) (seqU (atO a 2 fun a=>grdO (decide (a=k)&&true) (some ())) (seqU (grdO (decide (k=k)) (some ())) (seqU (grdO (decide (a=a)) (some ())) (seqU (atO a 3 fun a=>grdO (decide (a=l)&&true) (some ())) (seqU (grdO (decide (l=l)) (some ())) (seqU (grdO (decide (d=d)&&(decide (b=b)&&(decide (c=c)&&true))) (some ())) (some ()))))))))))) (m o p n b d e f g h i c)) (seqU (seqU (grdO (decide (a=a)) (some ())) (seqU (atO a 1 fun a=>grdO (decide (a=j)&&true) (some ())) (seqU (grdO (decide (j=j)) (some ())) (seqU (grdO (decide (a=a)) (some ())) (seqU (atO a 2 fun a=>grdO (decide (a=k)&&true) (some ())) (seqU (grdO (decide (k=k)) (some ())) (seqU (grdO (decide (a=a)) (some ())) (seqU (atO a 3 fun a=>grdO (decide (a=l)&&true) (some ())) (seqU (grdO (decide (l=l)) (some ())) (some ())))))))))) (zAA (F311 (l,d,e,f,g,h,i,n,o)) fun(a,d,e,f,g,h,i,j,k)=>m j k i b a d e f g h c)))) (seqU (seqU (grdO (decide (a=a)) (some ())) (seqU (atO a 1 fun a=>grdO (decide (a=j)&&true) (some ())) (seqU (grdO (decide (j=j)) (some ())) n))) (o h i p b c d e f g)))) (seqU (seqU (grdO (decide (a=a)) (some ())) (seqU (atO a 1 fun a=>grdO (decide (a=j)&&true) (some ())) (seqU (grdO (decide (j=j)) (some ())) (seqU (grdO (decide (a=a)) (some ())) (seqU (atO a 2 fun a=>grdO (decide (a=k)&&true) (some ())) (seqU (grdO (decide (k=k)) (some ())) (seqU (grdO (decide (a=a)) (some ())) (seqU (atO a 3 fun a=>grdO (decide (a=l)&&true) (some ())) (seqU (grdO (decide (l=l)) (some ())) (some ())))))))))) (zAA (F312 (j,b,c,d,e,f,g,h,i)) fun(a,b,c,d,e,f,g,h,i)=>seqU n (o g h i a b c d e f)))
def tb313:=insT 313 (mkE 313 false [(0,[])] ti309 zVt F313 [] 58 [100000]) tb108
def ok313:zTb tb313:=okI ok108 tp313 tv313 func313 rfl call313
abbrev zLx:SPat:=⟨[(0,.ptr 100000 0),(4,.ptr 4 0)],[.box 4 (pl zo9),.box 100000 (pl plB)]⟩
def tv314:Nat→Option SPat:=fun k=>bif k==1000003 then some zLx else none
def tp314:Nat→List Nat×Plan:=fun id=>bif id==0 then(zn18,(.br 4 [3,2,1,0] zn19 [] (.br 9 zn20 zn21 [] (.br 14 zn22 [] [15] (.br 16 [] [0,1,2,3,5,6,7,8,10,11,12,13,15] [] (.br 17 zn23 [] [] .fin .fin) .fin) (.br 16 [] zn18 [] (.br 14 zn22 [] [15] (.br 17 zn23 [] [] .fin .fin) .fin) .fin)) (.br 16 [] zn18 [] (.br 9 zn20 zn21 [] (.br 14 zn22 [] [15] (.br 17 zn23 [] [] .fin .fin) .fin) .fin) .fin)) (.br 16 [] zn18 [] (.br 4 [3,2,1,0] zn19 [] (.br 9 zn20 zn21 [] (.br 14 zn22 [] [15] (.br 17 zn23 [] [] .fin .fin) .fin) .fin) .fin) .fin)))else bif id==3 then([0,2,7],(.br 1 [0] [2,7] [] (.br 3 zn16 [7] zn17 (.br 8 [7] [0,2,4,5,6] [] (.br 9 zn20 [] [10,11] (.br 12 zn10 [] [] .fin .fin) .fin) .fin) (.br 8 [7] [0,2] [] (.br 3 zn16 [7] zn17 (.br 9 zn20 [] [10,11] (.br 12 zn10 [] [] .fin .fin) .fin) .fin) .fin)) (.br 8 [7] [0,2] [] (.br 1 [0] [2,7] [] (.br 3 zn16 [7] zn17 (.br 9 zn20 [] [10,11] (.br 12 zn10 [] [] .fin .fin) .fin) .fin) .fin) .fin)))else([],.fin)
def F314:List zBy×List Cst×Int×Int×Int×List Int×List Fld×List Mth×Bool→Option (List Cst×Int×Int×Int×List Int×List Fld×List Mth×Bool):=fun(a,b,c,d,e,f,g,h,i)=>atO a 1 fun j=>atO a 2 fun k=>atO a 3 fun l=>let m:=fun(b:List Mth) (c:Bool) (d:List Fld) (e:Int) (f:Int) (g:List Cst) (h:Int) (i:Int) (j:Int) (k:List Int) (l:Int)=>bindE (Y:=(Int×Int×Int×Int)×List Cst×Int×Int×Int×List Int×List Fld×List Mth×Bool) (atO a 4 fun m=>cndO (!decide (m=[(45:UInt8)])) (atO a 4 fun a=>zAA (F310 (a,g,h,i,j,k,d,b,c)) fun(a,b,c,d,g,h,i,j,k)=>some (inl ((e,l,f,a),b,c,d,g,h,i,j,k))) (some (inl ((e,l,f,(0:Int)),g,h,i,j,k,d,b,c)))) fun((a,b,c,d),e,f,g,h,i,j,k,l)=>let m:=fun(e:List Fld) (f:Bool) (g:List Mth) (h:Mth) (i:Nat) (j:Nat) (k:List Cst) (l:Int) (m:Int) (n:Int) (o:List Int)=>grdO (decide (h.2.2.2.2.2.2.1.length+1≤9223372036854775807)&&decide ((h.2.2.2.2.2.2.1.length+1)*32≤140737488355328)) (grdO (decide (i=j)&&decide (j<g.length)) (grdO (decide (j<g.length)) (some ((k,l,m,n,o,e,List.set g j (h.1,h.2.1,h.2.2.1,h.2.2.2.1,h.2.2.2.2.1,h.2.2.2.2.2.1,h.2.2.2.2.2.2.1++[(a,b,c,d)],h.2.2.2.2.2.2.2),f)))));let n:=fun(e:List Int) (f:List Fld) (g:Bool) (h:Nat) (i:List Mth) (j:List Cst) (k:Int) (l:Int) (n:Int)=>zAA (F7000315 ((j,k,l,n,e,f,g),i)) fun(e,(f,g,i,j,k,l,n),o)=>seqU (seqU (grdO (decide (a=a)&&(decide (b=b)&&(decide (c=c)&&(decide (d=d)&&true)))) (some ())) (some ())) (atO o e fun a=>grdO (decide (e=e)&&decide (e<o.length)) (grdO (decide (e=e)&&decide (e<o.length)) (grdO (decide (e=e)&&decide (e<o.length)) (m l n o a h e f g i j k))));zBK (zAA (F315 (e,f,g,h,i,j,k,l)) fun(e,f,g,h,i,j,k,l,o)=>seqU (seqU (grdO (decide (a=a)&&(decide (b=b)&&(decide (c=c)&&(decide (d=d)&&true)))) (some ())) (some ())) (zBK (zAA (F7000315 ((g,h,i,j,k,l,o),f)) fun(f,(g,h,i,j,k,l,n),o)=>seqU (seqU (grdO (decide (a=a)&&(decide (b=b)&&(decide (c=c)&&(decide (d=d)&&true)))) (some ())) (some ())) (atO o f fun a=>grdO (decide (f=f)&&decide (f<o.length)) (grdO (decide (f=f)&&decide (f<o.length)) (grdO (decide (f=f)&&decide (f<o.length)) (seqU (seqU (grdO (f==f&&true) (some ())) (seqU (grdO (f==f&&true) (some ())) (seqU (grdO (decide (f=f)&&decide (f<o.length)) (grdO (decide (f=f)&&decide (f<o.length)) (grdO (decide (f=f)&&decide (f<o.length)) (some ())))) (some ())))) (m l n o a e f g h i j k)))))) (n k l o e f g h i j))) (zAA (F315 (e,f,g,h,i,j,k,l)) fun(e,f,g,h,i,j,k,l,m)=>seqU (seqU (grdO (decide (a=a)&&(decide (b=b)&&(decide (c=c)&&(decide (d=d)&&true)))) (some ())) (some ())) (n k l m e f g h i j));let n:=seqU (grdO (decide (a=a)) (some ())) (seqU (atO a 2 fun a=>grdO (decide (a=k)&&true) (some ())) (seqU (grdO (decide (k=k)) (some ())) (seqU (grdO (decide (a=a)) (some ())) (seqU (atO a 3 fun a=>grdO (decide (a=l)&&true) (some ())) (seqU (grdO (decide (l=l)) (some ())) (some ()))))));let o:=fun(b:List Fld) (c:List Mth) (d:Bool) (e:Int) (f:List Cst) (g:Int) (h:Int) (i:Int) (j:List Int)=>zAA (F311 (k,f,g,h,i,j,b,c,d)) fun(b,c,d,f,g,h,i,j,k)=>seqU (seqU (grdO (decide (a=a)) (some ())) (seqU (atO a 3 fun a=>grdO (decide (a=l)&&true) (some ())) (seqU (grdO (decide (l=l)) (some ())) (some ())))) (zAA (F311 (l,c,d,f,g,h,i,j,k)) fun(a,c,d,f,g,h,i,j,k)=>m j k i e a c d f g h b);zBK (zAA (F311 (j,b,c,d,e,f,g,h,i)) fun(b,c,d,e,f,g,h,i,p)=>seqU n (zBK (zAA (F311 (k,c,d,e,f,g,h,i,p)) fun(c,d,e,f,g,h,i,n,o)=>seqU (seqU (grdO (decide (a=a)) (some ())) (seqU (atO a 3 fun a=>grdO (decide (a=l)&&true) (some ())) (seqU (grdO (decide (l=l)) (some ())) (some ())))) (zBK (zAA (F311 (l,d,e,f,g,h,i,n,o)) fun(d,e,f,g,h,i,n,o,p)=>seqU (seqU (grdO (decide (a=a)) (some ())) (seqU (atO a 1 fun a=>grdO (decide (a=j)&&true) (some ())) (seqU (grdO (decide (j=j)) (some ())) (seqU (grdO (decide (a=a)) (some ())) (seqU (atO a 2 fun a=>grdO (decide (a=k)&&true) (some ())) (seqU (grdO (decide (k=k)) (some ())) (seqU (grdO (decide (a=a)) (some ())) (seqU (atO a 3 fun a=>grdO (decide (a=l)&&true) (some ())) (seqU (grdO (decide (l=l)) (some ())) (seqU (grdO (decide (b=b)&&(decide (c=c)&&(decide (d=d)&&true))) (some ())) (some ()))))))))))) (m o p n b d e f g h i c)) (seqU (seqU (grdO (decide (a=a)) (some ())) (seqU (atO a 1 fun a=>grdO (decide (a=j)&&true) (some ())) (seqU (grdO (decide (j=j)) (some ())) (seqU (grdO (decide (a=a)) (some ())) (seqU (atO a 2 fun a=>grdO (decide (a=k)&&true) (some ())) (seqU (grdO (decide (k=k)) (some ())) (seqU (grdO (decide (a=a)) (some ())) (seqU (atO a 3 fun a=>grdO (decide (a=l)&&true) (some ())) (seqU (grdO (decide (l=l)) (some ())) (some ())))))))))) (zAA (F311 (l,d,e,f,g,h,i,n,o)) fun(a,d,e,f,g,h,i,j,k)=>m j k i b a d e f g h c)))) (seqU (seqU (grdO (decide (a=a)) (some ())) (seqU (atO a 1 fun a=>grdO (decide (a=j)&&true) (some ())) (seqU (grdO (decide (j=j)) (some ())) n))) (o h i p b c d e f g)))) (seqU (seqU (grdO (decide (a=a)) (some ())) (seqU (atO a 1 fun a=>grdO (decide (a=j)&&true) (some ())) (seqU (grdO (decide (j=j)) (some ())) (seqU (grdO (decide (a=a)) (some ())) (seqU (atO a 2 fun a=>grdO (decide (a=k)&&true) (some ())) (seqU (grdO (decide (k=k)) (some ())) (seqU (grdO (decide (a=a)) (some ())) (seqU (atO a 3 fun a=>grdO (decide (a=l)&&true) (some ())) (seqU (grdO (decide (l=l)) (some ())) (some ())))))))))) (zAA (F311 (j,b,c,d,e,f,g,h,i)) fun(a,b,c,d,e,f,g,h,i)=>seqU n (o g h i a b c d e f)))
def tb314:=insT 314 (mkE 314 false [(0,[])] ti309 zVt F314 [] 43 [100000]) tb313
def ok314:zTb tb314:=okI ok313 tp314 tv314 func314 rfl call314
abbrev zEp:SPat:=⟨[(0,.ptr 100000 0),(1,.s)],[.box 100000 (pl zo5),.opn 100001 tg53 (.all true) (pl zo10),.arr 100002 zBd true]⟩
abbrev zEo:SPat:=⟨[(4,.i .i64)],[.box 100000 (pl zo5),.opn 100001 tg53 (.all true) (pl zo10),.arr 100002 zBd true]⟩
def F807000311:zBy×(List Cst×Int×Int×Int×List Int×List Fld×Bool)×(List Mth×Nat×Int×Int×Int×Int×Int×zBy×List Trp)×List Frm→Option (Int×(List Cst×Int×Int×Int×List Int×List Fld×Bool)×(List Mth×Nat×Int×Int×Int×Int×Int×zBy×List Trp)×List Frm):=fun(a,(b,c,d,e,f,g,h),(i,j,k,l,m,n,o,p,q),r)=>
 zAA (F327 a) fun a=>
 cndO (decide (a<0))
 (grdO (decide (j=j)&&decide (j<i.length)) (some (((0:Int),(b,c,d,e,f,g,true),(i,j,k,l,m,n,o,p,q),r))))
 (grdO (decide (j=j)&&decide (j<i.length)) (some ((a,(b,c,d,e,f,g,h),(i,j,k,l,m,n,o,p,q),r))))
def zJM:=insT 807000311 (mkE 311 false [(0,[]),(0,[6]),(0,[6,7])] zEp zEo F807000311 [.tmp 4] 14 [100000,100001,100002]) tb314
def zRg:zTb zJM:=okI ok314 noPl noIv func311 rfl call311
abbrev ti212:SPat:=⟨[(0,.i .u8)],[]⟩
abbrev zEL:SPat:=⟨[(2,.b)],[]⟩
def F212:Int→Option Bool:=fun a=>
 cndO (decide (97≤a))
 (cndO (decide (a≤122))
 (some true)
 (cndO (decide (65≤a))
 (some (decide (a≤90)))
 (some false)))
 (cndO (decide (65≤a))
 (some (decide (a≤90)))
 (some false))
def tb212:=insT 212 (mkE 212 true [] ti212 zEL F212 [.tmp 2] 17 []) zJM
def ok212:zTb tb212:=okI zRg noPl noIv func212 rfl call212
def tv127:Nat→Option SPat:=fun k=>bif k==2 then some zEl else bif k==2000000 then some zEV else bif k==2000001 then some zEl else none
def F127:zBy→Option Bool:=fun a=>
 bindE (Y:=zBy) (zAE (fun(a,b)=>
 cndO (decide (b<(a.length:Int)))
 (bindE (Y:=zBy×Int) (grdO (decide (0≤b)) (atO a b.toNat fun c=>zAA (F212 (c.toNat:Int)) fun c=>
 cndO (!c)
 (cndO (decide (b=0))
 (some (inr (inr (inr false))))
 (grdO (decide (0≤b)) (atO a b.toNat fun c=>cndO (decide ((c.toNat:Int)<48))
 (some (inr (inr (inr false))))
 (grdO (decide (0≤b)) (atO a b.toNat fun c=>cndO (decide (57<(c.toNat:Int)))
 (some (inr (inr (inr false))))
 (some (inl (a,b))))))))
 (some (inl (a,b))))) fun(a,b)=>
 some (inl (a,wrap .i64 (b+1))))
 (some (inr (inl a)))) ((a,(0:Int)))) fun a=>
 zAA (F107 ((a.length:Int),1,8)) fun a=>
 some (a)
def tb127:=insT 127 (mkE 127 true [] zEV zEL F127 [.tmp 2] 34 []) tb212
def ok127:zTb tb127:=okI ok212 noPl tv127 func127 rfl call127
abbrev ti213:SPat:=⟨[(0,.s),(1,.i .i64)],[]⟩
abbrev ts213_6:SPat:=⟨[(0,.s),(1,.i .i64),(5,.i .i64)],[]⟩
def tv213:Nat→Option SPat:=fun k=>bif k==6 then some ts213_6 else bif k==1000003 then some ti213 else bif k==1000005 then some ti213 else bif k==2000000 then some zCA else none
def F213:zBy×Int→Option Int:=fun(a,b)=>
 bindE (Y:=zBy×Int) (cndO (decide (b<(a.length:Int)))
 (grdO (decide (0≤b)) (atO a b.toNat fun c=>cndO (decide ((c.toNat:Int)=73))
 (some (inr (wrap .i64 (b+1))))
 (some (inl (a,b)))))
 (some (inl (a,b)))) fun(a,b)=>
 bindE (Y:=zBy×Int) (cndO (decide ((a.length:Int)≤b))
 (some (inr (-1:Int)))
 (grdO (decide (0≤b)) (atO a b.toNat fun c=>cndO (!decide ((c.toNat:Int)=76))
 (some (inr (-1:Int)))
 (some (inl (a,b)))))) fun(a,b)=>
 bindE (zAE (fun(a,b,c)=>
 cndO (decide (c<(a.length:Int)))
 (grdO (decide (0≤c)) (atO a c.toNat fun d=>cndO (decide ((d.toNat:Int)=59))
 (grdO (decide (0≤wrap .i64 (b+1))&&decide (wrap .i64 (b+1)≤c)&&decide (c≤(a.length:Int))) (zAA (F127 (List.drop (Int.toNat (wrap .i64 (b+1))) (List.take c.toNat a))) fun a=>
 cndO (a)
 (some (inr (inr (wrap .i64 (c+1)))))
 (some (inr (inr (-1:Int))))))
 (some (inl (a,b,wrap .i64 (c+1))))))
 (some (inr (inl ())))) ((a,b,wrap .i64 (b+1)))) fun _=>
 some ((-1:Int))
def tb213:=insT 213 (mkE 213 true [] ti213 zNR F213 [.tmp 4] 48 []) tb127
def ok213:zTb tb213:=okI ok127 noPl tv213 func213 rfl call213
def F128:zBy→Option Bool:=fun a=>
 cndO (decide (0<(a.length:Int)))
 (zAA (F213 (a,0)) fun b=>
 some (decide (b=(a.length:Int))))
 (some false)
def tb128:=insT 128 (mkE 128 true [] zEV zEL F128 [.tmp 2] 13 []) tb213
def ok128:zTb tb128:=okI ok213 noPl noIv func128 rfl call128
abbrev zRG:SPat:=⟨[(0,.ptr 100000 0),(1,.agg (pl zo4))],[.box 100000 (pl zo5),.opn 100001 tg53 (.all true) (pl zo10),.arr 100002 zBd true]⟩
abbrev zLo:SPat:=⟨[(0,.ptr 100000 0),(3,.ptr 3 0),(5,.i .i64)],[.box 3 (pl zo4),.box 100000 (pl zo5),.opn 100001 tg53 (.all true) (pl zo10),.arr 100002 zBd true]⟩
abbrev zGP:SPat:=⟨[(0,.ptr 100000 0),(3,.ptr 3 0)],[.box 3 (pl zo4),.box 100000 (pl zo5),.opn 100001 tg53 (.all true) (pl zo10),.arr 100002 zBd true]⟩
def zQq:Nat→Option SPat:=fun k=>bif k==2 then some zLo else bif k==2000000 then some zGP else none
def zRB:Nat→List Nat×Plan:=fun id=>bif id==4 then(zn7,.fin)else bif id==6 then(zn8,(.br 7 [6] zn2 [] (.br 8 zn9 [0] [9,10,11] (.br 12 zn10 [] [] .fin .fin) .fin) .fin))else([],.fin)
def F807000326 :  Cst×(List Cst×Int×Int×Int×List Int×List Fld×Bool)×(List Mth×Nat×Int×Int×Int×Int×Int×zBy×List Trp)×List Frm→Option (Int×(List Cst×Int×Int×Int×List Int×List Fld×Bool)×(List Mth×Nat×Int×Int×Int×Int×Int×zBy×List Trp)×List Frm):=fun((a,b,c,d),(e,f,g,h,i,j,k),(l,m,n,o,p,q,r,s,t),u)=>
 bindE (Y :=  Cst×(List Cst×Int×Int×Int×List Int×List Fld×Bool)×(List Mth×Nat×Int×Int×Int×Int×Int×zBy×List Trp)×List Frm) (grdO (decide (m=m)&&decide (m<l.length)) (zAE (fun(a,(b,c,d,e),(f,g,h,i,j,k,l),(m,n,o,p,q,r,s,t,u),v)=>
 cndO (decide (a<(f.length:Int)))
 (grdO (decide (0≤a)&&decide (a<(f.length:Int))) (atO f a.toNat fun w=>cndO (decide (w.1=b)&&(decide (w.2.1=c)&&(decide (w.2.2.1=d)&&(decide (w.2.2.2=e)&&true))))
 (mapR (mapR (grdO (decide (n=n)&&decide (n<m.length)) (some ((wrap .i64 (a+1),(f,g,h,i,j,k,l),(m,n,o,p,q,r,s,t,u),v))))))
 (grdO (decide (n=n)&&decide (n<m.length)) (some (inl (wrap .i64 (a+1),(b,c,d,e),(f,g,h,i,j,k,l),(m,n,o,p,q,r,s,t,u),v))))))
 (mapR (grdO (decide (n=n)&&decide (n<m.length)) (some (inl ((b,c,d,e),(f,g,h,i,j,k,l),(m,n,o,p,q,r,s,t,u),v)))))) (((0:Int),(a,b,c,d),(e,f,g,h,i,j,k),(l,m,n,o,p,q,r,s,t),u)))) fun((a,b,c,d),(e,f,g,h,i,j,k),(l,m,n,o,p,q,r,s,t),u)=>
 grdO (decide (e.length+1≤9223372036854775807)&&decide ((e.length+1)*40≤140737488355328)) (grdO (decide (m=m)&&decide (m<l.length)) (some (((↑(List.length (e++[(a,b,c,d)])):Int),(e++[(a,b,c,d)],f,g,h,i,j,k),(l,m,n,o,p,q,r,s,t),u))))
def zJJ:=insT 807000326 (mkE 326 false [(0,[]),(0,[6]),(0,[6,7])] zRG zEo F807000326 [.tmp 4] 46 [100000,100001,100002]) tb128
def zRd:zTb zJJ:=okI ok128 zRB zQq func326 rfl call326
def F807000312:zBy×(List Cst×Int×Int×Int×List Int×List Fld×Bool)×(List Mth×Nat×Int×Int×Int×Int×Int×zBy×List Trp)×List Frm→Option (Int×(List Cst×Int×Int×Int×List Int×List Fld×Bool)×(List Mth×Nat×Int×Int×Int×Int×Int×zBy×List Trp)×List Frm):=fun(a,(b,c,d,e,f,g,h),(i,j,k,l,m,n,o,p,q),r)=>
 cndO (decide (60<(a.length:Int)))
 (grdO (decide (j=j)&&decide (j<i.length)) (some (((0:Int),(b,c,d,e,f,g,true),(i,j,k,l,m,n,o,p,q),r))))
 (zAA (F807000326 (((1:Int),a,(0:Int),(0:Int)),(b,c,d,e,f,g,h),(i,j,k,l,m,n,o,p,q),r)) fun(a,(b,c,d,e,f,g,h),(i,j,k,l,m,n,o,p,q),r)=>
 grdO (decide (j=j)&&decide (j<i.length)) (some ((a,(b,c,d,e,f,g,h),(i,j,k,l,m,n,o,p,q),r))))
def zJL:=insT 807000312 (mkE 312 false [(0,[]),(0,[6]),(0,[6,7])] zEp zEo F807000312 [.tmp 4] 15 [100000,100001,100002]) zJJ
def zRf:zTb zJL:=okI zRd noPl noIv func312 rfl call312
def F807000310:zBy×(List Cst×Int×Int×Int×List Int×List Fld×Bool)×(List Mth×Nat×Int×Int×Int×Int×Int×zBy×List Trp)×List Frm→Option (Int×(List Cst×Int×Int×Int×List Int×List Fld×Bool)×(List Mth×Nat×Int×Int×Int×Int×Int×zBy×List Trp)×List Frm):=fun(a,(b,c,d,e,f,g,h),(i,j,k,l,m,n,o,p,q),r)=>
 zAA (F807000312 (a,(b,c,d,e,f,g,h),(i,j,k,l,m,n,o,p,q),r)) fun(a,(b,c,d,e,f,g,h),(i,j,k,l,m,n,o,p,q),r)=>
 zAA (F807000326 (((2:Int),[],a,(0:Int)),(b,c,d,e,f,g,h),(i,j,k,l,m,n,o,p,q),r)) fun(a,(b,c,d,e,f,g,h),(i,j,k,l,m,n,o,p,q),r)=>
 grdO (decide (j=j)&&decide (j<i.length)) (some ((a,(b,c,d,e,f,g,h),(i,j,k,l,m,n,o,p,q),r)))
def zJN:=insT 807000310 (mkE 310 false [(0,[]),(0,[6]),(0,[6,7])] zEp zEo F807000310 [.tmp 4] 11 [100000,100001,100002]) zJL
def zRh:zTb zJN:=okI zRf noPl noIv func310 rfl call310
abbrev zRD:SPat:=⟨[(4,.own zBv true)],[.box 100000 (pl zo5),.opn 100001 tg53 (.all true) (pl zo10),.arr 100002 zBd true]⟩
abbrev zGo:SPat:=⟨[(0,.ptr 100000 0),(5,.own zBv true),(6,.own .str true),(7,.i .i64)],[.box 100000 (pl zo5),.opn 100001 tg53 (.all true) (pl zo10),.arr 100002 zBd true]⟩
abbrev zGQ:SPat:=⟨[(5,.own zBv true)],[.box 100000 (pl zo5),.opn 100001 tg53 (.all true) (pl zo10),.arr 100002 zBd true]⟩
def zQr:Nat→Option SPat:=fun k=>bif k==6 then some zGo else bif k==2000000 then some zGQ else bif k==2000002 then some zGo else none
def zRC:Nat→List Nat×Plan:=fun id=>bif id==16 then(zn11,(.br 13 [12,11,10,9,8,7,6,5,4,3,2,1] [0] [14] (.br 15 zn24 [0] [] (.br 16 zn3 [] [] (.br 17 zn23 [] [] .fin .fin) .fin) .fin) .fin))else([],.fin)
def F807000316:zBy×(List Cst×Int×Int×Int×List Int×List Fld×Bool)×(List Mth×Nat×Int×Int×Int×Int×Int×zBy×List Trp)×List Frm→Option (List Knd×(List Cst×Int×Int×Int×List Int×List Fld×Bool)×(List Mth×Nat×Int×Int×Int×Int×Int×zBy×List Trp)×List Frm):=fun(a,(b,c,d,e,f,g,h),(i,j,k,l,m,n,o,p,q),r)=>
 cndO (decide (a=[(46:UInt8)]))
 (grdO (decide (j=j)&&decide (j<i.length)) (some (([],(b,c,d,e,f,g,h),(i,j,k,l,m,n,o,p,q),r))))
 (zAA (F278 (a,44,8)) fun a=>
 bindE (Y:=List Knd×(List Cst×Int×Int×Int×List Int×List Fld×Bool)×(List Mth×Nat×Int×Int×Int×Int×Int×zBy×List Trp)×List Frm) (grdO (decide (j=j)&&decide (j<i.length)) (zAE (fun(a,b,c,(d,e,f,g,h,i,j),(k,l,m,n,o,p,q,r,s),t)=>
 cndO (decide (c<(b.length:Int)))
 (bindE (Y:=List Knd×List zBy×Int×(List Cst×Int×Int×Int×List Int×List Fld×Bool)×(List Mth×Nat×Int×Int×Int×Int×Int×zBy×List Trp)×List Frm) (grdO (decide (0≤c)&&decide (c<(b.length:Int))) (atO b c.toNat fun u=>cndO (decide (u=[(73:UInt8)]))
 (grdO (decide (a.length+1≤9223372036854775807)&&decide ((a.length+1)*16≤140737488355328)) (grdO (decide (l=l)&&decide (l<k.length)) (some (inl (a++[((1:Int),(0:Int))],b,c,(d,e,f,g,h,i,j),(k,l,m,n,o,p,q,r,s),t)))))
 (grdO (decide (0≤c)&&decide (c<(b.length:Int))) (atO b c.toNat fun u=>cndO (decide (u=[(78:UInt8)]))
 (grdO (decide (a.length+1≤9223372036854775807)&&decide ((a.length+1)*16≤140737488355328)) (grdO (decide (l=l)&&decide (l<k.length)) (some (inl (a++[((2:Int),(0:Int))],b,c,(d,e,f,g,h,i,j),(k,l,m,n,o,p,q,r,s),t)))))
 (grdO (decide (0≤c)&&decide (c<(b.length:Int))) (atO b c.toNat fun u=>cndO (decide (u=[(45:UInt8)]))
 (grdO (decide (a.length+1≤9223372036854775807)&&decide ((a.length+1)*16≤140737488355328)) (grdO (decide (l=l)&&decide (l<k.length)) (some (inl (a++[((0:Int),(0:Int))],b,c,(d,e,f,g,h,i,j),(k,l,m,n,o,p,q,r,s),t)))))
 (grdO (decide (0≤c)&&decide (c<(b.length:Int))) (atO b c.toNat fun u=>zAA (F128 u) fun u=>
 cndO (u)
 (grdO (decide (0≤c)&&decide (c<(b.length:Int))) (atO b c.toNat fun u=>grdO (decide (0≤c)&&decide (c<(b.length:Int))) (atO b c.toNat fun v=>grdO (decide (1≤wrap .i64 ((v.length:Int)-1))&&decide (wrap .i64 ((v.length:Int)-1)≤(u.length:Int))) (zAA (F807000310 (List.drop (1:Nat) (List.take (Int.toNat (wrap .i64 ((v.length:Int)-1))) u),(d,e,f,g,h,i,j),(k,l,m,n,o,p,q,r,s),t)) fun(d,(e,f,g,h,i,j,k),(l,m,n,o,p,q,r,s,t),u)=>
 grdO (decide (a.length+1≤9223372036854775807)&&decide ((a.length+1)*16≤140737488355328)) (grdO (decide (m=m)&&decide (m<l.length)) (some (inl (a++[((3:Int),d)],b,c,(e,f,g,h,i,j,k),(l,m,n,o,p,q,r,s,t),u))))))))
 (grdO (decide (l=l)&&decide (l<k.length)) (some (inl (a,b,c,(d,e,f,g,h,i,true),(k,l,m,n,o,p,q,r,s),t)))))))))))) fun(a,b,c,(d,e,f,g,h,i,j),(k,l,m,n,o,p,q,r,s),t)=>
 grdO (decide (l=l)&&decide (l<k.length)) (some (inl (a,b,wrap .i64 (c+1),(d,e,f,g,h,i,j),(k,l,m,n,o,p,q,r,s),t))))
 (mapR (grdO (decide (l=l)&&decide (l<k.length)) (some (inl (a,(d,e,f,g,h,i,j),(k,l,m,n,o,p,q,r,s),t)))))) (([],a,(0:Int),(b,c,d,e,f,g,h),(i,j,k,l,m,n,o,p,q),r)))) fun(a,(b,c,d,e,f,g,h),(i,j,k,l,m,n,o,p,q),r)=>
 grdO (decide (j=j)&&decide (j<i.length)) (some ((a,(b,c,d,e,f,g,h),(i,j,k,l,m,n,o,p,q),r))))
def zJK:=insT 807000316 (mkE 316 false [(0,[]),(0,[6]),(0,[6,7])] zEp zRD F807000316 [.tmp 4] 77 [100000,100001,100002]) zJN
def zRe:zTb zJK:=okI zRh zRC zQr func316 rfl call316
abbrev zMY:SPat:=⟨[(0,.ptr 100000 0),(1,.s),(13,.b)],zo3⟩
abbrev zMX:SPat:=⟨[(0,.ptr 100000 0),(4,.own .str true),(5,.b)],zo3⟩
abbrev zMW:SPat:=⟨[(0,.ptr 100000 0),(4,.own .str true),(5,.b),(31,.b)],zo3⟩
abbrev zMV:SPat:=⟨[(0,.ptr 100000 0),(4,.own .str true),(5,.b),(76,.b)],zo3⟩
abbrev zMU:SPat:=⟨[(0,.ptr 100000 0),(4,.own .str true),(5,.b),(102,.b)],zo3⟩
abbrev zMT:SPat:=⟨[(0,.ptr 100000 0),(4,.own .str true),(5,.b),(139,.b)],zo3⟩
abbrev zMS:SPat:=⟨[(0,.ptr 100000 0),(4,.own .str true),(5,.b),(157,.b)],zo3⟩
abbrev zMR:SPat:=⟨[(0,.ptr 100000 0),(4,.own .str true),(173,.b)],zo3⟩
def tv279:Nat→Option SPat:=fun k=>bif k==1000001 then some zMY else bif k==1000005 then some zMX else bif k==1000006 then some zMW else bif k==1000010 then some zMV else bif k==1000012 then some zMU else bif k==1000014 then some zMT else bif k==1000016 then some zMS else bif k==1000018 then some zMR else bif k==2000000 then some zVt else none
def tp279:Nat→List Nat×Plan:=fun id=>bif id==10 then(zn7,(.br 10 [9,8,7,6] zn2 [] (.br 11 [10,9,8,7,6] zn2 [] (.br 12 [11,10,9,8,7,6,5,4,3,2,1] [0] [13,14,15] (.br 16 zn3 [] [] .fin .fin) .fin) .fin) .fin))else bif id==12 then([0,1,2,3,4,5,6,7,8,9,11,12,13,14,16,17,18,19],(.br 10 [9,8,7,6] [0,1,2,3,4,5,11,12,13,14,16,17,18,19] [] (.br 15 [14,13,12,11,10,9,8,7,6] [0,1,2,3,4,5,16,17,18,19] [] (.br 20 [19,18,17,16,15,14,13,12,11,10,9,8,7,6] zn2 [21] (.br 22 [21,20,19,18,17,16,15,14,13,12,11,10,9,8,7,6] zn2 [] (.br 23 [22,21,20,19,18,17,16,15,14,13,12,11,10,9,8,7,6,5,4,3,2,1] [0] [24,25,26] (.br 27 zn25 [] [] .fin .fin) .fin) .fin) .fin) .fin) .fin))else bif id==18 then([0,2,7,8,9,10,12,13,14,15,17,18,19,20],(.br 1 [0] [2,7,8,9,10,12,13,14,15,17,18,19,20] [] (.br 3 zn16 [7,8,9,10,12,13,14,15,17,18,19,20] zn17 (.br 11 [10,9,8,7,3,2,1,0] [12,13,14,15,17,18,19,20,4,5,6] [] (.br 16 [15,14,13,12,11,10,9,8,7,3,2,1,0] [17,18,19,20,4,5,6] [] (.br 21 [20,19,18,17,16,15,14,13,12,11,10,9,8,7,3,2,1,0] zn17 [22] (.br 23 [22,21,20,19,18,17,16,15,14,13,12,11,10,9,8,7,3,2,1,0] zn17 [] (.br 24 zn26 [] [25,26] (.br 27 zn25 [] [] .fin .fin) .fin) .fin) .fin) .fin) .fin) .fin) .fin))else([],.fin)
def F279:zBy×List Cst×Int×Int×Int×List Int×List Fld×List Mth×Bool→Option (List Cst×Int×Int×Int×List Int×List Fld×List Mth×Bool):=fun(a,b,c,d,e,f,g,h,i)=>
 bindE (Y:=zBy×Bool×List Cst×Int×Int×Int×List Int×List Fld×List Mth×Bool) (cndO (decide (2<(a.length:Int)))
 (grdO (decide (2≤(a.length:Int))) (some (inl (a,decide (List.drop (0:Nat) (List.take (2:Nat) a)=[(32:UInt8),32]),b,c,d,e,f,g,h,i))))
 (some (inl (a,false,b,c,d,e,f,g,h,i)))) fun(a,b,c,d,e,f,g,h,i,j)=>
 cndO (b)
 (grdO (decide (2≤(a.length:Int))&&decide ((a.length:Int)≤(a.length:Int))) (zAA (F278 (List.drop (2:Nat) (List.take (Int.toNat (a.length:Int)) a),(32:Int),(4:Int))) fun a=>
 zAA (F309 (a,c,d,e,f,g,h,i,j)) fun(a,b,c,d,e,f,g,h)=>
 some ((a,b,c,d,e,f,g,h))))
 (zAA (F278 (a,32,6)) fun a=>
 bindE (Y:=List zBy×Bool×List Cst×Int×Int×Int×List Int×List Fld×List Mth×Bool) (some (inl (a,decide (0<(i.length:Int)),c,d,e,f,g,h,i,j))) fun(a,b,c,d,e,f,g,h,i,j)=>
 bindE (Y:=List Cst×Int×Int×Int×List Int×List Fld×List Mth×Bool) (bindE (Y:=List zBy×Bool×Bool×List Cst×Int×Int×Int×List Int×List Fld×List Mth×Bool) (grdO (decide (0<(a.length:Int))) (atO a (nat_lit 0) fun k=>cndO (decide (k=[(99:UInt8),108,97,115,115]))
 (cndO (decide ((a.length:Int)=4))
 (some (inl (a,b,decide (e=0),c,d,e,f,g,h,i,j)))
 (some (inl (a,b,false,c,d,e,f,g,h,i,j))))
 (some (inl (a,b,false,c,d,e,f,g,h,i,j))))) fun(a,b,c,d,e,f,g,h,i,j,k)=>
 cndO (c)
 (grdO (decide (1<(a.length:Int))) (atO a (nat_lit 1) fun b=>zAA (F310 (b,d,e,f,g,h,i,j,k)) fun(b,c,d,_,e,f,g,h,i)=>
 grdO (decide (2<(a.length:Int))) (atO a (nat_lit 2) fun j=>zAA (F310 (j,c,d,b,e,f,g,h,i)) fun(b,c,d,e,_,f,g,h,i)=>
 grdO (decide (3<(a.length:Int))) (atO a (nat_lit 3) fun a=>zAA (F311 (a,c,d,e,b,f,g,h,i)) fun(a,b,_,c,d,e,f,g,h)=>
 some (inl (b,a,c,d,e,f,g,h))))))
 (bindE (Y:=List zBy×Bool×Bool×List Cst×Int×Int×Int×List Int×List Fld×List Mth×Bool) (grdO (decide (0<(a.length:Int))) (atO a (nat_lit 0) fun c=>cndO (decide (c=[(102:UInt8),97,99,101]))
 (some (inl (a,b,decide ((a.length:Int)=2),d,e,f,g,h,i,j,k)))
 (some (inl (a,b,false,d,e,f,g,h,i,j,k))))) fun(a,b,c,d,e,f,g,h,i,j,k)=>
 cndO (c)
 (grdO (decide (1<(a.length:Int))) (atO a (nat_lit 1) fun a=>zAA (F5000310 (a,(d,e,f,g,i,j,k),h)) fun(a,(b,c,d,e,f,g,h),i)=>
 grdO (decide (i.length+1≤9223372036854775807)&&decide ((i.length+1)*8≤140737488355328)) (some (inl (b,c,d,e,i++[a],f,g,h)))))
 (bindE (Y:=List zBy×Bool×Bool×List Cst×Int×Int×Int×List Int×List Fld×List Mth×Bool) (grdO (decide (0<(a.length:Int))) (atO a (nat_lit 0) fun c=>cndO (decide (c=[(102:UInt8),105,101,108,100]))
 (some (inl (a,b,decide ((a.length:Int)=4),d,e,f,g,h,i,j,k)))
 (some (inl (a,b,false,d,e,f,g,h,i,j,k))))) fun(a,b,c,d,e,f,g,h,i,j,k)=>
 cndO (c)
 (grdO (decide (1<(a.length:Int))) (atO a (nat_lit 1) fun b=>grdO (decide (2<(a.length:Int))) (atO a (nat_lit 2) fun c=>grdO (decide (3<(a.length:Int))) (atO a (nat_lit 3) fun l=>zAA (F6000312 (b,(d,e,f,g,h,j,k),i)) fun(b,(d,e,f,g,h,i,j),k)=>
 seqU (seqU (grdO (decide (2<(a.length:Int))) (some ())) (seqU (atO a (nat_lit 2) fun a=>grdO (decide (a=c)) (some ())) (seqU (grdO (decide (3<(a.length:Int))) (some ())) (seqU (atO a (nat_lit 3) fun a=>grdO (decide (a=l)) (some ())) (some ()))))) (zAA (F6000312 (c,(d,e,f,g,h,i,j),k)) fun(c,(d,e,f,g,h,i,j),k)=>
 seqU (seqU (grdO (decide (3<(a.length:Int))) (some ())) (seqU (atO a (nat_lit 3) fun a=>grdO (decide (a=l)) (some ())) (some ()))) (zAA (F6000311 (l,(d,e,f,g,h,i,j),k)) fun(a,(d,e,f,g,h,i,j),k)=>
 grdO (decide (k.length+1≤9223372036854775807)&&decide ((k.length+1)*24≤140737488355328)) (some (inl (d,e,f,g,h,k++[(a,b,c)],i,j)))))))))
 (bindE (Y:=List zBy×Bool×Bool×List Cst×Int×Int×Int×List Int×List Fld×List Mth×Bool) (grdO (decide (0<(a.length:Int))) (atO a (nat_lit 0) fun c=>cndO (decide (c=[(109:UInt8),101,116,104,111,100]))
 (cndO (decide ((a.length:Int)=4))
 (some (inl (a,b,true,d,e,f,g,h,i,j,k)))
 (some (inl (a,b,decide ((a.length:Int)=6),d,e,f,g,h,i,j,k))))
 (some (inl (a,b,false,d,e,f,g,h,i,j,k))))) fun(a,b,c,d,e,f,g,h,i,j,k)=>
 cndO (c)
 (zAA (F313 (a,d,e,f,g,h,i,j,k)) fun(a,b,c,d,e,f,g,h)=>
 some (inl (a,b,c,d,e,f,g,h)))
 (bindE (Y:=List zBy×Bool×Bool×List Cst×Int×Int×Int×List Int×List Fld×List Mth×Bool) (grdO (decide (0<(a.length:Int))) (atO a (nat_lit 0) fun c=>cndO (decide (c=[(116:UInt8),114,97,112]))
 (cndO (decide ((a.length:Int)=5))
 (some (inl (a,b,b,d,e,f,g,h,i,j,k)))
 (some (inl (a,b,false,d,e,f,g,h,i,j,k))))
 (some (inl (a,b,false,d,e,f,g,h,i,j,k))))) fun(a,b,c,d,e,f,g,h,i,j,k)=>
 cndO (c)
 (zAA (F314 (a,d,e,f,g,h,i,j,k)) fun(a,b,c,d,e,f,g,h)=>
 some (inl (a,b,c,d,e,f,g,h)))
 (bindE (Y:=List zBy×Bool×List Cst×Int×Int×Int×List Int×List Fld×List Mth×Bool) (grdO (decide (0<(a.length:Int))) (atO a (nat_lit 0) fun c=>cndO (decide (c=[(102:UInt8),114,97,109,101]))
 (cndO (decide ((a.length:Int)=4))
 (some (inl (a,b,d,e,f,g,h,i,j,k)))
 (some (inl (a,false,d,e,f,g,h,i,j,k))))
 (some (inl (a,false,d,e,f,g,h,i,j,k))))) fun(a,b,c,d,e,f,g,h,i,j)=>
 cndO (b)
 (grdO (decide (1<(a.length:Int))) (atO a (nat_lit 1) fun b=>grdO (decide (2<(a.length:Int))) (atO a (nat_lit 2) fun k=>grdO (decide (3<(a.length:Int))) (atO a (nat_lit 3) fun l=>zAA (F315 (c,d,e,f,g,h,i,j)) fun(c,d,e,f,g,h,i,j,m)=>
 seqU (seqU (grdO (decide (1<(a.length:Int))) (some ())) (seqU (atO a (nat_lit 1) fun a=>grdO (decide (a=b)) (some ())) (seqU (grdO (decide (2<(a.length:Int))) (some ())) (seqU (atO a (nat_lit 2) fun a=>grdO (decide (a=k)) (some ())) (seqU (grdO (decide (3<(a.length:Int))) (some ())) (seqU (atO a (nat_lit 3) fun a=>grdO (decide (a=l)) (some ())) (some ()))))))) (zAA (F7000315 ((e,f,g,h,i,j,m),d)) fun(d,(e,f,g,h,i,j,m),n)=>
 seqU (seqU (grdO (decide (1<(a.length:Int))) (some ())) (seqU (atO a (nat_lit 1) fun a=>grdO (decide (a=b)) (some ())) (seqU (grdO (decide (2<(a.length:Int))) (some ())) (seqU (atO a (nat_lit 2) fun a=>grdO (decide (a=k)) (some ())) (seqU (grdO (decide (3<(a.length:Int))) (some ())) (seqU (atO a (nat_lit 3) fun a=>grdO (decide (a=l)) (some ())) (some ()))))))) (atO n d fun o=>grdO (decide (d=d)&&decide (d<n.length)) (grdO (decide (d=d)&&decide (d<n.length)) (grdO (decide (d=d)&&decide (d<n.length)) (zAA (F807000311 (b,(e,f,g,h,i,j,m),(n,d,o.1,o.2.1,o.2.2.1,o.2.2.2.1,o.2.2.2.2.1,o.2.2.2.2.2.1,o.2.2.2.2.2.2.1),o.2.2.2.2.2.2.2)) fun(b,(e,f,g,h,i,j,m),(n,o,p,q,r,s,t,u,v),w)=>
 seqU (seqU (grdO (decide (2<(a.length:Int))) (some ())) (seqU (atO a (nat_lit 2) fun a=>grdO (decide (a=k)) (some ())) (seqU (grdO (decide (3<(a.length:Int))) (some ())) (seqU (atO a (nat_lit 3) fun a=>grdO (decide (a=l)) (some ())) (seqU (grdO (d==d&&true) (some ())) (seqU (grdO (d==d&&true) (some ())) (seqU (grdO (decide (d=o)&&decide (o<n.length)) (grdO (decide (d=o)&&decide (o<n.length)) (grdO (decide (d=o)&&decide (o<n.length)) (some ())))) (some ())))))))) (zAA (F807000316 (k,(e,f,g,h,i,j,m),(n,o,p,q,r,s,t,u,v),w)) fun(e,(f,g,h,i,j,k,m),(n,o,p,q,r,s,t,u,v),w)=>
 seqU (seqU (grdO (decide (3<(a.length:Int))) (some ())) (seqU (atO a (nat_lit 3) fun a=>grdO (decide (a=l)) (some ())) (seqU (grdO (d==d&&true) (some ())) (seqU (grdO (d==d&&true) (some ())) (seqU (grdO (decide (d=o)&&decide (o<n.length)) (grdO (decide (d=o)&&decide (o<n.length)) (grdO (decide (d=o)&&decide (o<n.length)) (some ())))) (some ())))))) (zAA (F807000316 (l,(f,g,h,i,j,k,m),(n,o,p,q,r,s,t,u,v),w)) fun(a,(f,g,h,i,j,k,l),(m,n,o,p,q,r,s,t,u),v)=>
 seqU (seqU (grdO (d==d&&true) (some ())) (seqU (grdO (d==d&&true) (some ())) (seqU (grdO (decide (d=n)&&decide (n<m.length)) (grdO (decide (d=n)&&decide (n<m.length)) (grdO (decide (d=n)&&decide (n<m.length)) (some ())))) (some ())))) (seqU (seqU (grdO (d==d&&true) (some ())) (seqU (grdO (d==d&&true) (some ())) (seqU (grdO (decide (d=n)&&decide (n<m.length)) (grdO (decide (d=n)&&decide (n<m.length)) (grdO (decide (d=n)&&decide (n<m.length)) (some ())))) (some ())))) (grdO (decide (v.length+1≤9223372036854775807)&&decide ((v.length+1)*56≤140737488355328)) (grdO (decide (c=n)&&decide (n<m.length)) (grdO (decide (n<m.length)) (some (inl (f,g,h,i,j,k,List.set m n (o,p,q,r,s,t,u,v++[(b,e,a)]),l))))))))))))))))))
 (some (inl (c,d,e,f,g,h,i,true))))))))) fun(a,b,c,d,e,f,g,h)=>
 some ((a,b,c,d,e,f,g,h)))
def tb279:=insT 279 (mkE 279 false [(0,[])] ti312 zVt F279 [] 213 [100000]) zJK
def ok279:zTb tb279:=okI zRe tp279 tv279 func279 rfl call279
abbrev ti69:SPat:=⟨[(0,.agg (pl plC))],[]⟩
def F69:Cls→Option Bool:=fun(a,_,_,_,b,c,d)=>
 cndO (decide ((a.length:Int)≤60))
 (cndO (decide ((b.length:Int)≤3))
 (cndO (decide ((c.length:Int)≤5))
 (some (decide ((d.length:Int)≤6)))
 (some false))
 (some false))
 (some false)
def tb69:=insT 69 (mkE 69 true [] ti69 zEL F69 [.tmp 2] 25 []) tb279
def ok69:zTb tb69:=okI ok279 noPl noIv func69 rfl call69
abbrev ti135:SPat:=⟨[(0,.agg (pl zo4))],[]⟩
def tp135:Nat→List Nat×Plan:=fun id=>bif id==3 then([0,1,3,4,5,8,9],(.br 2 [1,0] [3,4,5,8,9] [] (.br 6 [5,4,3,2,1,0] [8,9] [7,10] (.br 11 zn15 [] [] .fin .fin) .fin) .fin))else bif id==5 then([0,1,3,4],(.br 2 [1,0] [3,4] [] (.br 5 zn27 [] [6] (.br 7 zn13 [] [] .fin .fin) .fin) .fin))else bif id==6 then([0,1,3,4,7,8],(.br 2 [1,0] [3,4,7,8] [] (.br 5 zn27 [7,8] [6] (.br 9 [8,7,5,4,3,2,1,0] [6] [10] (.br 11 zn15 [] [] .fin .fin) .fin) .fin) .fin))else([],.fin)
def F135:Cst→Option zBy:=fun(a,b,c,d)=>
 cndO (decide (a=1))
 (zAA (F134 a) fun a=>
 seqU (seqU (grdO (decide (b=b)) (some ())) (seqU (grdO (decide ((b.length:Int)=(b.length:Int))) (some ())) (seqU (grdO (decide (b=b)) (some ())) (some ())))) (zAA (F134 b.length) fun c=>
 seqU (seqU (grdO (decide (b=b)) (some ())) (some ())) (grdO (decide (a.length+c.length≤9223372036854775807)) (grdO (decide (List.length (a++c)+b.length≤9223372036854775807)) (some (a++c++b))))))
 (cndO (decide (a=2))
 (zAA (F134 a) fun a=>
 seqU (seqU (grdO (decide (c=c)) (some ())) (some ())) (zAA (F136 c) fun b=>
 grdO (decide (a.length+b.length≤9223372036854775807)) (some (a++b))))
 (zAA (F134 a) fun a=>
 seqU (seqU (grdO (decide (c=c)) (some ())) (seqU (grdO (decide (d=d)) (some ())) (some ()))) (zAA (F136 c) fun b=>
 seqU (seqU (grdO (decide (d=d)) (some ())) (some ())) (grdO (decide (a.length+b.length≤9223372036854775807)) (zAA (F136 d) fun c=>
 seqU (seqU (grdO (decide (a.length+b.length≤9223372036854775807)) (grdO (decide (a++b=a++b)) (some ()))) (some ())) (grdO (decide (List.length (a++b)+c.length≤9223372036854775807)) (some (a++b++c))))))))
def tb135:=insT 135 (mkE 135 true [] ti135 zEU F135 [.tmp 2] 38 []) tb69
def ok135:zTb tb135:=okI ok69 tp135 noIv func135 rfl call135
abbrev ti216:SPat:=⟨[(0,.sl zBv)],[]⟩
abbrev zVW:SPat:=⟨[(0,.sl zBv),(3,.s),(4,.i .i64)],[]⟩
def tv216:Nat→Option SPat:=fun k=>bif k==3 then some zVW else bif k==2000000 then some zBr else bif k==2000001 then some zVW else none
def F216:List Knd→Option zBy:=fun a=>
 zAA (F134 a.length) fun b=>
 bindE (Y:=zBy) (zAE (fun(a,b,c)=>
 cndO (decide (c<(a.length:Int)))
 (bindE (Y:=List Knd×zBy×Int) (grdO (decide (0≤c)) (atO a c.toNat fun d=>zAA (F134 d.1) fun d=>
 grdO (decide (b.length+d.length≤9223372036854775807)) (grdO (decide (0≤c)) (atO a c.toNat fun e=>cndO (decide (e.1=3))
 (grdO (decide (0≤c)) (atO a c.toNat fun e=>zAA (F136 e.2) fun e=>
 grdO (decide (List.length (b++d)+e.length≤9223372036854775807)) (some (inl (a,b++d++e,c)))))
 (some (inl (a,b++d,c))))))) fun(a,b,c)=>
 some (inl (a,b,wrap .i64 (c+1))))
 (some (inr (inl b)))) ((a,b,(0:Int)))) fun a=>
 some (a)
def tb216:=insT 216 (mkE 216 true [] ti216 zEU F216 [.tmp 2] 37 []) tb135
def ok216:zTb tb216:=okI ok135 noPl tv216 func216 rfl call216
abbrev zWC:SPat:=⟨[(0,.agg (pl plM))],[]⟩
abbrev ts137_6:SPat:=⟨[(1,.ptr 1 0),(3,.s),(4,.i .i64)],[.box 1 (pl plM)]⟩
abbrev ts137_12:SPat:=⟨[(1,.ptr 1 0),(3,.s),(6,.i .i64)],[.box 1 (pl plM)]⟩
abbrev zND:SPat:=⟨[(1,.ptr 1 0),(3,.s)],[.box 1 (pl plM)]⟩
def tv137:Nat→Option SPat:=fun k=>bif k==6 then some ts137_6 else bif k==12 then some ts137_12 else bif k==2000000 then some zND else bif k==2000002 then some zBr else none
def tp137:Nat→List Nat×Plan:=fun id=>bif id==1 then([0,1,3,4,7,8],(.br 2 [1,0] [3,4,7,8] [] (.br 5 zn27 [7,8] [6] (.br 9 [8,7,5,4,3,2,1,0] [6] [10] (.br 11 zn15 [] [] .fin .fin) .fin) .fin) .fin))else bif id==4 then([0,1,2,5,6,9,10,11,14,15,17,18,19],(.br 3 [2,1] [0,5,6,9,10,11,14,15,17,18,19] [4] (.br 7 [6,5,3,2,1] [0,9,10,11,14,15,17,18,19,4] [8] (.br 12 [11,10,9,7,6,5,3,2,1] [0,14,15,17,18,19,4,8] [13,16] (.br 20 [19,18,17,12,11,10,9,7,6,5,3,2,1] [0,14,15,4,8,13,16] [21] (.br 22 zn28 [] [] .fin .fin) .fin) .fin) .fin) .fin))else bif id==9 then([0,1,2,5,6,9,10,13,14],(.br 3 [2,1] [0,5,6,9,10,13,14] [4] (.br 7 [6,5,3,2,1] [0,9,10,13,14,4] [8] (.br 11 [10,9,7,6,5,3,2,1] [0,13,14,4,8] [12] (.br 15 [14,13,11,10,9,7,6,5,3,2,1] [0,4,8,12] [16] (.br 17 zn23 [] [] .fin .fin) .fin) .fin) .fin) .fin))else bif id==14 then(zn29,(.br 7 [6,5,4,3,2,1] [0,9,10,11,12,13,14,17,18,19,20,21,22] [8] (.br 15 [14,13,12,11,10,9,7,6,5,4,3,2,1] [0,17,18,19,20,21,22,8] [16] (.br 23 zn30 [0,8,16] [24] (.br 25 zn31 [] [] .fin .fin) .fin) .fin) .fin))else([],.fin)
def F137:Mth→Option zBy:=fun(a,b,c,d,e,f,g,h)=>zAA (F134 a) fun i=>seqU (seqU (grdO (decide (b=b)) (some ())) (seqU (grdO (decide (c=c)) (some ())) (some ()))) (zAA (F136 b) fun j=>seqU (seqU (grdO (decide (c=c)) (some ())) (some ())) (grdO (decide (i.length+j.length≤9223372036854775807)) (zAA (F136 c) fun k=>seqU (seqU (grdO (decide (i.length+j.length≤9223372036854775807)) (grdO (decide (i++j=i++j)) (some ()))) (some ())) (grdO (decide (List.length (i++j)+k.length≤9223372036854775807)) (cndO (decide (wrap .i64 (Int.tdiv (Int.tmod a (16:Int)) (8:Int))=1)) (some (i++j++k)) (zAA (F134 d) fun l=>seqU (seqU (grdO (decide (i++j++k=i++j++k)) (some ())) (seqU (grdO (decide (e=e)) (some ())) (seqU (grdO (decide (f=f)) (some ())) (seqU (grdO (decide ((f.length:Int)=(f.length:Int))) (some ())) (seqU (grdO (decide (f=f)) (some ())) (seqU (grdO (decide (g=g)) (some ())) (seqU (grdO (decide ((g.length:Int)=(g.length:Int))) (some ())) (some ())))))))) (grdO (decide (List.length (i++j++k)+l.length≤9223372036854775807)) (zAA (F134 e) fun m=>seqU (seqU (grdO (decide (i++j++k=i++j++k)) (some ())) (seqU (grdO (decide (f=f)) (some ())) (seqU (grdO (decide ((f.length:Int)=(f.length:Int))) (some ())) (seqU (grdO (decide (f=f)) (some ())) (seqU (grdO (decide (g=g)) (some ())) (seqU (grdO (decide ((g.length:Int)=(g.length:Int))) (some ())) (seqU (grdO (decide (List.length (i++j++k)+l.length≤9223372036854775807)) (grdO (decide (i++j++k++l=i++j++k++l)) (some ()))) (some ())))))))) (grdO (decide (List.length (i++j++k++l)+m.length≤9223372036854775807)) (zAA (F136 f.length) fun n=>seqU (seqU (grdO (decide (i++j++k=i++j++k)) (some ())) (seqU (grdO (decide (f=f)) (some ())) (seqU (grdO (decide (g=g)) (some ())) (seqU (grdO (decide ((g.length:Int)=(g.length:Int))) (some ())) (seqU (grdO (decide (List.length (i++j++k)+l.length≤9223372036854775807)) (grdO (decide (i++j++k++l=i++j++k++l)) (some ()))) (seqU (grdO (decide (List.length (i++j++k++l)+m.length≤9223372036854775807)) (grdO (decide (i++j++k++l++m=i++j++k++l++m)) (some ()))) (some ()))))))) (grdO (decide (List.length (i++j++k++l++m)+n.length≤9223372036854775807)) (grdO (decide (List.length (i++j++k++l++m++n)+f.length≤9223372036854775807)) (zAA (F134 g.length) fun o=>seqU (seqU (grdO (decide (i++j++k=i++j++k)) (some ())) (seqU (grdO (decide (f=f)) (some ())) (seqU (grdO (decide (List.length (i++j++k)+l.length≤9223372036854775807)) (grdO (decide (i++j++k++l=i++j++k++l)) (some ()))) (seqU (grdO (decide (List.length (i++j++k++l)+m.length≤9223372036854775807)) (grdO (decide (i++j++k++l++m=i++j++k++l++m)) (some ()))) (seqU (grdO (decide (List.length (i++j++k++l++m)+n.length≤9223372036854775807)) (grdO (decide (i++j++k++l++m++n=i++j++k++l++m++n)) (some ()))) (seqU (grdO (decide (List.length (i++j++k++l++m++n)+f.length≤9223372036854775807)) (grdO (decide (i++j++k++l++m++n++f=i++j++k++l++m++n++f)) (some ()))) (some ()))))))) (grdO (decide (List.length (i++j++k++l++m++n++f)+o.length≤9223372036854775807)) (bindE (Y:=zBy×Mth) (zAE (fun(a,b,c,d,e,f,g,h,i,j)=>cndO (decide (b<(i.length:Int))) (grdO (decide (0≤b)) (atO i b.toNat fun k=>zAA (F136 k.1) fun l=>seqU (seqU (grdO (decide (a=a)) (some ())) (seqU (grdO (decide (k.2.1=k.2.1)) (some ())) (seqU (grdO (decide (k.2.2.1=k.2.2.1)) (some ())) (seqU (grdO (decide (k.2.2.2=k.2.2.2)) (some ())) (some ()))))) (grdO (decide (a.length+l.length≤9223372036854775807)) (zAA (F136 k.2.1) fun m=>seqU (seqU (grdO (decide (a=a)) (some ())) (seqU (grdO (decide (k.2.2.1=k.2.2.1)) (some ())) (seqU (grdO (decide (k.2.2.2=k.2.2.2)) (some ())) (seqU (grdO (decide (a.length+l.length≤9223372036854775807)) (grdO (decide (a++l=a++l)) (some ()))) (some ()))))) (grdO (decide (List.length (a++l)+m.length≤9223372036854775807)) (zAA (F136 k.2.2.1) fun n=>seqU (seqU (grdO (decide (a=a)) (some ())) (seqU (grdO (decide (k.2.2.2=k.2.2.2)) (some ())) (seqU (grdO (decide (a.length+l.length≤9223372036854775807)) (grdO (decide (a++l=a++l)) (some ()))) (seqU (grdO (decide (List.length (a++l)+m.length≤9223372036854775807)) (grdO (decide (a++l++m=a++l++m)) (some ()))) (some ()))))) (grdO (decide (List.length (a++l++m)+n.length≤9223372036854775807)) (zAA (F136 k.2.2.2) fun k=>seqU (seqU (grdO (decide (a=a)) (some ())) (seqU (grdO (decide (a.length+l.length≤9223372036854775807)) (grdO (decide (a++l=a++l)) (some ()))) (seqU (grdO (decide (List.length (a++l)+m.length≤9223372036854775807)) (grdO (decide (a++l++m=a++l++m)) (some ()))) (seqU (grdO (decide (List.length (a++l++m)+n.length≤9223372036854775807)) (grdO (decide (a++l++m++n=a++l++m++n)) (some ()))) (some ()))))) (grdO (decide (List.length (a++l++m++n)+k.length≤9223372036854775807)) (some (inl (a++l++m++n++k,wrap .i64 (b+1),c,d,e,f,g,h,i,j)))))))))))) (some (inr (inl (a,c,d,e,f,g,h,i,j))))) ((i++j++k++l++m++n++f++o,(0:Int),a,b,c,d,e,f,g,h))) fun(a,b,c,d,e,f,g,h,i)=>zAA (F134 i.length) fun j=>grdO (decide (a.length+j.length≤9223372036854775807)) (bindE (Y:=zBy) (zAE (fun(a,b,c,d,e,f,g,h,i,j)=>cndO (decide (b<(j.length:Int))) (grdO (decide (0≤b)) (atO j b.toNat fun k=>grdO (decide (0≤b)) (atO j b.toNat fun l=>grdO (decide (0≤b)) (atO j b.toNat fun m=>zAA (F136 k.1) fun k=>let n:=grdO (decide (0≤b)) (atO j b.toNat fun a=>grdO (decide (a.1=m.1)&&(decide (a.2.1=m.2.1)&&(decide (a.2.2=m.2.2)&&true))) (some ()));seqU (seqU (grdO (decide (a=a)) (some ())) (seqU (grdO (decide (j=j)) (some ())) (seqU (grdO (decide (b=b)) (some ())) (seqU (grdO (decide (0≤b)) (atO j b.toNat fun a=>grdO (decide (a.1=l.1)&&(decide (a.2.1=l.2.1)&&(decide (a.2.2=l.2.2)&&true))) (some ()))) (seqU (grdO (decide (l.2.1=l.2.1)&&(decide (l.2.2=l.2.2)&&true)) (some ())) (seqU (grdO (decide (l.2.1=l.2.1)) (some ())) (seqU (grdO (decide (j=j)) (some ())) (seqU (grdO (decide (b=b)) (some ())) (seqU n (seqU (grdO (decide (m.2.2=m.2.2)&&true) (some ())) (seqU (grdO (decide (m.2.2=m.2.2)) (some ())) (some ())))))))))))) (grdO (decide (a.length+k.length≤9223372036854775807)) (zAA (F216 l.2.1) fun l=>seqU (seqU (grdO (decide (a=a)) (some ())) (seqU (grdO (decide (j=j)) (some ())) (seqU (grdO (decide (b=b)) (some ())) (seqU n (seqU (grdO (decide (m.2.2=m.2.2)&&true) (some ())) (seqU (grdO (decide (m.2.2=m.2.2)) (some ())) (seqU (grdO (decide (a.length+k.length≤9223372036854775807)) (grdO (decide (a++k=a++k)) (some ()))) (some ())))))))) (grdO (decide (List.length (a++k)+l.length≤9223372036854775807)) (zAA (F216 m.2.2) fun m=>seqU (seqU (grdO (decide (a=a)) (some ())) (seqU (grdO (decide (a.length+k.length≤9223372036854775807)) (grdO (decide (a++k=a++k)) (some ()))) (seqU (grdO (decide (List.length (a++k)+l.length≤9223372036854775807)) (grdO (decide (a++k++l=a++k++l)) (some ()))) (some ())))) (grdO (decide (List.length (a++k++l)+m.length≤9223372036854775807)) (some (inl (a++k++l++m,wrap .i64 (b+1),c,d,e,f,g,h,i,j)))))))))))) (some (inr (inl a)))) ((a++j,(0:Int),b,c,d,e,f,g,h,i))) fun a=>some a))))))))))))))))
def tb137:=insT 137 (mkE 137 true [] zWC zEU F137 [.tmp 2] 114 []) tb216
def ok137:zTb tb137:=okI ok216 tp137 tv137 func137 rfl call137
abbrev zSP:SPat:=⟨[(1,.ptr 1 0),(3,.s),(4,.i .i64)],zo11⟩
abbrev ts55_8:SPat:=⟨[(1,.ptr 1 0),(3,.s),(5,.i .i64)],zo11⟩
abbrev ts55_13:SPat:=⟨[(1,.ptr 1 0),(3,.s),(6,.i .i64)],zo11⟩
abbrev ts55_18:SPat:=⟨[(1,.ptr 1 0),(3,.s),(7,.i .i64)],zo11⟩
abbrev zBO:SPat:=⟨[(1,.ptr 1 0),(3,.s)],zo11⟩
def tv55:Nat→Option SPat:=fun k=>bif k==3 then some zSP else bif k==8 then some ts55_8 else bif k==13 then some ts55_13 else bif k==18 then some ts55_18 else bif k==2000000 then some zBO else bif k==2000002 then some zBO else bif k==2000004 then some zBO else bif k==2000006 then some zBr else none
def tp55:Nat→List Nat×Plan:=fun id=>bif id==6 then([0,1,2,5,6,9,10,13,14,15],(.br 3 [2,1] [0,5,6,9,10,13,14,15] [4] (.br 7 [6,5,3,2,1] [0,9,10,13,14,15,4] [8] (.br 11 [10,9,7,6,5,3,2,1] [0,13,14,15,4,8] [12] (.br 16 [15,14,13,11,10,9,7,6,5,3,2,1] [0,4,8,12] [17] (.br 18 zn6 [] [] .fin .fin) .fin) .fin) .fin) .fin))else bif id==15 then(zn29,(.br 7 [6,5,4,3,2,1] [0,9,10,11,12,13,14,17,18,19,20,21,22] [8] (.br 15 [14,13,12,11,10,9,7,6,5,4,3,2,1] [0,17,18,19,20,21,22,8] [16] (.br 23 zn30 [0,8,16] [24] (.br 25 zn31 [] [] .fin .fin) .fin) .fin) .fin))else([],.fin)
def F55:Cls→Option zBy:=fun(a,b,c,d,e,f,g)=>
 zAA (F134 a.length) fun h=>
 grdO (decide ((4:Nat)+h.length≤9223372036854775807)) (bindE (Y:=zBy×Cls) (zAE (fun(a,b,c,d,e,f,g,h,i)=>
 cndO (decide (b<(c.length:Int)))
 (grdO (decide (0≤b)) (atO c b.toNat fun j=>zAA (F135 (j.1,j.2.1,j.2.2.1,j.2.2.2)) fun j=>
 grdO (decide (a.length+j.length≤9223372036854775807)) (some (inl (a++j,wrap .i64 (b+1),c,d,e,f,g,h,i)))))
 (some (inr (inl (a,c,d,e,f,g,h,i))))) (([(83:UInt8),84,79,87]++h,(0:Int),a,b,c,d,e,f,g))) fun(a,b,c,d,e,f,g,h)=>
 zAA (F134 c) fun i=>
 seqU (seqU (grdO (decide (a=a)) (some ())) (seqU (grdO (decide (d=d)) (some ())) (seqU (grdO (decide (e=e)) (some ())) (seqU (grdO (decide (f=f)) (some ())) (seqU (grdO (decide ((f.length:Int)=(f.length:Int))) (some ())) (some ())))))) (grdO (decide (a.length+i.length≤9223372036854775807)) (zAA (F136 d) fun j=>
 seqU (seqU (grdO (decide (a=a)) (some ())) (seqU (grdO (decide (e=e)) (some ())) (seqU (grdO (decide (f=f)) (some ())) (seqU (grdO (decide ((f.length:Int)=(f.length:Int))) (some ())) (seqU (grdO (decide (a.length+i.length≤9223372036854775807)) (grdO (decide (a++i=a++i)) (some ()))) (some ())))))) (grdO (decide (List.length (a++i)+j.length≤9223372036854775807)) (zAA (F136 e) fun k=>
 seqU (seqU (grdO (decide (a=a)) (some ())) (seqU (grdO (decide (f=f)) (some ())) (seqU (grdO (decide ((f.length:Int)=(f.length:Int))) (some ())) (seqU (grdO (decide (a.length+i.length≤9223372036854775807)) (grdO (decide (a++i=a++i)) (some ()))) (seqU (grdO (decide (List.length (a++i)+j.length≤9223372036854775807)) (grdO (decide (a++i++j=a++i++j)) (some ()))) (some ())))))) (grdO (decide (List.length (a++i++j)+k.length≤9223372036854775807)) (zAA (F134 f.length) fun l=>
 seqU (seqU (grdO (decide (a=a)) (some ())) (seqU (grdO (decide (a.length+i.length≤9223372036854775807)) (grdO (decide (a++i=a++i)) (some ()))) (seqU (grdO (decide (List.length (a++i)+j.length≤9223372036854775807)) (grdO (decide (a++i++j=a++i++j)) (some ()))) (seqU (grdO (decide (List.length (a++i++j)+k.length≤9223372036854775807)) (grdO (decide (a++i++j++k=a++i++j++k)) (some ()))) (some ()))))) (grdO (decide (List.length (a++i++j++k)+l.length≤9223372036854775807)) (bindE (Y:=zBy×Cls) (zAE (fun(a,b,c,d,e,f,g,h,i)=>
 cndO (decide (b<(g.length:Int)))
 (grdO (decide (0≤b)) (atO g b.toNat fun j=>zAA (F136 j) fun j=>
 grdO (decide (a.length+j.length≤9223372036854775807)) (some (inl (a++j,wrap .i64 (b+1),c,d,e,f,g,h,i)))))
 (some (inr (inl (a,c,d,e,f,g,h,i))))) ((a++i++j++k++l,(0:Int),b,c,d,e,f,g,h))) fun(a,b,c,d,e,f,g,h)=>
 zAA (F134 g.length) fun i=>
 grdO (decide (a.length+i.length≤9223372036854775807)) (bindE (Y:=zBy×Cls) (zAE (fun(a,b,c,d,e,f,g,h,i)=>
 cndO (decide (b<(h.length:Int)))
 (grdO (decide (0≤b)) (atO h b.toNat fun j=>grdO (decide (0≤b)) (atO h b.toNat fun k=>grdO (decide (0≤b)) (atO h b.toNat fun l=>zAA (F134 j.1) fun j=>
 seqU (seqU (grdO (decide (a=a)) (some ())) (seqU (grdO (decide (h=h)) (some ())) (seqU (grdO (decide (b=b)) (some ())) (seqU (grdO (decide (0≤b)) (atO h b.toNat fun a=>grdO (decide (a.1=k.1)&&(decide (a.2.1=k.2.1)&&(decide (a.2.2=k.2.2)&&true))) (some ()))) (seqU (grdO (decide (k.2.1=k.2.1)&&(decide (k.2.2=k.2.2)&&true)) (some ())) (seqU (grdO (decide (k.2.1=k.2.1)) (some ())) (seqU (grdO (decide (h=h)) (some ())) (seqU (grdO (decide (b=b)) (some ())) (seqU (grdO (decide (0≤b)) (atO h b.toNat fun a=>grdO (decide (a.1=l.1)&&(decide (a.2.1=l.2.1)&&(decide (a.2.2=l.2.2)&&true))) (some ()))) (seqU (grdO (decide (l.2.2=l.2.2)&&true) (some ())) (seqU (grdO (decide (l.2.2=l.2.2)) (some ())) (some ())))))))))))) (grdO (decide (a.length+j.length≤9223372036854775807)) (zAA (F136 k.2.1) fun k=>
 seqU (seqU (grdO (decide (a=a)) (some ())) (seqU (grdO (decide (h=h)) (some ())) (seqU (grdO (decide (b=b)) (some ())) (seqU (grdO (decide (0≤b)) (atO h b.toNat fun a=>grdO (decide (a.1=l.1)&&(decide (a.2.1=l.2.1)&&(decide (a.2.2=l.2.2)&&true))) (some ()))) (seqU (grdO (decide (l.2.2=l.2.2)&&true) (some ())) (seqU (grdO (decide (l.2.2=l.2.2)) (some ())) (seqU (grdO (decide (a.length+j.length≤9223372036854775807)) (grdO (decide (a++j=a++j)) (some ()))) (some ())))))))) (grdO (decide (List.length (a++j)+k.length≤9223372036854775807)) (zAA (F136 l.2.2) fun l=>
 seqU (seqU (grdO (decide (a=a)) (some ())) (seqU (grdO (decide (a.length+j.length≤9223372036854775807)) (grdO (decide (a++j=a++j)) (some ()))) (seqU (grdO (decide (List.length (a++j)+k.length≤9223372036854775807)) (grdO (decide (a++j++k=a++j++k)) (some ()))) (some ())))) (grdO (decide (List.length (a++j++k)+l.length≤9223372036854775807)) (some (inl (a++j++k++l,wrap .i64 (b+1),c,d,e,f,g,h,i))))))))))))
 (some (inr (inl (a,c,d,e,f,g,h,i))))) ((a++i,(0:Int),b,c,d,e,f,g,h))) fun(a,b,c,d,e,f,g,h)=>
 zAA (F134 h.length) fun i=>
 grdO (decide (a.length+i.length≤9223372036854775807)) (bindE (Y:=zBy) (zAE (fun(a,b,c,d,e,f,g,h,i)=>
 cndO (decide (b<(i.length:Int)))
 (grdO (decide (0≤b)) (atO i b.toNat fun j=>zAA (F137 (j.1,j.2.1,j.2.2.1,j.2.2.2.1,j.2.2.2.2.1,j.2.2.2.2.2.1,j.2.2.2.2.2.2.1,j.2.2.2.2.2.2.2)) fun j=>
 grdO (decide (a.length+j.length≤9223372036854775807)) (some (inl (a++j,wrap .i64 (b+1),c,d,e,f,g,h,i)))))
 (some (inr (inl a)))) ((a++i,(0:Int),b,c,d,e,f,g,h))) fun a=>
 some a)))))))))))
def tb55:=insT 55 (mkE 55 true [] ti69 zEU F55 [.tmp 2] 121 []) tb137
def ok55:zTb tb55:=okI ok137 tp55 tv55 func55 rfl call55
abbrev ti219:SPat:=⟨[(0,.ptr 100000 0),(1,.i .i64)],zo12⟩
abbrev to219:SPat:=⟨[(4,.s)],zo12⟩
abbrev zMl:SPat:=⟨[(0,.ptr 100000 0),(1,.i .i64),(22,.b)],zo12⟩
def tv219:Nat→Option SPat:=fun k=>bif k==1000002 then some zMl else none
def tp219:Nat→List Nat×Plan:=fun id=>bif id==1 then([0,1,2,3,4,5,6,7,8,9,10,11,12,13,14,15,16,17],.fin)else bif id==5 then([0,1,2,3,4,5,6,7,8,9,10,11,12,13,14],(.br 15 zn32 [] [] .fin .fin))else([],.fin)
def F219:Int×zBy×Int×Bool→Option (zBy×zBy×Int×Bool):=fun(a,b,c,d)=>
 bindE (Y:=Int×Bool×zBy×Int×Bool) (cndO (d)
 (some (inl (a,true,b,c,d)))
 (some (inl (a,decide ((b.length:Int)<wrap .i64 (c+a)),b,c,d)))) fun(a,b,c,d,e)=>
 cndO (b)
 (some (([],c,d,true)))
 (grdO (decide (0≤wrap .i64 (wrap .i64 (d+a)-a))&&decide (wrap .i64 (wrap .i64 (d+a)-a)≤wrap .i64 (d+a))&&decide (wrap .i64 (d+a)≤(c.length:Int))) (some ((List.drop (Int.toNat (wrap .i64 (wrap .i64 (d+a)-a))) (List.take (Int.toNat (wrap .i64 (d+a))) c),c,wrap .i64 (d+a),e))))
def tb219:=insT 219 (mkE 219 false [(0,[])] ti219 to219 F219 [.tmp 4] 50 [100000]) tb55
def ok219:zTb tb219:=okI ok55 tp219 tv219 func219 rfl call219
abbrev zRI:SPat:=⟨[(0,.ptr 100000 0)],zo12⟩
abbrev to221:SPat:=⟨[(2,.i .i64)],zo12⟩
abbrev zMi:SPat:=⟨[(0,.ptr 100000 0),(18,.b)],zo12⟩
def tv221:Nat→Option SPat:=fun k=>bif k==1000002 then some zMi else none
def tp221:Nat→List Nat×Plan:=fun id=>bif id==1 then(zn4,.fin)else bif id==5 then(zn14,(.br 11 zn15 [] [] .fin .fin))else([],.fin)
def F221:zBy×Int×Bool→Option (Int×zBy×Int×Bool):=fun(a,b,c)=>
 bindE (Y:=Bool×zBy×Int×Bool) (cndO (c)
 (some (inl (true,a,b,c)))
 (some (inl (decide ((a.length:Int)≤b),a,b,c)))) fun(a,b,c,d)=>
 cndO (a)
 (some (((0:Int),b,c,true)))
 (grdO (decide (0≤wrap .i64 (wrap .i64 (c+1)-1))) (atO b (Int.toNat (wrap .i64 (wrap .i64 (c+1)-1))) fun a=>some ((wrap .i64 (a.toNat:Int),b,wrap .i64 (c+1),d))))
def tb221:=insT 221 (mkE 221 false [(0,[])] zRI to221 F221 [.tmp 2] 41 [100000]) tb219
def ok221:zTb tb221:=okI ok219 tp221 tv221 func221 rfl call221
end
end Go.Proofs.YtdpapeledldifaaGreat
