/- Part 27 of the proof that the law FnFilePut holds of every input; no condition. -/
import Derived.Test.YtdpapeledldifaaGreatX25
import Derived.Lib.Bytealg
import Derived.Laws.Externs
set_option autoImplicit true
set_option relaxedAutoImplicit true
set_option linter.all false
noncomputable section
namespace Go.Proofs.YtdpapeledldifaaGreat
open Go Go.AM Go.TM
set_option maxRecDepth 100000
abbrev ti322:SPat:=⟨[(0,.s),(1,.i .u8)],[]⟩
abbrev to322:SPat:=⟨[(2,.i .i64)],[]⟩
def F322:List UInt8×Int→Option Int:=fun (s,c)=>some (Lib.indexByte s c.toNat.toUInt8)
def te322:TEnt:=⟨322,true,[],ti322,to322.Den,F322,fun y=>some (.i .i64 y,[])⟩
theorem c322:zGt Tryz.prog 322 te322.W:=by
 rintro args ob K ⟨⟨s,c⟩,y,v,obs,h1,h2,h3,h4,h5⟩
 refine AC.le h1 h2 ?_
 have h3:some (Lib.indexByte s c.toNat.toUInt8)=some y:=h3
 have h4:some (V.i .i64 y,([]:List TO))=some (v,obs):=h4
 obtain ⟨rfl,rfl⟩:=Prod.mk.inj (Option.some.inj h4)
 have hy:y=Lib.indexByte s c.toNat.toUInt8:=(Option.some.inj h3).symm
 subst hy
 intro w G vs fO hlen hr hO hown
 have hr:RL w G [SV.s s,SV.i .u8 c] vs.toList zf:=hr
 have hO:ROs w G [] fO:=hO
 have hz:fO=zf:=hO
 subst hz
 have hvs:vs = #[.string ⟨s.toArray⟩,.int .u8 c]:=by
  simp only [RL,R] at hr
  obtain ⟨v1,r1,f1,f2,e1,⟨_,rfl⟩,⟨v2,r2,f3,f4,e2,⟨_,rfl⟩,_,_⟩,_⟩:=hr
  have hsz:vs.toList.length=2:=hlen
  rw [e1,e2] at hsz
  have:r2=[]:=by simpa using hsz
  rw [this] at e2
  rw [e2] at e1
  exact Array.toList_inj.1 (by rw [e1])
 refine .inr ⟨.int .i64 (Lib.indexByte s c.toNat.toUInt8),w,?_,?_⟩
 ·rw [run_callFunc_extern Tryz.func322 (by kernel_rfl) (by kernel_rfl) (by kernel_rfl) (e:=Extern.BytealgIndexByte.indexByte) (by kernel_rfl),hvs]
  have hrun:=Lib.run_indexByteString (P:=Tryz.prog) ⟨(s:List UInt8).toArray⟩ (c:Int) w
  exact (congrArg (fun r=>Result.andThen r fun v w'=>Result.ok (Next.value v) w') hrun).trans rfl
 ·exact ⟨_,[],G,zf,zf,h5,by simp [e,R],rfl,⟨fun g=>by simp [zf],fun g _=>by simp [zf],hown.2.2.1,fun g hg=>by simp [zf] at hg⟩,fun g h=>h,fun g _ h=>.inl h,fun g _ h=>by simp [zf] at h,fun g _ _=>rfl,fun n _=>rfl,by simp [names,eOs],Nat.le_refl _,rfl,rfl,rfl⟩
def tb322:=insT 322 te322 tbT0
theorem ok322:TbOk Tryz.prog tb322:=TbOk.ins TbOk.nil c322
end Go.Proofs.YtdpapeledldifaaGreat
end
noncomputable section
namespace Go.Proofs.YtdpapeledldifaaGreat
open Go Go.AM Go.TM
set_option maxRecDepth 100000
set_option maxHeartbeats 4000000
abbrev ti274:SPat:=⟨[(0,.i .i64)],[]⟩
abbrev zTF:SPat:=⟨[(2,.s)],[]⟩
def tp274:Nat→List Nat×Plan:=fun id=>bif id == 7 then ([0,1,3,4,5,6],(.br 2 [1,0] [3,4,5,6] [] (.br 7 [6,5,4,3] [0,1] [8,9] (.br 10 [9,8,7,6,5,4,3,2,1,0] [] [] .fin .fin) .fin) (.br 7 [6,5,4,3] [0,1] [8] (.br 2 [1,0] [3,4,5,6,8] [9] (.br 10 [9,8,7,6,5,4,3,2,1,0] [] [] .fin .fin) .fin) .fin))) else ([],.fin)
def zTP (R:ti274.Den→Option zTF.Den):TEnt:=⟨274,true,[],ti274,zTF.Den,R,resF T [.tmp 2] 28 zTF []⟩
def H274 (R274:Int→Option (List UInt8)):Int→Option (List UInt8):=fun n =>
 cndO (decide (n < -9223372036854775807))
  (some ([(45:UInt8),57,50,50,51,51,55,50,48,51,54,56,53,52,55,55,53,56,48,56]))
  (cndO (decide (n<0))
   (zAA (R274 (IntKind.wrap .i64 ((0:Int) - n))) fun y =>
   grdO (decide ((1:Nat)+List.length y≤9223372036854775807)) (some ([(45:UInt8)]++y)))
   (cndO (decide (n<10))
    (grdO (decide (0≤IntKind.wrap .u8 (IntKind.wrap .i64 ((48:Int)+n))) && decide (IntKind.wrap .u8 (IntKind.wrap .i64 ((48:Int)+n))≤255)) (some ([UInt8.ofNat (Int.toNat (IntKind.wrap .u8 (IntKind.wrap .i64 ((48:Int)+n))))])))
    (zBP
     (zAA (R274 (IntKind.wrap .i64 (Int.tdiv n (10:Int)))) fun y =>
     seqU (seqU (grdO (decide (n=n)) (some ())) (seqU (grdO (decide (Int.tmod n (10:Int)=Int.tmod n (10:Int))) (some ())) (seqU (grdO (decide (IntKind.wrap .i64 ((48:Int)+Int.tmod n (10:Int))=IntKind.wrap .i64 ((48:Int)+Int.tmod n (10:Int)))) (some ())) (seqU (grdO (decide (IntKind.wrap .u8 (IntKind.wrap .i64 ((48:Int)+Int.tmod n (10:Int)))=IntKind.wrap .u8 (IntKind.wrap .i64 ((48:Int)+Int.tmod n (10:Int))))) (some ())) (some ()))))) (grdO (decide (0≤IntKind.wrap .u8 (IntKind.wrap .i64 ((48:Int)+Int.tmod n (10:Int)))) && decide (IntKind.wrap .u8 (IntKind.wrap .i64 ((48:Int)+Int.tmod n (10:Int)))≤255)) (seqU (seqU (grdO (decide (n=n)) (some ())) (seqU (grdO (decide (IntKind.wrap .i64 (Int.tdiv n (10:Int))=IntKind.wrap .i64 (Int.tdiv n (10:Int)))) (some ())) (some ()))) (grdO (decide (List.length y+1≤9223372036854775807)) (some (y++[UInt8.ofNat (Int.toNat (IntKind.wrap .u8 (IntKind.wrap .i64 ((48:Int)+Int.tmod n (10:Int)))))]))))))
     (grdO (decide (0≤IntKind.wrap .u8 (IntKind.wrap .i64 ((48:Int)+Int.tmod n (10:Int)))) && decide (IntKind.wrap .u8 (IntKind.wrap .i64 ((48:Int)+Int.tmod n (10:Int)))≤255)) (seqU (seqU (grdO (decide (n=n)) (some ())) (seqU (grdO (decide (IntKind.wrap .i64 (Int.tdiv n (10:Int))=IntKind.wrap .i64 (Int.tdiv n (10:Int)))) (some ())) (some ()))) (zAA (R274 (IntKind.wrap .i64 (Int.tdiv n (10:Int)))) fun y =>
     seqU (seqU (grdO (decide (n=n)) (some ())) (seqU (grdO (decide (Int.tmod n (10:Int)=Int.tmod n (10:Int))) (some ())) (seqU (grdO (decide (IntKind.wrap .i64 ((48:Int)+Int.tmod n (10:Int))=IntKind.wrap .i64 ((48:Int)+Int.tmod n (10:Int)))) (some ())) (seqU (grdO (decide (IntKind.wrap .u8 (IntKind.wrap .i64 ((48:Int)+Int.tmod n (10:Int)))=IntKind.wrap .u8 (IntKind.wrap .i64 ((48:Int)+Int.tmod n (10:Int))))) (some ())) (seqU (grdO (decide ([UInt8.ofNat (Int.toNat (IntKind.wrap .u8 (IntKind.wrap .i64 ((48:Int)+Int.tmod n (10:Int)))))]=[UInt8.ofNat (Int.toNat (IntKind.wrap .u8 (IntKind.wrap .i64 ((48:Int)+Int.tmod n (10:Int)))))])) (some ())) (some ())))))) (grdO (decide (List.length y+1≤9223372036854775807)) (some (y++[UInt8.ofNat (Int.toNat (IntKind.wrap .u8 (IntKind.wrap .i64 ((48:Int)+Int.tmod n (10:Int)))))])))))))))
theorem r274 (R274:Int→Option (List UInt8)) (x:Int):funT T (insT 274 (zTP R274) tb322) tp274 28 noIv (zAD Tryz.f274) ti274 zTF x=H274 R274 x:=by kernel_rfl
def G274:Nat→Int→Option (List UInt8)
 | 0=>fun _=>none
 | n+1=>H274 (G274 n)
theorem cR274:∀ n,zGt Tryz.prog 274 (zTP (G274 n)).W
 | 0=>fun args ob K ⟨x,y,v,obs,h1,h2,h3,_⟩=>by cases h3
 | n+1=>zUR (TbOk.ins ok322 (cR274 n)) layOk mixed true [] ti274 zTF [] tp274 noIv Tryz.func274 rfl Tryz.results274 Tryz.ntmps274 (by kernel_rfl) (by kernel_rfl) Tryz.call274 (G274 (n+1)) fun x _ h=>(r274 (G274 n) x).trans h
def F274:Int→Option (List UInt8):=G274 24
def te274:TEnt:=zTP F274
def tb274:=insT 274 te274 tb322
theorem ok274:TbOk Tryz.prog tb274:=TbOk.ins ok322 (cR274 24)
end Go.Proofs.YtdpapeledldifaaGreat
end
noncomputable section
namespace Go.Proofs.YtdpapeledldifaaGreat
open Go Go.AM Go.TM
set_option maxRecDepth 100000
set_option maxHeartbeats 4000000
abbrev ti49:SPat:=⟨[(0,.sl .byte)],[]⟩
abbrev to49:SPat:=⟨[(2,.ptr 10 0)],[.box 10 (pl [.sl .byte,.i .i64])]⟩
def F49:List UInt8→Option (List UInt8×Int):=fun code =>
 cndO (decide (2000<(code.length:Int)))
  (grdO (decide (2000≤(code.length:Int))) (some ((List.drop (0:Nat) (List.take (2000:Nat) code),(0:Int)))))
  (some ((code,(0:Int))))
theorem r49 x:funT T tb274 noPl 11 noIv (zAD Tryz.f49) ti49 to49 x=F49 x:=by kernel_rfl
def te49:=mkE 49 false [] ti49 to49 F49 [.tmp 2] 11 [10]
def tb49:=insT 49 te49 tb274
theorem ok49:TbOk Tryz.prog tb49:=okI ok274 noPl noIv Tryz.func49 rfl Tryz.results49 Tryz.ntmps49 (by kernel_rfl) (by kernel_rfl) Tryz.call49 r49
abbrev ti51:SPat:=⟨[(0,.ptr 100000 0),(1,.i .i64)],[.box 100000 (pl [.sl .byte,.i .i64])]⟩
abbrev to51:SPat:=⟨[(4,.i .i64)],[.box 100000 (pl [.sl .byte,.i .i64])]⟩
abbrev zNu:SPat:=⟨[(0,.ptr 100000 0),(1,.i .i64)],[.box 100000 (pl [.sl .byte,.i .i64])]⟩
def tv51:Nat→Option SPat:=fun k=>bif k == 1000004 then some zNu else none
def tp51:Nat→List Nat×Plan:=fun id=>bif id == 7 then ([0,1,2,3,4,5,6,7,8,9,10,11,12,13,14,15,16,17,18,19,20,21,22,23,24,25,26,27,28,29,30,31,32,33,34,35,36,37,38,39,40,41,42,43,44],(.br 45 [44,43,42,41,40,39,38,37,36,35,34,33,32,31,30,29,28,27,26,25,24,23,22,21,20,19,18,17,16,15,14,13,12,11,10,9,8,7,6,5,4,3,2,1,0] [] [] .fin .fin)) else ([],.fin)
def F51:Int×List UInt8×Int→Option (Int×List UInt8×Int):=fun (v1,o0,o1) =>
 bindE (Y:=Int×List UInt8×Int) (cndO (decide (v1<1))
   (some (Sum.inr ((0:Int),o0,IntKind.wrap .i64 (o1+1))))
   (cndO (decide ((o0.length:Int)=0))
    (some (Sum.inr ((0:Int),o0,IntKind.wrap .i64 (o1+1))))
    (some (Sum.inl (v1,o0,IntKind.wrap .i64 (o1+1)))))) fun (v11,o01,o11) =>
 cndO (decide (IntKind.wrap .i64 (o11 - 1)<(o01.length:Int)))
  (grdO (decide (0≤IntKind.wrap .i64 (o11 - 1))) (atO (o01) (Int.toNat (IntKind.wrap .i64 (o11 - 1))) fun x=>grdO (!decide (v11=0)) (some ((Int.tmod (IntKind.wrap .i64 (x.toNat:Int)) v11,o01,o11)))))
  (grdO (!decide ((o01.length:Int)=0)) (grdO (decide (0≤Int.tmod (IntKind.wrap .i64 (o11 - 1)) (o01.length:Int))) (atO (o01) (Int.toNat (Int.tmod (IntKind.wrap .i64 (o11 - 1)) (o01.length:Int))) fun x=>grdO (!decide ((o01.length:Int)=0)) (grdO (decide (0≤Int.tmod (IntKind.wrap .i64 (IntKind.wrap .i64 (IntKind.wrap .i64 (o11 - 1)*7)+3)) (o01.length:Int))) (atO (o01) (Int.toNat (Int.tmod (IntKind.wrap .i64 (IntKind.wrap .i64 (IntKind.wrap .i64 (o11 - 1)*7)+3)) (o01.length:Int))) fun x1=>grdO (!decide ((o01.length:Int)=0)) (grdO (!decide (v11=0)) (some ((Int.tmod (xorI IntKind.i64 (IntKind.wrap .i64 (IntKind.wrap .i64 (IntKind.wrap .i64 (IntKind.wrap .i64 (IntKind.wrap .i64 (x.toNat:Int)*131)+IntKind.wrap .i64 (IntKind.wrap .i64 (x1.toNat:Int)*1117))+IntKind.wrap .i64 (IntKind.wrap .i64 (o11 - 1)*29))+IntKind.wrap .i64 (IntKind.wrap .i64 (Int.tdiv (IntKind.wrap .i64 (o11 - 1)) (o01.length:Int))*53))) (IntKind.wrap .i64 (Int.tdiv (IntKind.wrap .i64 (IntKind.wrap .i64 (IntKind.wrap .i64 (IntKind.wrap .i64 (IntKind.wrap .i64 (x.toNat:Int)*131)+IntKind.wrap .i64 (IntKind.wrap .i64 (x1.toNat:Int)*1117))+IntKind.wrap .i64 (IntKind.wrap .i64 (o11 - 1)*29))+IntKind.wrap .i64 (IntKind.wrap .i64 (Int.tdiv (IntKind.wrap .i64 (o11 - 1)) (o01.length:Int))*53))) (64:Int)))) v11,o01,o11)))))))))
theorem r51 x:funT T tb49 tp51 99 tv51 (zAD Tryz.f51) ti51 to51 x=F51 x:=by kernel_rfl
def te51:=mkE 51 false [(0,[])] ti51 to51 F51 [.tmp 4] 99 [100000]
def tb51:=insT 51 te51 tb49
theorem ok51:TbOk Tryz.prog tb51:=okI ok49 tp51 tv51 Tryz.func51 rfl Tryz.results51 Tryz.ntmps51 (by kernel_rfl) (by kernel_rfl) Tryz.call51 r51
abbrev ti119:SPat:=⟨[(0,.ptr 100000 0),(1,.sl .str)],[.box 100000 (pl [.sl .byte,.i .i64])]⟩
abbrev to119:SPat:=⟨[(4,.s)],[.box 100000 (pl [.sl .byte,.i .i64])]⟩
def F119:List (List UInt8)×List UInt8×Int→Option (List UInt8×List UInt8×Int):=fun (list,o0,o1) =>
 zAA (F51 ((list.length:Int),o0,o1)) fun (y,y1,y2) =>
 grdO (decide (0≤y)) (atO (list) y.toNat fun x=>some ((x,y1,y2)))
theorem r119 x:funT T tb51 noPl 12 noIv (zAD Tryz.f119) ti119 to119 x=F119 x:=by kernel_rfl
def te119:=mkE 119 false [(0,[])] ti119 to119 F119 [.tmp 4] 12 [100000]
def tb119:=insT 119 te119 tb51
theorem ok119:TbOk Tryz.prog tb119:=okI ok51 noPl noIv Tryz.func119 rfl Tryz.results119 Tryz.ntmps119 (by kernel_rfl) (by kernel_rfl) Tryz.call119 r119
abbrev ti302:SPat:=⟨[],[]⟩
abbrev to302:SPat:=⟨[(0,.own .str true)],[]⟩
def F302:PUnit→Option (List (List UInt8)):=fun _ =>
 some ([[(110:UInt8),111,112],[(112:UInt8),117,115,104],[(110:UInt8),117,108,108],[(108:UInt8),111,97,100],[(115:UInt8),116,111,114,101],[(114:UInt8),101,102,108,111,97,100],[(114:UInt8),101,102,115,116,111,114,101],[(112:UInt8),111,112],[(100:UInt8),117,112],[(115:UInt8),119,97,112],[(97:UInt8),100,100],[(115:UInt8),117,98],[(109:UInt8),117,108],[(100:UInt8),105,118],[(105:UInt8),102,122,101,114,111],[(105:UInt8),102,110,101,103],[(105:UInt8),102,110,117,108,108],[(105:UInt8),102,115,97,109,101],[(103:UInt8),111],[(110:UInt8),101,119],[(103:UInt8),101,116],[(112:UInt8),117,116],[(103:UInt8),101,116,97,108,108],[(112:UInt8),117,116,97,108,108],[(118:UInt8),105,114,116,117,97,108],[(115:UInt8),112,101,99,105,97,108],[(115:UInt8),116,97,116,105,99],[(102:UInt8),97,99,101],[(99:UInt8),97,115,116],[(105:UInt8),115],[(103:UInt8),105,118,101,105,110,116],[(103:UInt8),105,118,101,114,101,102],[(103:UInt8),105,118,101],[(116:UInt8),104,114,111,119],[(112:UInt8),114,105,110,116]])
theorem r302 x:funT T tb119 noPl 2 noIv (zAD Tryz.f302) ti302 to302 x=F302 x:=by kernel_rfl
def te302:=mkE 302 false [] ti302 to302 F302 [.tmp 0] 2 []
def tb302:=insT 302 te302 tb119
theorem ok302:TbOk Tryz.prog tb302:=okI ok119 noPl noIv Tryz.func302 rfl Tryz.results302 Tryz.ntmps302 (by kernel_rfl) (by kernel_rfl) Tryz.call302 r302
abbrev ti278:SPat:=⟨[(0,.s),(1,.i .u8),(2,.i .i64)],[]⟩
abbrev to278:SPat:=⟨[(6,.own .str true)],[]⟩
abbrev ts278_4:SPat:=⟨[(0,.s),(1,.i .u8),(2,.i .i64),(7,.own .str true),(8,.i .i64),(9,.i .i64)],[]⟩
abbrev zKV:SPat:=⟨[(0,.s),(1,.i .u8),(2,.i .i64),(7,.own .str true),(8,.i .i64),(9,.i .i64)],[]⟩
abbrev zKU:SPat:=⟨[(0,.s),(7,.own .str true),(8,.i .i64)],[]⟩
abbrev zKT:SPat:=⟨[(0,.s),(1,.i .u8),(2,.i .i64),(7,.own .str true),(8,.i .i64),(9,.i .i64)],[]⟩
def tv278:Nat→Option SPat:=fun k=>bif k == 4 then some ts278_4 else bif k == 1000006 then some zKV else bif k == 2000000 then some zKU else bif k == 2000001 then some zKT else none
def F278:List UInt8×Int×Int→Option (List (List UInt8)):=fun (s,b,most) =>
 bindE (Y:=List UInt8×List (List UInt8)×Int) (zAF (fun (s1,b1,most1,out,from_,i) =>
   bindE (Y:=List UInt8×Int×Int×List (List UInt8)×Int×Int) (cndO (decide (i<(s1.length:Int)))
     (cndO (decide ((out.length:Int)<most1))
      (some (Sum.inl (s1,b1,most1,out,from_,i)))
      (some (Sum.inr (Sum.inr (Sum.inl (s1,out,from_))))))
     (some (Sum.inr (Sum.inr (Sum.inl (s1,out,from_)))))) fun (s2,b2,most2,out1,from_1,i1) =>
   bindE (Y:=List UInt8×Int×Int×List (List UInt8)×Int×Int) (grdO (decide (0≤i1)) (atO (s2) i1.toNat fun x=>cndO (decide ((x.toNat:Int)=b2))
     (grdO (decide (0≤from_1) && decide (from_1≤i1) && decide (i1≤(s2.length:Int))) (grdO (decide (List.length out1+1≤9223372036854775807) && decide ((List.length out1+1)*16≤140737488355328)) (some (Sum.inl (s2,b2,most2,out1++[List.drop from_1.toNat (List.take i1.toNat s2)],IntKind.wrap .i64 (i1+1),i1)))))
     (some (Sum.inl (s2,b2,most2,out1,from_1,i1))))) fun (s3,b3,most3,out2,from_2,i2) =>
   some (Sum.inl (s3,b3,most3,out2,from_2,IntKind.wrap .i64 (i2+1)))) ((s,b,most,[],(0:Int),(0:Int)))) fun (s1,out,from_) =>
 grdO (decide (0≤from_) && decide (from_≤(s1.length:Int)) && decide ((s1.length:Int)≤(s1.length:Int))) (grdO (decide (List.length out+1≤9223372036854775807) && decide ((List.length out+1)*16≤140737488355328)) (some (out++[List.drop from_.toNat (List.take (Int.toNat (s1.length:Int)) s1)])))
theorem r278 x:funT T tb302 noPl 43 tv278 (zAD Tryz.f278) ti278 to278 x=F278 x:=by kernel_rfl
def te278:=mkE 278 false [] ti278 to278 F278 [.tmp 6] 43 []
def tb278:=insT 278 te278 tb302
theorem ok278:TbOk Tryz.prog tb278:=okI ok302 noPl tv278 Tryz.func278 rfl Tryz.results278 Tryz.ntmps278 (by kernel_rfl) (by kernel_rfl) Tryz.call278 r278
abbrev ti301:SPat:=⟨[(0,.sl .str),(1,.s)],[]⟩
abbrev to301:SPat:=⟨[(4,.i .i64)],[]⟩
abbrev ts301_2:SPat:=⟨[(0,.sl .str),(1,.s),(5,.i .i64)],[]⟩
abbrev zJu:SPat:=⟨[],[]⟩
def tv301:Nat→Option SPat:=fun k=>bif k == 2 then some ts301_2 else bif k == 2000000 then some zJu else none
def F301:List (List UInt8)×List UInt8→Option (Int):=fun (list,s) =>
 bindE (zAF (fun (list1,s1,i) =>
   cndO (decide (i<(list1.length:Int)))
    (grdO (decide (0≤i)) (atO (list1) i.toNat fun x=>cndO (decide (x=s1))
     (some (Sum.inr (Sum.inr i)))
     (some (Sum.inl (list1,s1,IntKind.wrap .i64 (i+1))))))
    (some (Sum.inr (Sum.inl ())))) ((list,s,(0:Int)))) fun _ =>
 some ((-1:Int))
theorem r301 x:funT T tb278 noPl 19 tv301 (zAD Tryz.f301) ti301 to301 x=F301 x:=by kernel_rfl
def te301:=mkE 301 true [] ti301 to301 F301 [.tmp 4] 19 []
def tb301:=insT 301 te301 tb278
theorem ok301:TbOk Tryz.prog tb301:=okI ok278 noPl tv301 Tryz.func301 rfl Tryz.results301 Tryz.ntmps301 (by kernel_rfl) (by kernel_rfl) Tryz.call301 r301
abbrev ti107:SPat:=⟨[(0,.i .i64),(1,.i .i64),(2,.i .i64)],[]⟩
abbrev to107:SPat:=⟨[(6,.b)],[]⟩
def F107:Int×Int×Int→Option (Bool):=fun (n,low,high) =>
 cndO (decide (low≤n))
  (some (decide (n≤high)))
  (some (false))
theorem r107 x:funT T tb301 noPl 15 noIv (zAD Tryz.f107) ti107 to107 x=F107 x:=by kernel_rfl
def te107:=mkE 107 true [] ti107 to107 F107 [.tmp 6] 15 []
def tb107:=insT 107 te107 tb301
theorem ok107:TbOk Tryz.prog tb107:=okI ok301 noPl noIv Tryz.func107 rfl Tryz.results107 Tryz.ntmps107 (by kernel_rfl) (by kernel_rfl) Tryz.call107 r107
abbrev ti251:SPat:=⟨[(0,.i .i64)],[]⟩
abbrev to251:SPat:=⟨[(2,.i .i64)],[]⟩
abbrev zKc:SPat:=⟨[(0,.i .i64)],[]⟩
def tv251:Nat→Option SPat:=fun k=>bif k == 2000000 then some zKc else none
def F251:Int→Option (Int):=fun op_ =>
 bindE (cndO (decide (op_=1))
   (some (Sum.inr (2:Int)))
   (cndO (decide (op_=3))
    (some (Sum.inr (1:Int)))
    (cndO (decide (op_=4))
     (some (Sum.inr (1:Int)))
     (cndO (decide (op_=5))
      (some (Sum.inr (1:Int)))
      (cndO (decide (op_=6))
       (some (Sum.inr (1:Int)))
       (some (Sum.inl op_))))))) fun op_1 =>
 zAA (F107 (op_1,(14:Int),(18:Int))) fun y =>
 cndO (y)
  (some ((2:Int)))
  (zAA (F107 (op_1,(19:Int),(29:Int))) fun y1 =>
  cndO (y1)
   (some ((2:Int)))
   (zAA (F107 (op_1,(0:Int),(34:Int))) fun y2 =>
   cndO (y2)
    (some ((0:Int)))
    (some ((-1:Int)))))
theorem r251 x:funT T tb107 noPl 19 tv251 (zAD Tryz.f251) ti251 to251 x=F251 x:=by kernel_rfl
def te251:=mkE 251 true [] ti251 to251 F251 [.tmp 2] 19 []
def tb251:=insT 251 te251 tb107
theorem ok251:TbOk Tryz.prog tb251:=okI ok107 noPl tv251 Tryz.func251 rfl Tryz.results251 Tryz.ntmps251 (by kernel_rfl) (by kernel_rfl) Tryz.call251 r251
abbrev ti273:SPat:=⟨[(0,.ptr 100000 0),(1,.s)],[.box 100000 (pl [.ptr 100001 0,.s,.s,.s,.i .i64,.s]),.box 100001 (pl [.sl .byte,.i .i64])]⟩
abbrev to273:SPat:=⟨[],[.box 100000 (pl [.ptr 100001 0,.s,.s,.s,.i .i64,.s]),.box 100001 (pl [.sl .byte,.i .i64])]⟩
def tp273:Nat→List Nat×Plan:=fun id=>bif id == 1 then ([0,1,2,3,4,5,7],(.br 6 [] [0,1,2,3,4,5,7] [] (.br 8 [7,6] [0,1,2,3,4,5] [9,10] (.br 11 [10,9,8,7,6] [0,1,2,3,4,5] [] (.br 12 [11,10,9,8,7,6] [0,1,2,3,4,5] [13,14,15] (.br 16 [15,14,13,12,11,10,9,8,7,6,5,4,3,2,1,0] [] [] .fin .fin) .fin) .fin) .fin) .fin)) else ([],.fin)
def F273:List UInt8×(List UInt8×List UInt8×List UInt8×Int×List UInt8)×List UInt8×Int→Option ((List UInt8×List UInt8×List UInt8×Int×List UInt8)×List UInt8×Int):=fun (s,(o1,o2,o3,o4,o5),o0,o11) =>
 grdO (decide (List.length o1+2≤9223372036854775807)) (grdO (decide (List.length (o1++[(32:UInt8),32])+List.length s≤9223372036854775807)) (grdO (decide (List.length (o1++[(32:UInt8),32]++s)+1≤9223372036854775807)) (zAA (F302 ()) fun y =>
 seqU (seqU (grdO (decide (o4=o4)) (some ())) (seqU (grdO (decide (IntKind.wrap .i64 (o4+1)=IntKind.wrap .i64 (o4+1))) (some ())) (seqU (grdO (decide (s=s)) (some ())) (some ())))) (zAA (F278 (s,(32:Int),(1:Int))) fun y1 =>
 seqU (seqU (grdO (decide (o4=o4)) (some ())) (seqU (grdO (decide (IntKind.wrap .i64 (o4+1)=IntKind.wrap .i64 (o4+1))) (some ())) (some ()))) (atO (y1) ((0:Nat)) fun x=>zAA (F301 (y,x)) fun y2 =>
 seqU (seqU (grdO (decide (o4=o4)) (some ())) (seqU (grdO (decide (IntKind.wrap .i64 (o4+1)=IntKind.wrap .i64 (o4+1))) (some ())) (some ()))) (zAA (F251 y2) fun y3 =>
 seqU (seqU (grdO (decide (o4=o4)) (some ())) (seqU (grdO (decide (IntKind.wrap .i64 (o4+1)=IntKind.wrap .i64 (o4+1))) (some ())) (some ()))) (some (((o1++[(32:UInt8),32]++s++[(10:UInt8)],o2,o3,IntKind.wrap .i64 (IntKind.wrap .i64 (o4+1)+y3),o5),o0,o11)))))))))
theorem r273 x:funT T tb251 tp273 31 noIv (zAD Tryz.f273) ti273 to273 x=F273 x:=by kernel_rfl
def te273:=mkE 273 false [(0,[]),(0,[0])] ti273 to273 F273 [] 31 [100000,100001]
def tb273:=insT 273 te273 tb251
theorem ok273:TbOk Tryz.prog tb273:=okI ok251 tp273 noIv Tryz.func273 rfl Tryz.results273 Tryz.ntmps273 (by kernel_rfl) (by kernel_rfl) Tryz.call273 r273
abbrev ti277:SPat:=⟨[(0,.ptr 100000 0)],[.box 100000 (pl [.ptr 100001 0,.s,.s,.s,.i .i64,.s]),.box 100001 (pl [.sl .byte,.i .i64])]⟩
abbrev to277:SPat:=⟨[(2,.s)],[.box 100000 (pl [.ptr 100001 0,.s,.s,.s,.i .i64,.s]),.box 100001 (pl [.sl .byte,.i .i64])]⟩
def F277:(List UInt8×List UInt8×List UInt8×Int×List UInt8)×List UInt8×Int→Option (List UInt8×(List UInt8×List UInt8×List UInt8×Int×List UInt8)×List UInt8×Int):=fun ((o1,o2,o3,o4,o5),o0,o11) =>
 zAA (F51 ((3:Int),o0,o11)) fun (y,y1,y2) =>
 zAA (F274 y) fun y3 =>
 some ((y3,(o1,o2,o3,o4,o5),y1,y2))
theorem r277 x:funT T tb273 noPl 9 noIv (zAD Tryz.f277) ti277 to277 x=F277 x:=by kernel_rfl
def te277:=mkE 277 false [(0,[]),(0,[0])] ti277 to277 F277 [.tmp 2] 9 [100000,100001]
def tb277:=insT 277 te277 tb273
theorem ok277:TbOk Tryz.prog tb277:=okI ok273 noPl noIv Tryz.func277 rfl Tryz.results277 Tryz.ntmps277 (by kernel_rfl) (by kernel_rfl) Tryz.call277 r277
abbrev ti105:SPat:=⟨[(0,.ptr 100000 0),(1,.sl (.int .i64))],[.box 100000 (pl [.sl .byte,.i .i64])]⟩
abbrev to105:SPat:=⟨[(4,.i .i64)],[.box 100000 (pl [.sl .byte,.i .i64])]⟩
def F105:List Int×List UInt8×Int→Option (Int×List UInt8×Int):=fun (list,o0,o1) =>
 zAA (F51 ((list.length:Int),o0,o1)) fun (y,y1,y2) =>
 grdO (decide (0≤y)) (atO (list) y.toNat fun x=>some ((x,y1,y2)))
theorem r105 x:funT T tb277 noPl 12 noIv (zAD Tryz.f105) ti105 to105 x=F105 x:=by kernel_rfl
def te105:=mkE 105 false [(0,[])] ti105 to105 F105 [.tmp 4] 12 [100000]
def tb105:=insT 105 te105 tb277
theorem ok105:TbOk Tryz.prog tb105:=okI ok277 noPl noIv Tryz.func105 rfl Tryz.results105 Tryz.ntmps105 (by kernel_rfl) (by kernel_rfl) Tryz.call105 r105
abbrev ti303:SPat:=⟨[(0,.ptr 100000 0)],[.box 100000 (pl [.ptr 100001 0,.s,.s,.s,.i .i64,.s]),.box 100001 (pl [.sl .byte,.i .i64])]⟩
abbrev to303:SPat:=⟨[],[.box 100000 (pl [.ptr 100001 0,.s,.s,.s,.i .i64,.s]),.box 100001 (pl [.sl .byte,.i .i64])]⟩
abbrev zJt:SPat:=⟨[],[.box 100000 (pl [.ptr 100001 0,.s,.s,.s,.i .i64,.s]),.box 100001 (pl [.sl .byte,.i .i64])]⟩
def tv303:Nat→Option SPat:=fun k=>bif k == 2000000 then some zJt else none
def F303:(List UInt8×List UInt8×List UInt8×Int×List UInt8)×List UInt8×Int→Option ((List UInt8×List UInt8×List UInt8×Int×List UInt8)×List UInt8×Int):=fun ((o1,o2,o3,o4,o5),o0,o11) =>
 zAA (F51 ((6:Int),o0,o11)) fun (y,y1,y2) =>
 bindE (Y:=(List UInt8×List UInt8×List UInt8×Int×List UInt8)×List UInt8×Int) (cndO (decide (y=0))
   (zAA (F277 ((o1,o2,o3,o4,o5),y1,y2)) fun (y3,(y4,y5,y6,y7,y8),x,x1) =>
   grdO (decide ((8:Nat)+List.length y3≤9223372036854775807)) (zAA (F273 ([(114:UInt8),101,102,108,111,97,100,32]++y3,(y4,y5,y6,y7,y8),x,x1)) fun ((y9,y10,y11,y12,y13),y14,x2) =>
   zAA (F273 ([(103:UInt8),101,116,32,65,32,120,32,73],(y9,y10,y11,y12,y13),y14,x2)) fun ((y15,y16,y17,y18,y19),y20,x3) =>
   some (Sum.inl ((y15,y16,y17,y18,y19),y20,x3))))
   (cndO (decide (y=1))
    (zAA (F277 ((o1,o2,o3,o4,o5),y1,y2)) fun (y3,(y4,y5,y6,y7,y8),x,x1) =>
    grdO (decide ((8:Nat)+List.length y3≤9223372036854775807)) (zAA (F273 ([(114:UInt8),101,102,108,111,97,100,32]++y3,(y4,y5,y6,y7,y8),x,x1)) fun ((y9,y10,y11,y12,y13),y14,x2) =>
    zAA (F273 ([(118:UInt8),105,114,116,117,97,108,32,65,32,103,101,116,32,40,41,73],(y9,y10,y11,y12,y13),y14,x2)) fun ((y15,y16,y17,y18,y19),y20,x3) =>
    some (Sum.inl ((y15,y16,y17,y18,y19),y20,x3))))
    (cndO (decide (y=2))
     (zAA (F273 ([(103:UInt8),101,116,97,108,108,32,65,32,115,32,73],(o1,o2,o3,o4,o5),y1,y2)) fun ((y3,y4,y5,y6,y7),y8,x) =>
     some (Sum.inl ((y3,y4,y5,y6,y7),y8,x)))
     (cndO (decide (y=3))
      (zAA (F105 ([(0:Int),(1:Int),(2:Int),(7:Int),(32767:Int),(-32768:Int),(-1:Int)],y1,y2)) fun (y3,y4,y5) =>
      zAA (F274 y3) fun y6 =>
      grdO (decide ((5:Nat)+List.length y6≤9223372036854775807)) (zAA (F273 ([(112:UInt8),117,115,104,32]++y6,(o1,o2,o3,o4,o5),y4,y5)) fun ((y7,y8,y9,y10,y11),y12,x) =>
      zAA (F105 ([(0:Int),(1:Int),(3:Int),(-2:Int)],y12,x)) fun (y13,y14,y15) =>
      zAA (F274 y13) fun y16 =>
      grdO (decide ((5:Nat)+List.length y16≤9223372036854775807)) (zAA (F273 ([(112:UInt8),117,115,104,32]++y16,(y7,y8,y9,y10,y11),y14,y15)) fun ((y17,y18,y19,y20,y21),y22,x1) =>
      zAA (F119 ([[(97:UInt8),100,100],[(115:UInt8),117,98],[(109:UInt8),117,108],[(100:UInt8),105,118]],y22,x1)) fun (y23,y24,y25) =>
      zAA (F273 (y23,(y17,y18,y19,y20,y21),y24,y25)) fun ((y26,y27,y28,y29,y30),y31,x2) =>
      some (Sum.inl ((y26,y27,y28,y29,y30),y31,x2)))))
      (zAA (F105 ([(0:Int),(1:Int),(2:Int),(5:Int),(-1:Int),(100:Int)],y1,y2)) fun (y3,y4,y5) =>
      zAA (F274 y3) fun y6 =>
      grdO (decide ((5:Nat)+List.length y6≤9223372036854775807)) (zAA (F273 ([(112:UInt8),117,115,104,32]++y6,(o1,o2,o3,o4,o5),y4,y5)) fun ((y7,y8,y9,y10,y11),y12,x) =>
      some (Sum.inl ((y7,y8,y9,y10,y11),y12,x)))))))) fun ((o12,o21,o31,o41,o51),o01,o13) =>
 some (((o12,o21,o31,o41,o51),o01,o13))
theorem r303 x:funT T tb105 noPl 59 tv303 (zAD Tryz.f303) ti303 to303 x=F303 x:=by kernel_rfl
def te303:=mkE 303 false [(0,[]),(0,[0])] ti303 to303 F303 [] 59 [100000,100001]
def tb303:=insT 303 te303 tb105
theorem ok303:TbOk Tryz.prog tb303:=okI ok105 noPl tv303 Tryz.func303 rfl Tryz.results303 Tryz.ntmps303 (by kernel_rfl) (by kernel_rfl) Tryz.call303 r303
abbrev ti304:SPat:=⟨[(0,.ptr 100000 0)],[.box 100000 (pl [.ptr 100001 0,.s,.s,.s,.i .i64,.s]),.box 100001 (pl [.sl .byte,.i .i64])]⟩
abbrev to304:SPat:=⟨[],[.box 100000 (pl [.ptr 100001 0,.s,.s,.s,.i .i64,.s]),.box 100001 (pl [.sl .byte,.i .i64])]⟩
abbrev zJs:SPat:=⟨[(0,.ptr 100000 0),(2,.ptr 100001 0),(8,.i .i64),(15,.b)],[.box 100000 (pl [.ptr 100001 0,.s,.s,.s,.i .i64,.s]),.box 100001 (pl [.sl .byte,.i .i64])]⟩
abbrev zJr:SPat:=⟨[],[.box 100000 (pl [.ptr 100001 0,.s,.s,.s,.i .i64,.s]),.box 100001 (pl [.sl .byte,.i .i64])]⟩
def tv304:Nat→Option SPat:=fun k=>bif k == 1000007 then some zJs else bif k == 2000000 then some zJr else none
def F304:(List UInt8×List UInt8×List UInt8×Int×List UInt8)×List UInt8×Int→Option ((List UInt8×List UInt8×List UInt8×Int×List UInt8)×List UInt8×Int):=fun ((o1,o2,o3,o4,o5),o0,o11) =>
 zAA (F51 ((10:Int),o0,o11)) fun (y,y1,y2) =>
 bindE (Y:=(List UInt8×List UInt8×List UInt8×Int×List UInt8)×List UInt8×Int) (cndO (decide (y=0))
   (zAA (F273 ([(110:UInt8),117,108,108],(o1,o2,o3,o4,o5),y1,y2)) fun ((y3,y4,y5,y6,y7),y8,x) =>
   some (Sum.inl ((y3,y4,y5,y6,y7),y8,x)))
   (bindE (Y:=Int×Bool×(List UInt8×List UInt8×List UInt8×Int×List UInt8)×List UInt8×Int) (cndO (decide (y=1))
     (some (Sum.inl (y,true,(o1,o2,o3,o4,o5),y1,y2)))
     (some (Sum.inl (y,decide (y=2),(o1,o2,o3,o4,o5),y1,y2)))) fun (v8,v15,(o12,o21,o31,o41,o51),o01,o13) =>
   cndO (v15)
    (zAA (F273 ([(110:UInt8),101,119,32,66],(o12,o21,o31,o41,o51),o01,o13)) fun ((y3,y4,y5,y6,y7),y8,x) =>
    some (Sum.inl ((y3,y4,y5,y6,y7),y8,x)))
    (cndO (decide (v8=3))
     (zAA (F273 ([(115:UInt8),116,97,116,105,99,32,65,32,109,107,32,40,41,76,65,59],(o12,o21,o31,o41,o51),o01,o13)) fun ((y3,y4,y5,y6,y7),y8,x) =>
     some (Sum.inl ((y3,y4,y5,y6,y7),y8,x)))
     (cndO (decide (v8=4))
      (zAA (F277 ((o12,o21,o31,o41,o51),o01,o13)) fun (y3,(y4,y5,y6,y7,y8),x,x1) =>
      grdO (decide ((8:Nat)+List.length y3≤9223372036854775807)) (zAA (F273 ([(114:UInt8),101,102,108,111,97,100,32]++y3,(y4,y5,y6,y7,y8),x,x1)) fun ((y9,y10,y11,y12,y13),y14,x2) =>
      zAA (F119 ([[(66:UInt8)],[(65:UInt8)],[(67:UInt8)],[(70:UInt8)]],y14,x2)) fun (y15,y16,y17) =>
      grdO (decide ((5:Nat)+List.length y15≤9223372036854775807)) (zAA (F273 ([(99:UInt8),97,115,116,32]++y15,(y9,y10,y11,y12,y13),y16,y17)) fun ((y18,y19,y20,y21,y22),y23,x3) =>
      some (Sum.inl ((y18,y19,y20,y21,y22),y23,x3)))))
      (cndO (decide (v8=5))
       (zAA (F277 ((o12,o21,o31,o41,o51),o01,o13)) fun (y3,(y4,y5,y6,y7,y8),x,x1) =>
       grdO (decide ((8:Nat)+List.length y3≤9223372036854775807)) (zAA (F273 ([(114:UInt8),101,102,108,111,97,100,32]++y3,(y4,y5,y6,y7,y8),x,x1)) fun ((y9,y10,y11,y12,y13),y14,x2) =>
       zAA (F273 ([(118:UInt8),105,114,116,117,97,108,32,65,32,110,101,120,116,32,40,41,76,65,59],(y9,y10,y11,y12,y13),y14,x2)) fun ((y15,y16,y17,y18,y19),y20,x3) =>
       some (Sum.inl ((y15,y16,y17,y18,y19),y20,x3))))
       (cndO (decide (v8=6))
        (zAA (F119 ([[(67:UInt8)],[(65:UInt8)],[(79:UInt8),98,106],[(70:UInt8)]],o01,o13)) fun (y3,y4,y5) =>
        grdO (decide ((4:Nat)+List.length y3≤9223372036854775807)) (zAA (F273 ([(110:UInt8),101,119,32]++y3,(o12,o21,o31,o41,o51),y4,y5)) fun ((y6,y7,y8,y9,y10),y11,x) =>
        some (Sum.inl ((y6,y7,y8,y9,y10),y11,x))))
        (zAA (F273 ([(110:UInt8),101,119,32,65],(o12,o21,o31,o41,o51),o01,o13)) fun ((y3,y4,y5,y6,y7),y8,x) =>
        some (Sum.inl ((y3,y4,y5,y6,y7),y8,x))))))))) fun ((o12,o21,o31,o41,o51),o01,o13) =>
 some (((o12,o21,o31,o41,o51),o01,o13))
theorem r304 x:funT T tb303 noPl 54 tv304 (zAD Tryz.f304) ti304 to304 x=F304 x:=by kernel_rfl
def te304:=mkE 304 false [(0,[]),(0,[0])] ti304 to304 F304 [] 54 [100000,100001]
def tb304:=insT 304 te304 tb303
theorem ok304:TbOk Tryz.prog tb304:=okI ok303 noPl tv304 Tryz.func304 rfl Tryz.results304 Tryz.ntmps304 (by kernel_rfl) (by kernel_rfl) Tryz.call304 r304
abbrev ti308:SPat:=⟨[(0,.ptr 100000 0)],[.box 100000 (pl [.ptr 100001 0,.s,.s,.s,.i .i64,.s]),.box 100001 (pl [.sl .byte,.i .i64])]⟩
abbrev to308:SPat:=⟨[(2,.s)],[.box 100000 (pl [.ptr 100001 0,.s,.s,.s,.i .i64,.s]),.box 100001 (pl [.sl .byte,.i .i64])]⟩
def tp308:Nat→List Nat×Plan:=fun id=>bif id == 1 then ([0,1,2,3,4,5,6,7,8,9,10,11,12,13,14,15],(.br 16 [15,14,13,12,11,10,9,8,7,6,5,4,3,2,1,0] [] [] .fin .fin)) else ([],.fin)
def F308:(List UInt8×List UInt8×List UInt8×Int×List UInt8)×List UInt8×Int→Option (List UInt8×(List UInt8×List UInt8×List UInt8×Int×List UInt8)×List UInt8×Int):=fun ((o1,o2,o3,o4,o5),o0,o11) =>
 grdO (decide (List.length o5+1≤9223372036854775807)) (grdO (decide (List.length (o5++[(44:UInt8)])+List.length o5≤9223372036854775807)) (grdO (decide (List.length (o5++[(44:UInt8)]++o5)+1≤9223372036854775807)) (grdO (decide (List.length (o5++[(44:UInt8)]++o5++[(44:UInt8)])+List.length o5≤9223372036854775807)) (some ((o5++[(44:UInt8)]++o5++[(44:UInt8)]++o5,(o1,o2,o3,o4,o5),o0,o11))))))
theorem r308 x:funT T tb304 tp308 19 noIv (zAD Tryz.f308) ti308 to308 x=F308 x:=by kernel_rfl
def te308:=mkE 308 false [(0,[]),(0,[0])] ti308 to308 F308 [.tmp 2] 19 [100000,100001]
def tb308:=insT 308 te308 tb304
theorem ok308:TbOk Tryz.prog tb308:=okI ok304 tp308 noIv Tryz.func308 rfl Tryz.results308 Tryz.ntmps308 (by kernel_rfl) (by kernel_rfl) Tryz.call308 r308
abbrev ti307:SPat:=⟨[(0,.ptr 100000 0),(1,.s),(2,.s)],[.box 100000 (pl [.ptr 100001 0,.s,.s,.s,.i .i64,.s]),.box 100001 (pl [.sl .byte,.i .i64])]⟩
abbrev to307:SPat:=⟨[],[.box 100000 (pl [.ptr 100001 0,.s,.s,.s,.i .i64,.s]),.box 100001 (pl [.sl .byte,.i .i64])]⟩
def tp307:Nat→List Nat×Plan:=fun id=>bif id == 0 then ([0,1,2,3,4,5,6,7,8,9,13,16],(.br 10 [9,8,7,6] [0,1,2,3,4,5,13,16] [11,12,14,15,17,18,19,20] (.br 21 [20,19,18,17,16,15,14,13,12,11,10,9,8,7,6,5,4,3,2,1,0] [] [] .fin .fin) .fin)) else ([],.fin)
def F307:List UInt8×List UInt8×(List UInt8×List UInt8×List UInt8×Int×List UInt8)×List UInt8×Int→Option ((List UInt8×List UInt8×List UInt8×Int×List UInt8)×List UInt8×Int):=fun (locals,stack,(o1,o2,o3,o4,o5),o0,o11) =>
 grdO (decide (List.length o3+6≤9223372036854775807)) (zAA (F274 o4) fun y =>
 seqU (seqU (grdO (decide (o3=o3)) (some ())) (seqU (grdO (decide (List.length o3+6≤9223372036854775807)) (grdO (decide (o3++[(102:UInt8),114,97,109,101,32]=o3++[(102:UInt8),114,97,109,101,32])) (some ()))) (seqU (grdO (decide (locals=locals)) (some ())) (seqU (grdO (decide (stack=stack)) (some ())) (some ()))))) (grdO (decide (List.length (o3++[(102:UInt8),114,97,109,101,32])+List.length y≤9223372036854775807)) (grdO (decide (List.length (o3++[(102:UInt8),114,97,109,101,32]++y)+1≤9223372036854775807)) (grdO (decide (List.length (o3++[(102:UInt8),114,97,109,101,32]++y++[(32:UInt8)])+List.length locals≤9223372036854775807)) (grdO (decide (List.length (o3++[(102:UInt8),114,97,109,101,32]++y++[(32:UInt8)]++locals)+1≤9223372036854775807)) (grdO (decide (List.length (o3++[(102:UInt8),114,97,109,101,32]++y++[(32:UInt8)]++locals++[(32:UInt8)])+List.length stack≤9223372036854775807)) (grdO (decide (List.length (o3++[(102:UInt8),114,97,109,101,32]++y++[(32:UInt8)]++locals++[(32:UInt8)]++stack)+1≤9223372036854775807)) (some (((o1,o2,o3++[(102:UInt8),114,97,109,101,32]++y++[(32:UInt8)]++locals++[(32:UInt8)]++stack++[(10:UInt8)],o4,o5),o0,o11))))))))))
theorem r307 x:funT T tb308 tp307 27 noIv (zAD Tryz.f307) ti307 to307 x=F307 x:=by kernel_rfl
def te307:=mkE 307 false [(0,[]),(0,[0])] ti307 to307 F307 [] 27 [100000,100001]
def tb307:=insT 307 te307 tb308
theorem ok307:TbOk Tryz.prog tb307:=okI ok308 tp307 noIv Tryz.func307 rfl Tryz.results307 Tryz.ntmps307 (by kernel_rfl) (by kernel_rfl) Tryz.call307 r307
abbrev ti305:SPat:=⟨[(0,.ptr 100000 0)],[.box 100000 (pl [.ptr 100001 0,.s,.s,.s,.i .i64,.s]),.box 100001 (pl [.sl .byte,.i .i64])]⟩
abbrev to305:SPat:=⟨[],[.box 100000 (pl [.ptr 100001 0,.s,.s,.s,.i .i64,.s]),.box 100001 (pl [.sl .byte,.i .i64])]⟩
abbrev zJq:SPat:=⟨[(0,.ptr 100000 0),(2,.ptr 100001 0),(3,.s)],[.box 100000 (pl [.ptr 100001 0,.s,.s,.s,.i .i64,.s]),.box 100001 (pl [.sl .byte,.i .i64])]⟩
def tv305:Nat→Option SPat:=fun k=>bif k == 2000000 then some zJq else none
def F305:(List UInt8×List UInt8×List UInt8×Int×List UInt8)×List UInt8×Int→Option ((List UInt8×List UInt8×List UInt8×Int×List UInt8)×List UInt8×Int):=fun ((o1,o2,o3,o4,o5),o0,o11) =>
 zAA (F119 ([[(105:UInt8),102,122,101,114,111],[(105:UInt8),102,110,101,103],[(105:UInt8),102,110,117,108,108],[(105:UInt8),102,115,97,109,101]],o0,o11)) fun (y,y1,y2) =>
 bindE (Y:=List UInt8×(List UInt8×List UInt8×List UInt8×Int×List UInt8)×List UInt8×Int) (cndO (decide (y=[(105:UInt8),102,110,117,108,108]))
   (zAA (F277 ((o1,o2,o3,o4,o5),y1,y2)) fun (y3,(y4,y5,y6,y7,y8),x,x1) =>
   grdO (decide ((8:Nat)+List.length y3≤9223372036854775807)) (zAA (F273 ([(114:UInt8),101,102,108,111,97,100,32]++y3,(y4,y5,y6,y7,y8),x,x1)) fun ((y9,y10,y11,y12,y13),y14,x2) =>
   some (Sum.inl (y,(y9,y10,y11,y12,y13),y14,x2))))
   (cndO (decide (y=[(105:UInt8),102,115,97,109,101]))
    (zAA (F277 ((o1,o2,o3,o4,o5),y1,y2)) fun (y3,(y4,y5,y6,y7,y8),x,x1) =>
    grdO (decide ((8:Nat)+List.length y3≤9223372036854775807)) (zAA (F273 ([(114:UInt8),101,102,108,111,97,100,32]++y3,(y4,y5,y6,y7,y8),x,x1)) fun ((y9,y10,y11,y12,y13),y14,x2) =>
    zAA (F277 ((y9,y10,y11,y12,y13),y14,x2)) fun (y15,(y16,y17,y18,y19,y20),x3,x4) =>
    grdO (decide ((8:Nat)+List.length y15≤9223372036854775807)) (zAA (F273 ([(114:UInt8),101,102,108,111,97,100,32]++y15,(y16,y17,y18,y19,y20),x3,x4)) fun ((y21,y22,y23,y24,y25),y26,x5) =>
    some (Sum.inl (y,(y21,y22,y23,y24,y25),y26,x5)))))
    (zAA (F303 ((o1,o2,o3,o4,o5),y1,y2)) fun ((y3,y4,y5,y6,y7),y8,x) =>
    some (Sum.inl (y,(y3,y4,y5,y6,y7),y8,x))))) fun (test,(o12,o21,o31,o41,o51),o01,o13) =>
 grdO (decide (List.length test+1≤9223372036854775807)) (zAA (F274 (IntKind.wrap .i64 (IntKind.wrap .i64 (o41+3)+4))) fun y3 =>
 grdO (decide (List.length (test++[(32:UInt8)])+List.length y3≤9223372036854775807)) (zAA (F273 (test++[(32:UInt8)]++y3,(o12,o21,o31,o41,o51),o01,o13)) fun ((y4,y5,y6,y7,y8),y9,x) =>
 zAA (F273 ([(112:UInt8),117,115,104,32,53,48],(y4,y5,y6,y7,y8),y9,x)) fun ((y10,y11,y12,y13,y14),y15,x1) =>
 zAA (F273 ([(112:UInt8),114,105,110,116],(y10,y11,y12,y13,y14),y15,x1)) fun ((y16,y17,y18,y19,y20),y21,x2) =>
 zAA (F308 ((y16,y17,y18,y19,y20),y21,x2)) fun (y22,(y23,y24,y25,y26,y27),x3,x4) =>
 zAA (F119 ([[(46:UInt8)],[(46:UInt8)],[(46:UInt8)],[(46:UInt8)],[(46:UInt8)],[(46:UInt8)],[(46:UInt8)],[(73:UInt8)]],x3,x4)) fun (y28,y29,y30) =>
 zAA (F307 (y22,y28,(y23,y24,y25,y26,y27),y29,y30)) fun ((y31,y32,y33,y34,y35),y36,x5) =>
 some (((y31,y32,y33,y34,y35),y36,x5))))
theorem r305 x:funT T tb307 noPl 58 tv305 (zAD Tryz.f305) ti305 to305 x=F305 x:=by kernel_rfl
def te305:=mkE 305 false [(0,[]),(0,[0])] ti305 to305 F305 [] 58 [100000,100001]
def tb305:=insT 305 te305 tb307
theorem ok305:TbOk Tryz.prog tb305:=okI ok307 noPl tv305 Tryz.func305 rfl Tryz.results305 Tryz.ntmps305 (by kernel_rfl) (by kernel_rfl) Tryz.call305 r305
abbrev ti306:SPat:=⟨[(0,.ptr 100000 0)],[.box 100000 (pl [.ptr 100001 0,.s,.s,.s,.i .i64,.s]),.box 100001 (pl [.sl .byte,.i .i64])]⟩
abbrev to306:SPat:=⟨[],[.box 100000 (pl [.ptr 100001 0,.s,.s,.s,.i .i64,.s]),.box 100001 (pl [.sl .byte,.i .i64])]⟩
abbrev zJp:SPat:=⟨[],[.box 100000 (pl [.ptr 100001 0,.s,.s,.s,.i .i64,.s]),.box 100001 (pl [.sl .byte,.i .i64])]⟩
def tv306:Nat→Option SPat:=fun k=>bif k == 2000000 then some zJp else none
def F306:(List UInt8×List UInt8×List UInt8×Int×List UInt8)×List UInt8×Int→Option ((List UInt8×List UInt8×List UInt8×Int×List UInt8)×List UInt8×Int):=fun ((o1,o2,o3,o4,o5),o0,o11) =>
 zAA (F51 ((5:Int),o0,o11)) fun (y,y1,y2) =>
 bindE (Y:=(List UInt8×List UInt8×List UInt8×Int×List UInt8)×List UInt8×Int) (cndO (decide (y=0))
   (zAA (F277 ((o1,o2,o3,o4,o5),y1,y2)) fun (y3,(y4,y5,y6,y7,y8),x,x1) =>
   grdO (decide ((8:Nat)+List.length y3≤9223372036854775807)) (zAA (F273 ([(114:UInt8),101,102,108,111,97,100,32]++y3,(y4,y5,y6,y7,y8),x,x1)) fun ((y9,y10,y11,y12,y13),y14,x2) =>
   zAA (F273 ([(115:UInt8),116,97,116,105,99,32,85,32,101,97,116,32,40,76,65,59,41,73],(y9,y10,y11,y12,y13),y14,x2)) fun ((y15,y16,y17,y18,y19),y20,x3) =>
   zAA (F273 ([(112:UInt8),114,105,110,116],(y15,y16,y17,y18,y19),y20,x3)) fun ((y21,y22,y23,y24,y25),y26,x4) =>
   some (Sum.inl ((y21,y22,y23,y24,y25),y26,x4))))
   (cndO (decide (y=1))
    (zAA (F273 ([(115:UInt8),116,97,116,105,99,32,85,32,109,97,107,101,32,40,41,76,65,59],(o1,o2,o3,o4,o5),y1,y2)) fun ((y3,y4,y5,y6,y7),y8,x) =>
    zAA (F277 ((y3,y4,y5,y6,y7),y8,x)) fun (y9,(y10,y11,y12,y13,y14),x1,x2) =>
    grdO (decide ((9:Nat)+List.length y9≤9223372036854775807)) (zAA (F273 ([(114:UInt8),101,102,115,116,111,114,101,32]++y9,(y10,y11,y12,y13,y14),x1,x2)) fun ((y15,y16,y17,y18,y19),y20,x3) =>
    some (Sum.inl ((y15,y16,y17,y18,y19),y20,x3))))
    (cndO (decide (y=2))
     (zAA (F273 ([(103:UInt8),101,116,97,108,108,32,85,32,97,32,76,65,59],(o1,o2,o3,o4,o5),y1,y2)) fun ((y3,y4,y5,y6,y7),y8,x) =>
     zAA (F277 ((y3,y4,y5,y6,y7),y8,x)) fun (y9,(y10,y11,y12,y13,y14),x1,x2) =>
     grdO (decide ((9:Nat)+List.length y9≤9223372036854775807)) (zAA (F273 ([(114:UInt8),101,102,115,116,111,114,101,32]++y9,(y10,y11,y12,y13,y14),x1,x2)) fun ((y15,y16,y17,y18,y19),y20,x3) =>
     some (Sum.inl ((y15,y16,y17,y18,y19),y20,x3))))
     (cndO (decide (y=3))
      (zAA (F277 ((o1,o2,o3,o4,o5),y1,y2)) fun (y3,(y4,y5,y6,y7,y8),x,x1) =>
      grdO (decide ((8:Nat)+List.length y3≤9223372036854775807)) (zAA (F273 ([(114:UInt8),101,102,108,111,97,100,32]++y3,(y4,y5,y6,y7,y8),x,x1)) fun ((y9,y10,y11,y12,y13),y14,x2) =>
      zAA (F273 ([(112:UInt8),117,116,97,108,108,32,85,32,97,32,76,65,59],(y9,y10,y11,y12,y13),y14,x2)) fun ((y15,y16,y17,y18,y19),y20,x3) =>
      some (Sum.inl ((y15,y16,y17,y18,y19),y20,x3))))
      (zAA (F273 ([(110:UInt8),101,119,32,67],(o1,o2,o3,o4,o5),y1,y2)) fun ((y3,y4,y5,y6,y7),y8,x) =>
      zAA (F277 ((y3,y4,y5,y6,y7),y8,x)) fun (y9,(y10,y11,y12,y13,y14),x1,x2) =>
      grdO (decide ((8:Nat)+List.length y9≤9223372036854775807)) (zAA (F273 ([(114:UInt8),101,102,108,111,97,100,32]++y9,(y10,y11,y12,y13,y14),x1,x2)) fun ((y15,y16,y17,y18,y19),y20,x3) =>
      zAA (F273 ([(102:UInt8),97,99,101,32,70,32,116,97,107,101,32,40,76,65,59,41,73],(y15,y16,y17,y18,y19),y20,x3)) fun ((y21,y22,y23,y24,y25),y26,x4) =>
      zAA (F273 ([(112:UInt8),114,105,110,116],(y21,y22,y23,y24,y25),y26,x4)) fun ((y27,y28,y29,y30,y31),y32,x5) =>
      some (Sum.inl ((y27,y28,y29,y30,y31),y32,x5)))))))) fun ((o12,o21,o31,o41,o51),o01,o13) =>
 some (((o12,o21,o31,o41,o51),o01,o13))
theorem r306 x:funT T tb305 noPl 58 tv306 (zAD Tryz.f306) ti306 to306 x=F306 x:=by kernel_rfl
def te306:=mkE 306 false [(0,[]),(0,[0])] ti306 to306 F306 [] 58 [100000,100001]
def tb306:=insT 306 te306 tb305
theorem ok306:TbOk Tryz.prog tb306:=okI ok305 noPl tv306 Tryz.func306 rfl Tryz.results306 Tryz.ntmps306 (by kernel_rfl) (by kernel_rfl) Tryz.call306 r306
abbrev ti275:SPat:=⟨[(0,.ptr 100000 0)],[.box 100000 (pl [.ptr 100001 0,.s,.s,.s,.i .i64,.s]),.box 100001 (pl [.sl .byte,.i .i64])]⟩
abbrev to275:SPat:=⟨[],[.box 100000 (pl [.ptr 100001 0,.s,.s,.s,.i .i64,.s]),.box 100001 (pl [.sl .byte,.i .i64])]⟩
abbrev zKZ:SPat:=⟨[(0,.ptr 100000 0),(2,.ptr 100001 0),(8,.i .i64),(11,.b)],[.box 100000 (pl [.ptr 100001 0,.s,.s,.s,.i .i64,.s]),.box 100001 (pl [.sl .byte,.i .i64])]⟩
abbrev zKY:SPat:=⟨[(0,.ptr 100000 0),(2,.ptr 100001 0),(8,.i .i64),(18,.b)],[.box 100000 (pl [.ptr 100001 0,.s,.s,.s,.i .i64,.s]),.box 100001 (pl [.sl .byte,.i .i64])]⟩
abbrev zKX:SPat:=⟨[],[.box 100000 (pl [.ptr 100001 0,.s,.s,.s,.i .i64,.s]),.box 100001 (pl [.sl .byte,.i .i64])]⟩
def tv275:Nat→Option SPat:=fun k=>bif k == 1000005 then some zKZ else bif k == 1000010 then some zKY else bif k == 2000000 then some zKX else none
def F275:(List UInt8×List UInt8×List UInt8×Int×List UInt8)×List UInt8×Int→Option ((List UInt8×List UInt8×List UInt8×Int×List UInt8)×List UInt8×Int):=fun ((o1,o2,o3,o4,o5),o0,o11) =>
 zAA (F51 ((14:Int),o0,o11)) fun (y,y1,y2) =>
 bindE (Y:=(List UInt8×List UInt8×List UInt8×Int×List UInt8)×List UInt8×Int) (bindE (Y:=Int×Bool×(List UInt8×List UInt8×List UInt8×Int×List UInt8)×List UInt8×Int) (cndO (decide (y=0))
    (some (Sum.inl (y,true,(o1,o2,o3,o4,o5),y1,y2)))
    (some (Sum.inl (y,decide (y=1),(o1,o2,o3,o4,o5),y1,y2)))) fun (v8,v11,(o12,o21,o31,o41,o51),o01,o13) =>
  cndO (v11)
   (zAA (F303 ((o12,o21,o31,o41,o51),o01,o13)) fun ((y3,y4,y5,y6,y7),y8,x) =>
   zAA (F273 ([(112:UInt8),114,105,110,116],(y3,y4,y5,y6,y7),y8,x)) fun ((y9,y10,y11,y12,y13),y14,x1) =>
   some (Sum.inl ((y9,y10,y11,y12,y13),y14,x1)))
   (bindE (Y:=Int×Bool×(List UInt8×List UInt8×List UInt8×Int×List UInt8)×List UInt8×Int) (cndO (decide (v8=2))
     (some (Sum.inl (v8,true,(o12,o21,o31,o41,o51),o01,o13)))
     (cndO (decide (v8=3))
      (some (Sum.inl (v8,true,(o12,o21,o31,o41,o51),o01,o13)))
      (some (Sum.inl (v8,decide (v8=4),(o12,o21,o31,o41,o51),o01,o13))))) fun (v81,v18,(o14,o22,o32,o42,o52),o02,o15) =>
   cndO (v18)
    (zAA (F304 ((o14,o22,o32,o42,o52),o02,o15)) fun ((y3,y4,y5,y6,y7),y8,x) =>
    zAA (F277 ((y3,y4,y5,y6,y7),y8,x)) fun (y9,(y10,y11,y12,y13,y14),x1,x2) =>
    grdO (decide ((9:Nat)+List.length y9≤9223372036854775807)) (zAA (F273 ([(114:UInt8),101,102,115,116,111,114,101,32]++y9,(y10,y11,y12,y13,y14),x1,x2)) fun ((y15,y16,y17,y18,y19),y20,x3) =>
    some (Sum.inl ((y15,y16,y17,y18,y19),y20,x3))))
    (cndO (decide (v81=5))
     (zAA (F277 ((o14,o22,o32,o42,o52),o02,o15)) fun (y3,(y4,y5,y6,y7,y8),x,x1) =>
     grdO (decide ((8:Nat)+List.length y3≤9223372036854775807)) (zAA (F273 ([(114:UInt8),101,102,108,111,97,100,32]++y3,(y4,y5,y6,y7,y8),x,x1)) fun ((y9,y10,y11,y12,y13),y14,x2) =>
     zAA (F303 ((y9,y10,y11,y12,y13),y14,x2)) fun ((y15,y16,y17,y18,y19),y20,x3) =>
     zAA (F273 ([(112:UInt8),117,116,32,65,32,120,32,73],(y15,y16,y17,y18,y19),y20,x3)) fun ((y21,y22,y23,y24,y25),y26,x4) =>
     some (Sum.inl ((y21,y22,y23,y24,y25),y26,x4))))
     (cndO (decide (v81=6))
      (zAA (F305 ((o14,o22,o32,o42,o52),o02,o15)) fun ((y3,y4,y5,y6,y7),y8,x) =>
      some (Sum.inl ((y3,y4,y5,y6,y7),y8,x)))
      (cndO (decide (v81=7))
       (zAA (F303 ((o14,o22,o32,o42,o52),o02,o15)) fun ((y3,y4,y5,y6,y7),y8,x) =>
       zAA (F273 ([(112:UInt8),117,116,97,108,108,32,65,32,115,32,73],(y3,y4,y5,y6,y7),y8,x)) fun ((y9,y10,y11,y12,y13),y14,x1) =>
       some (Sum.inl ((y9,y10,y11,y12,y13),y14,x1)))
       (cndO (decide (v81=8))
        (zAA (F119 ([[(67:UInt8)],[(67:UInt8)],[(67:UInt8)],[(65:UInt8)]],o02,o15)) fun (y3,y4,y5) =>
        grdO (decide ((4:Nat)+List.length y3≤9223372036854775807)) (zAA (F273 ([(110:UInt8),101,119,32]++y3,(o14,o22,o32,o42,o52),y4,y5)) fun ((y6,y7,y8,y9,y10),y11,x) =>
        zAA (F273 ([(102:UInt8),97,99,101,32,70,32,103,101,116,32,40,41,73],(y6,y7,y8,y9,y10),y11,x)) fun ((y12,y13,y14,y15,y16),y17,x1) =>
        zAA (F273 ([(112:UInt8),114,105,110,116],(y12,y13,y14,y15,y16),y17,x1)) fun ((y18,y19,y20,y21,y22),y23,x2) =>
        some (Sum.inl ((y18,y19,y20,y21,y22),y23,x2))))
        (cndO (decide (v81=9))
         (zAA (F277 ((o14,o22,o32,o42,o52),o02,o15)) fun (y3,(y4,y5,y6,y7,y8),x,x1) =>
         grdO (decide ((8:Nat)+List.length y3≤9223372036854775807)) (zAA (F273 ([(114:UInt8),101,102,108,111,97,100,32]++y3,(y4,y5,y6,y7,y8),x,x1)) fun ((y9,y10,y11,y12,y13),y14,x2) =>
         zAA (F119 ([[(66:UInt8)],[(65:UInt8)],[(70:UInt8)],[(67:UInt8)]],y14,x2)) fun (y15,y16,y17) =>
         grdO (decide ((3:Nat)+List.length y15≤9223372036854775807)) (zAA (F273 ([(105:UInt8),115,32]++y15,(y9,y10,y11,y12,y13),y16,y17)) fun ((y18,y19,y20,y21,y22),y23,x3) =>
         zAA (F273 ([(112:UInt8),114,105,110,116],(y18,y19,y20,y21,y22),y23,x3)) fun ((y24,y25,y26,y27,y28),y29,x4) =>
         some (Sum.inl ((y24,y25,y26,y27,y28),y29,x4)))))
         (cndO (decide (v81=10))
          (zAA (F277 ((o14,o22,o32,o42,o52),o02,o15)) fun (y3,(y4,y5,y6,y7,y8),x,x1) =>
          grdO (decide ((8:Nat)+List.length y3≤9223372036854775807)) (zAA (F273 ([(114:UInt8),101,102,108,111,97,100,32]++y3,(y4,y5,y6,y7,y8),x,x1)) fun ((y9,y10,y11,y12,y13),y14,x2) =>
          zAA (F304 ((y9,y10,y11,y12,y13),y14,x2)) fun ((y15,y16,y17,y18,y19),y20,x3) =>
          zAA (F273 ([(112:UInt8),117,116,32,65,32,110,32,76,65,59],(y15,y16,y17,y18,y19),y20,x3)) fun ((y21,y22,y23,y24,y25),y26,x4) =>
          some (Sum.inl ((y21,y22,y23,y24,y25),y26,x4))))
          (cndO (decide (v81=11))
           (zAA (F119 ([[(110:UInt8),111,112],[(110:UInt8),111,112],[(110:UInt8),117,108,108],[(97:UInt8),100,100],[(118:UInt8),105,114,116,117,97,108,32,65,32,104,105,100,32,40,41,86],[(115:UInt8),112,101,99,105,97,108,32,65,32,103,101,116,32,40,41,73],[(103:UInt8),101,116,97,108,108,32,65,32,120,32,73],[(108:UInt8),111,97,100,32,48],[(112:UInt8),117,115,104,32,49]],o02,o15)) fun (y3,y4,y5) =>
           zAA (F273 (y3,(o14,o22,o32,o42,o52),y4,y5)) fun ((y6,y7,y8,y9,y10),y11,x) =>
           zAA (F119 ([[(110:UInt8),111,112],[(112:UInt8),111,112],[(112:UInt8),111,112],[(100:UInt8),117,112],[(115:UInt8),119,97,112]],y11,x)) fun (y12,y13,y14) =>
           zAA (F273 (y12,(y6,y7,y8,y9,y10),y13,y14)) fun ((y15,y16,y17,y18,y19),y20,x1) =>
           some (Sum.inl ((y15,y16,y17,y18,y19),y20,x1)))
           (zAA (F306 ((o14,o22,o32,o42,o52),o02,o15)) fun ((y3,y4,y5,y6,y7),y8,x) =>
           some (Sum.inl ((y3,y4,y5,y6,y7),y8,x)))))))))))) fun ((o12,o21,o31,o41,o51),o01,o13) =>
 some (((o12,o21,o31,o41,o51),o01,o13))
theorem r275 x:funT T tb306 noPl 100 tv275 (zAD Tryz.f275) ti275 to275 x=F275 x:=by kernel_rfl
def te275:=mkE 275 false [(0,[]),(0,[0])] ti275 to275 F275 [] 100 [100000,100001]
def tb275:=insT 275 te275 tb306
theorem ok275:TbOk Tryz.prog tb275:=okI ok306 noPl tv275 Tryz.func275 rfl Tryz.results275 Tryz.ntmps275 (by kernel_rfl) (by kernel_rfl) Tryz.call275 r275
abbrev ti276:SPat:=⟨[(0,.ptr 100000 0),(1,.i .i64)],[.box 100000 (pl [.ptr 100001 0,.s,.s,.s,.i .i64,.s]),.box 100001 (pl [.sl .byte,.i .i64])]⟩
abbrev to276:SPat:=⟨[],[.box 100000 (pl [.ptr 100001 0,.s,.s,.s,.i .i64,.s]),.box 100001 (pl [.sl .byte,.i .i64])]⟩
abbrev zKW:SPat:=⟨[(0,.ptr 100000 0),(1,.i .i64),(4,.s),(5,.s)],[.box 100000 (pl [.ptr 100001 0,.s,.s,.s,.i .i64,.s]),.box 100001 (pl [.sl .byte,.i .i64])]⟩
def tv276:Nat→Option SPat:=fun k=>bif k == 1000004 then some zKW else none
def tp276:Nat→List Nat×Plan:=fun id=>bif id == 6 then ([0,1,5,9,10,11,12,16],(.br 2 [1] [0,5,9,10,11,12,16] [3,4] (.br 6 [5,2,1] [0,9,10,11,12,16,3,4] [7,8] (.br 13 [12,11,10,9,6,5,2,1] [0,16,3,4,7,8] [14,15,17,18,19,20] (.br 21 [20,19,18,17,16,15,14,13,12,11,10,9,8,7,6,5,4,3,2,1,0] [] [] .fin .fin) .fin) .fin) .fin)) else ([],.fin)
def F276:Int×(List UInt8×List UInt8×List UInt8×Int×List UInt8)×List UInt8×Int→Option ((List UInt8×List UInt8×List UInt8×Int×List UInt8)×List UInt8×Int):=fun (v1,(o1,o2,o3,o4,o5),o0,o11) =>
 zAA (F119 ([[(45:UInt8)],[(69:UInt8),114,114],[(69:UInt8),114,114],[(65:UInt8)],[(66:UInt8)]],o0,o11)) fun (y,y1,y2) =>
 grdO (decide ((1:Nat)+List.length y≤9223372036854775807)) (grdO (decide (List.length ([(76:UInt8)]++y)+1≤9223372036854775807)) (bindE (Y:=Int×List UInt8×List UInt8×(List UInt8×List UInt8×List UInt8×Int×List UInt8)×List UInt8×Int) (cndO (decide (y=[(45:UInt8)]))
   (some (Sum.inl (v1,y,[(76:UInt8),79,98,106,59],(o1,o2,o3,o4,o5),y1,y2)))
   (some (Sum.inl (v1,y,[(76:UInt8)]++y++[(59:UInt8)],(o1,o2,o3,o4,o5),y1,y2)))) fun (v11,v4,v5,(o12,o21,o31,o41,o51),o01,o13) =>
 zAA (F274 (IntKind.wrap .i64 (IntKind.wrap .i64 (o41+3)+5))) fun y3 =>
 grdO (decide ((3:Nat)+List.length y3≤9223372036854775807)) (zAA (F273 ([(103:UInt8),111,32]++y3,(o12,o21,o31,o41,o51),o01,o13)) fun ((y4,y5,y6,y7,y8),y9,x) =>
 zAA (F274 v11) fun y10 =>
 seqU (seqU (grdO (decide (o41=o41)) (some ())) (seqU (grdO (decide (y7=y7)) (some ())) (seqU (grdO (decide (v4=v4)) (some ())) (some ())))) (grdO (decide ((5:Nat)+List.length y10≤9223372036854775807)) (grdO (decide (List.length ([(116:UInt8),114,97,112,32]++y10)+1≤9223372036854775807)) (zAA (F274 o41) fun y11 =>
 seqU (seqU (grdO (decide (y7=y7)) (some ())) (seqU (grdO (decide (v4=v4)) (some ())) (seqU (grdO (decide ((5:Nat)+List.length y10≤9223372036854775807)) (grdO (decide ([(116:UInt8),114,97,112,32]++y10=[(116:UInt8),114,97,112,32]++y10)) (some ()))) (seqU (grdO (decide (List.length ([(116:UInt8),114,97,112,32]++y10)+1≤9223372036854775807)) (grdO (decide ([(116:UInt8),114,97,112,32]++y10++[(32:UInt8)]=[(116:UInt8),114,97,112,32]++y10++[(32:UInt8)])) (some ()))) (some ()))))) (grdO (decide (List.length ([(116:UInt8),114,97,112,32]++y10++[(32:UInt8)])+List.length y11≤9223372036854775807)) (grdO (decide (List.length ([(116:UInt8),114,97,112,32]++y10++[(32:UInt8)]++y11)+1≤9223372036854775807)) (zAA (F274 y7) fun y12 =>
 seqU (seqU (grdO (decide (v4=v4)) (some ())) (seqU (grdO (decide ((5:Nat)+List.length y10≤9223372036854775807)) (grdO (decide ([(116:UInt8),114,97,112,32]++y10=[(116:UInt8),114,97,112,32]++y10)) (some ()))) (seqU (grdO (decide (List.length ([(116:UInt8),114,97,112,32]++y10)+1≤9223372036854775807)) (grdO (decide ([(116:UInt8),114,97,112,32]++y10++[(32:UInt8)]=[(116:UInt8),114,97,112,32]++y10++[(32:UInt8)])) (some ()))) (seqU (grdO (decide (List.length ([(116:UInt8),114,97,112,32]++y10++[(32:UInt8)])+List.length y11≤9223372036854775807)) (grdO (decide ([(116:UInt8),114,97,112,32]++y10++[(32:UInt8)]++y11=[(116:UInt8),114,97,112,32]++y10++[(32:UInt8)]++y11)) (some ()))) (seqU (grdO (decide (List.length ([(116:UInt8),114,97,112,32]++y10++[(32:UInt8)]++y11)+1≤9223372036854775807)) (grdO (decide ([(116:UInt8),114,97,112,32]++y10++[(32:UInt8)]++y11++[(32:UInt8)]=[(116:UInt8),114,97,112,32]++y10++[(32:UInt8)]++y11++[(32:UInt8)])) (some ()))) (some ())))))) (grdO (decide (List.length ([(116:UInt8),114,97,112,32]++y10++[(32:UInt8)]++y11++[(32:UInt8)])+List.length y12≤9223372036854775807)) (grdO (decide (List.length ([(116:UInt8),114,97,112,32]++y10++[(32:UInt8)]++y11++[(32:UInt8)]++y12)+1≤9223372036854775807)) (grdO (decide (List.length ([(116:UInt8),114,97,112,32]++y10++[(32:UInt8)]++y11++[(32:UInt8)]++y12++[(32:UInt8)])+List.length v4≤9223372036854775807)) (grdO (decide (List.length ([(116:UInt8),114,97,112,32]++y10++[(32:UInt8)]++y11++[(32:UInt8)]++y12++[(32:UInt8)]++v4)+1≤9223372036854775807)) (zAA (F308 ((y4,[(116:UInt8),114,97,112,32]++y10++[(32:UInt8)]++y11++[(32:UInt8)]++y12++[(32:UInt8)]++v4++[(10:UInt8)],y6,y7,y8),y9,x)) fun (y13,(y14,y15,y16,y17,y18),x1,x2) =>
 zAA (F307 (y13,v5,(y14,y15,y16,y17,y18),x1,x2)) fun ((y19,y20,y21,y22,y23),y24,x3) =>
 zAA (F273 ([(112:UInt8),111,112],(y19,y20,y21,y22,y23),y24,x3)) fun ((y25,y26,y27,y28,y29),y30,x4) =>
 zAA (F273 ([(112:UInt8),117,115,104,32,55,55],(y25,y26,y27,y28,y29),y30,x4)) fun ((y31,y32,y33,y34,y35),y36,x5) =>
 zAA (F273 ([(112:UInt8),114,105,110,116],(y31,y32,y33,y34,y35),y36,x5)) fun ((y37,y38,y39,y40,y41),y42,x6) =>
 zAA (F308 ((y37,y38,y39,y40,y41),y42,x6)) fun (y43,(y44,y45,y46,y47,y48),x7,x8) =>
 zAA (F307 (y43,[(46:UInt8)],(y44,y45,y46,y47,y48),x7,x8)) fun ((y49,y50,y51,y52,y53),y54,x9) =>
 some (((y49,y50,y51,y52,y53),y54,x9))))))))))))))))
theorem r276 x:funT T tb275 tp276 68 tv276 (zAD Tryz.f276) ti276 to276 x=F276 x:=by kernel_rfl
def te276:=mkE 276 false [(0,[]),(0,[0])] ti276 to276 F276 [] 68 [100000,100001]
def tb276:=insT 276 te276 tb275
theorem ok276:TbOk Tryz.prog tb276:=okI ok275 tp276 tv276 Tryz.func276 rfl Tryz.results276 Tryz.ntmps276 (by kernel_rfl) (by kernel_rfl) Tryz.call276 r276
abbrev ti217:SPat:=⟨[(0,.ptr 100000 0),(1,.s)],[.box 100000 (pl [.sl .byte,.i .i64])]⟩
abbrev to217:SPat:=⟨[(4,.s)],[.box 100000 (pl [.sl .byte,.i .i64])]⟩
abbrev ts217_3:SPat:=⟨[(0,.ptr 100000 0),(1,.s),(5,.ptr 11 0),(6,.i .i64)],[.box 11 (pl [.ptr 100000 0,.s,.s,.s,.i .i64,.s]),.box 100000 (pl [.sl .byte,.i .i64])]⟩
abbrev ts217_9:SPat:=⟨[(0,.ptr 100000 0),(1,.s),(5,.ptr 11 0),(7,.i .i64),(8,.i .i64)],[.box 11 (pl [.ptr 100000 0,.s,.s,.s,.i .i64,.s]),.box 100000 (pl [.sl .byte,.i .i64])]⟩
abbrev zKx:SPat:=⟨[(0,.ptr 100000 0),(1,.s),(5,.ptr 11 0)],[.box 11 (pl [.ptr 100000 0,.s,.s,.s,.i .i64,.s]),.box 100000 (pl [.sl .byte,.i .i64])]⟩
abbrev zKw:SPat:=⟨[(1,.s),(5,.ptr 11 0)],[.box 11 (pl [.ptr 100000 0,.s,.s,.s,.i .i64,.s]),.box 100000 (pl [.sl .byte,.i .i64])]⟩
abbrev zKv:SPat:=⟨[(0,.ptr 100000 0),(1,.s),(5,.ptr 11 0)],[.box 11 (pl [.ptr 100000 0,.s,.s,.s,.i .i64,.s]),.box 100000 (pl [.sl .byte,.i .i64])]⟩
abbrev zKu:SPat:=⟨[(0,.ptr 100000 0),(1,.s),(5,.ptr 11 0),(7,.i .i64)],[.box 11 (pl [.ptr 100000 0,.s,.s,.s,.i .i64,.s]),.box 100000 (pl [.sl .byte,.i .i64])]⟩
def tv217:Nat→Option SPat:=fun k=>bif k == 3 then some ts217_3 else bif k == 9 then some ts217_9 else bif k == 1000014 then some zKx else bif k == 1000018 then some zKw else bif k == 2000000 then some zKv else bif k == 2000002 then some zKu else none
def tp217:Nat→List Nat×Plan:=fun id=>bif id == 18 then ([0,1,2,3,4,5,6,7,8,9,10,11,12,13,14,15,16,17],(.br 18 [17,16,15,14,13,12,11,10,9,8,7,6,5,4,3,2,1,0] [] [] .fin .fin)) else ([],.fin)
def F217:List UInt8×List UInt8×Int→Option (List UInt8×List UInt8×Int):=fun (v1,o0,o1) =>
 bindE (Y:=List UInt8×(List UInt8×List UInt8×List UInt8×Int×List UInt8)×List UInt8×Int) (zAF (fun (v11,v6,(o11,o2,o3,o4,o5),o01,o12) =>
   cndO (decide (v6<3))
    (zAA (F119 ([[(110:UInt8),117,108,108],[(110:UInt8),117,108,108],[(110:UInt8),101,119,32,65]],o01,o12)) fun (y,y1,y2) =>
    zAA (F273 (y,(o11,o2,o3,o4,o5),y1,y2)) fun ((y3,y4,y5,y6,y7),y8,x) =>
    zAA (F274 v6) fun y9 =>
    grdO (decide ((9:Nat)+List.length y9≤9223372036854775807)) (zAA (F273 ([(114:UInt8),101,102,115,116,111,114,101,32]++y9,(y3,y4,y5,y6,y7),y8,x)) fun ((y10,y11,y12,y13,y14),y15,x1) =>
    some (Sum.inl (v11,IntKind.wrap .i64 (v6+1),(y10,y11,y12,y13,y14),y15,x1))))
    (some (Sum.inr (Sum.inl (v11,(o11,o2,o3,o4,o5),o01,o12))))) ((v1,(0:Int),([],[],[],(0:Int),[(76:UInt8),65,59]),o0,o1))) fun (v11,(o11,o2,o3,o4,o5),o01,o12) =>
 zAA (F51 ((6:Int),o01,o12)) fun (y,y1,y2) =>
 bindE (Y:=List UInt8×Int×(List UInt8×List UInt8×List UInt8×Int×List UInt8)×List UInt8×Int) (zAF (fun (v12,v7,v8,(o13,o21,o31,o41,o51),o02,o14) =>
   cndO (decide (0<v8))
    (cndO (decide (o41<80))
     (zAA (F275 ((o13,o21,o31,o41,o51),o02,o14)) fun ((y3,y4,y5,y6,y7),y8,x) =>
     some (Sum.inl (v12,v7,IntKind.wrap .i64 (v8 - 1),(y3,y4,y5,y6,y7),y8,x)))
     (some (Sum.inr (Sum.inl (v12,v7,(o13,o21,o31,o41,o51),o02,o14)))))
    (some (Sum.inr (Sum.inl (v12,v7,(o13,o21,o31,o41,o51),o02,o14))))) ((v11,o4,IntKind.wrap .i64 ((1:Int)+y),(o11,o2,o3,o4,o5),y1,y2))) fun (v12,v7,(o13,o21,o31,o41,o51),o02,o14) =>
 bindE (Y:=List UInt8×(List UInt8×List UInt8×List UInt8×Int×List UInt8)×List UInt8×Int) (zAA (F51 ((3:Int),o02,o14)) fun (y3,y4,y5) =>
  cndO (decide (y3=0))
   (zAA (F276 (v7,(o13,o21,o31,o41,o51),y4,y5)) fun ((y6,y7,y8,y9,y10),y11,x) =>
   some (Sum.inl (v12,(y6,y7,y8,y9,y10),y11,x)))
   (some (Sum.inl (v12,(o13,o21,o31,o41,o51),y4,y5)))) fun (v13,(o15,o22,o32,o42,o52),o03,o16) =>
 bindE (Y:=List UInt8×(List UInt8×List UInt8×List UInt8×Int×List UInt8)×List UInt8×Int) (zAA (F51 ((8:Int),o03,o16)) fun (y3,y4,y5) =>
  cndO (decide (y3=0))
   (zAA (F277 ((o15,o22,o32,o42,o52),y4,y5)) fun (y6,(y7,y8,y9,y10,y11),x,x1) =>
   grdO (decide ((8:Nat)+List.length y6≤9223372036854775807)) (zAA (F273 ([(114:UInt8),101,102,108,111,97,100,32]++y6,(y7,y8,y9,y10,y11),x,x1)) fun ((y12,y13,y14,y15,y16),y17,x2) =>
   zAA (F273 ([(116:UInt8),104,114,111,119],(y12,y13,y14,y15,y16),y17,x2)) fun ((y18,y19,y20,y21,y22),y23,x3) =>
   some (Sum.inl (v13,(y18,y19,y20,y21,y22),y23,x3))))
   (zAA (F273 ([(103:UInt8),105,118,101],(o15,o22,o32,o42,o52),y4,y5)) fun ((y6,y7,y8,y9,y10),y11,x) =>
   some (Sum.inl (v13,(y6,y7,y8,y9,y10),y11,x)))) fun (v14,(o17,o23,o33,o43,o53),o04,o18) =>
 grdO (decide ((7:Nat)+List.length v14≤9223372036854775807)) (grdO (decide (List.length ([(109:UInt8),101,116,104,111,100,32]++v14)+11≤9223372036854775807)) (grdO (decide (List.length ([(109:UInt8),101,116,104,111,100,32]++v14++[(32:UInt8),40,41,86,32,49,32,51,32,51,10])+List.length o17≤9223372036854775807)) (grdO (decide (List.length ([(109:UInt8),101,116,104,111,100,32]++v14++[(32:UInt8),40,41,86,32,49,32,51,32,51,10]++o17)+List.length o23≤9223372036854775807)) (grdO (decide (List.length ([(109:UInt8),101,116,104,111,100,32]++v14++[(32:UInt8),40,41,86,32,49,32,51,32,51,10]++o17++o23)+List.length o33≤9223372036854775807)) (some (([(109:UInt8),101,116,104,111,100,32]++v14++[(32:UInt8),40,41,86,32,49,32,51,32,51,10]++o17++o23++o33,o04,o18)))))))
theorem r217 x:funT T tb276 tp217 82 tv217 (zAD Tryz.f217) ti217 to217 x=F217 x:=by kernel_rfl
def te217:=mkE 217 false [(0,[])] ti217 to217 F217 [.tmp 4] 82 [100000]
def tb217:=insT 217 te217 tb276
theorem ok217:TbOk Tryz.prog tb217:=okI ok276 tp217 tv217 Tryz.func217 rfl Tryz.results217 Tryz.ntmps217 (by kernel_rfl) (by kernel_rfl) Tryz.call217 r217
end Go.Proofs.YtdpapeledldifaaGreat
end
