/- Part 27 of the proof that the law FnCheck holds of every input; no condition. -/
import Derived.Test.YtdpapeledldifaaGreatX25
import Derived.Lib.Bytealg
import Derived.Laws.Externs
set_option autoImplicit true
set_option relaxedAutoImplicit true
set_option linter.all false
noncomputable section
namespace Go.Proofs.YtdpapeledldifaaGreat
open Go Go.AM Go.TM
open Go.Proofs.Tryz
open Sum (inl inr)
set_option maxRecDepth 100000
abbrev ti322:SPat:=⟨[(0,.s),(1,.i .u8)],[]⟩
abbrev to322:SPat:=⟨[(2,.i .i64)],[]⟩
def F322:List UInt8×Int→Option Int:=fun (s,c)=>some (Lib.indexByte s c.toNat.toUInt8)
def te322:TEnt:=⟨322,true,[],ti322,to322.Den,F322,fun y=>some (.i .i64 y,[])⟩
theorem c322:zHG Tryz.prog 322 te322.W:=by
 rintro args ob K ⟨⟨s,c⟩,y,v,obs,h1,h2,h3,h4,h5⟩
 refine AC.le h1 h2 ?_
 have h3:some (Lib.indexByte s c.toNat.toUInt8)=some y:=h3
 have h4:some (V.i .i64 y,([]:List TO))=some (v,obs):=h4
 obtain ⟨rfl,rfl⟩:=Prod.mk.inj (Option.some.inj h4)
 have hy:y=Lib.indexByte s c.toNat.toUInt8:=(Option.some.inj h3).symm
 subst hy
 intro w G vs fO hlen hr hO hown
 have hr:RL w G [SV.s s,SV.i .u8 c] vs.toList zf:=hr
 have hO:ROs w G [] fO:=hO
 have hz:fO=zf:=hO
 subst hz
 have hvs:vs = #[.string ⟨s.toArray⟩,.int .u8 c]:=by
  simp only [RL,R] at hr
  obtain ⟨v1,r1,f1,f2,e1,⟨_,rfl⟩,⟨v2,r2,f3,f4,e2,⟨_,rfl⟩,_,_⟩,_⟩:=hr
  have hsz:vs.toList.length=2:=hlen
  rw [e1,e2] at hsz
  have:r2=[]:=by simpa using hsz
  rw [this] at e2
  rw [e2] at e1
  exact Array.toList_inj.1 (by rw [e1])
 refine .inr ⟨.int .i64 (Lib.indexByte s c.toNat.toUInt8),w,?_,?_⟩
 ·rw [run_callFunc_extern func322 (by kernel_rfl) (by kernel_rfl) (by kernel_rfl) (e:=Extern.BytealgIndexByte.indexByte) (by kernel_rfl),hvs]
  have hrun:=Lib.run_indexByteString (P:=Tryz.prog) ⟨(s:List UInt8).toArray⟩ (c:Int) w
  exact (congrArg (fun r=>Result.andThen r fun v w'=>Result.ok (Next.value v) w') hrun).trans rfl
 ·exact ⟨_,[],G,zf,zf,h5,by simp [e,R],rfl,⟨fun g=>by simp [zf],fun g _=>by simp [zf],hown.2.2.1,fun g hg=>by simp [zf] at hg⟩,fun g h=>h,fun g _ h=>.inl h,fun g _ h=>by simp [zf] at h,fun g _ _=>rfl,fun n _=>rfl,by simp [names,eOs],Nat.le_refl _,rfl,rfl,rfl⟩
def tb322:=insT 322 te322 tbT0
theorem ok322:TbOk Tryz.prog tb322:=TbOk.ins TbOk.nil c322
end Go.Proofs.YtdpapeledldifaaGreat
end
noncomputable section
namespace Go.Proofs.YtdpapeledldifaaGreat
open Go Go.AM Go.TM
open Go.Proofs.Tryz
open Sum (inl inr)
set_option maxRecDepth 100000
set_option maxHeartbeats 4000000
abbrev ti274:SPat:=⟨[(0,.i .i64)],[]⟩
abbrev zUM:SPat:=⟨[(2,.s)],[]⟩
def tp274:Nat→List Nat×Plan:=fun id=>bif id == 7 then ([0,1,3,4,5,6],(.br 2 [1,0] [3,4,5,6] [] (.br 7 [6,5,4,3] [0,1] [8,9] (.br 10 [9,8,7,6,5,4,3,2,1,0] [] [] .fin .fin) .fin) (.br 7 [6,5,4,3] [0,1] [8] (.br 2 [1,0] [3,4,5,6,8] [9] (.br 10 [9,8,7,6,5,4,3,2,1,0] [] [] .fin .fin) .fin) .fin))) else ([],.fin)
def zUW (R:ti274.Den→Option zUM.Den):TEnt:=⟨274,true,[],ti274,zUM.Den,R,resF T [.tmp 2] 28 zUM []⟩
def H274 (R274:Int→Option (List UInt8)):Int→Option (List UInt8):=fun n =>
 cndO (decide (n < -9223372036854775807))
  (some ([(45:UInt8),57,50,50,51,51,55,50,48,51,54,56,53,52,55,55,53,56,48,56]))
  (cndO (decide (n<0))
   (zAA (R274 (IntKind.wrap .i64 ((0:Int) - n))) fun y =>
   grdO (decide ((1:Nat)+List.length y≤9223372036854775807)) (some ([(45:UInt8)]++y)))
   (cndO (decide (n<10))
    (grdO (decide (0≤IntKind.wrap .u8 (IntKind.wrap .i64 ((48:Int)+n))) && decide (IntKind.wrap .u8 (IntKind.wrap .i64 ((48:Int)+n))≤255)) (some ([UInt8.ofNat (Int.toNat (IntKind.wrap .u8 (IntKind.wrap .i64 ((48:Int)+n))))])))
    (zBU
     (zAA (R274 (IntKind.wrap .i64 (Int.tdiv n (10:Int)))) fun y =>
     seqU (seqU (grdO (decide (n=n)) (some ())) (seqU (grdO (decide (Int.tmod n (10:Int)=Int.tmod n (10:Int))) (some ())) (seqU (grdO (decide (IntKind.wrap .i64 ((48:Int)+Int.tmod n (10:Int))=IntKind.wrap .i64 ((48:Int)+Int.tmod n (10:Int)))) (some ())) (seqU (grdO (decide (IntKind.wrap .u8 (IntKind.wrap .i64 ((48:Int)+Int.tmod n (10:Int)))=IntKind.wrap .u8 (IntKind.wrap .i64 ((48:Int)+Int.tmod n (10:Int))))) (some ())) (some ()))))) (grdO (decide (0≤IntKind.wrap .u8 (IntKind.wrap .i64 ((48:Int)+Int.tmod n (10:Int)))) && decide (IntKind.wrap .u8 (IntKind.wrap .i64 ((48:Int)+Int.tmod n (10:Int)))≤255)) (seqU (seqU (grdO (decide (n=n)) (some ())) (seqU (grdO (decide (IntKind.wrap .i64 (Int.tdiv n (10:Int))=IntKind.wrap .i64 (Int.tdiv n (10:Int)))) (some ())) (some ()))) (grdO (decide (List.length y+1≤9223372036854775807)) (some (y++[UInt8.ofNat (Int.toNat (IntKind.wrap .u8 (IntKind.wrap .i64 ((48:Int)+Int.tmod n (10:Int)))))]))))))
     (grdO (decide (0≤IntKind.wrap .u8 (IntKind.wrap .i64 ((48:Int)+Int.tmod n (10:Int)))) && decide (IntKind.wrap .u8 (IntKind.wrap .i64 ((48:Int)+Int.tmod n (10:Int)))≤255)) (seqU (seqU (grdO (decide (n=n)) (some ())) (seqU (grdO (decide (IntKind.wrap .i64 (Int.tdiv n (10:Int))=IntKind.wrap .i64 (Int.tdiv n (10:Int)))) (some ())) (some ()))) (zAA (R274 (IntKind.wrap .i64 (Int.tdiv n (10:Int)))) fun y =>
     seqU (seqU (grdO (decide (n=n)) (some ())) (seqU (grdO (decide (Int.tmod n (10:Int)=Int.tmod n (10:Int))) (some ())) (seqU (grdO (decide (IntKind.wrap .i64 ((48:Int)+Int.tmod n (10:Int))=IntKind.wrap .i64 ((48:Int)+Int.tmod n (10:Int)))) (some ())) (seqU (grdO (decide (IntKind.wrap .u8 (IntKind.wrap .i64 ((48:Int)+Int.tmod n (10:Int)))=IntKind.wrap .u8 (IntKind.wrap .i64 ((48:Int)+Int.tmod n (10:Int))))) (some ())) (seqU (grdO (decide ([UInt8.ofNat (Int.toNat (IntKind.wrap .u8 (IntKind.wrap .i64 ((48:Int)+Int.tmod n (10:Int)))))]=[UInt8.ofNat (Int.toNat (IntKind.wrap .u8 (IntKind.wrap .i64 ((48:Int)+Int.tmod n (10:Int)))))])) (some ())) (some ())))))) (grdO (decide (List.length y+1≤9223372036854775807)) (some (y++[UInt8.ofNat (Int.toNat (IntKind.wrap .u8 (IntKind.wrap .i64 ((48:Int)+Int.tmod n (10:Int)))))])))))))))
theorem r274 (R274:Int→Option (List UInt8)) (x:Int):funT T (insT 274 (zUW R274) tb322) tp274 28 noIv (bodyOf Tryz.f274) ti274 zUM x=H274 R274 x:=by kernel_rfl
def G274:Nat→Int→Option (List UInt8)
 | 0=>fun _=>none
 | n+1=>H274 (G274 n)
theorem cR274:∀ n,zHG Tryz.prog 274 (zUW (G274 n)).W
 | 0=>fun args ob K ⟨x,y,v,obs,h1,h2,h3,_⟩=>by cases h3
 | n+1=>zVe (TbOk.ins ok322 (cR274 n)) layOk mixed true [] ti274 zUM [] tp274 noIv func274 rfl results274 ntmps274 (by kernel_rfl) (by kernel_rfl) call274 (G274 (n+1)) fun x _ h=>(r274 (G274 n) x).trans h
def F274:Int→Option (List UInt8):=G274 24
def te274:TEnt:=zUW F274
def tb274:=insT 274 te274 tb322
theorem ok274:TbOk Tryz.prog tb274:=TbOk.ins ok322 (cR274 24)
abbrev ti49:SPat:=⟨[(0,.sl .byte)],[]⟩
abbrev to49:SPat:=⟨[(2,.ptr 10 0)],[.box 10 (pl plR)]⟩
def F49:List UInt8→Option (List UInt8×Int):=fun code =>
 cndO (decide (2000<(code.length:Int)))
 (grdO (decide (2000≤(code.length:Int))) (some ((List.drop (0:Nat) (List.take (2000:Nat) code),(0:Int)))))
 (some ((code,(0:Int))))
def tb49:=insT 49 (mkE 49 false [] ti49 to49 F49 [.tmp 2] 11 [10]) tb274
theorem ok49:TbOk Tryz.prog tb49:=okI ok274 noPl noIv func49 rfl call49
abbrev ti51:SPat:=⟨[(0,.ptr 100000 0),(1,.i .i64)],[.box 100000 (pl plR)]⟩
abbrev to51:SPat:=⟨[(4,.i .i64)],[.box 100000 (pl plR)]⟩
abbrev zOP:SPat:=⟨[(0,.ptr 100000 0),(1,.i .i64)],[.box 100000 (pl plR)]⟩
def tv51:Nat→Option SPat:=fun k=>bif k == 1000004 then some zOP else none
def tp51:Nat→List Nat×Plan:=fun id=>bif id == 7 then ([0,1,2,3,4,5,6,7,8,9,10,11,12,13,14,15,16,17,18,19,20,21,22,23,24,25,26,27,28,29,30,31,32,33,34,35,36,37,38,39,40,41,42,43,44],(.br 45 [44,43,42,41,40,39,38,37,36,35,34,33,32,31,30,29,28,27,26,25,24,23,22,21,20,19,18,17,16,15,14,13,12,11,10,9,8,7,6,5,4,3,2,1,0] [] [] .fin .fin)) else ([],.fin)
def F51:Int×List UInt8×Int→Option (Int×List UInt8×Int):=fun (v1,o0,o1) =>
 bindE (Y:=Int×List UInt8×Int) (cndO (decide (v1<1))
 (some (inr ((0:Int),o0,IntKind.wrap .i64 (o1+1))))
 (cndO (decide ((o0.length:Int)=0))
 (some (inr ((0:Int),o0,IntKind.wrap .i64 (o1+1))))
 (some (inl (v1,o0,IntKind.wrap .i64 (o1+1)))))) fun (v11,o01,o11) =>
 cndO (decide (IntKind.wrap .i64 (o11 - 1)<(o01.length:Int)))
 (grdO (decide (0≤IntKind.wrap .i64 (o11 - 1))) (atO (o01) (Int.toNat (IntKind.wrap .i64 (o11 - 1))) fun x=>grdO (!decide (v11=0)) (some ((Int.tmod (IntKind.wrap .i64 (x.toNat:Int)) v11,o01,o11)))))
 (grdO (!decide ((o01.length:Int)=0)) (grdO (decide (0≤Int.tmod (IntKind.wrap .i64 (o11 - 1)) (o01.length:Int))) (atO (o01) (Int.toNat (Int.tmod (IntKind.wrap .i64 (o11 - 1)) (o01.length:Int))) fun x=>grdO (!decide ((o01.length:Int)=0)) (grdO (decide (0≤Int.tmod (IntKind.wrap .i64 (IntKind.wrap .i64 (IntKind.wrap .i64 (o11 - 1)*7)+3)) (o01.length:Int))) (atO (o01) (Int.toNat (Int.tmod (IntKind.wrap .i64 (IntKind.wrap .i64 (IntKind.wrap .i64 (o11 - 1)*7)+3)) (o01.length:Int))) fun x1=>grdO (!decide ((o01.length:Int)=0)) (grdO (!decide (v11=0)) (some ((Int.tmod (xorI IntKind.i64 (IntKind.wrap .i64 (IntKind.wrap .i64 (IntKind.wrap .i64 (IntKind.wrap .i64 (IntKind.wrap .i64 (x.toNat:Int)*131)+IntKind.wrap .i64 (IntKind.wrap .i64 (x1.toNat:Int)*1117))+IntKind.wrap .i64 (IntKind.wrap .i64 (o11 - 1)*29))+IntKind.wrap .i64 (IntKind.wrap .i64 (Int.tdiv (IntKind.wrap .i64 (o11 - 1)) (o01.length:Int))*53))) (IntKind.wrap .i64 (Int.tdiv (IntKind.wrap .i64 (IntKind.wrap .i64 (IntKind.wrap .i64 (IntKind.wrap .i64 (IntKind.wrap .i64 (x.toNat:Int)*131)+IntKind.wrap .i64 (IntKind.wrap .i64 (x1.toNat:Int)*1117))+IntKind.wrap .i64 (IntKind.wrap .i64 (o11 - 1)*29))+IntKind.wrap .i64 (IntKind.wrap .i64 (Int.tdiv (IntKind.wrap .i64 (o11 - 1)) (o01.length:Int))*53))) (64:Int)))) v11,o01,o11)))))))))
def tb51:=insT 51 (mkE 51 false [(0,[])] ti51 to51 F51 [.tmp 4] 99 [100000]) tb49
theorem ok51:TbOk Tryz.prog tb51:=okI ok49 tp51 tv51 func51 rfl call51
abbrev ti119:SPat:=⟨[(0,.ptr 100000 0),(1,.sl .str)],[.box 100000 (pl plR)]⟩
abbrev to119:SPat:=⟨[(4,.s)],[.box 100000 (pl plR)]⟩
def F119:List (List UInt8)×List UInt8×Int→Option (List UInt8×List UInt8×Int):=fun (list,o0,o1) =>
 zAA (F51 ((list.length:Int),o0,o1)) fun (y,y1,y2) =>
 grdO (decide (0≤y)) (atO (list) y.toNat fun x=>some ((x,y1,y2)))
def tb119:=insT 119 (mkE 119 false [(0,[])] ti119 to119 F119 [.tmp 4] 12 [100000]) tb51
theorem ok119:TbOk Tryz.prog tb119:=okI ok51 noPl noIv func119 rfl call119
abbrev ti302:SPat:=⟨[],[]⟩
abbrev to302:SPat:=⟨[(0,.own .str true)],[]⟩
def F302:PUnit→Option (List (List UInt8)):=fun _ =>
 some ([[(110:UInt8),111,112],[(112:UInt8),117,115,104],[(110:UInt8),117,108,108],[(108:UInt8),111,97,100],[(115:UInt8),116,111,114,101],[(114:UInt8),101,102,108,111,97,100],[(114:UInt8),101,102,115,116,111,114,101],[(112:UInt8),111,112],[(100:UInt8),117,112],[(115:UInt8),119,97,112],[(97:UInt8),100,100],[(115:UInt8),117,98],[(109:UInt8),117,108],[(100:UInt8),105,118],[(105:UInt8),102,122,101,114,111],[(105:UInt8),102,110,101,103],[(105:UInt8),102,110,117,108,108],[(105:UInt8),102,115,97,109,101],[(103:UInt8),111],[(110:UInt8),101,119],[(103:UInt8),101,116],[(112:UInt8),117,116],[(103:UInt8),101,116,97,108,108],[(112:UInt8),117,116,97,108,108],[(118:UInt8),105,114,116,117,97,108],[(115:UInt8),112,101,99,105,97,108],[(115:UInt8),116,97,116,105,99],[(102:UInt8),97,99,101],[(99:UInt8),97,115,116],[(105:UInt8),115],[(103:UInt8),105,118,101,105,110,116],[(103:UInt8),105,118,101,114,101,102],[(103:UInt8),105,118,101],[(116:UInt8),104,114,111,119],[(112:UInt8),114,105,110,116]])
def tb302:=insT 302 (mkE 302 false [] ti302 to302 F302 [.tmp 0] 2 []) tb119
theorem ok302:TbOk Tryz.prog tb302:=okI ok119 noPl noIv func302 rfl call302
abbrev ti278:SPat:=⟨[(0,.s),(1,.i .u8),(2,.i .i64)],[]⟩
abbrev to278:SPat:=⟨[(6,.own .str true)],[]⟩
abbrev ts278_4:SPat:=⟨[(0,.s),(1,.i .u8),(2,.i .i64),(7,.own .str true),(8,.i .i64),(9,.i .i64)],[]⟩
abbrev zKZ:SPat:=⟨[(0,.s),(1,.i .u8),(2,.i .i64),(7,.own .str true),(8,.i .i64),(9,.i .i64)],[]⟩
abbrev zKY:SPat:=⟨[(0,.s),(7,.own .str true),(8,.i .i64)],[]⟩
abbrev zKX:SPat:=⟨[(0,.s),(1,.i .u8),(2,.i .i64),(7,.own .str true),(8,.i .i64),(9,.i .i64)],[]⟩
def tv278:Nat→Option SPat:=fun k=>bif k == 4 then some ts278_4 else bif k == 1000006 then some zKZ else bif k == 2000000 then some zKY else bif k == 2000001 then some zKX else none
def F278:List UInt8×Int×Int→Option (List (List UInt8)):=fun (s,b,most) =>
 bindE (Y:=List UInt8×List (List UInt8)×Int) (zAF (fun (s1,b1,most1,out,from_,i) =>
 bindE (Y:=List UInt8×Int×Int×List (List UInt8)×Int×Int) (cndO (decide (i<(s1.length:Int)))
 (cndO (decide ((out.length:Int)<most1))
 (some (inl (s1,b1,most1,out,from_,i)))
 (some (inr (inr (inl (s1,out,from_))))))
 (some (inr (inr (inl (s1,out,from_)))))) fun (s2,b2,most2,out1,from_1,i1) =>
 bindE (Y:=List UInt8×Int×Int×List (List UInt8)×Int×Int) (grdO (decide (0≤i1)) (atO (s2) i1.toNat fun x=>cndO (decide ((x.toNat:Int)=b2))
 (grdO (decide (0≤from_1) && decide (from_1≤i1) && decide (i1≤(s2.length:Int))) (grdO (decide (List.length out1+1≤9223372036854775807) && decide ((List.length out1+1)*16≤140737488355328)) (some (inl (s2,b2,most2,out1++[List.drop from_1.toNat (List.take i1.toNat s2)],IntKind.wrap .i64 (i1+1),i1)))))
 (some (inl (s2,b2,most2,out1,from_1,i1))))) fun (s3,b3,most3,out2,from_2,i2) =>
 some (inl (s3,b3,most3,out2,from_2,IntKind.wrap .i64 (i2+1)))) ((s,b,most,[],(0:Int),(0:Int)))) fun (s1,out,from_) =>
 grdO (decide (0≤from_) && decide (from_≤(s1.length:Int)) && decide ((s1.length:Int)≤(s1.length:Int))) (grdO (decide (List.length out+1≤9223372036854775807) && decide ((List.length out+1)*16≤140737488355328)) (some (out++[List.drop from_.toNat (List.take (Int.toNat (s1.length:Int)) s1)])))
def tb278:=insT 278 (mkE 278 false [] ti278 to278 F278 [.tmp 6] 43 []) tb302
theorem ok278:TbOk Tryz.prog tb278:=okI ok302 noPl tv278 func278 rfl call278
abbrev ti301:SPat:=⟨[(0,.sl .str),(1,.s)],[]⟩
abbrev to301:SPat:=⟨[(4,.i .i64)],[]⟩
abbrev ts301_2:SPat:=⟨[(0,.sl .str),(1,.s),(5,.i .i64)],[]⟩
abbrev zJy:SPat:=⟨[],[]⟩
def tv301:Nat→Option SPat:=fun k=>bif k == 2 then some ts301_2 else bif k == 2000000 then some zJy else none
def F301:List (List UInt8)×List UInt8→Option (Int):=fun (list,s) =>
 bindE (zAF (fun (list1,s1,i) =>
 cndO (decide (i<(list1.length:Int)))
 (grdO (decide (0≤i)) (atO (list1) i.toNat fun x=>cndO (decide (x=s1))
 (some (inr (inr i)))
 (some (inl (list1,s1,IntKind.wrap .i64 (i+1))))))
 (some (inr (inl ())))) ((list,s,(0:Int)))) fun _ =>
 some ((-1:Int))
def tb301:=insT 301 (mkE 301 true [] ti301 to301 F301 [.tmp 4] 19 []) tb278
theorem ok301:TbOk Tryz.prog tb301:=okI ok278 noPl tv301 func301 rfl call301
abbrev ti107:SPat:=⟨[(0,.i .i64),(1,.i .i64),(2,.i .i64)],[]⟩
abbrev to107:SPat:=⟨[(6,.b)],[]⟩
def F107:Int×Int×Int→Option (Bool):=fun (n,low,high) =>
 cndO (decide (low≤n))
 (some (decide (n≤high)))
 (some (false))
def tb107:=insT 107 (mkE 107 true [] ti107 to107 F107 [.tmp 6] 15 []) tb301
theorem ok107:TbOk Tryz.prog tb107:=okI ok301 noPl noIv func107 rfl call107
abbrev ti251:SPat:=⟨[(0,.i .i64)],[]⟩
abbrev to251:SPat:=⟨[(2,.i .i64)],[]⟩
abbrev zKg:SPat:=⟨[(0,.i .i64)],[]⟩
def tv251:Nat→Option SPat:=fun k=>bif k == 2000000 then some zKg else none
def F251:Int→Option (Int):=fun op_ =>
 bindE (cndO (decide (op_=1))
 (some (inr (2:Int)))
 (cndO (decide (op_=3))
 (some (inr (1:Int)))
 (cndO (decide (op_=4))
 (some (inr (1:Int)))
 (cndO (decide (op_=5))
 (some (inr (1:Int)))
 (cndO (decide (op_=6))
 (some (inr (1:Int)))
 (some (inl op_))))))) fun op_1 =>
 zAA (F107 (op_1,(14:Int),(18:Int))) fun y =>
 cndO (y)
 (some ((2:Int)))
 (zAA (F107 (op_1,(19:Int),(29:Int))) fun y1 =>
 cndO (y1)
 (some ((2:Int)))
 (zAA (F107 (op_1,(0:Int),(34:Int))) fun y2 =>
 cndO (y2)
 (some ((0:Int)))
 (some ((-1:Int)))))
def tb251:=insT 251 (mkE 251 true [] ti251 to251 F251 [.tmp 2] 19 []) tb107
theorem ok251:TbOk Tryz.prog tb251:=okI ok107 noPl tv251 func251 rfl call251
abbrev ti273:SPat:=⟨[(0,.ptr 100000 0),(1,.s)],[.box 100000 (pl plG),.box 100001 (pl plR)]⟩
abbrev to273:SPat:=⟨[],[.box 100000 (pl plG),.box 100001 (pl plR)]⟩
def tp273:Nat→List Nat×Plan:=fun id=>bif id == 1 then ([0,1,2,3,4,5,7],(.br 6 [] [0,1,2,3,4,5,7] [] (.br 8 [7,6] [0,1,2,3,4,5] [9,10] (.br 11 [10,9,8,7,6] [0,1,2,3,4,5] [] (.br 12 [11,10,9,8,7,6] [0,1,2,3,4,5] [13,14,15] (.br 16 [15,14,13,12,11,10,9,8,7,6,5,4,3,2,1,0] [] [] .fin .fin) .fin) .fin) .fin) .fin)) else ([],.fin)
def F273:List UInt8×(List UInt8×List UInt8×List UInt8×Int×List UInt8)×List UInt8×Int→Option ((List UInt8×List UInt8×List UInt8×Int×List UInt8)×List UInt8×Int):=fun (s,(o1,o2,o3,o4,o5),o0,o11) =>
 grdO (decide (List.length o1+2≤9223372036854775807)) (grdO (decide (List.length (o1++[(32:UInt8),32])+List.length s≤9223372036854775807)) (grdO (decide (List.length (o1++[(32:UInt8),32]++s)+1≤9223372036854775807)) (zAA (F302 ()) fun y =>
 seqU (seqU (grdO (decide (o4=o4)) (some ())) (seqU (grdO (decide (IntKind.wrap .i64 (o4+1)=IntKind.wrap .i64 (o4+1))) (some ())) (seqU (grdO (decide (s=s)) (some ())) (some ())))) (zAA (F278 (s,(32:Int),(1:Int))) fun y1 =>
 seqU (seqU (grdO (decide (o4=o4)) (some ())) (seqU (grdO (decide (IntKind.wrap .i64 (o4+1)=IntKind.wrap .i64 (o4+1))) (some ())) (some ()))) (atO (y1) ((0:Nat)) fun x=>zAA (F301 (y,x)) fun y2 =>
 seqU (seqU (grdO (decide (o4=o4)) (some ())) (seqU (grdO (decide (IntKind.wrap .i64 (o4+1)=IntKind.wrap .i64 (o4+1))) (some ())) (some ()))) (zAA (F251 y2) fun y3 =>
 seqU (seqU (grdO (decide (o4=o4)) (some ())) (seqU (grdO (decide (IntKind.wrap .i64 (o4+1)=IntKind.wrap .i64 (o4+1))) (some ())) (some ()))) (some (((o1++[(32:UInt8),32]++s++[(10:UInt8)],o2,o3,IntKind.wrap .i64 (IntKind.wrap .i64 (o4+1)+y3),o5),o0,o11)))))))))
def tb273:=insT 273 (mkE 273 false [(0,[]),(0,[0])] ti273 to273 F273 [] 31 [100000,100001]) tb251
theorem ok273:TbOk Tryz.prog tb273:=okI ok251 tp273 noIv func273 rfl call273
abbrev ti277:SPat:=⟨[(0,.ptr 100000 0)],[.box 100000 (pl plG),.box 100001 (pl plR)]⟩
abbrev to277:SPat:=⟨[(2,.s)],[.box 100000 (pl plG),.box 100001 (pl plR)]⟩
def F277:(List UInt8×List UInt8×List UInt8×Int×List UInt8)×List UInt8×Int→Option (List UInt8×(List UInt8×List UInt8×List UInt8×Int×List UInt8)×List UInt8×Int):=fun ((o1,o2,o3,o4,o5),o0,o11) =>
 zAA (F51 ((3:Int),o0,o11)) fun (y,y1,y2) =>
 zAA (F274 y) fun y3 =>
 some ((y3,(o1,o2,o3,o4,o5),y1,y2))
def tb277:=insT 277 (mkE 277 false [(0,[]),(0,[0])] ti277 to277 F277 [.tmp 2] 9 [100000,100001]) tb273
theorem ok277:TbOk Tryz.prog tb277:=okI ok273 noPl noIv func277 rfl call277
abbrev ti105:SPat:=⟨[(0,.ptr 100000 0),(1,.sl (.int .i64))],[.box 100000 (pl plR)]⟩
abbrev to105:SPat:=⟨[(4,.i .i64)],[.box 100000 (pl plR)]⟩
def F105:List Int×List UInt8×Int→Option (Int×List UInt8×Int):=fun (list,o0,o1) =>
 zAA (F51 ((list.length:Int),o0,o1)) fun (y,y1,y2) =>
 grdO (decide (0≤y)) (atO (list) y.toNat fun x=>some ((x,y1,y2)))
def tb105:=insT 105 (mkE 105 false [(0,[])] ti105 to105 F105 [.tmp 4] 12 [100000]) tb277
theorem ok105:TbOk Tryz.prog tb105:=okI ok277 noPl noIv func105 rfl call105
abbrev ti303:SPat:=⟨[(0,.ptr 100000 0)],[.box 100000 (pl plG),.box 100001 (pl plR)]⟩
abbrev to303:SPat:=⟨[],[.box 100000 (pl plG),.box 100001 (pl plR)]⟩
abbrev zJx:SPat:=⟨[],[.box 100000 (pl plG),.box 100001 (pl plR)]⟩
def tv303:Nat→Option SPat:=fun k=>bif k == 2000000 then some zJx else none
def F303:(List UInt8×List UInt8×List UInt8×Int×List UInt8)×List UInt8×Int→Option ((List UInt8×List UInt8×List UInt8×Int×List UInt8)×List UInt8×Int):=fun ((o1,o2,o3,o4,o5),o0,o11) =>
 zAA (F51 ((6:Int),o0,o11)) fun (y,y1,y2) =>
 bindE (Y:=(List UInt8×List UInt8×List UInt8×Int×List UInt8)×List UInt8×Int) (cndO (decide (y=0))
 (zAA (F277 ((o1,o2,o3,o4,o5),y1,y2)) fun (y3,(y4,y5,y6,y7,y8),x,x1) =>
 grdO (decide ((8:Nat)+List.length y3≤9223372036854775807)) (zAA (F273 ([(114:UInt8),101,102,108,111,97,100,32]++y3,(y4,y5,y6,y7,y8),x,x1)) fun ((y9,y10,y11,y12,y13),y14,x2) =>
 zAA (F273 ([(103:UInt8),101,116,32,65,32,120,32,73],(y9,y10,y11,y12,y13),y14,x2)) fun ((y15,y16,y17,y18,y19),y20,x3) =>
 some (inl ((y15,y16,y17,y18,y19),y20,x3))))
 (cndO (decide (y=1))
 (zAA (F277 ((o1,o2,o3,o4,o5),y1,y2)) fun (y3,(y4,y5,y6,y7,y8),x,x1) =>
 grdO (decide ((8:Nat)+List.length y3≤9223372036854775807)) (zAA (F273 ([(114:UInt8),101,102,108,111,97,100,32]++y3,(y4,y5,y6,y7,y8),x,x1)) fun ((y9,y10,y11,y12,y13),y14,x2) =>
 zAA (F273 ([(118:UInt8),105,114,116,117,97,108,32,65,32,103,101,116,32,40,41,73],(y9,y10,y11,y12,y13),y14,x2)) fun ((y15,y16,y17,y18,y19),y20,x3) =>
 some (inl ((y15,y16,y17,y18,y19),y20,x3))))
 (cndO (decide (y=2))
 (zAA (F273 ([(103:UInt8),101,116,97,108,108,32,65,32,115,32,73],(o1,o2,o3,o4,o5),y1,y2)) fun ((y3,y4,y5,y6,y7),y8,x) =>
 some (inl ((y3,y4,y5,y6,y7),y8,x)))
 (cndO (decide (y=3))
 (zAA (F105 ([(0:Int),(1:Int),(2:Int),(7:Int),(32767:Int),(-32768:Int),(-1:Int)],y1,y2)) fun (y3,y4,y5) =>
 zAA (F274 y3) fun y6 =>
 grdO (decide ((5:Nat)+List.length y6≤9223372036854775807)) (zAA (F273 ([(112:UInt8),117,115,104,32]++y6,(o1,o2,o3,o4,o5),y4,y5)) fun ((y7,y8,y9,y10,y11),y12,x) =>
 zAA (F105 ([(0:Int),(1:Int),(3:Int),(-2:Int)],y12,x)) fun (y13,y14,y15) =>
 zAA (F274 y13) fun y16 =>
 grdO (decide ((5:Nat)+List.length y16≤9223372036854775807)) (zAA (F273 ([(112:UInt8),117,115,104,32]++y16,(y7,y8,y9,y10,y11),y14,y15)) fun ((y17,y18,y19,y20,y21),y22,x1) =>
 zAA (F119 ([[(97:UInt8),100,100],[(115:UInt8),117,98],[(109:UInt8),117,108],[(100:UInt8),105,118]],y22,x1)) fun (y23,y24,y25) =>
 zAA (F273 (y23,(y17,y18,y19,y20,y21),y24,y25)) fun ((y26,y27,y28,y29,y30),y31,x2) =>
 some (inl ((y26,y27,y28,y29,y30),y31,x2)))))
 (zAA (F105 ([(0:Int),(1:Int),(2:Int),(5:Int),(-1:Int),(100:Int)],y1,y2)) fun (y3,y4,y5) =>
 zAA (F274 y3) fun y6 =>
 grdO (decide ((5:Nat)+List.length y6≤9223372036854775807)) (zAA (F273 ([(112:UInt8),117,115,104,32]++y6,(o1,o2,o3,o4,o5),y4,y5)) fun ((y7,y8,y9,y10,y11),y12,x) =>
 some (inl ((y7,y8,y9,y10,y11),y12,x)))))))) fun ((o12,o21,o31,o41,o51),o01,o13) =>
 some (((o12,o21,o31,o41,o51),o01,o13))
def tb303:=insT 303 (mkE 303 false [(0,[]),(0,[0])] ti303 to303 F303 [] 59 [100000,100001]) tb105
theorem ok303:TbOk Tryz.prog tb303:=okI ok105 noPl tv303 func303 rfl call303
abbrev ti304:SPat:=⟨[(0,.ptr 100000 0)],[.box 100000 (pl plG),.box 100001 (pl plR)]⟩
abbrev to304:SPat:=⟨[],[.box 100000 (pl plG),.box 100001 (pl plR)]⟩
abbrev zJw:SPat:=⟨[(0,.ptr 100000 0),(2,.ptr 100001 0),(8,.i .i64),(15,.b)],[.box 100000 (pl plG),.box 100001 (pl plR)]⟩
abbrev zJv:SPat:=⟨[],[.box 100000 (pl plG),.box 100001 (pl plR)]⟩
def tv304:Nat→Option SPat:=fun k=>bif k == 1000007 then some zJw else bif k == 2000000 then some zJv else none
def F304:(List UInt8×List UInt8×List UInt8×Int×List UInt8)×List UInt8×Int→Option ((List UInt8×List UInt8×List UInt8×Int×List UInt8)×List UInt8×Int):=fun ((o1,o2,o3,o4,o5),o0,o11) =>
 zAA (F51 ((10:Int),o0,o11)) fun (y,y1,y2) =>
 bindE (Y:=(List UInt8×List UInt8×List UInt8×Int×List UInt8)×List UInt8×Int) (cndO (decide (y=0))
 (zAA (F273 ([(110:UInt8),117,108,108],(o1,o2,o3,o4,o5),y1,y2)) fun ((y3,y4,y5,y6,y7),y8,x) =>
 some (inl ((y3,y4,y5,y6,y7),y8,x)))
 (bindE (Y:=Int×Bool×(List UInt8×List UInt8×List UInt8×Int×List UInt8)×List UInt8×Int) (cndO (decide (y=1))
 (some (inl (y,true,(o1,o2,o3,o4,o5),y1,y2)))
 (some (inl (y,decide (y=2),(o1,o2,o3,o4,o5),y1,y2)))) fun (v8,v15,(o12,o21,o31,o41,o51),o01,o13) =>
 cndO (v15)
 (zAA (F273 ([(110:UInt8),101,119,32,66],(o12,o21,o31,o41,o51),o01,o13)) fun ((y3,y4,y5,y6,y7),y8,x) =>
 some (inl ((y3,y4,y5,y6,y7),y8,x)))
 (cndO (decide (v8=3))
 (zAA (F273 ([(115:UInt8),116,97,116,105,99,32,65,32,109,107,32,40,41,76,65,59],(o12,o21,o31,o41,o51),o01,o13)) fun ((y3,y4,y5,y6,y7),y8,x) =>
 some (inl ((y3,y4,y5,y6,y7),y8,x)))
 (cndO (decide (v8=4))
 (zAA (F277 ((o12,o21,o31,o41,o51),o01,o13)) fun (y3,(y4,y5,y6,y7,y8),x,x1) =>
 grdO (decide ((8:Nat)+List.length y3≤9223372036854775807)) (zAA (F273 ([(114:UInt8),101,102,108,111,97,100,32]++y3,(y4,y5,y6,y7,y8),x,x1)) fun ((y9,y10,y11,y12,y13),y14,x2) =>
 zAA (F119 ([[(66:UInt8)],[(65:UInt8)],[(67:UInt8)],[(70:UInt8)]],y14,x2)) fun (y15,y16,y17) =>
 grdO (decide ((5:Nat)+List.length y15≤9223372036854775807)) (zAA (F273 ([(99:UInt8),97,115,116,32]++y15,(y9,y10,y11,y12,y13),y16,y17)) fun ((y18,y19,y20,y21,y22),y23,x3) =>
 some (inl ((y18,y19,y20,y21,y22),y23,x3)))))
 (cndO (decide (v8=5))
 (zAA (F277 ((o12,o21,o31,o41,o51),o01,o13)) fun (y3,(y4,y5,y6,y7,y8),x,x1) =>
 grdO (decide ((8:Nat)+List.length y3≤9223372036854775807)) (zAA (F273 ([(114:UInt8),101,102,108,111,97,100,32]++y3,(y4,y5,y6,y7,y8),x,x1)) fun ((y9,y10,y11,y12,y13),y14,x2) =>
 zAA (F273 ([(118:UInt8),105,114,116,117,97,108,32,65,32,110,101,120,116,32,40,41,76,65,59],(y9,y10,y11,y12,y13),y14,x2)) fun ((y15,y16,y17,y18,y19),y20,x3) =>
 some (inl ((y15,y16,y17,y18,y19),y20,x3))))
 (cndO (decide (v8=6))
 (zAA (F119 ([[(67:UInt8)],[(65:UInt8)],[(79:UInt8),98,106],[(70:UInt8)]],o01,o13)) fun (y3,y4,y5) =>
 grdO (decide ((4:Nat)+List.length y3≤9223372036854775807)) (zAA (F273 ([(110:UInt8),101,119,32]++y3,(o12,o21,o31,o41,o51),y4,y5)) fun ((y6,y7,y8,y9,y10),y11,x) =>
 some (inl ((y6,y7,y8,y9,y10),y11,x))))
 (zAA (F273 ([(110:UInt8),101,119,32,65],(o12,o21,o31,o41,o51),o01,o13)) fun ((y3,y4,y5,y6,y7),y8,x) =>
 some (inl ((y3,y4,y5,y6,y7),y8,x))))))))) fun ((o12,o21,o31,o41,o51),o01,o13) =>
 some (((o12,o21,o31,o41,o51),o01,o13))
def tb304:=insT 304 (mkE 304 false [(0,[]),(0,[0])] ti304 to304 F304 [] 54 [100000,100001]) tb303
theorem ok304:TbOk Tryz.prog tb304:=okI ok303 noPl tv304 func304 rfl call304
abbrev ti308:SPat:=⟨[(0,.ptr 100000 0)],[.box 100000 (pl plG),.box 100001 (pl plR)]⟩
abbrev to308:SPat:=⟨[(2,.s)],[.box 100000 (pl plG),.box 100001 (pl plR)]⟩
def tp308:Nat→List Nat×Plan:=fun id=>bif id == 1 then ([0,1,2,3,4,5,6,7,8,9,10,11,12,13,14,15],(.br 16 [15,14,13,12,11,10,9,8,7,6,5,4,3,2,1,0] [] [] .fin .fin)) else ([],.fin)
def F308:(List UInt8×List UInt8×List UInt8×Int×List UInt8)×List UInt8×Int→Option (List UInt8×(List UInt8×List UInt8×List UInt8×Int×List UInt8)×List UInt8×Int):=fun ((o1,o2,o3,o4,o5),o0,o11) =>
 grdO (decide (List.length o5+1≤9223372036854775807)) (grdO (decide (List.length (o5++[(44:UInt8)])+List.length o5≤9223372036854775807)) (grdO (decide (List.length (o5++[(44:UInt8)]++o5)+1≤9223372036854775807)) (grdO (decide (List.length (o5++[(44:UInt8)]++o5++[(44:UInt8)])+List.length o5≤9223372036854775807)) (some ((o5++[(44:UInt8)]++o5++[(44:UInt8)]++o5,(o1,o2,o3,o4,o5),o0,o11))))))
def tb308:=insT 308 (mkE 308 false [(0,[]),(0,[0])] ti308 to308 F308 [.tmp 2] 19 [100000,100001]) tb304
theorem ok308:TbOk Tryz.prog tb308:=okI ok304 tp308 noIv func308 rfl call308
abbrev ti307:SPat:=⟨[(0,.ptr 100000 0),(1,.s),(2,.s)],[.box 100000 (pl plG),.box 100001 (pl plR)]⟩
abbrev to307:SPat:=⟨[],[.box 100000 (pl plG),.box 100001 (pl plR)]⟩
def tp307:Nat→List Nat×Plan:=fun id=>bif id == 0 then ([0,1,2,3,4,5,6,7,8,9,13,16],(.br 10 [9,8,7,6] [0,1,2,3,4,5,13,16] [11,12,14,15,17,18,19,20] (.br 21 [20,19,18,17,16,15,14,13,12,11,10,9,8,7,6,5,4,3,2,1,0] [] [] .fin .fin) .fin)) else ([],.fin)
def F307:List UInt8×List UInt8×(List UInt8×List UInt8×List UInt8×Int×List UInt8)×List UInt8×Int→Option ((List UInt8×List UInt8×List UInt8×Int×List UInt8)×List UInt8×Int):=fun (locals,stack,(o1,o2,o3,o4,o5),o0,o11) =>
 grdO (decide (List.length o3+6≤9223372036854775807)) (zAA (F274 o4) fun y =>
 seqU (seqU (grdO (decide (o3=o3)) (some ())) (seqU (grdO (decide (List.length o3+6≤9223372036854775807)) (grdO (decide (o3++[(102:UInt8),114,97,109,101,32]=o3++[(102:UInt8),114,97,109,101,32])) (some ()))) (seqU (grdO (decide (locals=locals)) (some ())) (seqU (grdO (decide (stack=stack)) (some ())) (some ()))))) (grdO (decide (List.length (o3++[(102:UInt8),114,97,109,101,32])+List.length y≤9223372036854775807)) (grdO (decide (List.length (o3++[(102:UInt8),114,97,109,101,32]++y)+1≤9223372036854775807)) (grdO (decide (List.length (o3++[(102:UInt8),114,97,109,101,32]++y++[(32:UInt8)])+List.length locals≤9223372036854775807)) (grdO (decide (List.length (o3++[(102:UInt8),114,97,109,101,32]++y++[(32:UInt8)]++locals)+1≤9223372036854775807)) (grdO (decide (List.length (o3++[(102:UInt8),114,97,109,101,32]++y++[(32:UInt8)]++locals++[(32:UInt8)])+List.length stack≤9223372036854775807)) (grdO (decide (List.length (o3++[(102:UInt8),114,97,109,101,32]++y++[(32:UInt8)]++locals++[(32:UInt8)]++stack)+1≤9223372036854775807)) (some (((o1,o2,o3++[(102:UInt8),114,97,109,101,32]++y++[(32:UInt8)]++locals++[(32:UInt8)]++stack++[(10:UInt8)],o4,o5),o0,o11))))))))))
def tb307:=insT 307 (mkE 307 false [(0,[]),(0,[0])] ti307 to307 F307 [] 27 [100000,100001]) tb308
theorem ok307:TbOk Tryz.prog tb307:=okI ok308 tp307 noIv func307 rfl call307
abbrev ti305:SPat:=⟨[(0,.ptr 100000 0)],[.box 100000 (pl plG),.box 100001 (pl plR)]⟩
abbrev to305:SPat:=⟨[],[.box 100000 (pl plG),.box 100001 (pl plR)]⟩
abbrev zJu:SPat:=⟨[(0,.ptr 100000 0),(2,.ptr 100001 0),(3,.s)],[.box 100000 (pl plG),.box 100001 (pl plR)]⟩
def tv305:Nat→Option SPat:=fun k=>bif k == 2000000 then some zJu else none
def F305:(List UInt8×List UInt8×List UInt8×Int×List UInt8)×List UInt8×Int→Option ((List UInt8×List UInt8×List UInt8×Int×List UInt8)×List UInt8×Int):=fun ((o1,o2,o3,o4,o5),o0,o11) =>
 zAA (F119 ([[(105:UInt8),102,122,101,114,111],[(105:UInt8),102,110,101,103],[(105:UInt8),102,110,117,108,108],[(105:UInt8),102,115,97,109,101]],o0,o11)) fun (y,y1,y2) =>
 bindE (Y:=List UInt8×(List UInt8×List UInt8×List UInt8×Int×List UInt8)×List UInt8×Int) (cndO (decide (y=[(105:UInt8),102,110,117,108,108]))
 (zAA (F277 ((o1,o2,o3,o4,o5),y1,y2)) fun (y3,(y4,y5,y6,y7,y8),x,x1) =>
 grdO (decide ((8:Nat)+List.length y3≤9223372036854775807)) (zAA (F273 ([(114:UInt8),101,102,108,111,97,100,32]++y3,(y4,y5,y6,y7,y8),x,x1)) fun ((y9,y10,y11,y12,y13),y14,x2) =>
 some (inl (y,(y9,y10,y11,y12,y13),y14,x2))))
 (cndO (decide (y=[(105:UInt8),102,115,97,109,101]))
 (zAA (F277 ((o1,o2,o3,o4,o5),y1,y2)) fun (y3,(y4,y5,y6,y7,y8),x,x1) =>
 grdO (decide ((8:Nat)+List.length y3≤9223372036854775807)) (zAA (F273 ([(114:UInt8),101,102,108,111,97,100,32]++y3,(y4,y5,y6,y7,y8),x,x1)) fun ((y9,y10,y11,y12,y13),y14,x2) =>
 zAA (F277 ((y9,y10,y11,y12,y13),y14,x2)) fun (y15,(y16,y17,y18,y19,y20),x3,x4) =>
 grdO (decide ((8:Nat)+List.length y15≤9223372036854775807)) (zAA (F273 ([(114:UInt8),101,102,108,111,97,100,32]++y15,(y16,y17,y18,y19,y20),x3,x4)) fun ((y21,y22,y23,y24,y25),y26,x5) =>
 some (inl (y,(y21,y22,y23,y24,y25),y26,x5)))))
 (zAA (F303 ((o1,o2,o3,o4,o5),y1,y2)) fun ((y3,y4,y5,y6,y7),y8,x) =>
 some (inl (y,(y3,y4,y5,y6,y7),y8,x))))) fun (test,(o12,o21,o31,o41,o51),o01,o13) =>
 grdO (decide (List.length test+1≤9223372036854775807)) (zAA (F274 (IntKind.wrap .i64 (IntKind.wrap .i64 (o41+3)+4))) fun y3 =>
 grdO (decide (List.length (test++[(32:UInt8)])+List.length y3≤9223372036854775807)) (zAA (F273 (test++[(32:UInt8)]++y3,(o12,o21,o31,o41,o51),o01,o13)) fun ((y4,y5,y6,y7,y8),y9,x) =>
 zAA (F273 ([(112:UInt8),117,115,104,32,53,48],(y4,y5,y6,y7,y8),y9,x)) fun ((y10,y11,y12,y13,y14),y15,x1) =>
 zAA (F273 ([(112:UInt8),114,105,110,116],(y10,y11,y12,y13,y14),y15,x1)) fun ((y16,y17,y18,y19,y20),y21,x2) =>
 zAA (F308 ((y16,y17,y18,y19,y20),y21,x2)) fun (y22,(y23,y24,y25,y26,y27),x3,x4) =>
 zAA (F119 ([[(46:UInt8)],[(46:UInt8)],[(46:UInt8)],[(46:UInt8)],[(46:UInt8)],[(46:UInt8)],[(46:UInt8)],[(73:UInt8)]],x3,x4)) fun (y28,y29,y30) =>
 zAA (F307 (y22,y28,(y23,y24,y25,y26,y27),y29,y30)) fun ((y31,y32,y33,y34,y35),y36,x5) =>
 some (((y31,y32,y33,y34,y35),y36,x5))))
def tb305:=insT 305 (mkE 305 false [(0,[]),(0,[0])] ti305 to305 F305 [] 58 [100000,100001]) tb307
theorem ok305:TbOk Tryz.prog tb305:=okI ok307 noPl tv305 func305 rfl call305
abbrev ti306:SPat:=⟨[(0,.ptr 100000 0)],[.box 100000 (pl plG),.box 100001 (pl plR)]⟩
abbrev to306:SPat:=⟨[],[.box 100000 (pl plG),.box 100001 (pl plR)]⟩
abbrev zJt:SPat:=⟨[],[.box 100000 (pl plG),.box 100001 (pl plR)]⟩
def tv306:Nat→Option SPat:=fun k=>bif k == 2000000 then some zJt else none
def F306:(List UInt8×List UInt8×List UInt8×Int×List UInt8)×List UInt8×Int→Option ((List UInt8×List UInt8×List UInt8×Int×List UInt8)×List UInt8×Int):=fun ((o1,o2,o3,o4,o5),o0,o11) =>
 zAA (F51 ((5:Int),o0,o11)) fun (y,y1,y2) =>
 bindE (Y:=(List UInt8×List UInt8×List UInt8×Int×List UInt8)×List UInt8×Int) (cndO (decide (y=0))
 (zAA (F277 ((o1,o2,o3,o4,o5),y1,y2)) fun (y3,(y4,y5,y6,y7,y8),x,x1) =>
 grdO (decide ((8:Nat)+List.length y3≤9223372036854775807)) (zAA (F273 ([(114:UInt8),101,102,108,111,97,100,32]++y3,(y4,y5,y6,y7,y8),x,x1)) fun ((y9,y10,y11,y12,y13),y14,x2) =>
 zAA (F273 ([(115:UInt8),116,97,116,105,99,32,85,32,101,97,116,32,40,76,65,59,41,73],(y9,y10,y11,y12,y13),y14,x2)) fun ((y15,y16,y17,y18,y19),y20,x3) =>
 zAA (F273 ([(112:UInt8),114,105,110,116],(y15,y16,y17,y18,y19),y20,x3)) fun ((y21,y22,y23,y24,y25),y26,x4) =>
 some (inl ((y21,y22,y23,y24,y25),y26,x4))))
 (cndO (decide (y=1))
 (zAA (F273 ([(115:UInt8),116,97,116,105,99,32,85,32,109,97,107,101,32,40,41,76,65,59],(o1,o2,o3,o4,o5),y1,y2)) fun ((y3,y4,y5,y6,y7),y8,x) =>
 zAA (F277 ((y3,y4,y5,y6,y7),y8,x)) fun (y9,(y10,y11,y12,y13,y14),x1,x2) =>
 grdO (decide ((9:Nat)+List.length y9≤9223372036854775807)) (zAA (F273 ([(114:UInt8),101,102,115,116,111,114,101,32]++y9,(y10,y11,y12,y13,y14),x1,x2)) fun ((y15,y16,y17,y18,y19),y20,x3) =>
 some (inl ((y15,y16,y17,y18,y19),y20,x3))))
 (cndO (decide (y=2))
 (zAA (F273 ([(103:UInt8),101,116,97,108,108,32,85,32,97,32,76,65,59],(o1,o2,o3,o4,o5),y1,y2)) fun ((y3,y4,y5,y6,y7),y8,x) =>
 zAA (F277 ((y3,y4,y5,y6,y7),y8,x)) fun (y9,(y10,y11,y12,y13,y14),x1,x2) =>
 grdO (decide ((9:Nat)+List.length y9≤9223372036854775807)) (zAA (F273 ([(114:UInt8),101,102,115,116,111,114,101,32]++y9,(y10,y11,y12,y13,y14),x1,x2)) fun ((y15,y16,y17,y18,y19),y20,x3) =>
 some (inl ((y15,y16,y17,y18,y19),y20,x3))))
 (cndO (decide (y=3))
 (zAA (F277 ((o1,o2,o3,o4,o5),y1,y2)) fun (y3,(y4,y5,y6,y7,y8),x,x1) =>
 grdO (decide ((8:Nat)+List.length y3≤9223372036854775807)) (zAA (F273 ([(114:UInt8),101,102,108,111,97,100,32]++y3,(y4,y5,y6,y7,y8),x,x1)) fun ((y9,y10,y11,y12,y13),y14,x2) =>
 zAA (F273 ([(112:UInt8),117,116,97,108,108,32,85,32,97,32,76,65,59],(y9,y10,y11,y12,y13),y14,x2)) fun ((y15,y16,y17,y18,y19),y20,x3) =>
 some (inl ((y15,y16,y17,y18,y19),y20,x3))))
 (zAA (F273 ([(110:UInt8),101,119,32,67],(o1,o2,o3,o4,o5),y1,y2)) fun ((y3,y4,y5,y6,y7),y8,x) =>
 zAA (F277 ((y3,y4,y5,y6,y7),y8,x)) fun (y9,(y10,y11,y12,y13,y14),x1,x2) =>
 grdO (decide ((8:Nat)+List.length y9≤9223372036854775807)) (zAA (F273 ([(114:UInt8),101,102,108,111,97,100,32]++y9,(y10,y11,y12,y13,y14),x1,x2)) fun ((y15,y16,y17,y18,y19),y20,x3) =>
 zAA (F273 ([(102:UInt8),97,99,101,32,70,32,116,97,107,101,32,40,76,65,59,41,73],(y15,y16,y17,y18,y19),y20,x3)) fun ((y21,y22,y23,y24,y25),y26,x4) =>
 zAA (F273 ([(112:UInt8),114,105,110,116],(y21,y22,y23,y24,y25),y26,x4)) fun ((y27,y28,y29,y30,y31),y32,x5) =>
 some (inl ((y27,y28,y29,y30,y31),y32,x5)))))))) fun ((o12,o21,o31,o41,o51),o01,o13) =>
 some (((o12,o21,o31,o41,o51),o01,o13))
def tb306:=insT 306 (mkE 306 false [(0,[]),(0,[0])] ti306 to306 F306 [] 58 [100000,100001]) tb305
theorem ok306:TbOk Tryz.prog tb306:=okI ok305 noPl tv306 func306 rfl call306
abbrev ti275:SPat:=⟨[(0,.ptr 100000 0)],[.box 100000 (pl plG),.box 100001 (pl plR)]⟩
abbrev to275:SPat:=⟨[],[.box 100000 (pl plG),.box 100001 (pl plR)]⟩
abbrev zKd:SPat:=⟨[(0,.ptr 100000 0),(2,.ptr 100001 0),(8,.i .i64),(11,.b)],[.box 100000 (pl plG),.box 100001 (pl plR)]⟩
abbrev zKc:SPat:=⟨[(0,.ptr 100000 0),(2,.ptr 100001 0),(8,.i .i64),(18,.b)],[.box 100000 (pl plG),.box 100001 (pl plR)]⟩
abbrev zKb:SPat:=⟨[],[.box 100000 (pl plG),.box 100001 (pl plR)]⟩
def tv275:Nat→Option SPat:=fun k=>bif k == 1000005 then some zKd else bif k == 1000010 then some zKc else bif k == 2000000 then some zKb else none
def F275:(List UInt8×List UInt8×List UInt8×Int×List UInt8)×List UInt8×Int→Option ((List UInt8×List UInt8×List UInt8×Int×List UInt8)×List UInt8×Int):=fun ((o1,o2,o3,o4,o5),o0,o11) =>
 zAA (F51 ((14:Int),o0,o11)) fun (y,y1,y2) =>
 bindE (Y:=(List UInt8×List UInt8×List UInt8×Int×List UInt8)×List UInt8×Int) (bindE (Y:=Int×Bool×(List UInt8×List UInt8×List UInt8×Int×List UInt8)×List UInt8×Int) (cndO (decide (y=0))
 (some (inl (y,true,(o1,o2,o3,o4,o5),y1,y2)))
 (some (inl (y,decide (y=1),(o1,o2,o3,o4,o5),y1,y2)))) fun (v8,v11,(o12,o21,o31,o41,o51),o01,o13) =>
 cndO (v11)
 (zAA (F303 ((o12,o21,o31,o41,o51),o01,o13)) fun ((y3,y4,y5,y6,y7),y8,x) =>
 zAA (F273 ([(112:UInt8),114,105,110,116],(y3,y4,y5,y6,y7),y8,x)) fun ((y9,y10,y11,y12,y13),y14,x1) =>
 some (inl ((y9,y10,y11,y12,y13),y14,x1)))
 (bindE (Y:=Int×Bool×(List UInt8×List UInt8×List UInt8×Int×List UInt8)×List UInt8×Int) (cndO (decide (v8=2))
 (some (inl (v8,true,(o12,o21,o31,o41,o51),o01,o13)))
 (cndO (decide (v8=3))
 (some (inl (v8,true,(o12,o21,o31,o41,o51),o01,o13)))
 (some (inl (v8,decide (v8=4),(o12,o21,o31,o41,o51),o01,o13))))) fun (v81,v18,(o14,o22,o32,o42,o52),o02,o15) =>
 cndO (v18)
 (zAA (F304 ((o14,o22,o32,o42,o52),o02,o15)) fun ((y3,y4,y5,y6,y7),y8,x) =>
 zAA (F277 ((y3,y4,y5,y6,y7),y8,x)) fun (y9,(y10,y11,y12,y13,y14),x1,x2) =>
 grdO (decide ((9:Nat)+List.length y9≤9223372036854775807)) (zAA (F273 ([(114:UInt8),101,102,115,116,111,114,101,32]++y9,(y10,y11,y12,y13,y14),x1,x2)) fun ((y15,y16,y17,y18,y19),y20,x3) =>
 some (inl ((y15,y16,y17,y18,y19),y20,x3))))
 (cndO (decide (v81=5))
 (zAA (F277 ((o14,o22,o32,o42,o52),o02,o15)) fun (y3,(y4,y5,y6,y7,y8),x,x1) =>
 grdO (decide ((8:Nat)+List.length y3≤9223372036854775807)) (zAA (F273 ([(114:UInt8),101,102,108,111,97,100,32]++y3,(y4,y5,y6,y7,y8),x,x1)) fun ((y9,y10,y11,y12,y13),y14,x2) =>
 zAA (F303 ((y9,y10,y11,y12,y13),y14,x2)) fun ((y15,y16,y17,y18,y19),y20,x3) =>
 zAA (F273 ([(112:UInt8),117,116,32,65,32,120,32,73],(y15,y16,y17,y18,y19),y20,x3)) fun ((y21,y22,y23,y24,y25),y26,x4) =>
 some (inl ((y21,y22,y23,y24,y25),y26,x4))))
 (cndO (decide (v81=6))
 (zAA (F305 ((o14,o22,o32,o42,o52),o02,o15)) fun ((y3,y4,y5,y6,y7),y8,x) =>
 some (inl ((y3,y4,y5,y6,y7),y8,x)))
 (cndO (decide (v81=7))
 (zAA (F303 ((o14,o22,o32,o42,o52),o02,o15)) fun ((y3,y4,y5,y6,y7),y8,x) =>
 zAA (F273 ([(112:UInt8),117,116,97,108,108,32,65,32,115,32,73],(y3,y4,y5,y6,y7),y8,x)) fun ((y9,y10,y11,y12,y13),y14,x1) =>
 some (inl ((y9,y10,y11,y12,y13),y14,x1)))
 (cndO (decide (v81=8))
 (zAA (F119 ([[(67:UInt8)],[(67:UInt8)],[(67:UInt8)],[(65:UInt8)]],o02,o15)) fun (y3,y4,y5) =>
 grdO (decide ((4:Nat)+List.length y3≤9223372036854775807)) (zAA (F273 ([(110:UInt8),101,119,32]++y3,(o14,o22,o32,o42,o52),y4,y5)) fun ((y6,y7,y8,y9,y10),y11,x) =>
 zAA (F273 ([(102:UInt8),97,99,101,32,70,32,103,101,116,32,40,41,73],(y6,y7,y8,y9,y10),y11,x)) fun ((y12,y13,y14,y15,y16),y17,x1) =>
 zAA (F273 ([(112:UInt8),114,105,110,116],(y12,y13,y14,y15,y16),y17,x1)) fun ((y18,y19,y20,y21,y22),y23,x2) =>
 some (inl ((y18,y19,y20,y21,y22),y23,x2))))
 (cndO (decide (v81=9))
 (zAA (F277 ((o14,o22,o32,o42,o52),o02,o15)) fun (y3,(y4,y5,y6,y7,y8),x,x1) =>
 grdO (decide ((8:Nat)+List.length y3≤9223372036854775807)) (zAA (F273 ([(114:UInt8),101,102,108,111,97,100,32]++y3,(y4,y5,y6,y7,y8),x,x1)) fun ((y9,y10,y11,y12,y13),y14,x2) =>
 zAA (F119 ([[(66:UInt8)],[(65:UInt8)],[(70:UInt8)],[(67:UInt8)]],y14,x2)) fun (y15,y16,y17) =>
 grdO (decide ((3:Nat)+List.length y15≤9223372036854775807)) (zAA (F273 ([(105:UInt8),115,32]++y15,(y9,y10,y11,y12,y13),y16,y17)) fun ((y18,y19,y20,y21,y22),y23,x3) =>
 zAA (F273 ([(112:UInt8),114,105,110,116],(y18,y19,y20,y21,y22),y23,x3)) fun ((y24,y25,y26,y27,y28),y29,x4) =>
 some (inl ((y24,y25,y26,y27,y28),y29,x4)))))
 (cndO (decide (v81=10))
 (zAA (F277 ((o14,o22,o32,o42,o52),o02,o15)) fun (y3,(y4,y5,y6,y7,y8),x,x1) =>
 grdO (decide ((8:Nat)+List.length y3≤9223372036854775807)) (zAA (F273 ([(114:UInt8),101,102,108,111,97,100,32]++y3,(y4,y5,y6,y7,y8),x,x1)) fun ((y9,y10,y11,y12,y13),y14,x2) =>
 zAA (F304 ((y9,y10,y11,y12,y13),y14,x2)) fun ((y15,y16,y17,y18,y19),y20,x3) =>
 zAA (F273 ([(112:UInt8),117,116,32,65,32,110,32,76,65,59],(y15,y16,y17,y18,y19),y20,x3)) fun ((y21,y22,y23,y24,y25),y26,x4) =>
 some (inl ((y21,y22,y23,y24,y25),y26,x4))))
 (cndO (decide (v81=11))
 (zAA (F119 ([[(110:UInt8),111,112],[(110:UInt8),111,112],[(110:UInt8),117,108,108],[(97:UInt8),100,100],[(118:UInt8),105,114,116,117,97,108,32,65,32,104,105,100,32,40,41,86],[(115:UInt8),112,101,99,105,97,108,32,65,32,103,101,116,32,40,41,73],[(103:UInt8),101,116,97,108,108,32,65,32,120,32,73],[(108:UInt8),111,97,100,32,48],[(112:UInt8),117,115,104,32,49]],o02,o15)) fun (y3,y4,y5) =>
 zAA (F273 (y3,(o14,o22,o32,o42,o52),y4,y5)) fun ((y6,y7,y8,y9,y10),y11,x) =>
 zAA (F119 ([[(110:UInt8),111,112],[(112:UInt8),111,112],[(112:UInt8),111,112],[(100:UInt8),117,112],[(115:UInt8),119,97,112]],y11,x)) fun (y12,y13,y14) =>
 zAA (F273 (y12,(y6,y7,y8,y9,y10),y13,y14)) fun ((y15,y16,y17,y18,y19),y20,x1) =>
 some (inl ((y15,y16,y17,y18,y19),y20,x1)))
 (zAA (F306 ((o14,o22,o32,o42,o52),o02,o15)) fun ((y3,y4,y5,y6,y7),y8,x) =>
 some (inl ((y3,y4,y5,y6,y7),y8,x)))))))))))) fun ((o12,o21,o31,o41,o51),o01,o13) =>
 some (((o12,o21,o31,o41,o51),o01,o13))
def tb275:=insT 275 (mkE 275 false [(0,[]),(0,[0])] ti275 to275 F275 [] 100 [100000,100001]) tb306
theorem ok275:TbOk Tryz.prog tb275:=okI ok306 noPl tv275 func275 rfl call275
abbrev ti276:SPat:=⟨[(0,.ptr 100000 0),(1,.i .i64)],[.box 100000 (pl plG),.box 100001 (pl plR)]⟩
abbrev to276:SPat:=⟨[],[.box 100000 (pl plG),.box 100001 (pl plR)]⟩
abbrev zKa:SPat:=⟨[(0,.ptr 100000 0),(1,.i .i64),(4,.s),(5,.s)],[.box 100000 (pl plG),.box 100001 (pl plR)]⟩
def tv276:Nat→Option SPat:=fun k=>bif k == 1000004 then some zKa else none
def tp276:Nat→List Nat×Plan:=fun id=>bif id == 6 then ([0,1,5,9,10,11,12,16],(.br 2 [1] [0,5,9,10,11,12,16] [3,4] (.br 6 [5,2,1] [0,9,10,11,12,16,3,4] [7,8] (.br 13 [12,11,10,9,6,5,2,1] [0,16,3,4,7,8] [14,15,17,18,19,20] (.br 21 [20,19,18,17,16,15,14,13,12,11,10,9,8,7,6,5,4,3,2,1,0] [] [] .fin .fin) .fin) .fin) .fin)) else ([],.fin)
def F276:Int×(List UInt8×List UInt8×List UInt8×Int×List UInt8)×List UInt8×Int→Option ((List UInt8×List UInt8×List UInt8×Int×List UInt8)×List UInt8×Int):=fun (v1,(o1,o2,o3,o4,o5),o0,o11) =>
 zAA (F119 ([[(45:UInt8)],[(69:UInt8),114,114],[(69:UInt8),114,114],[(65:UInt8)],[(66:UInt8)]],o0,o11)) fun (y,y1,y2) =>
 grdO (decide ((1:Nat)+List.length y≤9223372036854775807)) (grdO (decide (List.length ([(76:UInt8)]++y)+1≤9223372036854775807)) (bindE (Y:=Int×List UInt8×List UInt8×(List UInt8×List UInt8×List UInt8×Int×List UInt8)×List UInt8×Int) (cndO (decide (y=[(45:UInt8)]))
 (some (inl (v1,y,[(76:UInt8),79,98,106,59],(o1,o2,o3,o4,o5),y1,y2)))
 (some (inl (v1,y,[(76:UInt8)]++y++[(59:UInt8)],(o1,o2,o3,o4,o5),y1,y2)))) fun (v11,v4,v5,(o12,o21,o31,o41,o51),o01,o13) =>
 zAA (F274 (IntKind.wrap .i64 (IntKind.wrap .i64 (o41+3)+5))) fun y3 =>
 grdO (decide ((3:Nat)+List.length y3≤9223372036854775807)) (zAA (F273 ([(103:UInt8),111,32]++y3,(o12,o21,o31,o41,o51),o01,o13)) fun ((y4,y5,y6,y7,y8),y9,x) =>
 zAA (F274 v11) fun y10 =>
 seqU (seqU (grdO (decide (o41=o41)) (some ())) (seqU (grdO (decide (y7=y7)) (some ())) (seqU (grdO (decide (v4=v4)) (some ())) (some ())))) (grdO (decide ((5:Nat)+List.length y10≤9223372036854775807)) (grdO (decide (List.length ([(116:UInt8),114,97,112,32]++y10)+1≤9223372036854775807)) (zAA (F274 o41) fun y11 =>
 seqU (seqU (grdO (decide (y7=y7)) (some ())) (seqU (grdO (decide (v4=v4)) (some ())) (seqU (grdO (decide ((5:Nat)+List.length y10≤9223372036854775807)) (grdO (decide ([(116:UInt8),114,97,112,32]++y10=[(116:UInt8),114,97,112,32]++y10)) (some ()))) (seqU (grdO (decide (List.length ([(116:UInt8),114,97,112,32]++y10)+1≤9223372036854775807)) (grdO (decide ([(116:UInt8),114,97,112,32]++y10++[(32:UInt8)]=[(116:UInt8),114,97,112,32]++y10++[(32:UInt8)])) (some ()))) (some ()))))) (grdO (decide (List.length ([(116:UInt8),114,97,112,32]++y10++[(32:UInt8)])+List.length y11≤9223372036854775807)) (grdO (decide (List.length ([(116:UInt8),114,97,112,32]++y10++[(32:UInt8)]++y11)+1≤9223372036854775807)) (zAA (F274 y7) fun y12 =>
 seqU (seqU (grdO (decide (v4=v4)) (some ())) (seqU (grdO (decide ((5:Nat)+List.length y10≤9223372036854775807)) (grdO (decide ([(116:UInt8),114,97,112,32]++y10=[(116:UInt8),114,97,112,32]++y10)) (some ()))) (seqU (grdO (decide (List.length ([(116:UInt8),114,97,112,32]++y10)+1≤9223372036854775807)) (grdO (decide ([(116:UInt8),114,97,112,32]++y10++[(32:UInt8)]=[(116:UInt8),114,97,112,32]++y10++[(32:UInt8)])) (some ()))) (seqU (grdO (decide (List.length ([(116:UInt8),114,97,112,32]++y10++[(32:UInt8)])+List.length y11≤9223372036854775807)) (grdO (decide ([(116:UInt8),114,97,112,32]++y10++[(32:UInt8)]++y11=[(116:UInt8),114,97,112,32]++y10++[(32:UInt8)]++y11)) (some ()))) (seqU (grdO (decide (List.length ([(116:UInt8),114,97,112,32]++y10++[(32:UInt8)]++y11)+1≤9223372036854775807)) (grdO (decide ([(116:UInt8),114,97,112,32]++y10++[(32:UInt8)]++y11++[(32:UInt8)]=[(116:UInt8),114,97,112,32]++y10++[(32:UInt8)]++y11++[(32:UInt8)])) (some ()))) (some ())))))) (grdO (decide (List.length ([(116:UInt8),114,97,112,32]++y10++[(32:UInt8)]++y11++[(32:UInt8)])+List.length y12≤9223372036854775807)) (grdO (decide (List.length ([(116:UInt8),114,97,112,32]++y10++[(32:UInt8)]++y11++[(32:UInt8)]++y12)+1≤9223372036854775807)) (grdO (decide (List.length ([(116:UInt8),114,97,112,32]++y10++[(32:UInt8)]++y11++[(32:UInt8)]++y12++[(32:UInt8)])+List.length v4≤9223372036854775807)) (grdO (decide (List.length ([(116:UInt8),114,97,112,32]++y10++[(32:UInt8)]++y11++[(32:UInt8)]++y12++[(32:UInt8)]++v4)+1≤9223372036854775807)) (zAA (F308 ((y4,[(116:UInt8),114,97,112,32]++y10++[(32:UInt8)]++y11++[(32:UInt8)]++y12++[(32:UInt8)]++v4++[(10:UInt8)],y6,y7,y8),y9,x)) fun (y13,(y14,y15,y16,y17,y18),x1,x2) =>
 zAA (F307 (y13,v5,(y14,y15,y16,y17,y18),x1,x2)) fun ((y19,y20,y21,y22,y23),y24,x3) =>
 zAA (F273 ([(112:UInt8),111,112],(y19,y20,y21,y22,y23),y24,x3)) fun ((y25,y26,y27,y28,y29),y30,x4) =>
 zAA (F273 ([(112:UInt8),117,115,104,32,55,55],(y25,y26,y27,y28,y29),y30,x4)) fun ((y31,y32,y33,y34,y35),y36,x5) =>
 zAA (F273 ([(112:UInt8),114,105,110,116],(y31,y32,y33,y34,y35),y36,x5)) fun ((y37,y38,y39,y40,y41),y42,x6) =>
 zAA (F308 ((y37,y38,y39,y40,y41),y42,x6)) fun (y43,(y44,y45,y46,y47,y48),x7,x8) =>
 zAA (F307 (y43,[(46:UInt8)],(y44,y45,y46,y47,y48),x7,x8)) fun ((y49,y50,y51,y52,y53),y54,x9) =>
 some (((y49,y50,y51,y52,y53),y54,x9))))))))))))))))
def tb276:=insT 276 (mkE 276 false [(0,[]),(0,[0])] ti276 to276 F276 [] 68 [100000,100001]) tb275
theorem ok276:TbOk Tryz.prog tb276:=okI ok275 tp276 tv276 func276 rfl call276
abbrev ti217:SPat:=⟨[(0,.ptr 100000 0),(1,.s)],[.box 100000 (pl plR)]⟩
abbrev to217:SPat:=⟨[(4,.s)],[.box 100000 (pl plR)]⟩
abbrev ts217_3:SPat:=⟨[(0,.ptr 100000 0),(1,.s),(5,.ptr 11 0),(6,.i .i64)],[.box 11 (pl [.ptr 100000 0,.s,.s,.s,.i .i64,.s]),.box 100000 (pl plR)]⟩
abbrev ts217_9:SPat:=⟨[(0,.ptr 100000 0),(1,.s),(5,.ptr 11 0),(7,.i .i64),(8,.i .i64)],[.box 11 (pl [.ptr 100000 0,.s,.s,.s,.i .i64,.s]),.box 100000 (pl plR)]⟩
abbrev zLB:SPat:=⟨[(0,.ptr 100000 0),(1,.s),(5,.ptr 11 0)],[.box 11 (pl [.ptr 100000 0,.s,.s,.s,.i .i64,.s]),.box 100000 (pl plR)]⟩
abbrev zLA:SPat:=⟨[(1,.s),(5,.ptr 11 0)],[.box 11 (pl [.ptr 100000 0,.s,.s,.s,.i .i64,.s]),.box 100000 (pl plR)]⟩
abbrev zKz:SPat:=⟨[(0,.ptr 100000 0),(1,.s),(5,.ptr 11 0)],[.box 11 (pl [.ptr 100000 0,.s,.s,.s,.i .i64,.s]),.box 100000 (pl plR)]⟩
abbrev zKy:SPat:=⟨[(0,.ptr 100000 0),(1,.s),(5,.ptr 11 0),(7,.i .i64)],[.box 11 (pl [.ptr 100000 0,.s,.s,.s,.i .i64,.s]),.box 100000 (pl plR)]⟩
def tv217:Nat→Option SPat:=fun k=>bif k == 3 then some ts217_3 else bif k == 9 then some ts217_9 else bif k == 1000014 then some zLB else bif k == 1000018 then some zLA else bif k == 2000000 then some zKz else bif k == 2000002 then some zKy else none
def tp217:Nat→List Nat×Plan:=fun id=>bif id == 18 then ([0,1,2,3,4,5,6,7,8,9,10,11,12,13,14,15,16,17],(.br 18 [17,16,15,14,13,12,11,10,9,8,7,6,5,4,3,2,1,0] [] [] .fin .fin)) else ([],.fin)
def F217:List UInt8×List UInt8×Int→Option (List UInt8×List UInt8×Int):=fun (v1,o0,o1) =>
 bindE (Y:=List UInt8×(List UInt8×List UInt8×List UInt8×Int×List UInt8)×List UInt8×Int) (zAF (fun (v11,v6,(o11,o2,o3,o4,o5),o01,o12) =>
 cndO (decide (v6<3))
 (zAA (F119 ([[(110:UInt8),117,108,108],[(110:UInt8),117,108,108],[(110:UInt8),101,119,32,65]],o01,o12)) fun (y,y1,y2) =>
 zAA (F273 (y,(o11,o2,o3,o4,o5),y1,y2)) fun ((y3,y4,y5,y6,y7),y8,x) =>
 zAA (F274 v6) fun y9 =>
 grdO (decide ((9:Nat)+List.length y9≤9223372036854775807)) (zAA (F273 ([(114:UInt8),101,102,115,116,111,114,101,32]++y9,(y3,y4,y5,y6,y7),y8,x)) fun ((y10,y11,y12,y13,y14),y15,x1) =>
 some (inl (v11,IntKind.wrap .i64 (v6+1),(y10,y11,y12,y13,y14),y15,x1))))
 (some (inr (inl (v11,(o11,o2,o3,o4,o5),o01,o12))))) ((v1,(0:Int),([],[],[],(0:Int),[(76:UInt8),65,59]),o0,o1))) fun (v11,(o11,o2,o3,o4,o5),o01,o12) =>
 zAA (F51 ((6:Int),o01,o12)) fun (y,y1,y2) =>
 bindE (Y:=List UInt8×Int×(List UInt8×List UInt8×List UInt8×Int×List UInt8)×List UInt8×Int) (zAF (fun (v12,v7,v8,(o13,o21,o31,o41,o51),o02,o14) =>
 cndO (decide (0<v8))
 (cndO (decide (o41<80))
 (zAA (F275 ((o13,o21,o31,o41,o51),o02,o14)) fun ((y3,y4,y5,y6,y7),y8,x) =>
 some (inl (v12,v7,IntKind.wrap .i64 (v8 - 1),(y3,y4,y5,y6,y7),y8,x)))
 (some (inr (inl (v12,v7,(o13,o21,o31,o41,o51),o02,o14)))))
 (some (inr (inl (v12,v7,(o13,o21,o31,o41,o51),o02,o14))))) ((v11,o4,IntKind.wrap .i64 ((1:Int)+y),(o11,o2,o3,o4,o5),y1,y2))) fun (v12,v7,(o13,o21,o31,o41,o51),o02,o14) =>
 bindE (Y:=List UInt8×(List UInt8×List UInt8×List UInt8×Int×List UInt8)×List UInt8×Int) (zAA (F51 ((3:Int),o02,o14)) fun (y3,y4,y5) =>
 cndO (decide (y3=0))
 (zAA (F276 (v7,(o13,o21,o31,o41,o51),y4,y5)) fun ((y6,y7,y8,y9,y10),y11,x) =>
 some (inl (v12,(y6,y7,y8,y9,y10),y11,x)))
 (some (inl (v12,(o13,o21,o31,o41,o51),y4,y5)))) fun (v13,(o15,o22,o32,o42,o52),o03,o16) =>
 bindE (Y:=List UInt8×(List UInt8×List UInt8×List UInt8×Int×List UInt8)×List UInt8×Int) (zAA (F51 ((8:Int),o03,o16)) fun (y3,y4,y5) =>
 cndO (decide (y3=0))
 (zAA (F277 ((o15,o22,o32,o42,o52),y4,y5)) fun (y6,(y7,y8,y9,y10,y11),x,x1) =>
 grdO (decide ((8:Nat)+List.length y6≤9223372036854775807)) (zAA (F273 ([(114:UInt8),101,102,108,111,97,100,32]++y6,(y7,y8,y9,y10,y11),x,x1)) fun ((y12,y13,y14,y15,y16),y17,x2) =>
 zAA (F273 ([(116:UInt8),104,114,111,119],(y12,y13,y14,y15,y16),y17,x2)) fun ((y18,y19,y20,y21,y22),y23,x3) =>
 some (inl (v13,(y18,y19,y20,y21,y22),y23,x3))))
 (zAA (F273 ([(103:UInt8),105,118,101],(o15,o22,o32,o42,o52),y4,y5)) fun ((y6,y7,y8,y9,y10),y11,x) =>
 some (inl (v13,(y6,y7,y8,y9,y10),y11,x)))) fun (v14,(o17,o23,o33,o43,o53),o04,o18) =>
 grdO (decide ((7:Nat)+List.length v14≤9223372036854775807)) (grdO (decide (List.length ([(109:UInt8),101,116,104,111,100,32]++v14)+11≤9223372036854775807)) (grdO (decide (List.length ([(109:UInt8),101,116,104,111,100,32]++v14++[(32:UInt8),40,41,86,32,49,32,51,32,51,10])+List.length o17≤9223372036854775807)) (grdO (decide (List.length ([(109:UInt8),101,116,104,111,100,32]++v14++[(32:UInt8),40,41,86,32,49,32,51,32,51,10]++o17)+List.length o23≤9223372036854775807)) (grdO (decide (List.length ([(109:UInt8),101,116,104,111,100,32]++v14++[(32:UInt8),40,41,86,32,49,32,51,32,51,10]++o17++o23)+List.length o33≤9223372036854775807)) (some (([(109:UInt8),101,116,104,111,100,32]++v14++[(32:UInt8),40,41,86,32,49,32,51,32,51,10]++o17++o23++o33,o04,o18)))))))
def tb217:=insT 217 (mkE 217 false [(0,[])] ti217 to217 F217 [.tmp 4] 82 [100000]) tb276
theorem ok217:TbOk Tryz.prog tb217:=okI ok276 tp217 tv217 func217 rfl call217
abbrev ti291:SPat:=⟨[(0,.i .i64)],[]⟩
abbrev to291:SPat:=⟨[(2,.i .i64)],[]⟩
abbrev zKD:SPat:=⟨[(3,.i .i64),(4,.b)],[]⟩
abbrev zKC:SPat:=⟨[(3,.i .i64),(8,.b)],[]⟩
abbrev zKB:SPat:=⟨[(3,.i .i64),(13,.b)],[]⟩
def tv291:Nat→Option SPat:=fun k=>bif k == 1000005 then some zKD else bif k == 1000010 then some zKC else bif k == 1000014 then some zKB else none
def F291:Int→Option (Int):=fun op_ =>
 bindE (cndO (decide (op_=19))
 (some (inl (op_,true)))
 (cndO (decide (op_=28))
 (some (inl (op_,true)))
 (some (inl (op_,decide (op_=29)))))) fun (v3,v4) =>
 cndO (v4)
 (some ((2:Int)))
 (bindE (cndO (decide (v3=20))
 (some (inl (v3,true)))
 (cndO (decide (v3=21))
 (some (inl (v3,true)))
 (cndO (decide (v3=22))
 (some (inl (v3,true)))
 (some (inl (v3,decide (v3=23))))))) fun (v31,v8) =>
 cndO (v8)
 (some ((4:Int)))
 (bindE (cndO (decide (v31=24))
 (some (inl (v31,true)))
 (cndO (decide (v31=25))
 (some (inl (v31,true)))
 (some (inl (v31,decide (v31=26)))))) fun (v32,v13) =>
 cndO (v13)
 (some ((5:Int)))
 (cndO (decide (v32=27))
 (some ((6:Int)))
 (some ((0:Int))))))
def tb291:=insT 291 (mkE 291 true [] ti291 to291 F291 [.tmp 2] 19 []) tb217
theorem ok291:TbOk Tryz.prog tb291:=okI ok217 noPl tv291 func291 rfl call291
abbrev ti326:SPat:=⟨[(0,.ptr 100000 0),(1,.agg (pl [.i .i64,.s,.i .i64,.i .i64]))],[.box 100000 (pl plB)]⟩
abbrev to326:SPat:=⟨[(4,.i .i64)],[.box 100000 (pl plB)]⟩
abbrev ts326_2:SPat:=⟨[(0,.ptr 100000 0),(3,.ptr 3 0),(5,.i .i64)],[.box 3 (pl [.i .i64,.s,.i .i64,.i .i64]),.box 100000 (pl plB)]⟩
abbrev zJc:SPat:=⟨[(0,.ptr 100000 0),(3,.ptr 3 0)],[.box 3 (pl [.i .i64,.s,.i .i64,.i .i64]),.box 100000 (pl plB)]⟩
def tv326:Nat→Option SPat:=fun k=>bif k == 2 then some ts326_2 else bif k == 2000000 then some zJc else none
def tp326:Nat→List Nat×Plan:=fun id=>bif id == 4 then ([0,1,2,3,4,5,6,7,8,9],.fin) else bif id == 6 then ([0,1,2,3,4,5,6],(.br 7 [6] [0,1,2,3,4,5] [] (.br 8 [7,6,5,4,3,2,1] [0] [9,10,11] (.br 12 [11,10,9,8,7,6,5,4,3,2,1,0] [] [] .fin .fin) .fin) .fin)) else ([],.fin)
def F326:(Cst)×List Cst×Int×Int×Int×List Int×List (Int×Int×Int)×List Mth×Bool→Option (Int×List Cst×Int×Int×Int×List Int×List (Int×Int×Int)×List Mth×Bool):=fun ((c0,c1,c2,c3),o0,o1,o2,o3,o4,o5,o6,o7) =>
 bindE (Y:=(Cst)×List Cst×Int×Int×Int×List Int×List (Int×Int×Int)×List Mth×Bool) (zAF (fun (i,(o01,o11,o21,o31),o02,o12,o22,o32,o41,o51,o61,o71) =>
 cndO (decide (i<(o02.length:Int)))
 (grdO (decide (0≤i) && decide (i<(o02.length:Int))) (atO (o02) i.toNat fun x=>cndO (decide (x.1=o01) && (decide (x.2.1=o11) && (decide (x.2.2.1=o21) && (decide (x.2.2.2=o31) && true))))
 (some (inr (inr (IntKind.wrap .i64 (i+1),o02,o12,o22,o32,o41,o51,o61,o71))))
 (some (inl (IntKind.wrap .i64 (i+1),(o01,o11,o21,o31),o02,o12,o22,o32,o41,o51,o61,o71)))))
 (some (inr (inl ((o01,o11,o21,o31),o02,o12,o22,o32,o41,o51,o61,o71))))) (((0:Int),(c0,c1,c2,c3),o0,o1,o2,o3,o4,o5,o6,o7))) fun ((o01,o11,o21,o31),o02,o12,o22,o32,o41,o51,o61,o71) =>
 grdO (decide (List.length o02+1≤9223372036854775807) && decide ((List.length o02+1)*40≤140737488355328)) (some (((↑(List.length (o02++[(o01,o11,o21,o31)])):Int),o02++[(o01,o11,o21,o31)],o12,o22,o32,o41,o51,o61,o71)))
def tb326:=insT 326 (mkE 326 false [(0,[])] ti326 to326 F326 [.tmp 4] 46 [100000]) tb291
theorem ok326:TbOk Tryz.prog tb326:=okI ok291 tp326 tv326 func326 rfl call326
abbrev ti312:SPat:=⟨[(0,.ptr 100000 0),(1,.s)],[.box 100000 (pl plB)]⟩
abbrev to312:SPat:=⟨[(4,.i .i64)],[.box 100000 (pl plB)]⟩
def F312:List UInt8×List Cst×Int×Int×Int×List Int×List (Int×Int×Int)×List Mth×Bool→Option (Int×List Cst×Int×Int×Int×List Int×List (Int×Int×Int)×List Mth×Bool):=fun (s,o0,o1,o2,o3,o4,o5,o6,o7) =>
 cndO (decide (60<(s.length:Int)))
 (some (((0:Int),o0,o1,o2,o3,o4,o5,o6,true)))
 (zAA (F326 (((1:Int),s,(0:Int),(0:Int)),o0,o1,o2,o3,o4,o5,o6,o7)) fun (y,y1,y2,y3,y4,y5,x,x1,x2) =>
 some ((y,y1,y2,y3,y4,y5,x,x1,x2)))
def tb312:=insT 312 (mkE 312 false [(0,[])] ti312 to312 F312 [.tmp 4] 15 [100000]) tb326
theorem ok312:TbOk Tryz.prog tb312:=okI ok326 noPl noIv func312 rfl call312
abbrev ti310:SPat:=⟨[(0,.ptr 100000 0),(1,.s)],[.box 100000 (pl plB)]⟩
abbrev to310:SPat:=⟨[(4,.i .i64)],[.box 100000 (pl plB)]⟩
def F310:List UInt8×List Cst×Int×Int×Int×List Int×List (Int×Int×Int)×List Mth×Bool→Option (Int×List Cst×Int×Int×Int×List Int×List (Int×Int×Int)×List Mth×Bool):=fun (s,o0,o1,o2,o3,o4,o5,o6,o7) =>
 zAA (F312 (s,o0,o1,o2,o3,o4,o5,o6,o7)) fun (y,y1,y2,y3,y4,y5,x,x1,x2) =>
 zAA (F326 (((2:Int),[],y,(0:Int)),y1,y2,y3,y4,y5,x,x1,x2)) fun (y6,y7,y8,y9,y10,y11,x3,x4,x5) =>
 some ((y6,y7,y8,y9,y10,y11,x3,x4,x5))
def tb310:=insT 310 (mkE 310 false [(0,[])] ti310 to310 F310 [.tmp 4] 11 [100000]) tb312
theorem ok310:TbOk Tryz.prog tb310:=okI ok312 noPl noIv func310 rfl call310
abbrev ti324:SPat:=⟨[(0,.ptr 100000 0),(1,.i .i64),(2,.s),(3,.s),(4,.s)],[.box 100000 (pl plB)]⟩
abbrev to324:SPat:=⟨[(10,.i .i64)],[.box 100000 (pl plB)]⟩
def F324:Int×List UInt8×List UInt8×List UInt8×List Cst×Int×Int×Int×List Int×List (Int×Int×Int)×List Mth×Bool→Option (Int×List Cst×Int×Int×Int×List Int×List (Int×Int×Int)×List Mth×Bool):=fun (kind_,class_,name,t,o0,o1,o2,o3,o4,o5,o6,o7) =>
 zAA (F310 (class_,o0,o1,o2,o3,o4,o5,o6,o7)) fun (y,y1,y2,y3,y4,y5,x,x1,x2) =>
 zAA (F312 (name,y1,y2,y3,y4,y5,x,x1,x2)) fun (y6,y7,y8,y9,y10,y11,x3,x4,x5) =>
 zAA (F312 (t,y7,y8,y9,y10,y11,x3,x4,x5)) fun (y12,y13,y14,y15,y16,y17,x6,x7,x8) =>
 zAA (F326 (((3:Int),[],y6,y12),y13,y14,y15,y16,y17,x6,x7,x8)) fun (y18,y19,y20,y21,y22,y23,x9,x10,x11) =>
 zAA (F326 ((kind_,[],y,y18),y19,y20,y21,y22,y23,x9,x10,x11)) fun (y24,y25,y26,y27,y28,y29,x12,x13,x14) =>
 some ((y24,y25,y26,y27,y28,y29,x12,x13,x14))
def tb324:=insT 324 (mkE 324 false [(0,[])] ti324 to324 F324 [.tmp 10] 33 [100000]) tb310
theorem ok324:TbOk Tryz.prog tb324:=okI ok310 noPl noIv func324 rfl call324
abbrev ti327:SPat:=⟨[(0,.s)],[]⟩
abbrev to327:SPat:=⟨[(2,.i .i64)],[]⟩
abbrev ts327_3:SPat:=⟨[(0,.s),(3,.i .i64),(4,.i .i64)],[]⟩
abbrev zJb:SPat:=⟨[(0,.s),(3,.i .i64),(4,.i .i64)],[]⟩
abbrev zJa:SPat:=⟨[(0,.s),(3,.i .i64)],[]⟩
def tv327:Nat→Option SPat:=fun k=>bif k == 3 then some ts327_3 else bif k == 1000007 then some zJb else bif k == 2000000 then some zJa else none
def F327:List UInt8→Option (Int):=fun s =>
 bindE (Y:=List UInt8×Int) (zAF (fun (s1,n,i) =>
 cndO (decide (i<(s1.length:Int)))
 (bindE (Y:=List UInt8×Int×Int) (grdO (decide (0≤i)) (atO (s1) i.toNat fun x=>cndO (decide ((x.toNat:Int)<48))
 (some (inr (inr (inr (-1:Int)))))
 (grdO (decide (0≤i)) (atO (s1) i.toNat fun x1=>cndO (decide (57<(x1.toNat:Int)))
 (some (inr (inr (inr (-1:Int)))))
 (cndO (decide (5≤i))
 (some (inr (inr (inr (-1:Int)))))
 (some (inl (s1,n,i)))))))) fun (s2,n1,i1) =>
 grdO (decide (0≤i1)) (atO (s2) i1.toNat fun x=>some (inl (s2,IntKind.wrap .i64 (IntKind.wrap .i64 (n1*10)+IntKind.wrap .i64 (IntKind.wrap .u8 ((x.toNat:Int) - 48))),IntKind.wrap .i64 (i1+1)))))
 (some (inr (inl (s1,n))))) ((s,(0:Int),(0:Int)))) fun (s1,n) =>
 cndO (decide ((s1.length:Int)=0))
 (some ((-1:Int)))
 (cndO (decide (1<(s1.length:Int)))
 (atO (s1) ((0:Nat)) fun x=>cndO (decide ((x.toNat:Int)=48))
 (some ((-1:Int)))
 (some (n)))
 (some (n)))
def tb327:=insT 327 (mkE 327 true [] ti327 to327 F327 [.tmp 2] 47 []) tb324
theorem ok327:TbOk Tryz.prog tb327:=okI ok324 noPl tv327 func327 rfl call327
abbrev ti325:SPat:=⟨[(0,.s)],[]⟩
abbrev to325:SPat:=⟨[(2,.i .i64),(3,.b)],[]⟩
abbrev zJd:SPat:=⟨[(0,.s),(13,.b)],[]⟩
def tv325:Nat→Option SPat:=fun k=>bif k == 1000002 then some zJd else none
def F325:List UInt8→Option (Int×Bool):=fun s =>
 bindE (Y:=List UInt8×Bool) (cndO (decide (1<(s.length:Int)))
 (atO (s) ((0:Nat)) fun x=>some (inl (s,decide ((x.toNat:Int)=45))))
 (some (inl (s,false)))) fun (s1,v13) =>
 cndO (v13)
 (grdO (decide (1≤(s1.length:Int)) && decide ((s1.length:Int)≤(s1.length:Int))) (zAA (F327 (List.drop (1:Nat) (List.take (Int.toNat (s1.length:Int)) s1))) fun y =>
 some ((IntKind.wrap .i64 ((0:Int) - y),decide (0<y)))))
 (zAA (F327 s1) fun y =>
 some ((y,decide (0≤y))))
def tb325:=insT 325 (mkE 325 true [] ti325 to325 F325 [.tmp 2,.tmp 3] 26 []) tb327
theorem ok325:TbOk Tryz.prog tb325:=okI ok327 noPl tv325 func325 rfl call325
abbrev ti311:SPat:=⟨[(0,.ptr 100000 0),(1,.s)],[.box 100000 (pl plB)]⟩
abbrev to311:SPat:=⟨[(4,.i .i64)],[.box 100000 (pl plB)]⟩
def F311:List UInt8×List Cst×Int×Int×Int×List Int×List (Int×Int×Int)×List Mth×Bool→Option (Int×List Cst×Int×Int×Int×List Int×List (Int×Int×Int)×List Mth×Bool):=fun (s,o0,o1,o2,o3,o4,o5,o6,o7) =>
 zAA (F327 s) fun y =>
 cndO (decide (y<0))
 (some (((0:Int),o0,o1,o2,o3,o4,o5,o6,true)))
 (some ((y,o0,o1,o2,o3,o4,o5,o6,o7)))
def tb311:=insT 311 (mkE 311 false [(0,[])] ti311 to311 F311 [.tmp 4] 14 [100000]) tb325
theorem ok311:TbOk Tryz.prog tb311:=okI ok325 noPl noIv func311 rfl call311
abbrev ti315:SPat:=⟨[(0,.ptr 100000 0)],[.box 100000 (pl plB)]⟩
abbrev to315:SPat:=⟨[(2,.ptrI 7007 0)],[.arr 7007 tg53 true,.box 100000 (pl [.own tg27 true,.i .i64,.i .i64,.i .i64,.own (.int .i64) true,.own tg89 true,.ar 7007,.b])]⟩
def tp315:Nat→List Nat×Plan:=fun id=>bif id == 1 then ([0,1,2,3,4,5,6,7,8,9,10,11,12],(.br 13 [12,11,10,9,8,7,6,5,4,3,2,1,0] [] [] .fin .fin)) else ([],.fin)
def F315:List Cst×Int×Int×Int×List Int×List (Int×Int×Int)×List Mth×Bool→Option (Nat×List Mth×List Cst×Int×Int×Int×List Int×List (Int×Int×Int)×Bool):=fun (o0,o1,o2,o3,o4,o5,o6,o7) =>
 grdO (decide (0≤IntKind.wrap .i64 ((o6.length:Int) - 1)) && decide (IntKind.wrap .i64 ((o6.length:Int) - 1)<(o6.length:Int))) (some ((Int.toNat (IntKind.wrap .i64 ((o6.length:Int) - 1)),o6,o0,o1,o2,o3,o4,o5,o7)))
def tb315:=insT 315 (mkE 315 false [(0,[])] ti315 to315 F315 [.tmp 2] 16 [7007,100000]) tb311
theorem ok315:TbOk Tryz.prog tb315:=okI ok311 tp315 noIv func315 rfl call315
abbrev zUP:SPat:=⟨[(0,.ptr 100000 0)],[.box 100000 (pl [.own tg27 true,.i .i64,.i .i64,.i .i64,.own (.int .i64) true,.own tg89 true,.ar 100001,.b]),.arr 100001 tg53 true]⟩
abbrev zUF:SPat:=⟨[(2,.ptrI 100001 0)],[.box 100000 (pl [.own tg27 true,.i .i64,.i .i64,.i .i64,.own (.int .i64) true,.own tg89 true,.ar 100001,.b]),.arr 100001 tg53 true]⟩
def zUB:Nat→List Nat×Plan:=fun id=>bif id == 1 then ([0,1,2,3,4,5,6,7,8,9,10,11,12],(.br 13 [12,11,10,9,8,7,6,5,4,3,2,1,0] [] [] .fin .fin)) else ([],.fin)
def F7000315:(List Cst×Int×Int×Int×List Int×List (Int×Int×Int)×Bool)×List Mth→Option (Nat×(List Cst×Int×Int×Int×List Int×List (Int×Int×Int)×Bool)×List Mth):=fun ((o0,o1,o2,o3,o4,o5,o7),l100001) =>
 grdO (decide (0≤IntKind.wrap .i64 ((l100001.length:Int) - 1)) && decide (IntKind.wrap .i64 ((l100001.length:Int) - 1)<(l100001.length:Int))) (some ((Int.toNat (IntKind.wrap .i64 ((l100001.length:Int) - 1)),(o0,o1,o2,o3,o4,o5,o7),l100001)))
def zOq:=insT 7000315 (mkE 315 false [(0,[]),(0,[6])] zUP zUF F7000315 [.tmp 2] 16 [100000,100001]) tb315
theorem zVA:TbOk Tryz.prog zOq:=okI ok315 zUB noIv func315 rfl call315
abbrev ti134:SPat:=⟨[(0,.i .i64)],[]⟩
abbrev to134:SPat:=⟨[(2,.s)],[]⟩
def F134:Int→Option (List UInt8):=fun n =>
 grdO (decide (0≤IntKind.wrap .u8 n) && decide (IntKind.wrap .u8 n≤255)) (some ([UInt8.ofNat (Int.toNat (IntKind.wrap .u8 n))]))
def tb134:=insT 134 (mkE 134 true [] ti134 to134 F134 [.tmp 2] 7 []) zOq
theorem ok134:TbOk Tryz.prog tb134:=okI zVA noPl noIv func134 rfl call134
abbrev ti136:SPat:=⟨[(0,.i .i64)],[]⟩
abbrev to136:SPat:=⟨[(2,.s)],[]⟩
def F136:Int→Option (List UInt8):=fun n =>
 grdO (decide (0≤IntKind.wrap .u8 (IntKind.wrap .i64 (Int.tdiv n (256:Int)))) && decide (IntKind.wrap .u8 (IntKind.wrap .i64 (Int.tdiv n (256:Int)))≤255)) (grdO (decide (0≤IntKind.wrap .u8 (Int.tmod n (256:Int))) && decide (IntKind.wrap .u8 (Int.tmod n (256:Int))≤255)) (some ([UInt8.ofNat (Int.toNat (IntKind.wrap .u8 (IntKind.wrap .i64 (Int.tdiv n (256:Int))))),UInt8.ofNat (Int.toNat (IntKind.wrap .u8 (Int.tmod n (256:Int))))])))
def tb136:=insT 136 (mkE 136 true [] ti136 to136 F136 [.tmp 2] 11 []) tb134
theorem ok136:TbOk Tryz.prog tb136:=okI ok134 noPl noIv func136 rfl call136
abbrev ti194:SPat:=⟨[(0,.sl tg89)],[]⟩
abbrev to194:SPat:=⟨[(2,.s)],[]⟩
abbrev ts194_3:SPat:=⟨[(0,.sl tg89),(3,.s),(4,.i .i64)],[]⟩
abbrev zLM:SPat:=⟨[(3,.s)],[]⟩
abbrev zLL:SPat:=⟨[(0,.sl tg89),(3,.s),(4,.i .i64)],[]⟩
def tv194:Nat→Option SPat:=fun k=>bif k == 3 then some ts194_3 else bif k == 2000000 then some zLM else bif k == 2000002 then some zLL else none
def F194:List (Int×Int×Int)→Option (List UInt8):=fun list =>
 bindE (Y:=List UInt8) (zAF (fun (list1,out,i) =>
 cndO (decide (i<(list1.length:Int)))
 (grdO (decide (0≤i)) (atO (list1) i.toNat fun x=>zAA (F134 (x.2.1)) fun y =>
 grdO (decide (List.length out+List.length y≤9223372036854775807)) (zAA (F251 (x.2.1)) fun y1 =>
 bindE (Y:=List (Int×Int×Int)×List UInt8×Int) (cndO (decide (y1=1))
 (zAA (F134 (x.2.2)) fun y2 =>
 grdO (decide (List.length (out++y)+List.length y2≤9223372036854775807)) (some (inl (list1,out++y++y2,i))))
 (cndO (decide (y1=2))
 (zAA (F136 (Int.tmod (IntKind.wrap .i64 (x.2.2+65536)) (65536:Int))) fun y2 =>
 grdO (decide (List.length (out++y)+List.length y2≤9223372036854775807)) (some (inl (list1,out++y++y2,i))))
 (some (inl (list1,out++y,i))))) fun (list2,out1,i1) =>
 some (inl (list2,out1,IntKind.wrap .i64 (i1+1))))))
 (some (inr (inl out)))) ((list,[],(0:Int)))) fun out =>
 some (out)
def tb194:=insT 194 (mkE 194 true [] ti194 to194 F194 [.tmp 2] 41 []) tb136
theorem ok194:TbOk Tryz.prog tb194:=okI ok136 noPl tv194 func194 rfl call194
abbrev ti309:SPat:=⟨[(0,.ptr 100000 0),(1,.sl .str)],[.box 100000 (pl plB)]⟩
abbrev to309:SPat:=⟨[],[.box 100000 (pl plB)]⟩
abbrev zJs:SPat:=⟨[(0,.ptr 100000 0),(1,.sl .str),(4,.ptr 4 0)],[.box 4 (pl [.i .i64,.i .i64,.i .i64]),.box 100000 (pl plB)]⟩
abbrev zJr:SPat:=⟨[(0,.ptr 100000 0),(1,.sl .str),(4,.ptr 4 0),(5,.i .i64),(35,.b)],[.box 4 (pl [.i .i64,.i .i64,.i .i64]),.box 100000 (pl plB)]⟩
abbrev zJq:SPat:=⟨[(0,.ptr 100000 0),(1,.sl .str),(4,.ptr 4 0),(5,.i .i64),(49,.b)],[.box 4 (pl [.i .i64,.i .i64,.i .i64]),.box 100000 (pl plB)]⟩
abbrev zJp:SPat:=⟨[(0,.ptr 100000 0),(1,.sl .str),(4,.ptr 4 0),(5,.i .i64),(70,.b)],[.box 4 (pl [.i .i64,.i .i64,.i .i64]),.box 100000 (pl plB)]⟩
abbrev zJo:SPat:=⟨[(0,.ptr 100000 0),(1,.sl .str),(4,.ptr 4 0),(5,.i .i64),(93,.b)],[.box 4 (pl [.i .i64,.i .i64,.i .i64]),.box 100000 (pl plB)]⟩
abbrev zJn:SPat:=⟨[(0,.ptr 100000 0),(4,.ptr 4 0)],[.box 4 (pl [.i .i64,.i .i64,.i .i64]),.box 100000 (pl plB)]⟩
def tv309:Nat→Option SPat:=fun k=>bif k == 1000003 then some zJs else bif k == 1000006 then some zJr else bif k == 1000008 then some zJq else bif k == 1000010 then some zJp else bif k == 1000015 then some zJo else bif k == 2000000 then some zJn else none
def tp309:Nat→List Nat×Plan:=fun id=>bif id == 0 then ([1,2,3],(.br 0 [] [1,2,3] [] (.br 4 [3,2,1,0] [] [5] (.br 6 [] [1,2,3,5] [] (.br 7 [6,5,4,3,2,1,0] [] [] .fin .fin) .fin) (.br 6 [] [1,2,3] [] (.br 4 [3,2,1,0] [] [5] (.br 7 [6,5,4,3,2,1,0] [] [] .fin .fin) .fin) .fin)) (.br 6 [] [1,2,3] [] (.br 0 [] [1,2,3] [] (.br 4 [3,2,1,0] [] [5] (.br 7 [6,5,4,3,2,1,0] [] [] .fin .fin) .fin) .fin) .fin))) else bif id == 8 then ([0,1,2,3,4,5,6,7,8,9,10],(.br 11 [10,9,8,7,6,5,4,3,2,1,0] [] [12] (.br 13 [12,11,10,9,8,7,6,5,4,3,2,1,0] [] [] .fin .fin) .fin)) else bif id == 19 then ([0,2,7],(.br 1 [0] [2,7] [] (.br 3 [2,1,0] [7] [4,5,6] (.br 8 [7] [0,2,4,5,6] [] (.br 9 [8,7,3,2,1,0] [4,5,6] [10,11,12] (.br 13 [12,11,10,9,8,7,6,5,4,3,2,1,0] [] [] .fin .fin) .fin) .fin) (.br 8 [7] [0,2] [] (.br 3 [2,1,0] [7] [4,5,6] (.br 9 [8,7,3,2,1,0] [4,5,6] [10,11,12] (.br 13 [12,11,10,9,8,7,6,5,4,3,2,1,0] [] [] .fin .fin) .fin) .fin) .fin)) (.br 8 [7] [0,2] [] (.br 1 [0] [2,7] [] (.br 3 [2,1,0] [7] [4,5,6] (.br 9 [8,7,3,2,1,0] [4,5,6] [10,11,12] (.br 13 [12,11,10,9,8,7,6,5,4,3,2,1,0] [] [] .fin .fin) .fin) .fin) .fin) .fin))) else ([],.fin)
def F309:List (List UInt8)×List Cst×Int×Int×Int×List Int×List (Int×Int×Int)×List Mth×Bool→Option (List Cst×Int×Int×Int×List Int×List (Int×Int×Int)×List Mth×Bool):=fun (v1,o0,o1,o2,o3,o4,o5,o6,o7)=>atO (v1) ((0:Nat)) fun x=>let q1:=fun (y1:Int)=>bindE (Y:=List (List UInt8)×(Int×Int×Int)×List Cst×Int×Int×Int×List Int×List (Int×Int×Int)×List Mth×Bool) (cndO (decide ((o6.length:Int)=0)) (some (inr (o0,o1,o2,o3,o4,o5,o6,true))) (cndO (decide (y1<0)) (some (inr (o0,o1,o2,o3,o4,o5,o6,true))) (some (inl (v1,((0:Int),y1,(0:Int)),o0,o1,o2,o3,o4,o5,o6,o7))))) fun (v11,(o01,o11,o21),o02,o12,o22,o31,o41,o51,o61,o71)=>zAA (F291 o11) fun y2=>bindE (Y:=(Int×Int×Int)×List Cst×Int×Int×Int×List Int×List (Int×Int×Int)×List Mth×Bool) (bindE (Y:=List (List UInt8)×Int×Bool×(Int×Int×Int)×List Cst×Int×Int×Int×List Int×List (Int×Int×Int)×List Mth×Bool) (cndO (decide (y2=2)) (some (inl (v11,y2,decide ((v11.length:Int)=2),(o01,o11,o21),o02,o12,o22,o31,o41,o51,o61,o71))) (some (inl (v11,y2,false,(o01,o11,o21),o02,o12,o22,o31,o41,o51,o61,o71)))) fun (v12,v5,v35,(o03,o13,o23),o04,o14,o24,o32,o42,o52,o62,o72)=>cndO (v35) (atO (v12) ((1:Nat)) fun x1=>zAA (F310 (x1,o04,o14,o24,o32,o42,o52,o62,o72)) fun (y3,y4,y5,y6,y7,y8,x2,x3,x4)=>some (inl ((o03,o13,y3),y4,y5,y6,y7,y8,x2,x3,x4))) (bindE (Y:=List (List UInt8)×Int×Bool×(Int×Int×Int)×List Cst×Int×Int×Int×List Int×List (Int×Int×Int)×List Mth×Bool) (cndO (decide (2<v5)) (some (inl (v12,v5,decide ((v12.length:Int)=4),(o03,o13,o23),o04,o14,o24,o32,o42,o52,o62,o72))) (some (inl (v12,v5,false,(o03,o13,o23),o04,o14,o24,o32,o42,o52,o62,o72)))) fun (v13,v51,v49,(o05,o15,o25),o06,o16,o26,o33,o43,o53,o63,o73)=>cndO (v49) (atO (v13) ((1:Nat)) fun x1=>atO (v13) ((2:Nat)) fun x2=>atO (v13) ((3:Nat)) fun x3=>zAA (F324 (v51,x1,x2,x3,o06,o16,o26,o33,o43,o53,o63,o73)) fun (y3,y4,y5,y6,y7,y8,x4,x5,x6)=>some (inl ((o05,o15,y3),y4,y5,y6,y7,y8,x4,x5,x6))) (bindE (Y:=List (List UInt8)×Int×Bool×(Int×Int×Int)×List Cst×Int×Int×Int×List Int×List (Int×Int×Int)×List Mth×Bool) (cndO (decide (o15=1)) (some (inl (v13,v51,decide ((v13.length:Int)=2),(o05,o15,o25),o06,o16,o26,o33,o43,o53,o63,o73))) (some (inl (v13,v51,false,(o05,o15,o25),o06,o16,o26,o33,o43,o53,o63,o73)))) fun (v14,v52,v70,(o07,o17,o27),o08,o18,o28,o34,o44,o54,o64,o74)=>cndO (v70) (atO (v14) ((1:Nat)) fun x1=>zAA (F325 x1) fun (y3,y4)=>cndO (!y4) (some (inl ((o07,o17,y3),o08,o18,o28,o34,o44,o54,o64,true))) (some (inl ((o07,o17,y3),o08,o18,o28,o34,o44,o54,o64,o74)))) (bindE (Y:=List (List UInt8)×Int×Bool×(Int×Int×Int)×List Cst×Int×Int×Int×List Int×List (Int×Int×Int)×List Mth×Bool) (cndO (decide (v52=0)) (zAA (F251 o17) fun y3=>cndO (decide (0<y3)) (some (inl (v14,v52,decide ((v14.length:Int)=2),(o07,o17,o27),o08,o18,o28,o34,o44,o54,o64,o74))) (some (inl (v14,v52,false,(o07,o17,o27),o08,o18,o28,o34,o44,o54,o64,o74)))) (some (inl (v14,v52,false,(o07,o17,o27),o08,o18,o28,o34,o44,o54,o64,o74)))) fun (v15,v53,v93,(o09,o19,o29),o010,o110,o210,o35,o45,o55,o65,o75)=>cndO (v93) (atO (v15) ((1:Nat)) fun x1=>zAA (F311 (x1,o010,o110,o210,o35,o45,o55,o65,o75)) fun (y3,y4,y5,y6,y7,y8,x2,x3,x4)=>some (inl ((o09,o19,y3),y4,y5,y6,y7,y8,x2,x3,x4))) (cndO (decide (v53=0)) (zAA (F251 o19) fun y3=>cndO (decide (y3=0)) (cndO (decide ((v15.length:Int)=1)) (some (inl ((o09,o19,o29),o010,o110,o210,o35,o45,o55,o65,o75))) (some (inr (o010,o110,o210,o35,o45,o55,o65,true)))) (some (inr (o010,o110,o210,o35,o45,o55,o65,true)))) (some (inr (o010,o110,o210,o35,o45,o55,o65,true)))))))) fun ((o03,o13,o23),o04,o14,o24,o32,o42,o52,o62,o72)=>zAA (F107 (o23,(-32768:Int),(65535:Int))) fun y3=>cndO (!y3) (some ((o04,o14,o24,o32,o42,o52,o62,true))) (let q2:=fun (x4:List (Int×Int×Int)) (x5:Bool) (x6:List Mth) (x7:Mth) (y10:Nat) (y11:List Cst) (y12:Int) (y13:Int) (y14:Int) (y15:List Int) (y4:Nat)=>zAA (F194 [(o03,o13,o23)]) fun y16=>seqU (seqU (grdO (y10 == y10 && true) (some ())) (seqU (grdO (y10 == y10 && true) (some ())) (seqU (atO (x6) (y10) fun x8=>grdO (decide (x8.2.2.2.2.2.1=x7.2.2.2.2.2.1)) (some ())) (some ())))) (grdO (decide (List.length (x7.2.2.2.2.2.1)+List.length y16≤9223372036854775807)) (atO (x6) (y4) fun x8=>some ((y11,y12,y13,y14,y15,x4,List.set x6 y4 (x8.1,x8.2.1,x8.2.2.1,x8.2.2.2.1,x8.2.2.2.2.1,x7.2.2.2.2.2.1++y16,x8.2.2.2.2.2.2.1,x8.2.2.2.2.2.2.2),x5))));let q3:=fun (x1:List Int) (x2:List (Int×Int×Int)) (x3:Bool) (y4:Nat) (y5:List Mth) (y6:List Cst) (y7:Int) (y8:Int) (y9:Int)=>zAA (F7000315 ((y6,y7,y8,y9,x1,x2,x3),y5)) fun (y10,(y11,y12,y13,y14,y15,x4,x5),x6)=>seqU (seqU (grdO (decide (o03=o03) && (decide (o13=o13) && (decide (o23=o23) && true))) (some ())) (some ())) (atO (x6) (y10) fun x7=>q2 x4 x5 x6 x7 y10 y11 y12 y13 y14 y15 y4);zBU (zAA (F315 (o04,o14,o24,o32,o42,o52,o62,o72)) fun (y4,y5,y6,y7,y8,y9,x1,x2,x3)=>seqU (seqU (grdO (decide (o03=o03) && (decide (o13=o13) && (decide (o23=o23) && true))) (some ())) (some ())) (zBU (zAA (F7000315 ((y6,y7,y8,y9,x1,x2,x3),y5)) fun (y10,(y11,y12,y13,y14,y15,x4,x5),x6)=>seqU (seqU (grdO (decide (o03=o03) && (decide (o13=o13) && (decide (o23=o23) && true))) (some ())) (some ())) (atO (x6) (y10) fun x7=>seqU (seqU (grdO (y10 == y10 && true) (some ())) (seqU (grdO (y10 == y10 && true) (some ())) (seqU (atO (x6) (y10) fun x8=>grdO (decide (x8.2.2.2.2.2.1=x7.2.2.2.2.2.1)) (some ())) (some ())))) (q2 x4 x5 x6 x7 y10 y11 y12 y13 y14 y15 y4))) (q3 x1 x2 x3 y4 y5 y6 y7 y8 y9))) (zAA (F315 (o04,o14,o24,o32,o42,o52,o62,o72)) fun (y4,y5,y6,y7,y8,y9,x1,x2,x3)=>seqU (seqU (grdO (decide (o03=o03) && (decide (o13=o13) && (decide (o23=o23) && true))) (some ())) (some ())) (q3 x1 x2 x3 y4 y5 y6 y7 y8 y9)));let q4:=fun (y:List (List UInt8))=>seqU (seqU (grdO (decide (v1=v1)) (some ())) (seqU (atO (v1) ((0:Nat)) fun x1=>grdO (decide (x1=x) && true) (some ())) (seqU (grdO (decide (x=x)) (some ())) (some ())))) (zAA (F301 (y,x)) fun y1=>q1 y1);zBU (zAA (F302 ()) fun y=>seqU (seqU (grdO (decide (v1=v1)) (some ())) (seqU (atO (v1) ((0:Nat)) fun x1=>grdO (decide (x1=x) && true) (some ())) (seqU (grdO (decide (x=x)) (some ())) (some ())))) (zBU (zAA (F301 (y,x)) fun y1=>seqU (seqU (grdO (decide (v1=v1)) (some ())) (seqU (atO (v1) ((0:Nat)) fun x1=>grdO (decide (x1=x) && true) (some ())) (seqU (grdO (decide (x=x)) (some ())) (seqU (grdO (decide (y1=y1) && true) (some ())) (some ()))))) (q1 y1)) (q4 y))) (seqU (seqU (grdO (decide (v1=v1)) (some ())) (seqU (atO (v1) ((0:Nat)) fun x1=>grdO (decide (x1=x) && true) (some ())) (seqU (grdO (decide (x=x)) (some ())) (some ())))) (zAA (F302 ()) fun y=>q4 y))
def tb309:=insT 309 (mkE 309 false [(0,[])] ti309 to309 F309 [] 147 [100000]) tb194
theorem ok309:TbOk Tryz.prog tb309:=okI ok194 tp309 tv309 func309 rfl call309
abbrev zUT:SPat:=⟨[(0,.ptr 100000 0),(1,.agg (pl [.i .i64,.s,.i .i64,.i .i64]))],[.box 100000 (pl [.own tg27 true,.i .i64,.i .i64,.i .i64,.ar 100001,.own tg89 true,.own tg53 true,.b]),.arr 100001 (.int .i64) true]⟩
abbrev zUJ:SPat:=⟨[(4,.i .i64)],[.box 100000 (pl [.own tg27 true,.i .i64,.i .i64,.i .i64,.ar 100001,.own tg89 true,.own tg53 true,.b]),.arr 100001 (.int .i64) true]⟩
abbrev zQc:SPat:=⟨[(0,.ptr 100000 0),(3,.ptr 3 0),(5,.i .i64)],[.box 3 (pl [.i .i64,.s,.i .i64,.i .i64]),.box 100000 (pl [.own tg27 true,.i .i64,.i .i64,.i .i64,.ar 100001,.own tg89 true,.own tg53 true,.b]),.arr 100001 (.int .i64) true]⟩
abbrev zGJ:SPat:=⟨[(0,.ptr 100000 0),(3,.ptr 3 0)],[.box 3 (pl [.i .i64,.s,.i .i64,.i .i64]),.box 100000 (pl [.own tg27 true,.i .i64,.i .i64,.i .i64,.ar 100001,.own tg89 true,.own tg53 true,.b]),.arr 100001 (.int .i64) true]⟩
def zTz:Nat→Option SPat:=fun k=>bif k == 2 then some zQc else bif k == 2000000 then some zGJ else none
def zUD:Nat→List Nat×Plan:=fun id=>bif id == 4 then ([0,1,2,3,4,5,6,7,8,9],.fin) else bif id == 6 then ([0,1,2,3,4,5,6],(.br 7 [6] [0,1,2,3,4,5] [] (.br 8 [7,6,5,4,3,2,1] [0] [9,10,11] (.br 12 [11,10,9,8,7,6,5,4,3,2,1,0] [] [] .fin .fin) .fin) .fin)) else ([],.fin)
def F5000326:(Cst)×(List Cst×Int×Int×Int×List (Int×Int×Int)×List Mth×Bool)×List Int→Option (Int×(List Cst×Int×Int×Int×List (Int×Int×Int)×List Mth×Bool)×List Int):=fun ((c0,c1,c2,c3),(o0,o1,o2,o3,o5,o6,o7),l100001) =>
 bindE (Y:=(Cst)×(List Cst×Int×Int×Int×List (Int×Int×Int)×List Mth×Bool)×List Int) (zAF (fun (i,(o01,o11,o21,o31),(o02,o12,o22,o32,o51,o61,o71),l1000011) =>
 cndO (decide (i<(o02.length:Int)))
 (grdO (decide (0≤i) && decide (i<(o02.length:Int))) (atO (o02) i.toNat fun x=>cndO (decide (x.1=o01) && (decide (x.2.1=o11) && (decide (x.2.2.1=o21) && (decide (x.2.2.2=o31) && true))))
 (some (inr (inr (IntKind.wrap .i64 (i+1),(o02,o12,o22,o32,o51,o61,o71),l1000011))))
 (some (inl (IntKind.wrap .i64 (i+1),(o01,o11,o21,o31),(o02,o12,o22,o32,o51,o61,o71),l1000011)))))
 (some (inr (inl ((o01,o11,o21,o31),(o02,o12,o22,o32,o51,o61,o71),l1000011))))) (((0:Int),(c0,c1,c2,c3),(o0,o1,o2,o3,o5,o6,o7),l100001))) fun ((o01,o11,o21,o31),(o02,o12,o22,o32,o51,o61,o71),l1000011) =>
 grdO (decide (List.length o02+1≤9223372036854775807) && decide ((List.length o02+1)*40≤140737488355328)) (some (((↑(List.length (o02++[(o01,o11,o21,o31)])):Int),(o02++[(o01,o11,o21,o31)],o12,o22,o32,o51,o61,o71),l1000011)))
def zOu:=insT 5000326 (mkE 326 false [(0,[]),(0,[4])] zUT zUJ F5000326 [.tmp 4] 46 [100000,100001]) tb309
theorem zVE:TbOk Tryz.prog zOu:=okI ok309 zUD zTz func326 rfl call326
abbrev zUU:SPat:=⟨[(0,.ptr 100000 0),(1,.s)],[.box 100000 (pl [.own tg27 true,.i .i64,.i .i64,.i .i64,.ar 100001,.own tg89 true,.own tg53 true,.b]),.arr 100001 (.int .i64) true]⟩
abbrev zUK:SPat:=⟨[(4,.i .i64)],[.box 100000 (pl [.own tg27 true,.i .i64,.i .i64,.i .i64,.ar 100001,.own tg89 true,.own tg53 true,.b]),.arr 100001 (.int .i64) true]⟩
def F5000312:List UInt8×(List Cst×Int×Int×Int×List (Int×Int×Int)×List Mth×Bool)×List Int→Option (Int×(List Cst×Int×Int×Int×List (Int×Int×Int)×List Mth×Bool)×List Int):=fun (s,(o0,o1,o2,o3,o5,o6,o7),l100001) =>
 cndO (decide (60<(s.length:Int)))
 (some (((0:Int),(o0,o1,o2,o3,o5,o6,true),l100001)))
 (zAA (F5000326 (((1:Int),s,(0:Int),(0:Int)),(o0,o1,o2,o3,o5,o6,o7),l100001)) fun (y,(y1,y2,y3,y4,y5,x,x1),x2) =>
 some ((y,(y1,y2,y3,y4,y5,x,x1),x2)))
def zOv:=insT 5000312 (mkE 312 false [(0,[]),(0,[4])] zUU zUK F5000312 [.tmp 4] 15 [100000,100001]) zOu
theorem zVF:TbOk Tryz.prog zOv:=okI zVE noPl noIv func312 rfl call312
abbrev zUV:SPat:=⟨[(0,.ptr 100000 0),(1,.s)],[.box 100000 (pl [.own tg27 true,.i .i64,.i .i64,.i .i64,.ar 100001,.own tg89 true,.own tg53 true,.b]),.arr 100001 (.int .i64) true]⟩
abbrev zUL:SPat:=⟨[(4,.i .i64)],[.box 100000 (pl [.own tg27 true,.i .i64,.i .i64,.i .i64,.ar 100001,.own tg89 true,.own tg53 true,.b]),.arr 100001 (.int .i64) true]⟩
def F5000310:List UInt8×(List Cst×Int×Int×Int×List (Int×Int×Int)×List Mth×Bool)×List Int→Option (Int×(List Cst×Int×Int×Int×List (Int×Int×Int)×List Mth×Bool)×List Int):=fun (s,(o0,o1,o2,o3,o5,o6,o7),l100001) =>
 zAA (F5000312 (s,(o0,o1,o2,o3,o5,o6,o7),l100001)) fun (y,(y1,y2,y3,y4,y5,x,x1),x2) =>
 zAA (F5000326 (((2:Int),[],y,(0:Int)),(y1,y2,y3,y4,y5,x,x1),x2)) fun (y6,(y7,y8,y9,y10,y11,x3,x4),x5) =>
 some ((y6,(y7,y8,y9,y10,y11,x3,x4),x5))
def zOw:=insT 5000310 (mkE 310 false [(0,[]),(0,[4])] zUV zUL F5000310 [.tmp 4] 11 [100000,100001]) zOv
theorem zVG:TbOk Tryz.prog zOw:=okI zVF noPl noIv func310 rfl call310
abbrev zUQ:SPat:=⟨[(0,.ptr 100000 0),(1,.agg (pl [.i .i64,.s,.i .i64,.i .i64]))],[.box 100000 (pl [.own tg27 true,.i .i64,.i .i64,.i .i64,.own (.int .i64) true,.ar 100001,.own tg53 true,.b]),.arr 100001 tg89 true]⟩
abbrev zUG:SPat:=⟨[(4,.i .i64)],[.box 100000 (pl [.own tg27 true,.i .i64,.i .i64,.i .i64,.own (.int .i64) true,.ar 100001,.own tg53 true,.b]),.arr 100001 tg89 true]⟩
abbrev zQb:SPat:=⟨[(0,.ptr 100000 0),(3,.ptr 3 0),(5,.i .i64)],[.box 3 (pl [.i .i64,.s,.i .i64,.i .i64]),.box 100000 (pl [.own tg27 true,.i .i64,.i .i64,.i .i64,.own (.int .i64) true,.ar 100001,.own tg53 true,.b]),.arr 100001 tg89 true]⟩
abbrev zGI:SPat:=⟨[(0,.ptr 100000 0),(3,.ptr 3 0)],[.box 3 (pl [.i .i64,.s,.i .i64,.i .i64]),.box 100000 (pl [.own tg27 true,.i .i64,.i .i64,.i .i64,.own (.int .i64) true,.ar 100001,.own tg53 true,.b]),.arr 100001 tg89 true]⟩
def zTy:Nat→Option SPat:=fun k=>bif k == 2 then some zQb else bif k == 2000000 then some zGI else none
def zUC:Nat→List Nat×Plan:=fun id=>bif id == 4 then ([0,1,2,3,4,5,6,7,8,9],.fin) else bif id == 6 then ([0,1,2,3,4,5,6],(.br 7 [6] [0,1,2,3,4,5] [] (.br 8 [7,6,5,4,3,2,1] [0] [9,10,11] (.br 12 [11,10,9,8,7,6,5,4,3,2,1,0] [] [] .fin .fin) .fin) .fin)) else ([],.fin)
def F6000326:(Cst)×(List Cst×Int×Int×Int×List Int×List Mth×Bool)×List (Int×Int×Int)→Option (Int×(List Cst×Int×Int×Int×List Int×List Mth×Bool)×List (Int×Int×Int)):=fun ((c0,c1,c2,c3),(o0,o1,o2,o3,o4,o6,o7),l100001) =>
 bindE (Y:=(Cst)×(List Cst×Int×Int×Int×List Int×List Mth×Bool)×List (Int×Int×Int)) (zAF (fun (i,(o01,o11,o21,o31),(o02,o12,o22,o32,o41,o61,o71),l1000011) =>
 cndO (decide (i<(o02.length:Int)))
 (grdO (decide (0≤i) && decide (i<(o02.length:Int))) (atO (o02) i.toNat fun x=>cndO (decide (x.1=o01) && (decide (x.2.1=o11) && (decide (x.2.2.1=o21) && (decide (x.2.2.2=o31) && true))))
 (some (inr (inr (IntKind.wrap .i64 (i+1),(o02,o12,o22,o32,o41,o61,o71),l1000011))))
 (some (inl (IntKind.wrap .i64 (i+1),(o01,o11,o21,o31),(o02,o12,o22,o32,o41,o61,o71),l1000011)))))
 (some (inr (inl ((o01,o11,o21,o31),(o02,o12,o22,o32,o41,o61,o71),l1000011))))) (((0:Int),(c0,c1,c2,c3),(o0,o1,o2,o3,o4,o6,o7),l100001))) fun ((o01,o11,o21,o31),(o02,o12,o22,o32,o41,o61,o71),l1000011) =>
 grdO (decide (List.length o02+1≤9223372036854775807) && decide ((List.length o02+1)*40≤140737488355328)) (some (((↑(List.length (o02++[(o01,o11,o21,o31)])):Int),(o02++[(o01,o11,o21,o31)],o12,o22,o32,o41,o61,o71),l1000011)))
def zOr:=insT 6000326 (mkE 326 false [(0,[]),(0,[5])] zUQ zUG F6000326 [.tmp 4] 46 [100000,100001]) zOw
theorem zVB:TbOk Tryz.prog zOr:=okI zVG zUC zTy func326 rfl call326
abbrev zUR:SPat:=⟨[(0,.ptr 100000 0),(1,.s)],[.box 100000 (pl [.own tg27 true,.i .i64,.i .i64,.i .i64,.own (.int .i64) true,.ar 100001,.own tg53 true,.b]),.arr 100001 tg89 true]⟩
abbrev zUH:SPat:=⟨[(4,.i .i64)],[.box 100000 (pl [.own tg27 true,.i .i64,.i .i64,.i .i64,.own (.int .i64) true,.ar 100001,.own tg53 true,.b]),.arr 100001 tg89 true]⟩
def F6000312:List UInt8×(List Cst×Int×Int×Int×List Int×List Mth×Bool)×List (Int×Int×Int)→Option (Int×(List Cst×Int×Int×Int×List Int×List Mth×Bool)×List (Int×Int×Int)):=fun (s,(o0,o1,o2,o3,o4,o6,o7),l100001) =>
 cndO (decide (60<(s.length:Int)))
 (some (((0:Int),(o0,o1,o2,o3,o4,o6,true),l100001)))
 (zAA (F6000326 (((1:Int),s,(0:Int),(0:Int)),(o0,o1,o2,o3,o4,o6,o7),l100001)) fun (y,(y1,y2,y3,y4,y5,x,x1),x2) =>
 some ((y,(y1,y2,y3,y4,y5,x,x1),x2)))
def zOs:=insT 6000312 (mkE 312 false [(0,[]),(0,[5])] zUR zUH F6000312 [.tmp 4] 15 [100000,100001]) zOr
theorem zVC:TbOk Tryz.prog zOs:=okI zVB noPl noIv func312 rfl call312
abbrev zUS:SPat:=⟨[(0,.ptr 100000 0),(1,.s)],[.box 100000 (pl [.own tg27 true,.i .i64,.i .i64,.i .i64,.own (.int .i64) true,.ar 100001,.own tg53 true,.b]),.arr 100001 tg89 true]⟩
abbrev zUI:SPat:=⟨[(4,.i .i64)],[.box 100000 (pl [.own tg27 true,.i .i64,.i .i64,.i .i64,.own (.int .i64) true,.ar 100001,.own tg53 true,.b]),.arr 100001 tg89 true]⟩
def F6000311:List UInt8×(List Cst×Int×Int×Int×List Int×List Mth×Bool)×List (Int×Int×Int)→Option (Int×(List Cst×Int×Int×Int×List Int×List Mth×Bool)×List (Int×Int×Int)):=fun (s,(o0,o1,o2,o3,o4,o6,o7),l100001) =>
 zAA (F327 s) fun y =>
 cndO (decide (y<0))
 (some (((0:Int),(o0,o1,o2,o3,o4,o6,true),l100001)))
 (some ((y,(o0,o1,o2,o3,o4,o6,o7),l100001)))
def zOt:=insT 6000311 (mkE 311 false [(0,[]),(0,[5])] zUS zUI F6000311 [.tmp 4] 14 [100000,100001]) zOs
theorem zVD:TbOk Tryz.prog zOt:=okI zVC noPl noIv func311 rfl call311
end Go.Proofs.YtdpapeledldifaaGreat
end
