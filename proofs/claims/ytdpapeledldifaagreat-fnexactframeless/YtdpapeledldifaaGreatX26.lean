/- Part 27 of the proof that the law FnExactFrameLess holds of every input; no condition. -/
import Derived.Test.YtdpapeledldifaaGreatX25
import Derived.Lib.Bytealg
import Derived.Laws.Externs
set_option autoImplicit true
set_option relaxedAutoImplicit true
set_option linter.all false
noncomputable section
namespace Go.Proofs.YtdpapeledldifaaGreat
open Go Go.AM Go.TM
open Go.Proofs.Tryz
open Sum (inl inr)
set_option maxRecDepth 100000
abbrev ti322:SPat:=⟨[(0,.s),(1,.i .u8)],[]⟩
abbrev to322:SPat:=⟨[(2,.i .i64)],[]⟩
def F322:List UInt8×Int→Option Int:=fun(s,c)=>some (Lib.indexByte s c.toNat.toUInt8)
def te322:TEnt:=⟨322,true,[],ti322,to322.Den,F322,fun y=>some (.i .i64 y,[])⟩
theorem c322:zHY Tryz.prog 322 te322.W:=by
 rintro args ob K ⟨⟨s,c⟩,y,v,obs,h1,h2,h3,h4,h5⟩
 refine AC.le h1 h2 ?_
 have h3:some (Lib.indexByte s c.toNat.toUInt8)=some y:=h3
 have h4:some (V.i .i64 y,([]:List TO))=some (v,obs):=h4
 obtain⟨rfl,rfl⟩:=Prod.mk.inj (Option.some.inj h4)
 have hy:y=Lib.indexByte s c.toNat.toUInt8:=(Option.some.inj h3).symm
 subst hy
 intro w G vs fO hlen hr hO hown
 have hr:RL w G [SV.s s,SV.i .u8 c] vs.toList zf:=hr
 have hO:ROs w G [] fO:=hO
 have hz:fO=zf:=hO
 subst hz
 have hvs:vs = #[.string ⟨s.toArray⟩,.int .u8 c]:=by
  simp only[RL,R]at hr
  obtain⟨v1,r1,f1,f2,e1,⟨_,rfl⟩,⟨v2,r2,f3,f4,e2,⟨_,rfl⟩,_,_⟩,_⟩:=hr
  have hsz:vs.toList.length=2:=hlen
  rw[e1,e2]at hsz
  have:r2=[]:=by simpa using hsz
  rw[this]at e2
  rw[e2]at e1
  exact Array.toList_inj.1 (by rw[e1])
 refine .inr ⟨.int .i64 (Lib.indexByte s c.toNat.toUInt8),w,?_,?_⟩
 ·rw[run_callFunc_extern func322 (by kernel_rfl) (by kernel_rfl) (by kernel_rfl) (e:=Extern.BytealgIndexByte.indexByte) (by kernel_rfl),hvs]
  have hrun:=Lib.run_indexByteString (P:=Tryz.prog) ⟨(s:List UInt8).toArray⟩ (c:Int) w
  exact(congrArg (fun r=>Result.andThen r fun v w'=>Result.ok (Next.value v) w') hrun).trans rfl
 ·exact⟨_,[],G,zf,zf,h5,by simp[e,R],rfl,⟨fun g=>by simp[zf],fun g _=>by simp[zf],hown.2.2.1,fun g hg=>by simp[zf]at hg⟩,fun g h=>h,fun g _ h=>.inl h,fun g _ h=>by simp[zf]at h,fun g _ _=>rfl,fun n _=>rfl,by simp[names,eOs],Nat.le_refl _,rfl,rfl,rfl⟩
def tb322:=insT 322 te322 tbT0
theorem ok322:TbOk Tryz.prog tb322:=TbOk.ins TbOk.nil c322
end Go.Proofs.YtdpapeledldifaaGreat
end
noncomputable section
namespace Go.Proofs.YtdpapeledldifaaGreat
open Go Go.AM Go.TM
open Go.Proofs.Tryz
open Sum (inl inr)
set_option maxRecDepth 100000
set_option maxHeartbeats 4000000
abbrev ti274:SPat:=⟨[(0,.i .i64)],[]⟩
abbrev zTY:SPat:=⟨[(2,.s)],[]⟩
def tp274:Nat→List Nat×Plan:=fun id=>bif id==7 then([0,1,3,4,5,6],(.br 2 [1,0] [3,4,5,6] [] (.br 7 [6,5,4,3] [0,1] [8,9] (.br 10 [9,8,7,6,5,4,3,2,1,0] [] [] .fin .fin) .fin) (.br 7 [6,5,4,3] [0,1] [8] (.br 2 [1,0] [3,4,5,6,8] [9] (.br 10 [9,8,7,6,5,4,3,2,1,0] [] [] .fin .fin) .fin) .fin)))else([],.fin)
def zTb (R:ti274.Den→Option zTY.Den):TEnt:=⟨274,true,[],ti274,zTY.Den,R,resF T [.tmp 2] 28 zTY []⟩
def H274 (R274:Int→Option (List UInt8)):Int→Option (List UInt8):=fun n =>
 cndO (decide (n < -9223372036854775807))
  (some ([(45:UInt8),57,50,50,51,51,55,50,48,51,54,56,53,52,55,55,53,56,48,56]))
  (cndO (decide (n<0))
   (zAA (R274 (IntKind.wrap .i64 ((0:Int)-n))) fun y =>
   grdO (decide ((1:Nat)+List.length y≤9223372036854775807)) (some ([(45:UInt8)]++y)))
   (cndO (decide (n<10))
    (grdO (decide (0≤IntKind.wrap .u8 (IntKind.wrap .i64 ((48:Int)+n)))&&decide (IntKind.wrap .u8 (IntKind.wrap .i64 ((48:Int)+n))≤255)) (some ([UInt8.ofNat (Int.toNat (IntKind.wrap .u8 (IntKind.wrap .i64 ((48:Int)+n))))])))
    (zCp
     (zAA (R274 (IntKind.wrap .i64 (Int.tdiv n (10:Int)))) fun y =>
     seqU (seqU (grdO (decide (n=n)) (some ())) (seqU (grdO (decide (Int.tmod n (10:Int)=Int.tmod n (10:Int))) (some ())) (seqU (grdO (decide (IntKind.wrap .i64 ((48:Int)+Int.tmod n (10:Int))=IntKind.wrap .i64 ((48:Int)+Int.tmod n (10:Int)))) (some ())) (seqU (grdO (decide (IntKind.wrap .u8 (IntKind.wrap .i64 ((48:Int)+Int.tmod n (10:Int)))=IntKind.wrap .u8 (IntKind.wrap .i64 ((48:Int)+Int.tmod n (10:Int))))) (some ())) (some ()))))) (grdO (decide (0≤IntKind.wrap .u8 (IntKind.wrap .i64 ((48:Int)+Int.tmod n (10:Int))))&&decide (IntKind.wrap .u8 (IntKind.wrap .i64 ((48:Int)+Int.tmod n (10:Int)))≤255)) (seqU (seqU (grdO (decide (n=n)) (some ())) (seqU (grdO (decide (IntKind.wrap .i64 (Int.tdiv n (10:Int))=IntKind.wrap .i64 (Int.tdiv n (10:Int)))) (some ())) (some ()))) (grdO (decide (List.length y+1≤9223372036854775807)) (some (y++[UInt8.ofNat (Int.toNat (IntKind.wrap .u8 (IntKind.wrap .i64 ((48:Int)+Int.tmod n (10:Int)))))]))))))
     (grdO (decide (0≤IntKind.wrap .u8 (IntKind.wrap .i64 ((48:Int)+Int.tmod n (10:Int))))&&decide (IntKind.wrap .u8 (IntKind.wrap .i64 ((48:Int)+Int.tmod n (10:Int)))≤255)) (seqU (seqU (grdO (decide (n=n)) (some ())) (seqU (grdO (decide (IntKind.wrap .i64 (Int.tdiv n (10:Int))=IntKind.wrap .i64 (Int.tdiv n (10:Int)))) (some ())) (some ()))) (zAA (R274 (IntKind.wrap .i64 (Int.tdiv n (10:Int)))) fun y =>
     seqU (seqU (grdO (decide (n=n)) (some ())) (seqU (grdO (decide (Int.tmod n (10:Int)=Int.tmod n (10:Int))) (some ())) (seqU (grdO (decide (IntKind.wrap .i64 ((48:Int)+Int.tmod n (10:Int))=IntKind.wrap .i64 ((48:Int)+Int.tmod n (10:Int)))) (some ())) (seqU (grdO (decide (IntKind.wrap .u8 (IntKind.wrap .i64 ((48:Int)+Int.tmod n (10:Int)))=IntKind.wrap .u8 (IntKind.wrap .i64 ((48:Int)+Int.tmod n (10:Int))))) (some ())) (seqU (grdO (decide ([UInt8.ofNat (Int.toNat (IntKind.wrap .u8 (IntKind.wrap .i64 ((48:Int)+Int.tmod n (10:Int)))))]=[UInt8.ofNat (Int.toNat (IntKind.wrap .u8 (IntKind.wrap .i64 ((48:Int)+Int.tmod n (10:Int)))))])) (some ())) (some ())))))) (grdO (decide (List.length y+1≤9223372036854775807)) (some (y++[UInt8.ofNat (Int.toNat (IntKind.wrap .u8 (IntKind.wrap .i64 ((48:Int)+Int.tmod n (10:Int)))))])))))))))
theorem r274 (R274:Int→Option (List UInt8))(x:Int):funT T (insT 274 (zTb R274) tb322) tp274 28 noIv (bodyOf Tryz.f274) ti274 zTY x=H274 R274 x:=by kernel_rfl
def G274:Nat→Int→Option (List UInt8)
 |0=>fun _=>none
 |n+1=>H274 (G274 n)
theorem cR274:∀n,zHY Tryz.prog 274 (zTb (G274 n)).W
 |0=>fun args ob K ⟨x,y,v,obs,h1,h2,h3,_⟩=>by cases h3
 |n+1=>zUe (TbOk.ins ok322 (cR274 n)) layOk mixed true [] ti274 zTY [] tp274 noIv func274 rfl results274 ntmps274 (by kernel_rfl) (by kernel_rfl) call274 (G274 (n+1)) fun x _ h=>(r274 (G274 n) x).trans h
def F274:Int→Option (List UInt8):=G274 24
def te274:TEnt:=zTb F274
def tb274:=insT 274 te274 tb322
theorem ok274:TbOk Tryz.prog tb274:=TbOk.ins ok322 (cR274 24)
abbrev ti154:SPat:=⟨[(0,.agg (pl [.i .i64,.s,.i .i64,.i .i64])),(1,.i .i64)],[]⟩
abbrev to154:SPat:=⟨[(4,.i .i64)],[]⟩
def F154:(Cst)×Int→Option (Int):=fun((a0,a1,a2,a3),left) =>
 cndO (decide (IntKind.wrap .i64 (left-(a1.length:Int))<0))
 (some ((-1:Int)))
 (some (IntKind.wrap .i64 (left-(a1.length:Int))))
def tb154:=insT 154 (mkE 154 true [] ti154 to154 F154 [.tmp 4] 13 []) tb274
theorem ok154:TbOk Tryz.prog tb154:=okI ok274 noPl noIv func154 rfl call154
abbrev ti71:SPat:=⟨[(0,.sl tg27),(1,.i .i64)],[]⟩
abbrev to71:SPat:=⟨[(4,.i .i64)],[]⟩
abbrev ts71_5:SPat:=⟨[(0,.sl tg27),(1,.i .i64),(5,.i .i64)],[]⟩
abbrev zNp:SPat:=⟨[(1,.i .i64)],[]⟩
def tv71:Nat→Option SPat:=fun k=>bif k==5 then some ts71_5 else bif k==2000000 then some zNp else none
def F71:List Cst×Int→Option (Int):=fun(a,left) =>
 cndO (decide (IntKind.wrap .i64 (left-(a.length:Int))<0))
 (some ((-1:Int)))
 (bindE (zAD (fun(a1,left1,i) =>
 cndO (decide (i<(a1.length:Int)))
 (grdO (decide (0≤i)) (atO (a1) i.toNat fun x=>zAA (F154 ((x.1,x.2.1,x.2.2.1,x.2.2.2),left1)) fun y =>
 cndO (decide (y<0))
 (some (inr (inr (-1:Int))))
 (some (inl (a1,y,IntKind.wrap .i64 (i+1))))))
 (some (inr (inl left1)))) ((a,IntKind.wrap .i64 (left-(a.length:Int)),(0:Int)))) fun left1 =>
 some (left1))
def tb71:=insT 71 (mkE 71 true [] ti71 to71 F71 [.tmp 4] 27 []) tb154
theorem ok71:TbOk Tryz.prog tb71:=okI ok154 noPl tv71 func71 rfl call71
abbrev ti72:SPat:=⟨[(0,.sl (.int .i64)),(1,.i .i64)],[]⟩
abbrev to72:SPat:=⟨[(4,.i .i64)],[]⟩
def F72:List Int×Int→Option (Int):=fun(a,left) =>
 cndO (decide (IntKind.wrap .i64 (left-(a.length:Int))<0))
 (some ((-1:Int)))
 (some (IntKind.wrap .i64 (left-(a.length:Int))))
def tb72:=insT 72 (mkE 72 true [] ti72 to72 F72 [.tmp 4] 12 []) tb71
theorem ok72:TbOk Tryz.prog tb72:=okI ok71 noPl noIv func72 rfl call72
abbrev ti73:SPat:=⟨[(0,.sl tg89),(1,.i .i64)],[]⟩
abbrev to73:SPat:=⟨[(4,.i .i64)],[]⟩
def F73:List (Int×Int×Int)×Int→Option (Int):=fun(a,left) =>
 cndO (decide (IntKind.wrap .i64 (left-(a.length:Int))<0))
 (some ((-1:Int)))
 (some (IntKind.wrap .i64 (left-(a.length:Int))))
def tb73:=insT 73 (mkE 73 true [] ti73 to73 F73 [.tmp 4] 12 []) tb72
theorem ok73:TbOk Tryz.prog tb73:=okI ok72 noPl noIv func73 rfl call73
abbrev ti229:SPat:=⟨[(0,.sl zBq),(1,.i .i64)],[]⟩
abbrev to229:SPat:=⟨[(4,.i .i64)],[]⟩
def F229:List (Int×Int×Int×Int)×Int→Option (Int):=fun(a,left) =>
 cndO (decide (IntKind.wrap .i64 (left-(a.length:Int))<0))
 (some ((-1:Int)))
 (some (IntKind.wrap .i64 (left-(a.length:Int))))
def tb229:=insT 229 (mkE 229 true [] ti229 to229 F229 [.tmp 4] 12 []) tb73
theorem ok229:TbOk Tryz.prog tb229:=okI ok73 noPl noIv func229 rfl call229
abbrev ti318:SPat:=⟨[(0,.sl zAg),(1,.i .i64)],[]⟩
abbrev to318:SPat:=⟨[(4,.i .i64)],[]⟩
def F318:List (Int×Int)×Int→Option (Int):=fun(a,left) =>
 cndO (decide (IntKind.wrap .i64 (left-(a.length:Int))<0))
 (some ((-1:Int)))
 (some (IntKind.wrap .i64 (left-(a.length:Int))))
def tb318:=insT 318 (mkE 318 true [] ti318 to318 F318 [.tmp 4] 12 []) tb229
theorem ok318:TbOk Tryz.prog tb318:=okI ok229 noPl noIv func318 rfl call318
abbrev ti283:SPat:=⟨[(0,.agg (pl [.i .i64,.sl zAg,.sl zAg])),(1,.i .i64)],[]⟩
abbrev to283:SPat:=⟨[(4,.i .i64)],[]⟩
def F283:(Frm)×Int→Option (Int):=fun((a0,a1,a2),left) =>
 zAA (F318 (a1,left)) fun y =>
 cndO (decide (y<0))
 (some ((-1:Int)))
 (zAA (F318 (a2,y)) fun y1 =>
 cndO (decide (y1<0))
 (some ((-1:Int)))
 (some (y1)))
def tb283:=insT 283 (mkE 283 true [] ti283 to283 F283 [.tmp 4] 18 []) tb318
theorem ok283:TbOk Tryz.prog tb283:=okI ok318 noPl noIv func283 rfl call283
abbrev ti230:SPat:=⟨[(0,.sl zBL),(1,.i .i64)],[]⟩
abbrev to230:SPat:=⟨[(4,.i .i64)],[]⟩
abbrev ts230_5:SPat:=⟨[(0,.sl zBL),(1,.i .i64),(5,.i .i64)],[]⟩
abbrev zKb:SPat:=⟨[(1,.i .i64)],[]⟩
def tv230:Nat→Option SPat:=fun k=>bif k==5 then some ts230_5 else bif k==2000000 then some zKb else none
def F230:List Frm×Int→Option (Int):=fun(a,left) =>
 cndO (decide (IntKind.wrap .i64 (left-(a.length:Int))<0))
 (some ((-1:Int)))
 (bindE (zAD (fun(a1,left1,i) =>
 cndO (decide (i<(a1.length:Int)))
 (grdO (decide (0≤i)) (atO (a1) i.toNat fun x=>zAA (F283 ((x.1,x.2.1,x.2.2),left1)) fun y =>
 cndO (decide (y<0))
 (some (inr (inr (-1:Int))))
 (some (inl (a1,y,IntKind.wrap .i64 (i+1))))))
 (some (inr (inl left1)))) ((a,IntKind.wrap .i64 (left-(a.length:Int)),(0:Int)))) fun left1 =>
 some (left1))
def tb230:=insT 230 (mkE 230 true [] ti230 to230 F230 [.tmp 4] 27 []) tb283
theorem ok230:TbOk Tryz.prog tb230:=okI ok283 noPl tv230 func230 rfl call230
abbrev ti155:SPat:=⟨[(0,.agg (pl plM)),(1,.i .i64)],[]⟩
abbrev to155:SPat:=⟨[(4,.i .i64)],[]⟩
def F155:(Mth)×Int→Option (Int):=fun((a0,a1,a2,a3,a4,a5,a6,a7),left) =>
 cndO (decide (IntKind.wrap .i64 (left-(a5.length:Int))<0))
 (some ((-1:Int)))
 (zAA (F229 (a6,IntKind.wrap .i64 (left-(a5.length:Int)))) fun y =>
 cndO (decide (y<0))
 (some ((-1:Int)))
 (zAA (F230 (a7,y)) fun y1 =>
 cndO (decide (y1<0))
 (some ((-1:Int)))
 (some (y1))))
def tb155:=insT 155 (mkE 155 true [] ti155 to155 F155 [.tmp 4] 25 []) tb230
theorem ok155:TbOk Tryz.prog tb155:=okI ok230 noPl noIv func155 rfl call155
abbrev ti74:SPat:=⟨[(0,.sl tg53),(1,.i .i64)],[]⟩
abbrev to74:SPat:=⟨[(4,.i .i64)],[]⟩
abbrev ts74_5:SPat:=⟨[(0,.sl tg53),(1,.i .i64),(5,.i .i64)],[]⟩
abbrev zNo:SPat:=⟨[(1,.i .i64)],[]⟩
def tv74:Nat→Option SPat:=fun k=>bif k==5 then some ts74_5 else bif k==2000000 then some zNo else none
def F74:List Mth×Int→Option (Int):=fun(a,left) =>
 cndO (decide (IntKind.wrap .i64 (left-(a.length:Int))<0))
 (some ((-1:Int)))
 (bindE (zAD (fun(a1,left1,i) =>
 cndO (decide (i<(a1.length:Int)))
 (grdO (decide (0≤i)) (atO (a1) i.toNat fun x=>zAA (F155 ((x.1,x.2.1,x.2.2.1,x.2.2.2.1,x.2.2.2.2.1,x.2.2.2.2.2.1,x.2.2.2.2.2.2.1,x.2.2.2.2.2.2.2),left1)) fun y =>
 cndO (decide (y<0))
 (some (inr (inr (-1:Int))))
 (some (inl (a1,y,IntKind.wrap .i64 (i+1))))))
 (some (inr (inl left1)))) ((a,IntKind.wrap .i64 (left-(a.length:Int)),(0:Int)))) fun left1 =>
 some (left1))
def tb74:=insT 74 (mkE 74 true [] ti74 to74 F74 [.tmp 4] 27 []) tb155
theorem ok74:TbOk Tryz.prog tb74:=okI ok155 noPl tv74 func74 rfl call74
abbrev ti23:SPat:=⟨[(0,.agg (pl plC)),(1,.i .i64)],[]⟩
abbrev to23:SPat:=⟨[(4,.i .i64)],[]⟩
def F23:(Cls)×Int→Option (Int):=fun((a0,a1,a2,a3,a4,a5,a6),left) =>
 zAA (F71 (a0,left)) fun y =>
 cndO (decide (y<0))
 (some ((-1:Int)))
 (zAA (F72 (a4,y)) fun y1 =>
 cndO (decide (y1<0))
 (some ((-1:Int)))
 (zAA (F73 (a5,y1)) fun y2 =>
 cndO (decide (y2<0))
 (some ((-1:Int)))
 (zAA (F74 (a6,y2)) fun y3 =>
 cndO (decide (y3<0))
 (some ((-1:Int)))
 (some (y3)))))
def tb23:=insT 23 (mkE 23 true [] ti23 to23 F23 [.tmp 4] 30 []) tb74
theorem ok23:TbOk Tryz.prog tb23:=okI ok74 noPl noIv func23 rfl call23
abbrev ti156:SPat:=⟨[(0,.agg (pl [.i .i64,.s,.i .i64,.i .i64]))],[]⟩
abbrev to156:SPat:=⟨[(2,.ptr 2 0)],[.box 2 (pl [.i .i64,.s,.i .i64,.i .i64])]⟩
def F156:Cst→Option (Cst):=fun(a0,a1,a2,a3) =>
 some ((a0,a1,a2,a3))
def tb156:=insT 156 (mkE 156 true [] ti156 to156 F156 [.cell 2 27] 17 []) tb23
theorem ok156:TbOk Tryz.prog tb156:=okI ok23 noPl noIv func156 rfl call156
abbrev ti75:SPat:=⟨[(0,.sl tg27)],[]⟩
abbrev to75:SPat:=⟨[(2,.own tg27 true)],[]⟩
abbrev ts75_3:SPat:=⟨[(0,.sl tg27),(3,.own tg27 true),(4,.i .i64)],[]⟩
abbrev zNn:SPat:=⟨[(3,.own tg27 true)],[]⟩
def tv75:Nat→Option SPat:=fun k=>bif k==3 then some ts75_3 else bif k==2000000 then some zNn else none
def F75:List Cst→Option (List Cst):=fun a =>
 grdO (decide ((a.length:Int)=(a.length:Int))&&decide (0≤(a.length:Int))&&decide ((a.length:Int)≤9223372036854775807)&&decide ((a.length:Int)*40≤140737488355328)) (bindE (Y:=List Cst) (zAD (fun(a1,out,i) =>
 cndO (decide (i<(a1.length:Int)))
 (grdO (decide (0≤i)) (atO (a1) i.toNat fun x=>zAA (F156 (x.1,x.2.1,x.2.2.1,x.2.2.2)) fun(y,y1,y2,y3) =>
 grdO (decide (0≤i)&&decide (i<(out.length:Int))) (atO (out) i.toNat fun x1=>some (inl (a1,List.set out i.toNat (y,y1,y2,y3),IntKind.wrap .i64 (i+1))))))
 (some (inr (inl out)))) ((a,List.replicate (Int.toNat (a.length:Int)) ((0:Int),[],(0:Int),(0:Int)),(0:Int)))) fun out =>
 some (out))
def tb75:=insT 75 (mkE 75 true [] ti75 to75 F75 [.tmp 2] 23 []) tb156
theorem ok75:TbOk Tryz.prog tb75:=okI ok156 noPl tv75 func75 rfl call75
abbrev ti76:SPat:=⟨[(0,.sl (.int .i64))],[]⟩
abbrev to76:SPat:=⟨[(2,.own (.int .i64) true)],[]⟩
abbrev ts76_3:SPat:=⟨[(0,.sl (.int .i64)),(3,.own (.int .i64) true),(4,.i .i64)],[]⟩
abbrev zNm:SPat:=⟨[(3,.own (.int .i64) true)],[]⟩
def tv76:Nat→Option SPat:=fun k=>bif k==3 then some ts76_3 else bif k==2000000 then some zNm else none
def F76:List Int→Option (List Int):=fun a =>
 grdO (decide ((a.length:Int)=(a.length:Int))&&decide (0≤(a.length:Int))&&decide ((a.length:Int)≤9223372036854775807)&&decide ((a.length:Int)*8≤140737488355328)) (bindE (Y:=List Int) (zAD (fun(a1,out,i) =>
 cndO (decide (i<(a1.length:Int)))
 (grdO (decide (0≤i)) (atO (a1) i.toNat fun x=>grdO (decide (0≤i)&&decide (i<(out.length:Int))) (atO (out) i.toNat fun x1=>some (inl (a1,List.set out i.toNat x,IntKind.wrap .i64 (i+1))))))
 (some (inr (inl out)))) ((a,List.replicate (Int.toNat (a.length:Int)) (0:Int),(0:Int)))) fun out =>
 some (out))
def tb76:=insT 76 (mkE 76 true [] ti76 to76 F76 [.tmp 2] 22 []) tb75
theorem ok76:TbOk Tryz.prog tb76:=okI ok75 noPl tv76 func76 rfl call76
abbrev ti157:SPat:=⟨[(0,.agg (pl [.i .i64,.i .i64,.i .i64]))],[]⟩
abbrev to157:SPat:=⟨[(2,.ptr 2 0)],[.box 2 (pl [.i .i64,.i .i64,.i .i64])]⟩
def F157:Int×Int×Int→Option (Int×Int×Int):=fun(a0,a1,a2) =>
 some ((a0,a1,a2))
def tb157:=insT 157 (mkE 157 true [] ti157 to157 F157 [.cell 2 89] 14 []) tb76
theorem ok157:TbOk Tryz.prog tb157:=okI ok76 noPl noIv func157 rfl call157
abbrev ti77:SPat:=⟨[(0,.sl tg89)],[]⟩
abbrev to77:SPat:=⟨[(2,.own tg89 true)],[]⟩
abbrev ts77_3:SPat:=⟨[(0,.sl tg89),(3,.own tg89 true),(4,.i .i64)],[]⟩
abbrev zNl:SPat:=⟨[(3,.own tg89 true)],[]⟩
def tv77:Nat→Option SPat:=fun k=>bif k==3 then some ts77_3 else bif k==2000000 then some zNl else none
def F77:List (Int×Int×Int)→Option (List (Int×Int×Int)):=fun a =>
 grdO (decide ((a.length:Int)=(a.length:Int))&&decide (0≤(a.length:Int))&&decide ((a.length:Int)≤9223372036854775807)&&decide ((a.length:Int)*24≤140737488355328)) (bindE (Y:=List (Int×Int×Int)) (zAD (fun(a1,out,i) =>
 cndO (decide (i<(a1.length:Int)))
 (grdO (decide (0≤i)) (atO (a1) i.toNat fun x=>zAA (F157 (x.1,x.2.1,x.2.2)) fun(y,y1,y2) =>
 grdO (decide (0≤i)&&decide (i<(out.length:Int))) (atO (out) i.toNat fun x1=>some (inl (a1,List.set out i.toNat (y,y1,y2),IntKind.wrap .i64 (i+1))))))
 (some (inr (inl out)))) ((a,List.replicate (Int.toNat (a.length:Int)) ((0:Int),(0:Int),(0:Int)),(0:Int)))) fun out =>
 some (out))
def tb77:=insT 77 (mkE 77 true [] ti77 to77 F77 [.tmp 2] 23 []) tb157
theorem ok77:TbOk Tryz.prog tb77:=okI ok157 noPl tv77 func77 rfl call77
abbrev ti284:SPat:=⟨[(0,.agg (pl [.i .i64,.i .i64,.i .i64,.i .i64]))],[]⟩
abbrev to284:SPat:=⟨[(2,.ptr 2 0)],[.box 2 (pl [.i .i64,.i .i64,.i .i64,.i .i64])]⟩
def F284:Int×Int×Int×Int→Option (Int×Int×Int×Int):=fun(a0,a1,a2,a3) =>
 some ((a0,a1,a2,a3))
def tb284:=insT 284 (mkE 284 true [] ti284 to284 F284 [.cell 2 147] 17 []) tb77
theorem ok284:TbOk Tryz.prog tb284:=okI ok77 noPl noIv func284 rfl call284
abbrev ti231:SPat:=⟨[(0,.sl zBq)],[]⟩
abbrev to231:SPat:=⟨[(2,.own zBq true)],[]⟩
abbrev ts231_3:SPat:=⟨[(0,.sl zBq),(3,.own zBq true),(4,.i .i64)],[]⟩
abbrev zKa:SPat:=⟨[(3,.own zBq true)],[]⟩
def tv231:Nat→Option SPat:=fun k=>bif k==3 then some ts231_3 else bif k==2000000 then some zKa else none
def F231:List (Int×Int×Int×Int)→Option (List (Int×Int×Int×Int)):=fun a =>
 grdO (decide ((a.length:Int)=(a.length:Int))&&decide (0≤(a.length:Int))&&decide ((a.length:Int)≤9223372036854775807)&&decide ((a.length:Int)*32≤140737488355328)) (bindE (Y:=List (Int×Int×Int×Int)) (zAD (fun(a1,out,i) =>
 cndO (decide (i<(a1.length:Int)))
 (grdO (decide (0≤i)) (atO (a1) i.toNat fun x=>zAA (F284 (x.1,x.2.1,x.2.2.1,x.2.2.2)) fun(y,y1,y2,y3) =>
 grdO (decide (0≤i)&&decide (i<(out.length:Int))) (atO (out) i.toNat fun x1=>some (inl (a1,List.set out i.toNat (y,y1,y2,y3),IntKind.wrap .i64 (i+1))))))
 (some (inr (inl out)))) ((a,List.replicate (Int.toNat (a.length:Int)) ((0:Int),(0:Int),(0:Int),(0:Int)),(0:Int)))) fun out =>
 some (out))
def tb231:=insT 231 (mkE 231 true [] ti231 to231 F231 [.tmp 2] 23 []) tb284
theorem ok231:TbOk Tryz.prog tb231:=okI ok284 noPl tv231 func231 rfl call231
abbrev ti328:SPat:=⟨[(0,.agg (pl [.i .i64,.i .i64]))],[]⟩
abbrev to328:SPat:=⟨[(2,.ptr 2 0)],[.box 2 (pl [.i .i64,.i .i64])]⟩
def F328:Int×Int→Option (Int×Int):=fun(a0,a1) =>
 some ((a0,a1))
def tb328:=insT 328 (mkE 328 true [] ti328 to328 F328 [.cell 2 184] 11 []) tb231
theorem ok328:TbOk Tryz.prog tb328:=okI ok231 noPl noIv func328 rfl call328
abbrev ti319:SPat:=⟨[(0,.sl zAg)],[]⟩
abbrev to319:SPat:=⟨[(2,.own zAg true)],[]⟩
abbrev ts319_3:SPat:=⟨[(0,.sl zAg),(3,.own zAg true),(4,.i .i64)],[]⟩
abbrev zJt:SPat:=⟨[(3,.own zAg true)],[]⟩
def tv319:Nat→Option SPat:=fun k=>bif k==3 then some ts319_3 else bif k==2000000 then some zJt else none
def F319:List (Int×Int)→Option (List (Int×Int)):=fun a =>
 grdO (decide ((a.length:Int)=(a.length:Int))&&decide (0≤(a.length:Int))&&decide ((a.length:Int)≤9223372036854775807)&&decide ((a.length:Int)*16≤140737488355328)) (bindE (Y:=List (Int×Int)) (zAD (fun(a1,out,i) =>
 cndO (decide (i<(a1.length:Int)))
 (grdO (decide (0≤i)) (atO (a1) i.toNat fun x=>zAA (F328 (x.1,x.2)) fun(y,y1) =>
 grdO (decide (0≤i)&&decide (i<(out.length:Int))) (atO (out) i.toNat fun x1=>some (inl (a1,List.set out i.toNat (y,y1),IntKind.wrap .i64 (i+1))))))
 (some (inr (inl out)))) ((a,List.replicate (Int.toNat (a.length:Int)) ((0:Int),(0:Int)),(0:Int)))) fun out =>
 some (out))
def tb319:=insT 319 (mkE 319 true [] ti319 to319 F319 [.tmp 2] 23 []) tb328
theorem ok319:TbOk Tryz.prog tb319:=okI ok328 noPl tv319 func319 rfl call319
abbrev ti285:SPat:=⟨[(0,.agg (pl [.i .i64,.sl zAg,.sl zAg]))],[]⟩
abbrev to285:SPat:=⟨[(2,.ptr 2 0)],[.box 2 (pl [.i .i64,.own zAg true,.own zAg true])]⟩
def F285:Frm→Option (Frm):=fun(a0,a1,a2) =>
 zAA (F319 a1) fun y =>
 zAA (F319 a2) fun y1 =>
 some ((a0,y,y1))
def tb285:=insT 285 (mkE 285 true [] ti285 to285 F285 [.cell 2 100] 16 []) tb319
theorem ok285:TbOk Tryz.prog tb285:=okI ok319 noPl noIv func285 rfl call285
abbrev ti232:SPat:=⟨[(0,.sl zBL)],[]⟩
abbrev to232:SPat:=⟨[(2,.own zBL true)],[]⟩
abbrev ts232_3:SPat:=⟨[(0,.sl zBL),(3,.own zBL true),(4,.i .i64)],[]⟩
abbrev zKZ:SPat:=⟨[(3,.own zBL true)],[]⟩
def tv232:Nat→Option SPat:=fun k=>bif k==3 then some ts232_3 else bif k==2000000 then some zKZ else none
def F232:List Frm→Option (List Frm):=fun a =>
 grdO (decide ((a.length:Int)=(a.length:Int))&&decide (0≤(a.length:Int))&&decide ((a.length:Int)≤9223372036854775807)&&decide ((a.length:Int)*56≤140737488355328)) (bindE (Y:=List Frm) (zAD (fun(a1,out,i) =>
 cndO (decide (i<(a1.length:Int)))
 (grdO (decide (0≤i)) (atO (a1) i.toNat fun x=>zAA (F285 (x.1,x.2.1,x.2.2)) fun(y,y1,y2) =>
 grdO (decide (0≤i)&&decide (i<(out.length:Int))) (atO (out) i.toNat fun x1=>some (inl (a1,List.set out i.toNat (y,y1,y2),IntKind.wrap .i64 (i+1))))))
 (some (inr (inl out)))) ((a,List.replicate (Int.toNat (a.length:Int)) ((0:Int),[],[]),(0:Int)))) fun out =>
 some (out))
def tb232:=insT 232 (mkE 232 true [] ti232 to232 F232 [.tmp 2] 23 []) tb285
theorem ok232:TbOk Tryz.prog tb232:=okI ok285 noPl tv232 func232 rfl call232
abbrev ti158:SPat:=⟨[(0,.agg (pl plM))],[]⟩
abbrev to158:SPat:=⟨[(2,.ptr 2 0)],[.box 2 (pl plN)]⟩
def F158:Mth→Option (Mth):=fun(a0,a1,a2,a3,a4,a5,a6,a7) =>
 zAA (F231 a6) fun y =>
 zAA (F232 a7) fun y1 =>
 some ((a0,a1,a2,a3,a4,a5,y,y1))
def tb158:=insT 158 (mkE 158 true [] ti158 to158 F158 [.cell 2 53] 31 []) tb232
theorem ok158:TbOk Tryz.prog tb158:=okI ok232 noPl noIv func158 rfl call158
abbrev ti78:SPat:=⟨[(0,.sl tg53)],[]⟩
abbrev to78:SPat:=⟨[(2,.own tg53 true)],[]⟩
abbrev ts78_3:SPat:=⟨[(0,.sl tg53),(3,.own tg53 true),(4,.i .i64)],[]⟩
abbrev zNk:SPat:=⟨[(3,.own tg53 true)],[]⟩
def tv78:Nat→Option SPat:=fun k=>bif k==3 then some ts78_3 else bif k==2000000 then some zNk else none
def F78:List Mth→Option (List Mth):=fun a =>
 grdO (decide ((a.length:Int)=(a.length:Int))&&decide (0≤(a.length:Int))&&decide ((a.length:Int)≤9223372036854775807)&&decide ((a.length:Int)*104≤140737488355328)) (bindE (Y:=List Mth) (zAD (fun(a1,out,i) =>
 cndO (decide (i<(a1.length:Int)))
 (grdO (decide (0≤i)) (atO (a1) i.toNat fun x=>zAA (F158 (x.1,x.2.1,x.2.2.1,x.2.2.2.1,x.2.2.2.2.1,x.2.2.2.2.2.1,x.2.2.2.2.2.2.1,x.2.2.2.2.2.2.2)) fun(y,y1,y2,y3,y4,y5,x1,x2) =>
 grdO (decide (0≤i)&&decide (i<(out.length:Int))) (atO (out) i.toNat fun x3=>some (inl (a1,List.set out i.toNat (y,y1,y2,y3,y4,y5,x1,x2),IntKind.wrap .i64 (i+1))))))
 (some (inr (inl out)))) ((a,List.replicate (Int.toNat (a.length:Int)) ((0:Int),(0:Int),(0:Int),(0:Int),(0:Int),[],[],[]),(0:Int)))) fun out =>
 some (out))
def tb78:=insT 78 (mkE 78 true [] ti78 to78 F78 [.tmp 2] 23 []) tb158
theorem ok78:TbOk Tryz.prog tb78:=okI ok158 noPl tv78 func78 rfl call78
abbrev ti25:SPat:=⟨[(0,.agg (pl plC))],[]⟩
abbrev to25:SPat:=⟨[(2,.ptr 2 0)],[.box 2 (pl plD)]⟩
def F25:Cls→Option (Cls):=fun(a0,a1,a2,a3,a4,a5,a6) =>
 zAA (F75 a0) fun y =>
 zAA (F76 a4) fun y1 =>
 zAA (F77 a5) fun y2 =>
 zAA (F78 a6) fun y3 =>
 some ((y,a1,a2,a3,y1,y2,y3))
def tb25:=insT 25 (mkE 25 true [] ti25 to25 F25 [.cell 2 34] 30 []) tb78
theorem ok25:TbOk Tryz.prog tb25:=okI ok78 noPl noIv func25 rfl call25
abbrev ti69:SPat:=⟨[(0,.agg (pl plC))],[]⟩
abbrev to69:SPat:=⟨[(2,.b)],[]⟩
def F69:Cls→Option (Bool):=fun(c0,c1,c2,c3,c4,c5,c6) =>
 cndO (decide ((c0.length:Int)≤60))
 (cndO (decide ((c4.length:Int)≤3))
 (cndO (decide ((c5.length:Int)≤5))
 (some (decide ((c6.length:Int)≤6)))
 (some (false)))
 (some (false)))
 (some (false))
def tb69:=insT 69 (mkE 69 true [] ti69 to69 F69 [.tmp 2] 25 []) tb25
theorem ok69:TbOk Tryz.prog tb69:=okI ok25 noPl noIv func69 rfl call69
abbrev ti134:SPat:=⟨[(0,.i .i64)],[]⟩
abbrev to134:SPat:=⟨[(2,.s)],[]⟩
def F134:Int→Option (List UInt8):=fun n =>
 grdO (decide (0≤IntKind.wrap .u8 n)&&decide (IntKind.wrap .u8 n≤255)) (some ([UInt8.ofNat (Int.toNat (IntKind.wrap .u8 n))]))
def tb134:=insT 134 (mkE 134 true [] ti134 to134 F134 [.tmp 2] 7 []) tb69
theorem ok134:TbOk Tryz.prog tb134:=okI ok69 noPl noIv func134 rfl call134
abbrev ti136:SPat:=⟨[(0,.i .i64)],[]⟩
abbrev to136:SPat:=⟨[(2,.s)],[]⟩
def F136:Int→Option (List UInt8):=fun n =>
 grdO (decide (0≤IntKind.wrap .u8 (IntKind.wrap .i64 (Int.tdiv n (256:Int))))&&decide (IntKind.wrap .u8 (IntKind.wrap .i64 (Int.tdiv n (256:Int)))≤255)) (grdO (decide (0≤IntKind.wrap .u8 (Int.tmod n (256:Int)))&&decide (IntKind.wrap .u8 (Int.tmod n (256:Int))≤255)) (some ([UInt8.ofNat (Int.toNat (IntKind.wrap .u8 (IntKind.wrap .i64 (Int.tdiv n (256:Int))))),UInt8.ofNat (Int.toNat (IntKind.wrap .u8 (Int.tmod n (256:Int))))])))
def tb136:=insT 136 (mkE 136 true [] ti136 to136 F136 [.tmp 2] 11 []) tb134
theorem ok136:TbOk Tryz.prog tb136:=okI ok134 noPl noIv func136 rfl call136
abbrev ti135:SPat:=⟨[(0,.agg (pl [.i .i64,.s,.i .i64,.i .i64]))],[]⟩
abbrev to135:SPat:=⟨[(2,.s)],[]⟩
def tp135:Nat→List Nat×Plan:=fun id=>bif id==3 then([0,1,3,4,5,8,9],(.br 2 [1,0] [3,4,5,8,9] [] (.br 6 [5,4,3,2,1,0] [8,9] [7,10] (.br 11 [10,9,8,7,6,5,4,3,2,1,0] [] [] .fin .fin) .fin) .fin))else bif id==5 then([0,1,3,4],(.br 2 [1,0] [3,4] [] (.br 5 [4,3,2,1,0] [] [6] (.br 7 [6,5,4,3,2,1,0] [] [] .fin .fin) .fin) .fin))else bif id==6 then([0,1,3,4,7,8],(.br 2 [1,0] [3,4,7,8] [] (.br 5 [4,3,2,1,0] [7,8] [6] (.br 9 [8,7,5,4,3,2,1,0] [6] [10] (.br 11 [10,9,8,7,6,5,4,3,2,1,0] [] [] .fin .fin) .fin) .fin) .fin))else([],.fin)
def F135:Cst→Option (List UInt8):=fun(c0,c1,c2,c3) =>
 cndO (decide (c0=1))
 (zAA (F134 c0) fun y =>
 seqU (seqU (grdO (decide (c1=c1)) (some ())) (seqU (grdO (decide ((c1.length:Int)=(c1.length:Int))) (some ())) (seqU (grdO (decide (c1=c1)) (some ())) (some ())))) (zAA (F134 (c1.length:Int)) fun y1 =>
 seqU (seqU (grdO (decide (c1=c1)) (some ())) (some ())) (grdO (decide (List.length y+List.length y1≤9223372036854775807)) (grdO (decide (List.length (y++y1)+List.length c1≤9223372036854775807)) (some (y++y1++c1))))))
 (cndO (decide (c0=2))
 (zAA (F134 c0) fun y =>
 seqU (seqU (grdO (decide (c2=c2)) (some ())) (some ())) (zAA (F136 c2) fun y1 =>
 grdO (decide (List.length y+List.length y1≤9223372036854775807)) (some (y++y1))))
 (zAA (F134 c0) fun y =>
 seqU (seqU (grdO (decide (c2=c2)) (some ())) (seqU (grdO (decide (c3=c3)) (some ())) (some ()))) (zAA (F136 c2) fun y1 =>
 seqU (seqU (grdO (decide (c3=c3)) (some ())) (some ())) (grdO (decide (List.length y+List.length y1≤9223372036854775807)) (zAA (F136 c3) fun y2 =>
 seqU (seqU (grdO (decide (List.length y+List.length y1≤9223372036854775807)) (grdO (decide (y++y1=y++y1)) (some ()))) (some ())) (grdO (decide (List.length (y++y1)+List.length y2≤9223372036854775807)) (some (y++y1++y2))))))))
def tb135:=insT 135 (mkE 135 true [] ti135 to135 F135 [.tmp 2] 38 []) tb136
theorem ok135:TbOk Tryz.prog tb135:=okI ok136 tp135 noIv func135 rfl call135
abbrev ti216:SPat:=⟨[(0,.sl zAg)],[]⟩
abbrev to216:SPat:=⟨[(2,.s)],[]⟩
abbrev ts216_3:SPat:=⟨[(0,.sl zAg),(3,.s),(4,.i .i64)],[]⟩
abbrev zKm:SPat:=⟨[(3,.s)],[]⟩
abbrev zKl:SPat:=⟨[(0,.sl zAg),(3,.s),(4,.i .i64)],[]⟩
def tv216:Nat→Option SPat:=fun k=>bif k==3 then some ts216_3 else bif k==2000000 then some zKm else bif k==2000001 then some zKl else none
def F216:List (Int×Int)→Option (List UInt8):=fun list =>
 zAA (F134 (list.length:Int)) fun y =>
 bindE (Y:=List UInt8) (zAD (fun(list1,out,i) =>
 cndO (decide (i<(list1.length:Int)))
 (bindE (Y:=List (Int×Int)×List UInt8×Int) (grdO (decide (0≤i)) (atO (list1) i.toNat fun x=>zAA (F134 (x.1)) fun y1 =>
 grdO (decide (List.length out+List.length y1≤9223372036854775807)) (grdO (decide (0≤i)) (atO (list1) i.toNat fun x1=>cndO (decide (x1.1=3))
 (grdO (decide (0≤i)) (atO (list1) i.toNat fun x2=>zAA (F136 (x2.2)) fun y2 =>
 grdO (decide (List.length (out++y1)+List.length y2≤9223372036854775807)) (some (inl (list1,out++y1++y2,i)))))
 (some (inl (list1,out++y1,i))))))) fun(list2,out1,i1) =>
 some (inl (list2,out1,IntKind.wrap .i64 (i1+1))))
 (some (inr (inl out)))) ((list,y,(0:Int)))) fun out =>
 some (out)
def tb216:=insT 216 (mkE 216 true [] ti216 to216 F216 [.tmp 2] 37 []) tb135
theorem ok216:TbOk Tryz.prog tb216:=okI ok135 noPl tv216 func216 rfl call216
abbrev ti137:SPat:=⟨[(0,.agg (pl plM))],[]⟩
abbrev to137:SPat:=⟨[(2,.s)],[]⟩
abbrev ts137_6:SPat:=⟨[(1,.ptr 1 0),(3,.s),(4,.i .i64)],[.box 1 (pl plM)]⟩
abbrev ts137_12:SPat:=⟨[(1,.ptr 1 0),(3,.s),(6,.i .i64)],[.box 1 (pl plM)]⟩
abbrev zLv:SPat:=⟨[(1,.ptr 1 0),(3,.s)],[.box 1 (pl plM)]⟩
abbrev zLu:SPat:=⟨[(3,.s)],[]⟩
def tv137:Nat→Option SPat:=fun k=>bif k==6 then some ts137_6 else bif k==12 then some ts137_12 else bif k==2000000 then some zLv else bif k==2000002 then some zLu else none
def tp137:Nat→List Nat×Plan:=fun id=>bif id==1 then([0,1,3,4,7,8],(.br 2 [1,0] [3,4,7,8] [] (.br 5 [4,3,2,1,0] [7,8] [6] (.br 9 [8,7,5,4,3,2,1,0] [6] [10] (.br 11 [10,9,8,7,6,5,4,3,2,1,0] [] [] .fin .fin) .fin) .fin) .fin))else bif id==4 then([0,1,2,5,6,9,10,11,14,15,17,18,19],(.br 3 [2,1] [0,5,6,9,10,11,14,15,17,18,19] [4] (.br 7 [6,5,3,2,1] [0,9,10,11,14,15,17,18,19,4] [8] (.br 12 [11,10,9,7,6,5,3,2,1] [0,14,15,17,18,19,4,8] [13,16] (.br 20 [19,18,17,12,11,10,9,7,6,5,3,2,1] [0,14,15,4,8,13,16] [21] (.br 22 [21,20,19,18,17,16,15,14,13,12,11,10,9,8,7,6,5,4,3,2,1,0] [] [] .fin .fin) .fin) .fin) .fin) .fin))else bif id==9 then([0,1,2,5,6,9,10,13,14],(.br 3 [2,1] [0,5,6,9,10,13,14] [4] (.br 7 [6,5,3,2,1] [0,9,10,13,14,4] [8] (.br 11 [10,9,7,6,5,3,2,1] [0,13,14,4,8] [12] (.br 15 [14,13,11,10,9,7,6,5,3,2,1] [0,4,8,12] [16] (.br 17 [16,15,14,13,12,11,10,9,8,7,6,5,4,3,2,1,0] [] [] .fin .fin) .fin) .fin) .fin) .fin))else bif id==14 then([0,1,2,3,4,5,6,9,10,11,12,13,14,17,18,19,20,21,22],(.br 7 [6,5,4,3,2,1] [0,9,10,11,12,13,14,17,18,19,20,21,22] [8] (.br 15 [14,13,12,11,10,9,7,6,5,4,3,2,1] [0,17,18,19,20,21,22,8] [16] (.br 23 [22,21,20,19,18,17,15,14,13,12,11,10,9,7,6,5,4,3,2,1] [0,8,16] [24] (.br 25 [24,23,22,21,20,19,18,17,16,15,14,13,12,11,10,9,8,7,6,5,4,3,2,1,0] [] [] .fin .fin) .fin) .fin) .fin))else([],.fin)
def F137:Mth→Option (List UInt8):=fun(app0,app1,app2,app3,app4,app5,app6,app7) =>
 zAA (F134 app0) fun y =>
 seqU (seqU (grdO (decide (app1=app1)) (some ())) (seqU (grdO (decide (app2=app2)) (some ())) (some ()))) (zAA (F136 app1) fun y1 =>
 seqU (seqU (grdO (decide (app2=app2)) (some ())) (some ())) (grdO (decide (List.length y+List.length y1≤9223372036854775807)) (zAA (F136 app2) fun y2 =>
 seqU (seqU (grdO (decide (List.length y+List.length y1≤9223372036854775807)) (grdO (decide (y++y1=y++y1)) (some ()))) (some ())) (grdO (decide (List.length (y++y1)+List.length y2≤9223372036854775807)) (cndO (decide (IntKind.wrap .i64 (Int.tdiv (Int.tmod app0 (16:Int)) (8:Int))=1))
 (some (y++y1++y2))
 (zAA (F134 app3) fun y3 =>
 seqU (seqU (grdO (decide (y++y1++y2=y++y1++y2)) (some ())) (seqU (grdO (decide (app4=app4)) (some ())) (seqU (grdO (decide (app5=app5)) (some ())) (seqU (grdO (decide ((app5.length:Int)=(app5.length:Int))) (some ())) (seqU (grdO (decide (app5=app5)) (some ())) (seqU (grdO (decide (app6=app6)) (some ())) (seqU (grdO (decide ((app6.length:Int)=(app6.length:Int))) (some ())) (some ())))))))) (grdO (decide (List.length (y++y1++y2)+List.length y3≤9223372036854775807)) (zAA (F134 app4) fun y4 =>
 seqU (seqU (grdO (decide (y++y1++y2=y++y1++y2)) (some ())) (seqU (grdO (decide (app5=app5)) (some ())) (seqU (grdO (decide ((app5.length:Int)=(app5.length:Int))) (some ())) (seqU (grdO (decide (app5=app5)) (some ())) (seqU (grdO (decide (app6=app6)) (some ())) (seqU (grdO (decide ((app6.length:Int)=(app6.length:Int))) (some ())) (seqU (grdO (decide (List.length (y++y1++y2)+List.length y3≤9223372036854775807)) (grdO (decide (y++y1++y2++y3=y++y1++y2++y3)) (some ()))) (some ())))))))) (grdO (decide (List.length (y++y1++y2++y3)+List.length y4≤9223372036854775807)) (zAA (F136 (app5.length:Int)) fun y5 =>
 seqU (seqU (grdO (decide (y++y1++y2=y++y1++y2)) (some ())) (seqU (grdO (decide (app5=app5)) (some ())) (seqU (grdO (decide (app6=app6)) (some ())) (seqU (grdO (decide ((app6.length:Int)=(app6.length:Int))) (some ())) (seqU (grdO (decide (List.length (y++y1++y2)+List.length y3≤9223372036854775807)) (grdO (decide (y++y1++y2++y3=y++y1++y2++y3)) (some ()))) (seqU (grdO (decide (List.length (y++y1++y2++y3)+List.length y4≤9223372036854775807)) (grdO (decide (y++y1++y2++y3++y4=y++y1++y2++y3++y4)) (some ()))) (some ()))))))) (grdO (decide (List.length (y++y1++y2++y3++y4)+List.length y5≤9223372036854775807)) (grdO (decide (List.length (y++y1++y2++y3++y4++y5)+List.length app5≤9223372036854775807)) (zAA (F134 (app6.length:Int)) fun y6 =>
 seqU (seqU (grdO (decide (y++y1++y2=y++y1++y2)) (some ())) (seqU (grdO (decide (app5=app5)) (some ())) (seqU (grdO (decide (List.length (y++y1++y2)+List.length y3≤9223372036854775807)) (grdO (decide (y++y1++y2++y3=y++y1++y2++y3)) (some ()))) (seqU (grdO (decide (List.length (y++y1++y2++y3)+List.length y4≤9223372036854775807)) (grdO (decide (y++y1++y2++y3++y4=y++y1++y2++y3++y4)) (some ()))) (seqU (grdO (decide (List.length (y++y1++y2++y3++y4)+List.length y5≤9223372036854775807)) (grdO (decide (y++y1++y2++y3++y4++y5=y++y1++y2++y3++y4++y5)) (some ()))) (seqU (grdO (decide (List.length (y++y1++y2++y3++y4++y5)+List.length app5≤9223372036854775807)) (grdO (decide (y++y1++y2++y3++y4++y5++app5=y++y1++y2++y3++y4++y5++app5)) (some ()))) (some ()))))))) (grdO (decide (List.length (y++y1++y2++y3++y4++y5++app5)+List.length y6≤9223372036854775807)) (bindE (Y:=List UInt8×Mth) (zAD (fun(v3,v4,o0,o1,o2,o3,o4,o5,o6,o7) =>
 cndO (decide (v4<(o6.length:Int)))
 (grdO (decide (0≤v4)) (atO (o6) v4.toNat fun x=>zAA (F136 (x.1)) fun y7 =>
 seqU (seqU (grdO (decide (v3=v3)) (some ())) (seqU (grdO (decide (x.2.1=x.2.1)) (some ())) (seqU (grdO (decide (x.2.2.1=x.2.2.1)) (some ())) (seqU (grdO (decide (x.2.2.2=x.2.2.2)) (some ())) (some ()))))) (grdO (decide (List.length v3+List.length y7≤9223372036854775807)) (zAA (F136 (x.2.1)) fun y8 =>
 seqU (seqU (grdO (decide (v3=v3)) (some ())) (seqU (grdO (decide (x.2.2.1=x.2.2.1)) (some ())) (seqU (grdO (decide (x.2.2.2=x.2.2.2)) (some ())) (seqU (grdO (decide (List.length v3+List.length y7≤9223372036854775807)) (grdO (decide (v3++y7=v3++y7)) (some ()))) (some ()))))) (grdO (decide (List.length (v3++y7)+List.length y8≤9223372036854775807)) (zAA (F136 (x.2.2.1)) fun y9 =>
 seqU (seqU (grdO (decide (v3=v3)) (some ())) (seqU (grdO (decide (x.2.2.2=x.2.2.2)) (some ())) (seqU (grdO (decide (List.length v3+List.length y7≤9223372036854775807)) (grdO (decide (v3++y7=v3++y7)) (some ()))) (seqU (grdO (decide (List.length (v3++y7)+List.length y8≤9223372036854775807)) (grdO (decide (v3++y7++y8=v3++y7++y8)) (some ()))) (some ()))))) (grdO (decide (List.length (v3++y7++y8)+List.length y9≤9223372036854775807)) (zAA (F136 (x.2.2.2)) fun y10 =>
 seqU (seqU (grdO (decide (v3=v3)) (some ())) (seqU (grdO (decide (List.length v3+List.length y7≤9223372036854775807)) (grdO (decide (v3++y7=v3++y7)) (some ()))) (seqU (grdO (decide (List.length (v3++y7)+List.length y8≤9223372036854775807)) (grdO (decide (v3++y7++y8=v3++y7++y8)) (some ()))) (seqU (grdO (decide (List.length (v3++y7++y8)+List.length y9≤9223372036854775807)) (grdO (decide (v3++y7++y8++y9=v3++y7++y8++y9)) (some ()))) (some ()))))) (grdO (decide (List.length (v3++y7++y8++y9)+List.length y10≤9223372036854775807)) (some (inl (v3++y7++y8++y9++y10,IntKind.wrap .i64 (v4+1),o0,o1,o2,o3,o4,o5,o6,o7))))))))))))
 (some (inr (inl (v3,o0,o1,o2,o3,o4,o5,o6,o7))))) ((y++y1++y2++y3++y4++y5++app5++y6,(0:Int),app0,app1,app2,app3,app4,app5,app6,app7))) fun(v3,o0,o1,o2,o3,o4,o5,o6,o7) =>
 zAA (F134 (o7.length:Int)) fun y7 =>
 grdO (decide (List.length v3+List.length y7≤9223372036854775807)) (bindE (Y:=List UInt8) (zAD (fun(v31,v6,o01,o11,o21,o31,o41,o51,o61,o71) =>
 cndO (decide (v6<(o71.length:Int)))
 (grdO (decide (0≤v6)) (atO (o71) v6.toNat fun x=>grdO (decide (0≤v6)) (atO (o71) v6.toNat fun x1=>grdO (decide (0≤v6)) (atO (o71) v6.toNat fun x2=>zAA (F136 (x.1)) fun y8 =>
 seqU (seqU (grdO (decide (v31=v31)) (some ())) (seqU (grdO (decide (o71=o71)) (some ())) (seqU (grdO (decide (v6=v6)) (some ())) (seqU (grdO (decide (0≤v6)) (atO (o71) v6.toNat fun x3=>grdO (decide (x3.1=x1.1)&&(decide (x3.2.1=x1.2.1)&&(decide (x3.2.2=x1.2.2)&&true))) (some ()))) (seqU (grdO (decide (x1.2.1=x1.2.1)&&(decide (x1.2.2=x1.2.2)&&true)) (some ())) (seqU (grdO (decide (x1.2.1=x1.2.1)) (some ())) (seqU (grdO (decide (o71=o71)) (some ())) (seqU (grdO (decide (v6=v6)) (some ())) (seqU (grdO (decide (0≤v6)) (atO (o71) v6.toNat fun x3=>grdO (decide (x3.1=x2.1)&&(decide (x3.2.1=x2.2.1)&&(decide (x3.2.2=x2.2.2)&&true))) (some ()))) (seqU (grdO (decide (x2.2.2=x2.2.2)&&true) (some ())) (seqU (grdO (decide (x2.2.2=x2.2.2)) (some ())) (some ())))))))))))) (grdO (decide (List.length v31+List.length y8≤9223372036854775807)) (zAA (F216 (x1.2.1)) fun y9 =>
 seqU (seqU (grdO (decide (v31=v31)) (some ())) (seqU (grdO (decide (o71=o71)) (some ())) (seqU (grdO (decide (v6=v6)) (some ())) (seqU (grdO (decide (0≤v6)) (atO (o71) v6.toNat fun x3=>grdO (decide (x3.1=x2.1)&&(decide (x3.2.1=x2.2.1)&&(decide (x3.2.2=x2.2.2)&&true))) (some ()))) (seqU (grdO (decide (x2.2.2=x2.2.2)&&true) (some ())) (seqU (grdO (decide (x2.2.2=x2.2.2)) (some ())) (seqU (grdO (decide (List.length v31+List.length y8≤9223372036854775807)) (grdO (decide (v31++y8=v31++y8)) (some ()))) (some ())))))))) (grdO (decide (List.length (v31++y8)+List.length y9≤9223372036854775807)) (zAA (F216 (x2.2.2)) fun y10 =>
 seqU (seqU (grdO (decide (v31=v31)) (some ())) (seqU (grdO (decide (List.length v31+List.length y8≤9223372036854775807)) (grdO (decide (v31++y8=v31++y8)) (some ()))) (seqU (grdO (decide (List.length (v31++y8)+List.length y9≤9223372036854775807)) (grdO (decide (v31++y8++y9=v31++y8++y9)) (some ()))) (some ())))) (grdO (decide (List.length (v31++y8++y9)+List.length y10≤9223372036854775807)) (some (inl (v31++y8++y9++y10,IntKind.wrap .i64 (v6+1),o01,o11,o21,o31,o41,o51,o61,o71))))))))))))
 (some (inr (inl v31)))) ((v3++y7,(0:Int),o0,o1,o2,o3,o4,o5,o6,o7))) fun v31 =>
 some (v31)))))))))))))))))
def tb137:=insT 137 (mkE 137 true [] ti137 to137 F137 [.tmp 2] 114 []) tb216
theorem ok137:TbOk Tryz.prog tb137:=okI ok216 tp137 tv137 func137 rfl call137
abbrev ti55:SPat:=⟨[(0,.agg (pl plC))],[]⟩
abbrev to55:SPat:=⟨[(2,.s)],[]⟩
abbrev ts55_3:SPat:=⟨[(1,.ptr 1 0),(3,.s),(4,.i .i64)],[.box 1 (pl plC)]⟩
abbrev ts55_8:SPat:=⟨[(1,.ptr 1 0),(3,.s),(5,.i .i64)],[.box 1 (pl plC)]⟩
abbrev ts55_13:SPat:=⟨[(1,.ptr 1 0),(3,.s),(6,.i .i64)],[.box 1 (pl plC)]⟩
abbrev ts55_18:SPat:=⟨[(1,.ptr 1 0),(3,.s),(7,.i .i64)],[.box 1 (pl plC)]⟩
abbrev zOT:SPat:=⟨[(1,.ptr 1 0),(3,.s)],[.box 1 (pl plC)]⟩
abbrev zOS:SPat:=⟨[(1,.ptr 1 0),(3,.s)],[.box 1 (pl plC)]⟩
abbrev zOR:SPat:=⟨[(1,.ptr 1 0),(3,.s)],[.box 1 (pl plC)]⟩
abbrev zOQ:SPat:=⟨[(3,.s)],[]⟩
def tv55:Nat→Option SPat:=fun k=>bif k==3 then some ts55_3 else bif k==8 then some ts55_8 else bif k==13 then some ts55_13 else bif k==18 then some ts55_18 else bif k==2000000 then some zOT else bif k==2000002 then some zOS else bif k==2000004 then some zOR else bif k==2000006 then some zOQ else none
def tp55:Nat→List Nat×Plan:=fun id=>bif id==6 then([0,1,2,5,6,9,10,13,14,15],(.br 3 [2,1] [0,5,6,9,10,13,14,15] [4] (.br 7 [6,5,3,2,1] [0,9,10,13,14,15,4] [8] (.br 11 [10,9,7,6,5,3,2,1] [0,13,14,15,4,8] [12] (.br 16 [15,14,13,11,10,9,7,6,5,3,2,1] [0,4,8,12] [17] (.br 18 [17,16,15,14,13,12,11,10,9,8,7,6,5,4,3,2,1,0] [] [] .fin .fin) .fin) .fin) .fin) .fin))else bif id==15 then([0,1,2,3,4,5,6,9,10,11,12,13,14,17,18,19,20,21,22],(.br 7 [6,5,4,3,2,1] [0,9,10,11,12,13,14,17,18,19,20,21,22] [8] (.br 15 [14,13,12,11,10,9,7,6,5,4,3,2,1] [0,17,18,19,20,21,22,8] [16] (.br 23 [22,21,20,19,18,17,15,14,13,12,11,10,9,7,6,5,4,3,2,1] [0,8,16] [24] (.br 25 [24,23,22,21,20,19,18,17,16,15,14,13,12,11,10,9,8,7,6,5,4,3,2,1,0] [] [] .fin .fin) .fin) .fin) .fin))else([],.fin)
def F55:Cls→Option (List UInt8):=fun(app0,app1,app2,app3,app4,app5,app6) =>
 zAA (F134 (app0.length:Int)) fun y =>
 grdO (decide ((4:Nat)+List.length y≤9223372036854775807)) (bindE (Y:=List UInt8×Cls) (zAD (fun(v3,v4,o0,o1,o2,o3,o4,o5,o6) =>
 cndO (decide (v4<(o0.length:Int)))
 (grdO (decide (0≤v4)) (atO (o0) v4.toNat fun x=>zAA (F135 (x.1,x.2.1,x.2.2.1,x.2.2.2)) fun y1 =>
 grdO (decide (List.length v3+List.length y1≤9223372036854775807)) (some (inl (v3++y1,IntKind.wrap .i64 (v4+1),o0,o1,o2,o3,o4,o5,o6)))))
 (some (inr (inl (v3,o0,o1,o2,o3,o4,o5,o6))))) (([(83:UInt8),84,79,87]++y,(0:Int),app0,app1,app2,app3,app4,app5,app6))) fun(v3,o0,o1,o2,o3,o4,o5,o6) =>
 zAA (F134 o1) fun y1 =>
 seqU (seqU (grdO (decide (v3=v3)) (some ())) (seqU (grdO (decide (o2=o2)) (some ())) (seqU (grdO (decide (o3=o3)) (some ())) (seqU (grdO (decide (o4=o4)) (some ())) (seqU (grdO (decide ((o4.length:Int)=(o4.length:Int))) (some ())) (some ())))))) (grdO (decide (List.length v3+List.length y1≤9223372036854775807)) (zAA (F136 o2) fun y2 =>
 seqU (seqU (grdO (decide (v3=v3)) (some ())) (seqU (grdO (decide (o3=o3)) (some ())) (seqU (grdO (decide (o4=o4)) (some ())) (seqU (grdO (decide ((o4.length:Int)=(o4.length:Int))) (some ())) (seqU (grdO (decide (List.length v3+List.length y1≤9223372036854775807)) (grdO (decide (v3++y1=v3++y1)) (some ()))) (some ())))))) (grdO (decide (List.length (v3++y1)+List.length y2≤9223372036854775807)) (zAA (F136 o3) fun y3 =>
 seqU (seqU (grdO (decide (v3=v3)) (some ())) (seqU (grdO (decide (o4=o4)) (some ())) (seqU (grdO (decide ((o4.length:Int)=(o4.length:Int))) (some ())) (seqU (grdO (decide (List.length v3+List.length y1≤9223372036854775807)) (grdO (decide (v3++y1=v3++y1)) (some ()))) (seqU (grdO (decide (List.length (v3++y1)+List.length y2≤9223372036854775807)) (grdO (decide (v3++y1++y2=v3++y1++y2)) (some ()))) (some ())))))) (grdO (decide (List.length (v3++y1++y2)+List.length y3≤9223372036854775807)) (zAA (F134 (o4.length:Int)) fun y4 =>
 seqU (seqU (grdO (decide (v3=v3)) (some ())) (seqU (grdO (decide (List.length v3+List.length y1≤9223372036854775807)) (grdO (decide (v3++y1=v3++y1)) (some ()))) (seqU (grdO (decide (List.length (v3++y1)+List.length y2≤9223372036854775807)) (grdO (decide (v3++y1++y2=v3++y1++y2)) (some ()))) (seqU (grdO (decide (List.length (v3++y1++y2)+List.length y3≤9223372036854775807)) (grdO (decide (v3++y1++y2++y3=v3++y1++y2++y3)) (some ()))) (some ()))))) (grdO (decide (List.length (v3++y1++y2++y3)+List.length y4≤9223372036854775807)) (bindE (Y:=List UInt8×Cls) (zAD (fun(v31,v5,o01,o11,o21,o31,o41,o51,o61) =>
 cndO (decide (v5<(o41.length:Int)))
 (grdO (decide (0≤v5)) (atO (o41) v5.toNat fun x=>zAA (F136 x) fun y5 =>
 grdO (decide (List.length v31+List.length y5≤9223372036854775807)) (some (inl (v31++y5,IntKind.wrap .i64 (v5+1),o01,o11,o21,o31,o41,o51,o61)))))
 (some (inr (inl (v31,o01,o11,o21,o31,o41,o51,o61))))) ((v3++y1++y2++y3++y4,(0:Int),o0,o1,o2,o3,o4,o5,o6))) fun(v31,o01,o11,o21,o31,o41,o51,o61) =>
 zAA (F134 (o51.length:Int)) fun y5 =>
 grdO (decide (List.length v31+List.length y5≤9223372036854775807)) (bindE (Y:=List UInt8×Cls) (zAD (fun(v32,v6,o02,o12,o22,o32,o42,o52,o62) =>
 cndO (decide (v6<(o52.length:Int)))
 (grdO (decide (0≤v6)) (atO (o52) v6.toNat fun x=>grdO (decide (0≤v6)) (atO (o52) v6.toNat fun x1=>grdO (decide (0≤v6)) (atO (o52) v6.toNat fun x2=>zAA (F134 (x.1)) fun y6 =>
 seqU (seqU (grdO (decide (v32=v32)) (some ())) (seqU (grdO (decide (o52=o52)) (some ())) (seqU (grdO (decide (v6=v6)) (some ())) (seqU (grdO (decide (0≤v6)) (atO (o52) v6.toNat fun x3=>grdO (decide (x3.1=x1.1)&&(decide (x3.2.1=x1.2.1)&&(decide (x3.2.2=x1.2.2)&&true))) (some ()))) (seqU (grdO (decide (x1.2.1=x1.2.1)&&(decide (x1.2.2=x1.2.2)&&true)) (some ())) (seqU (grdO (decide (x1.2.1=x1.2.1)) (some ())) (seqU (grdO (decide (o52=o52)) (some ())) (seqU (grdO (decide (v6=v6)) (some ())) (seqU (grdO (decide (0≤v6)) (atO (o52) v6.toNat fun x3=>grdO (decide (x3.1=x2.1)&&(decide (x3.2.1=x2.2.1)&&(decide (x3.2.2=x2.2.2)&&true))) (some ()))) (seqU (grdO (decide (x2.2.2=x2.2.2)&&true) (some ())) (seqU (grdO (decide (x2.2.2=x2.2.2)) (some ())) (some ())))))))))))) (grdO (decide (List.length v32+List.length y6≤9223372036854775807)) (zAA (F136 (x1.2.1)) fun y7 =>
 seqU (seqU (grdO (decide (v32=v32)) (some ())) (seqU (grdO (decide (o52=o52)) (some ())) (seqU (grdO (decide (v6=v6)) (some ())) (seqU (grdO (decide (0≤v6)) (atO (o52) v6.toNat fun x3=>grdO (decide (x3.1=x2.1)&&(decide (x3.2.1=x2.2.1)&&(decide (x3.2.2=x2.2.2)&&true))) (some ()))) (seqU (grdO (decide (x2.2.2=x2.2.2)&&true) (some ())) (seqU (grdO (decide (x2.2.2=x2.2.2)) (some ())) (seqU (grdO (decide (List.length v32+List.length y6≤9223372036854775807)) (grdO (decide (v32++y6=v32++y6)) (some ()))) (some ())))))))) (grdO (decide (List.length (v32++y6)+List.length y7≤9223372036854775807)) (zAA (F136 (x2.2.2)) fun y8 =>
 seqU (seqU (grdO (decide (v32=v32)) (some ())) (seqU (grdO (decide (List.length v32+List.length y6≤9223372036854775807)) (grdO (decide (v32++y6=v32++y6)) (some ()))) (seqU (grdO (decide (List.length (v32++y6)+List.length y7≤9223372036854775807)) (grdO (decide (v32++y6++y7=v32++y6++y7)) (some ()))) (some ())))) (grdO (decide (List.length (v32++y6++y7)+List.length y8≤9223372036854775807)) (some (inl (v32++y6++y7++y8,IntKind.wrap .i64 (v6+1),o02,o12,o22,o32,o42,o52,o62))))))))))))
 (some (inr (inl (v32,o02,o12,o22,o32,o42,o52,o62))))) ((v31++y5,(0:Int),o01,o11,o21,o31,o41,o51,o61))) fun(v32,o02,o12,o22,o32,o42,o52,o62) =>
 zAA (F134 (o62.length:Int)) fun y6 =>
 grdO (decide (List.length v32+List.length y6≤9223372036854775807)) (bindE (Y:=List UInt8) (zAD (fun(v33,v7,o03,o13,o23,o33,o43,o53,o63) =>
 cndO (decide (v7<(o63.length:Int)))
 (grdO (decide (0≤v7)) (atO (o63) v7.toNat fun x=>zAA (F137 (x.1,x.2.1,x.2.2.1,x.2.2.2.1,x.2.2.2.2.1,x.2.2.2.2.2.1,x.2.2.2.2.2.2.1,x.2.2.2.2.2.2.2)) fun y7 =>
 grdO (decide (List.length v33+List.length y7≤9223372036854775807)) (some (inl (v33++y7,IntKind.wrap .i64 (v7+1),o03,o13,o23,o33,o43,o53,o63)))))
 (some (inr (inl v33)))) ((v32++y6,(0:Int),o02,o12,o22,o32,o42,o52,o62))) fun v33 =>
 some (v33))))))))))))
def tb55:=insT 55 (mkE 55 true [] ti55 to55 F55 [.tmp 2] 121 []) tb137
theorem ok55:TbOk Tryz.prog tb55:=okI ok137 tp55 tv55 func55 rfl call55
abbrev ti219:SPat:=⟨[(0,.ptr 100000 0),(1,.i .i64)],[.box 100000 (pl plS)]⟩
abbrev to219:SPat:=⟨[(4,.s)],[.box 100000 (pl plS)]⟩
abbrev zKk:SPat:=⟨[(0,.ptr 100000 0),(1,.i .i64),(22,.b)],[.box 100000 (pl plS)]⟩
def tv219:Nat→Option SPat:=fun k=>bif k==1000002 then some zKk else none
def tp219:Nat→List Nat×Plan:=fun id=>bif id==1 then([0,1,2,3,4,5,6,7,8,9,10,11,12,13,14,15,16,17],.fin)else bif id==5 then([0,1,2,3,4,5,6,7,8,9,10,11,12,13,14],(.br 15 [14,13,12,11,10,9,8,7,6,5,4,3,2,1,0] [] [] .fin .fin))else([],.fin)
def F219:Int×List UInt8×Int×Bool→Option (List UInt8×List UInt8×Int×Bool):=fun(n,o0,o1,o2) =>
 bindE (Y:=Int×Bool×List UInt8×Int×Bool) (cndO (o2)
 (some (inl (n,true,o0,o1,o2)))
 (some (inl (n,decide ((o0.length:Int)<IntKind.wrap .i64 (o1+n)),o0,o1,o2)))) fun(n1,v22,o01,o11,o21) =>
 cndO (v22)
 (some (([],o01,o11,true)))
 (grdO (decide (0≤IntKind.wrap .i64 (IntKind.wrap .i64 (o11+n1)-n1))&&decide (IntKind.wrap .i64 (IntKind.wrap .i64 (o11+n1)-n1)≤IntKind.wrap .i64 (o11+n1))&&decide (IntKind.wrap .i64 (o11+n1)≤(o01.length:Int))) (some ((List.drop (Int.toNat (IntKind.wrap .i64 (IntKind.wrap .i64 (o11+n1)-n1))) (List.take (Int.toNat (IntKind.wrap .i64 (o11+n1))) o01),o01,IntKind.wrap .i64 (o11+n1),o21))))
def tb219:=insT 219 (mkE 219 false [(0,[])] ti219 to219 F219 [.tmp 4] 50 [100000]) tb55
theorem ok219:TbOk Tryz.prog tb219:=okI ok55 tp219 tv219 func219 rfl call219
abbrev ti221:SPat:=⟨[(0,.ptr 100000 0)],[.box 100000 (pl plS)]⟩
abbrev to221:SPat:=⟨[(2,.i .i64)],[.box 100000 (pl plS)]⟩
abbrev zKg:SPat:=⟨[(0,.ptr 100000 0),(18,.b)],[.box 100000 (pl plS)]⟩
def tv221:Nat→Option SPat:=fun k=>bif k==1000002 then some zKg else none
def tp221:Nat→List Nat×Plan:=fun id=>bif id==1 then([0,1,2,3,4,5,6,7,8,9,10,11,12,13,14,15],.fin)else bif id==5 then([0,1,2,3,4,5,6,7,8,9,10],(.br 11 [10,9,8,7,6,5,4,3,2,1,0] [] [] .fin .fin))else([],.fin)
def F221:List UInt8×Int×Bool→Option (Int×List UInt8×Int×Bool):=fun(o0,o1,o2) =>
 bindE (Y:=Bool×List UInt8×Int×Bool) (cndO (o2)
 (some (inl (true,o0,o1,o2)))
 (some (inl (decide ((o0.length:Int)≤o1),o0,o1,o2)))) fun(v18,o01,o11,o21) =>
 cndO (v18)
 (some (((0:Int),o01,o11,true)))
 (grdO (decide (0≤IntKind.wrap .i64 (IntKind.wrap .i64 (o11+1)-1))) (atO (o01) (Int.toNat (IntKind.wrap .i64 (IntKind.wrap .i64 (o11+1)-1))) fun x=>some ((IntKind.wrap .i64 (x.toNat:Int),o01,IntKind.wrap .i64 (o11+1),o21))))
def tb221:=insT 221 (mkE 221 false [(0,[])] ti221 to221 F221 [.tmp 2] 41 [100000]) tb219
theorem ok221:TbOk Tryz.prog tb221:=okI ok219 tp221 tv221 func221 rfl call221
abbrev ti222:SPat:=⟨[(0,.ptr 100000 0)],[.box 100000 (pl plS)]⟩
abbrev to222:SPat:=⟨[(2,.i .i64)],[.box 100000 (pl plS)]⟩
def F222:List UInt8×Int×Bool→Option (Int×List UInt8×Int×Bool):=fun(o0,o1,o2) =>
 zAA (F221 (o0,o1,o2)) fun(y,y1,y2,y3) =>
 zAA (F221 (y1,y2,y3)) fun(y4,y5,y6,y7) =>
 some ((IntKind.wrap .i64 (IntKind.wrap .i64 (y*256)+y4),y5,y6,y7))
def tb222:=insT 222 (mkE 222 false [(0,[])] ti222 to222 F222 [.tmp 2] 13 [100000]) tb221
theorem ok222:TbOk Tryz.prog tb222:=okI ok221 noPl noIv func222 rfl call222
abbrev ti280:SPat:=⟨[(0,.ptr 100000 0)],[.box 100000 (pl plS)]⟩
abbrev to280:SPat:=⟨[(2,.ptr 2 0)],[.box 2 (pl [.i .i64,.s,.i .i64,.i .i64]),.box 100000 (pl plS)]⟩
abbrev zKN:SPat:=⟨[(0,.ptr 100000 0),(2,.ptr 2 0),(3,.ptr 3 0),(24,.b)],[.box 2 (pl [.i .i64,.s,.i .i64,.i .i64]),.box 3 (pl [.i .i64,.s,.i .i64,.i .i64]),.box 100000 (pl plS)]⟩
abbrev zKM:SPat:=⟨[(2,.ptr 2 0),(3,.ptr 3 0)],[.box 2 (pl [.i .i64,.s,.i .i64,.i .i64]),.box 3 (pl [.i .i64,.s,.i .i64,.i .i64]),.box 100000 (pl plS)]⟩
def tv280:Nat→Option SPat:=fun k=>bif k==1000012 then some zKN else bif k==2000000 then some zKM else none
def F280:List UInt8×Int×Bool→Option ((Cst)×List UInt8×Int×Bool):=fun(o0,o1,o2) =>
 zAA (F221 (o0,o1,o2)) fun(y,y1,y2,y3) =>
 bindE (Y:=(Cst)×(Cst)×List UInt8×Int×Bool) (cndO (decide (y=1))
 (zAA (F221 (y1,y2,y3)) fun(y4,y5,y6,y7) =>
 zAA (F219 (y4,y5,y6,y7)) fun(y8,y9,y10,y11) =>
 some (inl (((0:Int),[],(0:Int),(0:Int)),(y,y8,(0:Int),(0:Int)),y9,y10,y11)))
 (cndO (decide (y=2))
 (zAA (F222 (y1,y2,y3)) fun(y4,y5,y6,y7) =>
 some (inl (((0:Int),[],(0:Int),(0:Int)),(y,[],y4,(0:Int)),y5,y6,y7)))
 (bindE (Y:=Bool×(Cst)×(Cst)×List UInt8×Int×Bool) (cndO (decide (y=3))
 (some (inl (true,((0:Int),[],(0:Int),(0:Int)),(y,[],(0:Int),(0:Int)),y1,y2,y3)))
 (cndO (decide (y=4))
 (some (inl (true,((0:Int),[],(0:Int),(0:Int)),(y,[],(0:Int),(0:Int)),y1,y2,y3)))
 (cndO (decide (y=5))
 (some (inl (true,((0:Int),[],(0:Int),(0:Int)),(y,[],(0:Int),(0:Int)),y1,y2,y3)))
 (some (inl (decide (y=6),((0:Int),[],(0:Int),(0:Int)),(y,[],(0:Int),(0:Int)),y1,y2,y3)))))) fun(v24,(o01,o11,o21,o3),(o02,o12,o22,o31),o03,o13,o23) =>
 cndO (v24)
 (zAA (F222 (o03,o13,o23)) fun(y4,y5,y6,y7) =>
 zAA (F222 (y5,y6,y7)) fun(y8,y9,y10,y11) =>
 some (inl ((o01,o11,o21,o3),(o02,o12,y4,y8),y9,y10,y11)))
 (some (inl ((o01,o11,o21,o3),(o02,o12,o22,o31),o03,o13,true)))))) fun((o01,o11,o21,o3),(o02,o12,o22,o31),o03,o13,o23) =>
 some (((o02,o12,o22,o31),o03,o13,o23))
def tb280:=insT 280 (mkE 280 false [(0,[])] ti280 to280 F280 [.cell 2 27] 36 [100000]) tb222
theorem ok280:TbOk Tryz.prog tb280:=okI ok222 noPl tv280 func280 rfl call280
abbrev ti220:SPat:=⟨[(0,.ptr 100000 0)],[.box 100000 (pl plS)]⟩
abbrev to220:SPat:=⟨[(2,.own tg27 true)],[.box 100000 (pl plS)]⟩
abbrev ts220_6:SPat:=⟨[(0,.ptr 100000 0),(3,.own tg27 true),(4,.i .i64),(5,.i .i64)],[.box 100000 (pl plS)]⟩
abbrev zKj:SPat:=⟨[(0,.ptr 100000 0),(3,.own tg27 true),(4,.i .i64)],[.box 100000 (pl plS)]⟩
abbrev zKi:SPat:=⟨[(0,.ptr 100000 0),(3,.own tg27 true),(4,.i .i64),(5,.i .i64)],[.box 100000 (pl plS)]⟩
abbrev zKh:SPat:=⟨[(3,.own tg27 true)],[.box 100000 (pl plS)]⟩
def tv220:Nat→Option SPat:=fun k=>bif k==6 then some ts220_6 else bif k==1000005 then some zKj else bif k==1000008 then some zKi else bif k==2000000 then some zKh else none
def F220:List UInt8×Int×Bool→Option (List Cst×List UInt8×Int×Bool):=fun(o0,o1,o2) =>
 zAA (F221 (o0,o1,o2)) fun(y,y1,y2,y3) =>
 bindE (Y:=List Cst×Int×List UInt8×Int×Bool) (cndO (decide (60<y))
 (some (inl ([],y,y1,y2,true)))
 (some (inl ([],y,y1,y2,y3)))) fun(out,n,o01,o11,o21) =>
 bindE (Y:=List Cst×List UInt8×Int×Bool) (zAD (fun(out1,n1,i,o02,o12,o22) =>
 bindE (Y:=List Cst×Int×Int×List UInt8×Int×Bool) (cndO (decide (i<n1))
 (cndO (!o22)
 (some (inl (out1,n1,i,o02,o12,o22)))
 (some (inr (inr (inl (out1,o02,o12,o22))))))
 (some (inr (inr (inl (out1,o02,o12,o22)))))) fun(out2,n2,i1,o03,o13,o23) =>
 zAA (F280 (o03,o13,o23)) fun((y4,y5,y6,y7),y8,y9,x) =>
 grdO (decide (List.length out2+1≤9223372036854775807)&&decide ((List.length out2+1)*40≤140737488355328)) (some (inl (out2++[(y4,y5,y6,y7)],n2,IntKind.wrap .i64 (i1+1),y8,y9,x)))) ((out,n,(0:Int),o01,o11,o21))) fun(out1,o02,o12,o22) =>
 some ((out1,o02,o12,o22))
def tb220:=insT 220 (mkE 220 false [(0,[])] ti220 to220 F220 [.tmp 2] 32 [100000]) tb280
theorem ok220:TbOk Tryz.prog tb220:=okI ok280 noPl tv220 func220 rfl call220
abbrev ti317:SPat:=⟨[(0,.ptr 100000 0)],[.box 100000 (pl plS)]⟩
abbrev to317:SPat:=⟨[(2,.own zAg true)],[.box 100000 (pl plS)]⟩
abbrev ts317_6:SPat:=⟨[(0,.ptr 100000 0),(3,.own zAg true),(4,.i .i64),(5,.i .i64)],[.box 100000 (pl plS)]⟩
abbrev zJy:SPat:=⟨[(0,.ptr 100000 0),(3,.own zAg true),(4,.i .i64)],[.box 100000 (pl plS)]⟩
abbrev zJx:SPat:=⟨[(0,.ptr 100000 0),(3,.own zAg true),(4,.i .i64),(5,.i .i64)],[.box 100000 (pl plS)]⟩
abbrev zJw:SPat:=⟨[(0,.ptr 100000 0),(3,.own zAg true),(4,.i .i64),(5,.i .i64),(6,.ptr 6 0)],[.box 6 (pl [.i .i64,.i .i64]),.box 100000 (pl plS)]⟩
abbrev zJv:SPat:=⟨[(3,.own zAg true)],[.box 100000 (pl plS)]⟩
abbrev zJu:SPat:=⟨[(0,.ptr 100000 0),(3,.own zAg true),(4,.i .i64),(5,.i .i64)],[.box 100000 (pl plS)]⟩
def tv317:Nat→Option SPat:=fun k=>bif k==6 then some ts317_6 else bif k==1000005 then some zJy else bif k==1000008 then some zJx else bif k==1000011 then some zJw else bif k==2000000 then some zJv else bif k==2000001 then some zJu else none
def F317:List UInt8×Int×Bool→Option (List (Int×Int)×List UInt8×Int×Bool):=fun(o0,o1,o2) =>
 zAA (F221 (o0,o1,o2)) fun(y,y1,y2,y3) =>
 bindE (Y:=List (Int×Int)×Int×List UInt8×Int×Bool) (cndO (decide (8<y))
 (some (inl ([],y,y1,y2,true)))
 (some (inl ([],y,y1,y2,y3)))) fun(out,n,o01,o11,o21) =>
 bindE (Y:=List (Int×Int)×List UInt8×Int×Bool) (zAD (fun(out1,n1,i,o02,o12,o22) =>
 bindE (Y:=List (Int×Int)×Int×Int×List UInt8×Int×Bool) (cndO (decide (i<n1))
 (cndO (!o22)
 (some (inl (out1,n1,i,o02,o12,o22)))
 (some (inr (inr (inl (out1,o02,o12,o22))))))
 (some (inr (inr (inl (out1,o02,o12,o22)))))) fun(out2,n2,i1,o03,o13,o23) =>
 bindE (Y:=List (Int×Int)×Int×Int×List UInt8×Int×Bool) (zAA (F221 (o03,o13,o23)) fun(y4,y5,y6,y7) =>
 bindE (Y:=List (Int×Int)×Int×Int×(Int×Int)×List UInt8×Int×Bool) (cndO (decide (y4=3))
 (zAA (F222 (y5,y6,y7)) fun(y8,y9,y10,y11) =>
 some (inl (out2,n2,i1,(y4,y8),y9,y10,y11)))
 (some (inl (out2,n2,i1,(y4,(0:Int)),y5,y6,y7)))) fun(out3,n3,i2,(o04,o14),o05,o15,o24) =>
 cndO (decide (3<o04))
 (grdO (decide (List.length out3+1≤9223372036854775807)&&decide ((List.length out3+1)*16≤140737488355328)) (some (inl (out3++[(o04,o14)],n3,i2,o05,o15,true))))
 (grdO (decide (List.length out3+1≤9223372036854775807)&&decide ((List.length out3+1)*16≤140737488355328)) (some (inl (out3++[(o04,o14)],n3,i2,o05,o15,o24))))) fun(out3,n3,i2,o04,o14,o24) =>
 some (inl (out3,n3,IntKind.wrap .i64 (i2+1),o04,o14,o24))) ((out,n,(0:Int),o01,o11,o21))) fun(out1,o02,o12,o22) =>
 some ((out1,o02,o12,o22))
def tb317:=insT 317 (mkE 317 false [(0,[])] ti317 to317 F317 [.tmp 2] 47 [100000]) tb220
theorem ok317:TbOk Tryz.prog tb317:=okI ok220 noPl tv317 func317 rfl call317
abbrev ti281:SPat:=⟨[(0,.ptr 100000 0),(1,.agg (pl [.i .i64,.i .i64,.i .i64,.i .i64,.i .i64,.s,.nil,.nil]))],[.box 100000 (pl plS)]⟩
abbrev to281:SPat:=⟨[(4,.ptr 4 0)],[.box 4 (pl plN),.box 100000 (pl plS)]⟩
abbrev ts281_11:SPat:=⟨[(0,.ptr 100000 0),(3,.ptr 3 0),(4,.ptr 4 0),(6,.i .i64),(7,.i .i64)],[.box 3 (pl plN),.box 4 (pl plN),.box 100000 (pl plS)]⟩
abbrev ts281_18:SPat:=⟨[(0,.ptr 100000 0),(3,.ptr 3 0),(4,.ptr 4 0),(6,.i .i64),(8,.i .i64)],[.box 3 (pl plN),.box 4 (pl plN),.box 100000 (pl plS)]⟩
abbrev zKL:SPat:=⟨[(0,.ptr 100000 0),(3,.ptr 3 0),(4,.ptr 4 0),(5,.i .i64)],[.box 3 (pl plN),.box 4 (pl plN),.box 100000 (pl plS)]⟩
abbrev zKK:SPat:=⟨[(0,.ptr 100000 0),(3,.ptr 3 0),(4,.ptr 4 0),(6,.i .i64)],[.box 3 (pl plN),.box 4 (pl plN),.box 100000 (pl plS)]⟩
abbrev zKJ:SPat:=⟨[(0,.ptr 100000 0),(3,.ptr 3 0),(4,.ptr 4 0),(6,.i .i64),(7,.i .i64)],[.box 3 (pl plN),.box 4 (pl plN),.box 100000 (pl plS)]⟩
abbrev zKI:SPat:=⟨[(0,.ptr 100000 0),(3,.ptr 3 0),(4,.ptr 4 0),(6,.i .i64)],[.box 3 (pl plN),.box 4 (pl plN),.box 100000 (pl plS)]⟩
abbrev zKH:SPat:=⟨[(0,.ptr 100000 0),(3,.ptr 3 0),(4,.ptr 4 0),(6,.i .i64),(8,.i .i64)],[.box 3 (pl plN),.box 4 (pl plN),.box 100000 (pl plS)]⟩
abbrev zKG:SPat:=⟨[(0,.ptr 100000 0),(3,.ptr 3 0),(4,.ptr 4 0)],[.box 3 (pl plN),.box 4 (pl plN),.box 100000 (pl plS)]⟩
abbrev zKF:SPat:=⟨[(3,.ptr 3 0),(4,.ptr 4 0)],[.box 3 (pl plN),.box 4 (pl plN),.box 100000 (pl plS)]⟩
def tv281:Nat→Option SPat:=fun k=>bif k==11 then some ts281_11 else bif k==18 then some ts281_18 else bif k==1000006 then some zKL else bif k==1000010 then some zKK else bif k==1000013 then some zKJ else bif k==1000017 then some zKI else bif k==1000020 then some zKH else bif k==2000000 then some zKG else bif k==2000002 then some zKF else none
def tp281:Nat→List Nat×Plan:=fun id=>bif id==13 then([0,1,2,4,6,8],(.br 3 [2] [0,1,4,6,8] [] (.br 5 [4,3,2] [0,1,6,8] [] (.br 7 [6,5,4,3,2] [0,1,8] [] (.br 9 [8,7,6,5,4,3,2] [0,1] [10] (.br 11 [10,9,8,7,6,5,4,3,2] [0,1] [] (.br 12 [11,10,9,8,7,6,5,4,3,2,1,0] [] [13] (.br 14 [13,12,11,10,9,8,7,6,5,4,3,2,1,0] [] [] .fin .fin) .fin) .fin) .fin) .fin) .fin) .fin))else bif id==20 then([0,1,2,4,6],(.br 3 [2] [0,1,4,6] [] (.br 5 [4,3,2] [0,1,6] [] (.br 7 [6,5,4,3,2] [0,1] [8] (.br 9 [8,7,6,5,4,3,2] [0,1] [] (.br 10 [9,8,7,6,5,4,3,2,1,0] [] [11] (.br 12 [11,10,9,8,7,6,5,4,3,2,1,0] [] [] .fin .fin) .fin) .fin) .fin) .fin) .fin))else([],.fin)
def F281:(Int×Int×Int×Int×Int×List UInt8)×List UInt8×Int×Bool→Option ((Mth)×List UInt8×Int×Bool):=fun((v10,v11,v12,v13,v14,v15),v16,v17,o0) =>
 zAA (F221 (v16,v17,o0)) fun(y,y1,y2,y3) =>
 zAA (F221 (y1,y2,y3)) fun(y4,y5,y6,y7) =>
 zAA (F222 (y5,y6,y7)) fun(y8,y9,y10,y11) =>
 bindE (Y:=Int×(Mth)×(Mth)×List UInt8×Int×Bool) (cndO (decide (120<y8))
 (some (inl (y8,(v10,v11,v12,y,y4,v15,[],[]),((0:Int),(0:Int),(0:Int),(0:Int),(0:Int),[],[],[]),y9,y10,true)))
 (some (inl (y8,(v10,v11,v12,y,y4,v15,[],[]),((0:Int),(0:Int),(0:Int),(0:Int),(0:Int),[],[],[]),y9,y10,y11)))) fun(v5,(o01,o1,o2,o3,o4,o5,o6,o7),(o02,o11,o21,o31,o41,o51,o61,o71),o03,o12,o22) =>
 zAA (F219 (v5,o03,o12,o22)) fun(y12,y13,y14,y15) =>
 zAA (F221 (y13,y14,y15)) fun(y16,y17,y18,y19) =>
 bindE (Y:=Int×(Mth)×(Mth)×List UInt8×Int×Bool) (cndO (decide (3<y16))
 (some (inl (y16,(o01,o1,o2,o3,o4,y12,o6,o7),(o02,o11,o21,o31,o41,o51,o61,o71),y17,y18,true)))
 (some (inl (y16,(o01,o1,o2,o3,o4,y12,o6,o7),(o02,o11,o21,o31,o41,o51,o61,o71),y17,y18,y19)))) fun(v6,(o04,o13,o23,o32,o42,o52,o62,o72),(o05,o14,o24,o33,o43,o53,o63,o73),o06,o15,o25) =>
 bindE (Y:=(Mth)×(Mth)×List UInt8×Int×Bool) (zAD (fun(v61,v7,(o07,o16,o26,o34,o44,o54,o64,o74),(o08,o17,o27,o35,o45,o55,o65,o75),o09,o18,o28) =>
 bindE (Y:=Int×Int×(Mth)×(Mth)×List UInt8×Int×Bool) (cndO (decide (v7<v61))
 (cndO (!o28)
 (some (inl (v61,v7,(o07,o16,o26,o34,o44,o54,o64,o74),(o08,o17,o27,o35,o45,o55,o65,o75),o09,o18,o28)))
 (some (inr (inr (inl ((o07,o16,o26,o34,o44,o54,o64,o74),(o08,o17,o27,o35,o45,o55,o65,o75),o09,o18,o28))))))
 (some (inr (inr (inl ((o07,o16,o26,o34,o44,o54,o64,o74),(o08,o17,o27,o35,o45,o55,o65,o75),o09,o18,o28)))))) fun(v62,v71,(o010,o19,o29,o36,o46,o56,o66,o76),(o011,o110,o210,o37,o47,o57,o67,o77),o012,o111,o211) =>
 zAA (F222 (o012,o111,o211)) fun(y20,y21,y22,y23) =>
 zAA (F222 (y21,y22,y23)) fun(y24,y25,y26,y27) =>
 zAA (F222 (y25,y26,y27)) fun(y28,y29,y30,y31) =>
 zAA (F222 (y29,y30,y31)) fun(y32,y33,y34,y35) =>
 grdO (decide (List.length o66+1≤9223372036854775807)&&decide ((List.length o66+1)*32≤140737488355328)) (some (inl (v62,IntKind.wrap .i64 (v71+1),(o010,o19,o29,o36,o46,o56,o66++[(y20,y24,y28,y32)],o76),(o011,o110,o210,o37,o47,o57,o67,o77),y33,y34,y35)))) ((v6,(0:Int),(o04,o13,o23,o32,o42,o52,o62,o72),(o05,o14,o24,o33,o43,o53,o63,o73),o06,o15,o25))) fun((o07,o16,o26,o34,o44,o54,o64,o74),(o08,o17,o27,o35,o45,o55,o65,o75),o09,o18,o28) =>
 zAA (F221 (o09,o18,o28)) fun(y20,y21,y22,y23) =>
 bindE (Y:=Int×(Mth)×(Mth)×List UInt8×Int×Bool) (cndO (decide (8<y20))
 (some (inl (y20,(o07,o16,o26,o34,o44,o54,o64,o74),(o08,o17,o27,o35,o45,o55,o65,o75),y21,y22,true)))
 (some (inl (y20,(o07,o16,o26,o34,o44,o54,o64,o74),(o08,o17,o27,o35,o45,o55,o65,o75),y21,y22,y23)))) fun(v61,(o010,o19,o29,o36,o46,o56,o66,o76),(o011,o110,o210,o37,o47,o57,o67,o77),o012,o111,o211) =>
 bindE (Y:=(Mth)×(Mth)×List UInt8×Int×Bool) (zAD (fun(v62,v8,(o013,o112,o212,o38,o48,o58,o68,o78),(o014,o113,o213,o39,o49,o59,o69,o79),o015,o114,o214) =>
 bindE (Y:=Int×Int×(Mth)×(Mth)×List UInt8×Int×Bool) (cndO (decide (v8<v62))
 (cndO (!o214)
 (some (inl (v62,v8,(o013,o112,o212,o38,o48,o58,o68,o78),(o014,o113,o213,o39,o49,o59,o69,o79),o015,o114,o214)))
 (some (inr (inr (inl ((o013,o112,o212,o38,o48,o58,o68,o78),(o014,o113,o213,o39,o49,o59,o69,o79),o015,o114,o214))))))
 (some (inr (inr (inl ((o013,o112,o212,o38,o48,o58,o68,o78),(o014,o113,o213,o39,o49,o59,o69,o79),o015,o114,o214)))))) fun(v63,v81,(o016,o115,o215,o310,o410,o510,o610,o710),(o017,o116,o216,o311,o411,o511,o611,o711),o018,o117,o217) =>
 zAA (F222 (o018,o117,o217)) fun(y24,y25,y26,y27) =>
 zAA (F317 (y25,y26,y27)) fun(y28,y29,y30,y31) =>
 zAA (F317 (y29,y30,y31)) fun(y32,y33,y34,y35) =>
 grdO (decide (List.length o710+1≤9223372036854775807)&&decide ((List.length o710+1)*56≤140737488355328)) (some (inl (v63,IntKind.wrap .i64 (v81+1),(o016,o115,o215,o310,o410,o510,o610,o710++[(y24,y28,y32)]),(o017,o116,o216,o311,o411,o511,o611,o711),y33,y34,y35)))) ((v61,(0:Int),(o010,o19,o29,o36,o46,o56,o66,o76),(o011,o110,o210,o37,o47,o57,o67,o77),o012,o111,o211))) fun((o013,o112,o212,o38,o48,o58,o68,o78),(o014,o113,o213,o39,o49,o59,o69,o79),o015,o114,o214) =>
 some (((o013,o112,o212,o38,o48,o58,o68,o78),o015,o114,o214))
def tb281:=insT 281 (mkE 281 false [(0,[])] ti281 to281 F281 [.cell 4 53] 91 [100000]) tb317
theorem ok281:TbOk Tryz.prog tb281:=okI ok317 tp281 tv281 func281 rfl call281
abbrev ti223:SPat:=⟨[(0,.ptr 100000 0)],[.box 100000 (pl plS)]⟩
abbrev to223:SPat:=⟨[(2,.ptr 2 0)],[.box 2 (pl plN),.box 100000 (pl plS)]⟩
def F223:List UInt8×Int×Bool→Option ((Mth)×List UInt8×Int×Bool):=fun(o0,o1,o2) =>
 zAA (F221 (o0,o1,o2)) fun(y,y1,y2,y3) =>
 zAA (F222 (y1,y2,y3)) fun(y4,y5,y6,y7) =>
 zAA (F222 (y5,y6,y7)) fun(y8,y9,y10,y11) =>
 cndO (decide (IntKind.wrap .i64 (Int.tdiv (Int.tmod y (16:Int)) (8:Int))=1))
 (some (((y,y4,y8,(0:Int),(0:Int),[],[],[]),y9,y10,y11)))
 (zAA (F281 ((y,y4,y8,(0:Int),(0:Int),[]),y9,y10,y11)) fun((y12,y13,y14,y15,y16,y17,x,x1),x2,x3,x4) =>
 some (((y12,y13,y14,y15,y16,y17,x,x1),x2,x3,x4)))
def tb223:=insT 223 (mkE 223 false [(0,[])] ti223 to223 F223 [.cell 2 53] 20 [100000]) tb281
theorem ok223:TbOk Tryz.prog tb223:=okI ok281 noPl noIv func223 rfl call223
abbrev ti142:SPat:=⟨[(0,.ptr 100000 0)],[.box 100000 (pl plS)]⟩
abbrev to142:SPat:=⟨[(2,.ptr 2 0)],[.box 2 (pl plD),.box 100000 (pl plS)]⟩
abbrev ts142_12:SPat:=⟨[(0,.ptr 100000 0),(2,.ptr 2 0),(3,.ptr 3 0),(4,.i .i64),(5,.i .i64)],[.box 2 (pl plD),.box 3 (pl plD),.box 100000 (pl plS)]⟩
abbrev ts142_19:SPat:=⟨[(0,.ptr 100000 0),(2,.ptr 2 0),(3,.ptr 3 0),(4,.i .i64),(6,.i .i64)],[.box 2 (pl plD),.box 3 (pl plD),.box 100000 (pl plS)]⟩
abbrev ts142_26:SPat:=⟨[(0,.ptr 100000 0),(2,.ptr 2 0),(3,.ptr 3 0),(4,.i .i64),(7,.i .i64)],[.box 2 (pl plD),.box 3 (pl plD),.box 100000 (pl plS)]⟩
abbrev zLq:SPat:=⟨[(0,.ptr 100000 0),(2,.ptr 2 0),(3,.ptr 3 0)],[.box 2 (pl plD),.box 3 (pl plD),.box 100000 (pl plS)]⟩
abbrev zLp:SPat:=⟨[(0,.ptr 100000 0),(2,.ptr 2 0),(3,.ptr 3 0),(4,.i .i64)],[.box 2 (pl plD),.box 3 (pl plD),.box 100000 (pl plS)]⟩
abbrev zLo:SPat:=⟨[(0,.ptr 100000 0),(2,.ptr 2 0),(3,.ptr 3 0),(4,.i .i64),(5,.i .i64)],[.box 2 (pl plD),.box 3 (pl plD),.box 100000 (pl plS)]⟩
abbrev zLn:SPat:=⟨[(0,.ptr 100000 0),(2,.ptr 2 0),(3,.ptr 3 0),(4,.i .i64)],[.box 2 (pl plD),.box 3 (pl plD),.box 100000 (pl plS)]⟩
abbrev zLm:SPat:=⟨[(0,.ptr 100000 0),(2,.ptr 2 0),(3,.ptr 3 0),(4,.i .i64),(6,.i .i64)],[.box 2 (pl plD),.box 3 (pl plD),.box 100000 (pl plS)]⟩
abbrev zLl:SPat:=⟨[(0,.ptr 100000 0),(2,.ptr 2 0),(3,.ptr 3 0),(4,.i .i64)],[.box 2 (pl plD),.box 3 (pl plD),.box 100000 (pl plS)]⟩
abbrev zLk:SPat:=⟨[(0,.ptr 100000 0),(2,.ptr 2 0),(3,.ptr 3 0),(4,.i .i64),(7,.i .i64)],[.box 2 (pl plD),.box 3 (pl plD),.box 100000 (pl plS)]⟩
abbrev zLj:SPat:=⟨[(0,.ptr 100000 0),(2,.ptr 2 0),(3,.ptr 3 0)],[.box 2 (pl plD),.box 3 (pl plD),.box 100000 (pl plS)]⟩
abbrev zLi:SPat:=⟨[(0,.ptr 100000 0),(2,.ptr 2 0),(3,.ptr 3 0)],[.box 2 (pl plD),.box 3 (pl plD),.box 100000 (pl plS)]⟩
abbrev zLh:SPat:=⟨[(2,.ptr 2 0),(3,.ptr 3 0)],[.box 2 (pl plD),.box 3 (pl plD),.box 100000 (pl plS)]⟩
def tv142:Nat→Option SPat:=fun k=>bif k==12 then some ts142_12 else bif k==19 then some ts142_19 else bif k==26 then some ts142_26 else bif k==1000004 then some zLq else bif k==1000011 then some zLp else bif k==1000014 then some zLo else bif k==1000018 then some zLn else bif k==1000021 then some zLm else bif k==1000025 then some zLl else bif k==1000028 then some zLk else bif k==2000000 then some zLj else bif k==2000002 then some zLi else bif k==2000004 then some zLh else none
def tp142:Nat→List Nat×Plan:=fun id=>bif id==14 then([0,1,2],(.br 3 [2] [0,1] [] (.br 4 [3,2] [0,1] [] (.br 5 [4,3,2,1,0] [] [6] (.br 7 [6,5,4,3,2,1,0] [] [] .fin .fin) .fin) .fin) .fin))else bif id==21 then([0,1,2,4,6],(.br 3 [2] [0,1,4,6] [] (.br 5 [4,3,2] [0,1,6] [] (.br 7 [6,5,4,3,2] [0,1] [8] (.br 9 [8,7,6,5,4,3,2] [0,1] [] (.br 10 [9,8,7,6,5,4,3,2,1,0] [] [11] (.br 12 [11,10,9,8,7,6,5,4,3,2,1,0] [] [] .fin .fin) .fin) .fin) .fin) .fin) .fin))else bif id==28 then([0,1,2],(.br 3 [2] [0,1] [] (.br 4 [3,2] [0,1] [] (.br 5 [4,3,2,1,0] [] [6] (.br 7 [6,5,4,3,2,1,0] [] [] .fin .fin) .fin) .fin) .fin))else([],.fin)
def F142:List UInt8×Int×Bool→Option ((Cls)×List UInt8×Int×Bool):=fun(o0,o1,o2) =>
 bindE (Y:=(Cls)×(Cls)×List UInt8×Int×Bool) (zAA (F219 ((4:Int),o0,o1,o2)) fun(y,y1,y2,y3) =>
 cndO (!decide (y=[(83:UInt8),84,79,87]))
 (some (inl (([],(0:Int),(0:Int),(0:Int),[],[],[]),([],(0:Int),(0:Int),(0:Int),[],[],[]),y1,y2,true)))
 (some (inl (([],(0:Int),(0:Int),(0:Int),[],[],[]),([],(0:Int),(0:Int),(0:Int),[],[],[]),y1,y2,y3)))) fun((o01,o11,o21,o3,o4,o5,o6),(o02,o12,o22,o31,o41,o51,o61),o03,o13,o23) =>
 zAA (F220 (o03,o13,o23)) fun(y,y1,y2,y3) =>
 zAA (F221 (y1,y2,y3)) fun(y4,y5,y6,y7) =>
 zAA (F222 (y5,y6,y7)) fun(y8,y9,y10,y11) =>
 zAA (F222 (y9,y10,y11)) fun(y12,y13,y14,y15) =>
 zAA (F221 (y13,y14,y15)) fun(y16,y17,y18,y19) =>
 bindE (Y:=Int×(Cls)×(Cls)×List UInt8×Int×Bool) (cndO (decide (3<y16))
 (some (inl (y16,(o01,o11,o21,o3,o4,o5,o6),(y,y4,y8,y12,o41,o51,o61),y17,y18,true)))
 (some (inl (y16,(o01,o11,o21,o3,o4,o5,o6),(y,y4,y8,y12,o41,o51,o61),y17,y18,y19)))) fun(v4,(o04,o14,o24,o32,o42,o52,o62),(o05,o15,o25,o33,o43,o53,o63),o06,o16,o26) =>
 bindE (Y:=(Cls)×(Cls)×List UInt8×Int×Bool) (zAD (fun(v41,v5,(o07,o17,o27,o34,o44,o54,o64),(o08,o18,o28,o35,o45,o55,o65),o09,o19,o29) =>
 bindE (Y:=Int×Int×(Cls)×(Cls)×List UInt8×Int×Bool) (cndO (decide (v5<v41))
 (cndO (!o29)
 (some (inl (v41,v5,(o07,o17,o27,o34,o44,o54,o64),(o08,o18,o28,o35,o45,o55,o65),o09,o19,o29)))
 (some (inr (inr (inl ((o07,o17,o27,o34,o44,o54,o64),(o08,o18,o28,o35,o45,o55,o65),o09,o19,o29))))))
 (some (inr (inr (inl ((o07,o17,o27,o34,o44,o54,o64),(o08,o18,o28,o35,o45,o55,o65),o09,o19,o29)))))) fun(v42,v51,(o010,o110,o210,o36,o46,o56,o66),(o011,o111,o211,o37,o47,o57,o67),o012,o112,o212) =>
 zAA (F222 (o012,o112,o212)) fun(y20,y21,y22,y23) =>
 grdO (decide (List.length o47+1≤9223372036854775807)&&decide ((List.length o47+1)*8≤140737488355328)) (some (inl (v42,IntKind.wrap .i64 (v51+1),(o010,o110,o210,o36,o46,o56,o66),(o011,o111,o211,o37,o47++[y20],o57,o67),y21,y22,y23)))) ((v4,(0:Int),(o04,o14,o24,o32,o42,o52,o62),(o05,o15,o25,o33,o43,o53,o63),o06,o16,o26))) fun((o07,o17,o27,o34,o44,o54,o64),(o08,o18,o28,o35,o45,o55,o65),o09,o19,o29) =>
 zAA (F221 (o09,o19,o29)) fun(y20,y21,y22,y23) =>
 bindE (Y:=Int×(Cls)×(Cls)×List UInt8×Int×Bool) (cndO (decide (5<y20))
 (some (inl (y20,(o07,o17,o27,o34,o44,o54,o64),(o08,o18,o28,o35,o45,o55,o65),y21,y22,true)))
 (some (inl (y20,(o07,o17,o27,o34,o44,o54,o64),(o08,o18,o28,o35,o45,o55,o65),y21,y22,y23)))) fun(v41,(o010,o110,o210,o36,o46,o56,o66),(o011,o111,o211,o37,o47,o57,o67),o012,o112,o212) =>
 bindE (Y:=(Cls)×(Cls)×List UInt8×Int×Bool) (zAD (fun(v42,v6,(o013,o113,o213,o38,o48,o58,o68),(o014,o114,o214,o39,o49,o59,o69),o015,o115,o215) =>
 bindE (Y:=Int×Int×(Cls)×(Cls)×List UInt8×Int×Bool) (cndO (decide (v6<v42))
 (cndO (!o215)
 (some (inl (v42,v6,(o013,o113,o213,o38,o48,o58,o68),(o014,o114,o214,o39,o49,o59,o69),o015,o115,o215)))
 (some (inr (inr (inl ((o013,o113,o213,o38,o48,o58,o68),(o014,o114,o214,o39,o49,o59,o69),o015,o115,o215))))))
 (some (inr (inr (inl ((o013,o113,o213,o38,o48,o58,o68),(o014,o114,o214,o39,o49,o59,o69),o015,o115,o215)))))) fun(v43,v61,(o016,o116,o216,o310,o410,o510,o610),(o017,o117,o217,o311,o411,o511,o611),o018,o118,o218) =>
 zAA (F221 (o018,o118,o218)) fun(y24,y25,y26,y27) =>
 zAA (F222 (y25,y26,y27)) fun(y28,y29,y30,y31) =>
 zAA (F222 (y29,y30,y31)) fun(y32,y33,y34,y35) =>
 grdO (decide (List.length o511+1≤9223372036854775807)&&decide ((List.length o511+1)*24≤140737488355328)) (some (inl (v43,IntKind.wrap .i64 (v61+1),(o016,o116,o216,o310,o410,o510,o610),(o017,o117,o217,o311,o411,o511++[(y24,y28,y32)],o611),y33,y34,y35)))) ((v41,(0:Int),(o010,o110,o210,o36,o46,o56,o66),(o011,o111,o211,o37,o47,o57,o67),o012,o112,o212))) fun((o013,o113,o213,o38,o48,o58,o68),(o014,o114,o214,o39,o49,o59,o69),o015,o115,o215) =>
 zAA (F221 (o015,o115,o215)) fun(y24,y25,y26,y27) =>
 bindE (Y:=Int×(Cls)×(Cls)×List UInt8×Int×Bool) (cndO (decide (6<y24))
 (some (inl (y24,(o013,o113,o213,o38,o48,o58,o68),(o014,o114,o214,o39,o49,o59,o69),y25,y26,true)))
 (some (inl (y24,(o013,o113,o213,o38,o48,o58,o68),(o014,o114,o214,o39,o49,o59,o69),y25,y26,y27)))) fun(v42,(o016,o116,o216,o310,o410,o510,o610),(o017,o117,o217,o311,o411,o511,o611),o018,o118,o218) =>
 bindE (Y:=(Cls)×(Cls)×List UInt8×Int×Bool) (zAD (fun(v43,v7,(o019,o119,o219,o312,o412,o512,o612),(o020,o120,o220,o313,o413,o513,o613),o021,o121,o221) =>
 bindE (Y:=Int×Int×(Cls)×(Cls)×List UInt8×Int×Bool) (cndO (decide (v7<v43))
 (cndO (!o221)
 (some (inl (v43,v7,(o019,o119,o219,o312,o412,o512,o612),(o020,o120,o220,o313,o413,o513,o613),o021,o121,o221)))
 (some (inr (inr (inl ((o019,o119,o219,o312,o412,o512,o612),(o020,o120,o220,o313,o413,o513,o613),o021,o121,o221))))))
 (some (inr (inr (inl ((o019,o119,o219,o312,o412,o512,o612),(o020,o120,o220,o313,o413,o513,o613),o021,o121,o221)))))) fun(v44,v71,(o022,o122,o222,o314,o414,o514,o614),(o023,o123,o223,o315,o415,o515,o615),o024,o124,o224) =>
 zAA (F223 (o024,o124,o224)) fun((y28,y29,y30,y31,y32,y33,x,x1),x2,x3,x4) =>
 grdO (decide (List.length o615+1≤9223372036854775807)&&decide ((List.length o615+1)*104≤140737488355328)) (some (inl (v44,IntKind.wrap .i64 (v71+1),(o022,o122,o222,o314,o414,o514,o614),(o023,o123,o223,o315,o415,o515,o615++[(y28,y29,y30,y31,y32,y33,x,x1)]),x2,x3,x4)))) ((v42,(0:Int),(o016,o116,o216,o310,o410,o510,o610),(o017,o117,o217,o311,o411,o511,o611),o018,o118,o218))) fun((o019,o119,o219,o312,o412,o512,o612),(o020,o120,o220,o313,o413,o513,o613),o021,o121,o221) =>
 some (((o020,o120,o220,o313,o413,o513,o613),o021,o121,o221))
def tb142:=insT 142 (mkE 142 false [(0,[])] ti142 to142 F142 [.cell 2 34] 111 [100000]) tb223
theorem ok142:TbOk Tryz.prog tb142:=okI ok223 tp142 tv142 func142 rfl call142
abbrev ti63:SPat:=⟨[(0,.s)],[]⟩
abbrev to63:SPat:=⟨[(2,.ptr 2 0),(3,.b)],[.box 2 (pl plD)]⟩
def F63:List UInt8→Option (Bool×Cls):=fun s =>
 cndO (decide (900<(s.length:Int)))
 (some ((false,[],(0:Int),(0:Int),(0:Int),[],[],[])))
 (zAA (F142 (s,(0:Int),false)) fun((y,y1,y2,y3,y4,y5,x),x1,x2,x3) =>
 cndO (x3)
 (some ((false,[],(0:Int),(0:Int),(0:Int),[],[],[])))
 (cndO (!decide (x2=(s.length:Int)))
 (some ((false,[],(0:Int),(0:Int),(0:Int),[],[],[])))
 (zAA (F55 (y,y1,y2,y3,y4,y5,x)) fun y6 =>
 cndO (!decide (y6=s))
 (some ((false,[],(0:Int),(0:Int),(0:Int),[],[],[])))
 (some ((true,y,y1,y2,y3,y4,y5,x))))))
def tb63:=insT 63 (mkE 63 true [] ti63 to63 F63 [.cell 2 34,.tmp 3] 36 []) tb142
theorem ok63:TbOk Tryz.prog tb63:=okI ok142 noPl noIv func63 rfl call63
abbrev ti152:SPat:=⟨[(0,.sl tg27),(1,.sl tg27)],[]⟩
abbrev to152:SPat:=⟨[(4,.b)],[]⟩
abbrev ts152_4:SPat:=⟨[(0,.sl tg27),(1,.sl tg27),(5,.i .i64)],[]⟩
abbrev zLb:SPat:=⟨[],[]⟩
def tv152:Nat→Option SPat:=fun k=>bif k==4 then some ts152_4 else bif k==2000000 then some zLb else none
def tp152:Nat→List Nat×Plan:=fun id=>bif id==6 then([0,1,2,3,4,5,6,7,8],.fin)else([],.fin)
def F152:List Cst×List Cst→Option (Bool):=fun(a,b) =>
 cndO (!decide ((a.length:Int)=(b.length:Int)))
 (some (false))
 (bindE (zAD (fun(a1,b1,i) =>
 cndO (decide (i<(a1.length:Int)))
 (grdO (decide (0≤i)) (atO (a1) i.toNat fun x=>grdO (decide (0≤i)) (atO (b1) i.toNat fun x1=>cndO (!(decide (x.1=x1.1)&&(decide (x.2.1=x1.2.1)&&(decide (x.2.2.1=x1.2.2.1)&&(decide (x.2.2.2=x1.2.2.2)&&true)))))
 (some (inr (inr false)))
 (some (inl (a1,b1,IntKind.wrap .i64 (i+1)))))))
 (some (inr (inl ())))) ((a,b,(0:Int)))) fun _ =>
 some (true))
def tb152:=insT 152 (mkE 152 true [] ti152 to152 F152 [.tmp 4] 26 []) tb63
theorem ok152:TbOk Tryz.prog tb152:=okI ok63 tp152 tv152 func152 rfl call152
abbrev ti282:SPat:=⟨[(0,.sl zAg),(1,.sl zAg)],[]⟩
abbrev to282:SPat:=⟨[(4,.b)],[]⟩
abbrev ts282_4:SPat:=⟨[(0,.sl zAg),(1,.sl zAg),(5,.i .i64)],[]⟩
abbrev zKE:SPat:=⟨[],[]⟩
def tv282:Nat→Option SPat:=fun k=>bif k==4 then some ts282_4 else bif k==2000000 then some zKE else none
def tp282:Nat→List Nat×Plan:=fun id=>bif id==6 then([0,1,2,3,4,5,6,7,8],.fin)else([],.fin)
def F282:List (Int×Int)×List (Int×Int)→Option (Bool):=fun(a,b) =>
 cndO (!decide ((a.length:Int)=(b.length:Int)))
 (some (false))
 (bindE (zAD (fun(a1,b1,i) =>
 cndO (decide (i<(a1.length:Int)))
 (grdO (decide (0≤i)) (atO (a1) i.toNat fun x=>grdO (decide (0≤i)) (atO (b1) i.toNat fun x1=>cndO (!(decide (x.1=x1.1)&&(decide (x.2=x1.2)&&true)))
 (some (inr (inr false)))
 (some (inl (a1,b1,IntKind.wrap .i64 (i+1)))))))
 (some (inr (inl ())))) ((a,b,(0:Int)))) fun _ =>
 some (true))
def tb282:=insT 282 (mkE 282 true [] ti282 to282 F282 [.tmp 4] 26 []) tb152
theorem ok282:TbOk Tryz.prog tb282:=okI ok152 tp282 tv282 func282 rfl call282
abbrev ti228:SPat:=⟨[(0,.sl zBL),(1,.sl zBL)],[]⟩
abbrev to228:SPat:=⟨[(4,.b)],[]⟩
abbrev ts228_4:SPat:=⟨[(0,.sl zBL),(1,.sl zBL),(5,.i .i64)],[]⟩
abbrev zKd:SPat:=⟨[],[]⟩
abbrev zKc:SPat:=⟨[(0,.sl zBL),(1,.sl zBL),(5,.i .i64)],[]⟩
def tv228:Nat→Option SPat:=fun k=>bif k==4 then some ts228_4 else bif k==2000000 then some zKd else bif k==2000001 then some zKc else none
def tp228:Nat→List Nat×Plan:=fun id=>bif id==6 then([0,1,2,3,4,5,6,7,8,9,10,11,12,13,14,15,16,17,18,19,20,21],(.br 22 [21,20,19,18,17,16,15,14,13,12,11,10,9,8,7,6,5,4,3,2,1,0] [] [23,24,25,26,27,28,29,30,31,32,33,34,35] (.br 36 [35,34,33,32,31,30,29,28,27,26,25,24,23,22,21,20,19,18,17,16,15,14,13,12,11,10,9,8,7,6,5,4,3,2,1,0] [] [37,38] .fin .fin) .fin))else([],.fin)
def F228:List Frm×List Frm→Option (Bool):=fun(a,b) =>
 cndO (!decide ((a.length:Int)=(b.length:Int)))
 (some (false))
 (bindE (zAD (fun(a1,b1,i) =>
 cndO (decide (i<(a1.length:Int)))
 (bindE (Y:=List Frm×List Frm×Int) (grdO (decide (0≤i)) (atO (a1) i.toNat fun x=>grdO (decide (0≤i)) (atO (b1) i.toNat fun x1=>cndO (!decide (x.1=x1.1))
 (some (inr (inr (inr false))))
 (grdO (decide (0≤i)) (atO (a1) i.toNat fun x2=>grdO (decide (0≤i)) (atO (b1) i.toNat fun x3=>zAA (F282 (x2.2.1,x3.2.1)) fun y =>
 cndO (!y)
 (some (inr (inr (inr false))))
 (grdO (decide (0≤i)) (atO (a1) i.toNat fun x4=>grdO (decide (0≤i)) (atO (b1) i.toNat fun x5=>zAA (F282 (x4.2.2,x5.2.2)) fun y1 =>
 cndO (!y1)
 (some (inr (inr (inr false))))
 (some (inl (a1,b1,i)))))))))))) fun(a2,b2,i1) =>
 some (inl (a2,b2,IntKind.wrap .i64 (i1+1))))
 (some (inr (inl ())))) ((a,b,(0:Int)))) fun _ =>
 some (true))
def tb228:=insT 228 (mkE 228 true [] ti228 to228 F228 [.tmp 4] 56 []) tb282
theorem ok228:TbOk Tryz.prog tb228:=okI ok282 tp228 tv228 func228 rfl call228
abbrev ti153:SPat:=⟨[(0,.agg (pl plM)),(1,.agg (pl plM))],[]⟩
abbrev to153:SPat:=⟨[(4,.b)],[]⟩
abbrev ts153_4:SPat:=⟨[(2,.ptr 2 0),(3,.ptr 3 0),(5,.i .i64)],[.box 2 (pl plM),.box 3 (pl plM)]⟩
abbrev zLa:SPat:=⟨[(2,.ptr 2 0),(3,.ptr 3 0)],[.box 2 (pl plM),.box 3 (pl plM)]⟩
abbrev zLZ:SPat:=⟨[(2,.ptr 2 0),(3,.ptr 3 0)],[.box 2 (pl plM),.box 3 (pl plM)]⟩
def tv153:Nat→Option SPat:=fun k=>bif k==4 then some ts153_4 else bif k==1000003 then some zLa else bif k==2000000 then some zLZ else none
def tp153:Nat→List Nat×Plan:=fun id=>bif id==6 then([0,1,2,3,4,5,6,7,8,9,10],.fin)else([],.fin)
def F153:(Mth)×Mth→Option (Bool):=fun((app0,app1,app2,app3,app4,app5,app6,app7),v10,v11,v12,v13,v14,v15,v16,v17) =>
 bindE (Y:=(Mth)×Mth) (cndO (!decide (app0=v10))
 (some (inr false))
 (cndO (!decide (app1=v11))
 (some (inr false))
 (cndO (!decide (app2=v12))
 (some (inr false))
 (cndO (!decide (app3=v13))
 (some (inr false))
 (cndO (!decide (app4=v14))
 (some (inr false))
 (cndO (!decide (app5=v15))
 (some (inr false))
 (cndO (!decide ((app6.length:Int)=(v16.length:Int)))
 (some (inr false))
 (some (inl ((app0,app1,app2,app3,app4,app5,app6,app7),v10,v11,v12,v13,v14,v15,v16,v17)))))))))) fun((o0,o1,o2,o3,o4,o5,o6,o7),o01,o11,o21,o31,o41,o51,o61,o71) =>
 bindE (Y:=(Mth)×Mth) (zAD (fun(v5,(o02,o12,o22,o32,o42,o52,o62,o72),o03,o13,o23,o33,o43,o53,o63,o73) =>
 cndO (decide (v5<(o62.length:Int)))
 (grdO (decide (0≤v5)) (atO (o62) v5.toNat fun x=>grdO (decide (0≤v5)) (atO (o63) v5.toNat fun x1=>cndO (!(decide (x.1=x1.1)&&(decide (x.2.1=x1.2.1)&&(decide (x.2.2.1=x1.2.2.1)&&(decide (x.2.2.2=x1.2.2.2)&&true)))))
 (some (inr (inr false)))
 (some (inl (IntKind.wrap .i64 (v5+1),(o02,o12,o22,o32,o42,o52,o62,o72),o03,o13,o23,o33,o43,o53,o63,o73))))))
 (some (inr (inl ((o02,o12,o22,o32,o42,o52,o62,o72),o03,o13,o23,o33,o43,o53,o63,o73))))) (((0:Int),(o0,o1,o2,o3,o4,o5,o6,o7),o01,o11,o21,o31,o41,o51,o61,o71))) fun((o02,o12,o22,o32,o42,o52,o62,o72),o03,o13,o23,o33,o43,o53,o63,o73) =>
 zAA (F228 (o72,o73)) fun y =>
 some (y)
def tb153:=insT 153 (mkE 153 true [] ti153 to153 F153 [.tmp 4] 78 []) tb228
theorem ok153:TbOk Tryz.prog tb153:=okI ok228 tp153 tv153 func153 rfl call153
abbrev ti70:SPat:=⟨[(0,.agg (pl plC)),(1,.agg (pl plC))],[]⟩
abbrev to70:SPat:=⟨[(4,.b)],[]⟩
abbrev ts70_4:SPat:=⟨[(2,.ptr 2 0),(3,.ptr 3 0),(5,.i .i64)],[.box 2 (pl plC),.box 3 (pl plC)]⟩
abbrev ts70_9:SPat:=⟨[(2,.ptr 2 0),(3,.ptr 3 0),(6,.i .i64)],[.box 2 (pl plC),.box 3 (pl plC)]⟩
abbrev ts70_14:SPat:=⟨[(2,.ptr 2 0),(3,.ptr 3 0),(7,.i .i64)],[.box 2 (pl plC),.box 3 (pl plC)]⟩
abbrev zNt:SPat:=⟨[(2,.ptr 2 0),(3,.ptr 3 0)],[.box 2 (pl plC),.box 3 (pl plC)]⟩
abbrev zNs:SPat:=⟨[(2,.ptr 2 0),(3,.ptr 3 0)],[.box 2 (pl plC),.box 3 (pl plC)]⟩
abbrev zNr:SPat:=⟨[(2,.ptr 2 0),(3,.ptr 3 0)],[.box 2 (pl plC),.box 3 (pl plC)]⟩
abbrev zNq:SPat:=⟨[],[]⟩
def tv70:Nat→Option SPat:=fun k=>bif k==4 then some ts70_4 else bif k==9 then some ts70_9 else bif k==14 then some ts70_14 else bif k==1000003 then some zNt else bif k==2000000 then some zNs else bif k==2000002 then some zNr else bif k==2000004 then some zNq else none
def tp70:Nat→List Nat×Plan:=fun id=>bif id==6 then([0,1,2,3,4,5,6,7,8,9,10],.fin)else bif id==11 then([0,1,2,3,4,5,6,7,8,9,10],.fin)else bif id==16 then([0,1,2,3,4,5,6,7,8,9],(.br 10 [9,8,7,6,5,4,3,2,1,0] [] [11] .fin .fin))else([],.fin)
def F70:(Cls)×Cls→Option (Bool):=fun((app0,app1,app2,app3,app4,app5,app6),v10,v11,v12,v13,v14,v15,v16) =>
 bindE (Y:=(Cls)×Cls) (zAA (F152 (app0,v10)) fun y =>
 cndO (!y)
 (some (inr false))
 (cndO (!decide (app1=v11))
 (some (inr false))
 (cndO (!decide (app2=v12))
 (some (inr false))
 (cndO (!decide (app3=v13))
 (some (inr false))
 (cndO (!decide ((app4.length:Int)=(v14.length:Int)))
 (some (inr false))
 (cndO (!decide ((app5.length:Int)=(v15.length:Int)))
 (some (inr false))
 (cndO (!decide ((app6.length:Int)=(v16.length:Int)))
 (some (inr false))
 (some (inl ((app0,app1,app2,app3,app4,app5,app6),v10,v11,v12,v13,v14,v15,v16)))))))))) fun((o0,o1,o2,o3,o4,o5,o6),o01,o11,o21,o31,o41,o51,o61) =>
 bindE (Y:=(Cls)×Cls) (zAD (fun(v5,(o02,o12,o22,o32,o42,o52,o62),o03,o13,o23,o33,o43,o53,o63) =>
 cndO (decide (v5<(o42.length:Int)))
 (grdO (decide (0≤v5)) (atO (o42) v5.toNat fun x=>grdO (decide (0≤v5)) (atO (o43) v5.toNat fun x1=>cndO (!decide (x=x1))
 (some (inr (inr false)))
 (some (inl (IntKind.wrap .i64 (v5+1),(o02,o12,o22,o32,o42,o52,o62),o03,o13,o23,o33,o43,o53,o63))))))
 (some (inr (inl ((o02,o12,o22,o32,o42,o52,o62),o03,o13,o23,o33,o43,o53,o63))))) (((0:Int),(o0,o1,o2,o3,o4,o5,o6),o01,o11,o21,o31,o41,o51,o61))) fun((o02,o12,o22,o32,o42,o52,o62),o03,o13,o23,o33,o43,o53,o63) =>
 bindE (Y:=(Cls)×Cls) (zAD (fun(v6,(o04,o14,o24,o34,o44,o54,o64),o05,o15,o25,o35,o45,o55,o65) =>
 cndO (decide (v6<(o54.length:Int)))
 (grdO (decide (0≤v6)) (atO (o54) v6.toNat fun x=>grdO (decide (0≤v6)) (atO (o55) v6.toNat fun x1=>cndO (!(decide (x.1=x1.1)&&(decide (x.2.1=x1.2.1)&&(decide (x.2.2=x1.2.2)&&true))))
 (some (inr (inr false)))
 (some (inl (IntKind.wrap .i64 (v6+1),(o04,o14,o24,o34,o44,o54,o64),o05,o15,o25,o35,o45,o55,o65))))))
 (some (inr (inl ((o04,o14,o24,o34,o44,o54,o64),o05,o15,o25,o35,o45,o55,o65))))) (((0:Int),(o02,o12,o22,o32,o42,o52,o62),o03,o13,o23,o33,o43,o53,o63))) fun((o04,o14,o24,o34,o44,o54,o64),o05,o15,o25,o35,o45,o55,o65) =>
 bindE (zAD (fun(v7,(o06,o16,o26,o36,o46,o56,o66),o07,o17,o27,o37,o47,o57,o67) =>
 cndO (decide (v7<(o66.length:Int)))
 (grdO (decide (0≤v7)) (atO (o66) v7.toNat fun x=>grdO (decide (0≤v7)) (atO (o67) v7.toNat fun x1=>zAA (F153 ((x.1,x.2.1,x.2.2.1,x.2.2.2.1,x.2.2.2.2.1,x.2.2.2.2.2.1,x.2.2.2.2.2.2.1,x.2.2.2.2.2.2.2),x1.1,x1.2.1,x1.2.2.1,x1.2.2.2.1,x1.2.2.2.2.1,x1.2.2.2.2.2.1,x1.2.2.2.2.2.2.1,x1.2.2.2.2.2.2.2)) fun y =>
 cndO (!y)
 (some (inr (inr false)))
 (some (inl (IntKind.wrap .i64 (v7+1),(o06,o16,o26,o36,o46,o56,o66),o07,o17,o27,o37,o47,o57,o67))))))
 (some (inr (inl ())))) (((0:Int),(o04,o14,o24,o34,o44,o54,o64),o05,o15,o25,o35,o45,o55,o65))) fun _ =>
 some (true)
def tb70:=insT 70 (mkE 70 true [] ti70 to70 F70 [.tmp 4] 117 []) tb153
theorem ok70:TbOk Tryz.prog tb70:=okI ok153 tp70 tv70 func70 rfl call70
abbrev ti22:SPat:=⟨[(0,.agg (pl plC))],[]⟩
abbrev to22:SPat:=⟨[(2,.s)],[]⟩
def F22:Cls→Option (List UInt8):=fun(c0,c1,c2,c3,c4,c5,c6) =>
 zAA (F69 (c0,c1,c2,c3,c4,c5,c6)) fun y =>
 cndO (!y)
 (some ([]))
 (zAA (F55 (c0,c1,c2,c3,c4,c5,c6)) fun y1 =>
 zAA (F63 y1) fun(y2,y3,y4,y5,y6,y7,x,x1) =>
 cndO (!y2)
 (some ([]))
 (zAA (F70 ((y3,y4,y5,y6,y7,x,x1),c0,c1,c2,c3,c4,c5,c6)) fun y8 =>
 cndO (!y8)
 (some ([]))
 (some (y1))))
def tb22:=insT 22 (mkE 22 true [] ti22 to22 F22 [.tmp 2] 25 []) tb70
theorem ok22:TbOk Tryz.prog tb22:=okI ok70 noPl noIv func22 rfl call22
abbrev ti212:SPat:=⟨[(0,.i .u8)],[]⟩
abbrev to212:SPat:=⟨[(2,.b)],[]⟩
def F212:Int→Option (Bool):=fun b =>
 cndO (decide (97≤b))
 (cndO (decide (b≤122))
 (some (true))
 (cndO (decide (65≤b))
 (some (decide (b≤90)))
 (some (false))))
 (cndO (decide (65≤b))
 (some (decide (b≤90)))
 (some (false)))
def tb212:=insT 212 (mkE 212 true [] ti212 to212 F212 [.tmp 2] 17 []) tb22
theorem ok212:TbOk Tryz.prog tb212:=okI ok22 noPl noIv func212 rfl call212
abbrev ti107:SPat:=⟨[(0,.i .i64),(1,.i .i64),(2,.i .i64)],[]⟩
abbrev to107:SPat:=⟨[(6,.b)],[]⟩
def F107:Int×Int×Int→Option (Bool):=fun(n,low,high) =>
 cndO (decide (low≤n))
 (some (decide (n≤high)))
 (some (false))
def tb107:=insT 107 (mkE 107 true [] ti107 to107 F107 [.tmp 6] 15 []) tb212
theorem ok107:TbOk Tryz.prog tb107:=okI ok212 noPl noIv func107 rfl call107
abbrev ti127:SPat:=⟨[(0,.s)],[]⟩
abbrev to127:SPat:=⟨[(2,.b)],[]⟩
abbrev ts127_2:SPat:=⟨[(0,.s),(3,.i .i64)],[]⟩
abbrev zLx:SPat:=⟨[(0,.s)],[]⟩
abbrev zLw:SPat:=⟨[(0,.s),(3,.i .i64)],[]⟩
def tv127:Nat→Option SPat:=fun k=>bif k==2 then some ts127_2 else bif k==2000000 then some zLx else bif k==2000001 then some zLw else none
def F127:List UInt8→Option (Bool):=fun s =>
 bindE (Y:=List UInt8) (zAD (fun(s1,i) =>
 cndO (decide (i<(s1.length:Int)))
 (bindE (Y:=List UInt8×Int) (grdO (decide (0≤i)) (atO (s1) i.toNat fun x=>zAA (F212 (x.toNat:Int)) fun y =>
 cndO (!y)
 (cndO (decide (i=0))
 (some (inr (inr (inr false))))
 (grdO (decide (0≤i)) (atO (s1) i.toNat fun x1=>cndO (decide ((x1.toNat:Int)<48))
 (some (inr (inr (inr false))))
 (grdO (decide (0≤i)) (atO (s1) i.toNat fun x2=>cndO (decide (57<(x2.toNat:Int)))
 (some (inr (inr (inr false))))
 (some (inl (s1,i))))))))
 (some (inl (s1,i))))) fun(s2,i1) =>
 some (inl (s2,IntKind.wrap .i64 (i1+1))))
 (some (inr (inl s1)))) ((s,(0:Int)))) fun s1 =>
 zAA (F107 ((s1.length:Int),(1:Int),(8:Int))) fun y =>
 some (y)
def tb127:=insT 127 (mkE 127 true [] ti127 to127 F127 [.tmp 2] 34 []) tb107
theorem ok127:TbOk Tryz.prog tb127:=okI ok107 noPl tv127 func127 rfl call127
abbrev ti213:SPat:=⟨[(0,.s),(1,.i .i64)],[]⟩
abbrev to213:SPat:=⟨[(4,.i .i64)],[]⟩
abbrev ts213_6:SPat:=⟨[(0,.s),(1,.i .i64),(5,.i .i64)],[]⟩
abbrev zKt:SPat:=⟨[(0,.s),(1,.i .i64)],[]⟩
abbrev zKs:SPat:=⟨[(0,.s),(1,.i .i64)],[]⟩
abbrev zKr:SPat:=⟨[],[]⟩
def tv213:Nat→Option SPat:=fun k=>bif k==6 then some ts213_6 else bif k==1000003 then some zKt else bif k==1000005 then some zKs else bif k==2000000 then some zKr else none
def F213:List UInt8×Int→Option (Int):=fun(s,at_) =>
 bindE (Y:=List UInt8×Int) (cndO (decide (at_<(s.length:Int)))
 (grdO (decide (0≤at_)) (atO (s) at_.toNat fun x=>cndO (decide ((x.toNat:Int)=73))
 (some (inr (IntKind.wrap .i64 (at_+1))))
 (some (inl (s,at_)))))
 (some (inl (s,at_)))) fun(s1,at_1) =>
 bindE (Y:=List UInt8×Int) (cndO (decide ((s1.length:Int)≤at_1))
 (some (inr (-1:Int)))
 (grdO (decide (0≤at_1)) (atO (s1) at_1.toNat fun x=>cndO (!decide ((x.toNat:Int)=76))
 (some (inr (-1:Int)))
 (some (inl (s1,at_1)))))) fun(s2,at_2) =>
 bindE (zAD (fun(s3,at_3,i) =>
 cndO (decide (i<(s3.length:Int)))
 (grdO (decide (0≤i)) (atO (s3) i.toNat fun x=>cndO (decide ((x.toNat:Int)=59))
 (grdO (decide (0≤IntKind.wrap .i64 (at_3+1))&&decide (IntKind.wrap .i64 (at_3+1)≤i)&&decide (i≤(s3.length:Int))) (zAA (F127 (List.drop (Int.toNat (IntKind.wrap .i64 (at_3+1))) (List.take i.toNat s3))) fun y =>
 cndO (y)
 (some (inr (inr (IntKind.wrap .i64 (i+1)))))
 (some (inr (inr (-1:Int))))))
 (some (inl (s3,at_3,IntKind.wrap .i64 (i+1))))))
 (some (inr (inl ())))) ((s2,at_2,IntKind.wrap .i64 (at_2+1)))) fun _ =>
 some ((-1:Int))
def tb213:=insT 213 (mkE 213 true [] ti213 to213 F213 [.tmp 4] 48 []) tb127
theorem ok213:TbOk Tryz.prog tb213:=okI ok127 noPl tv213 func213 rfl call213
abbrev ti128:SPat:=⟨[(0,.s)],[]⟩
abbrev to128:SPat:=⟨[(2,.b)],[]⟩
def F128:List UInt8→Option (Bool):=fun s =>
 cndO (decide (0<(s.length:Int)))
 (zAA (F213 (s,(0:Int))) fun y =>
 some (decide (y=(s.length:Int))))
 (some (false))
def tb128:=insT 128 (mkE 128 true [] ti128 to128 F128 [.tmp 2] 13 []) tb213
theorem ok128:TbOk Tryz.prog tb128:=okI ok213 noPl noIv func128 rfl call128
abbrev ti214:SPat:=⟨[(0,.s)],[]⟩
abbrev to214:SPat:=⟨[(2,.own .str true),(3,.s),(4,.b)],[]⟩
abbrev ts214_5:SPat:=⟨[(0,.s),(5,.own .str true),(6,.i .i64)],[]⟩
abbrev zKq:SPat:=⟨[(0,.s),(5,.own .str true)],[]⟩
abbrev zKp:SPat:=⟨[(0,.s),(5,.own .str true),(6,.i .i64)],[]⟩
abbrev zKo:SPat:=⟨[(0,.s),(5,.own .str true),(6,.i .i64),(7,.i .i64)],[]⟩
abbrev zKn:SPat:=⟨[(0,.s),(5,.own .str true),(6,.i .i64)],[]⟩
def tv214:Nat→Option SPat:=fun k=>bif k==5 then some ts214_5 else bif k==1000004 then some zKq else bif k==1000006 then some zKp else bif k==1000009 then some zKo else bif k==2000000 then some zKn else none
def F214:List UInt8→Option (List (List UInt8)×List UInt8×Bool):=fun s =>
 bindE (Y:=List UInt8×List (List UInt8)) (cndO (decide ((s.length:Int)=0))
 (some (inr ([],[],false)))
 (atO (s) ((0:Nat)) fun x=>cndO (!decide ((x.toNat:Int)=40))
 (some (inr ([],[],false)))
 (some (inl (s,[]))))) fun(s1,out) =>
 bindE (Y:=List UInt8×List (List UInt8)×Int) (zAD (fun(s2,out1,at_) =>
 bindE (Y:=List UInt8×List (List UInt8)×Int) (cndO (decide (at_<(s2.length:Int)))
 (grdO (decide (0≤at_)) (atO (s2) at_.toNat fun x=>cndO (!decide ((x.toNat:Int)=41))
 (some (inl (s2,out1,at_)))
 (some (inr (inr (inl (s2,out1,at_)))))))
 (some (inr (inr (inl (s2,out1,at_)))))) fun(s3,out2,at_1) =>
 zAA (F213 (s3,at_1)) fun y =>
 bindE (Y:=List UInt8×List (List UInt8)×Int×Int) (cndO (decide (y<0))
 (some (inr (inr (inr ([],[],false)))))
 (cndO (decide (4≤(out2.length:Int)))
 (some (inr (inr (inr ([],[],false)))))
 (some (inl (s3,out2,at_1,y))))) fun(s4,out3,at_2,end_) =>
 grdO (decide (0≤at_2)&&decide (at_2≤end_)&&decide (end_≤(s4.length:Int))) (grdO (decide (List.length out3+1≤9223372036854775807)&&decide ((List.length out3+1)*16≤140737488355328)) (some (inl (s4,out3++[List.drop at_2.toNat (List.take end_.toNat s4)],end_))))) ((s1,out,(1:Int)))) fun(s2,out1,at_) =>
 cndO (decide ((s2.length:Int)≤at_))
 (some (([],[],false)))
 (grdO (decide (0≤IntKind.wrap .i64 (at_+1))&&decide (IntKind.wrap .i64 (at_+1)≤(s2.length:Int))&&decide ((s2.length:Int)≤(s2.length:Int))) (cndO (!decide (List.drop (Int.toNat (IntKind.wrap .i64 (at_+1))) (List.take (Int.toNat (s2.length:Int)) s2)=[(86:UInt8)]))
 (zAA (F128 (List.drop (Int.toNat (IntKind.wrap .i64 (at_+1))) (List.take (Int.toNat (s2.length:Int)) s2))) fun y =>
 cndO (!y)
 (some (([],[],false)))
 (some ((out1,List.drop (Int.toNat (IntKind.wrap .i64 (at_+1))) (List.take (Int.toNat (s2.length:Int)) s2),true))))
 (some ((out1,List.drop (Int.toNat (IntKind.wrap .i64 (at_+1))) (List.take (Int.toNat (s2.length:Int)) s2),true)))))
def tb214:=insT 214 (mkE 214 true [] ti214 to214 F214 [.tmp 2,.tmp 3,.tmp 4] 63 []) tb128
theorem ok214:TbOk Tryz.prog tb214:=okI ok128 noPl tv214 func214 rfl call214
abbrev ti129:SPat:=⟨[(0,.s)],[]⟩
abbrev to129:SPat:=⟨[(2,.b)],[]⟩
def F129:List UInt8→Option (Bool):=fun s =>
 zAA (F214 s) fun(y,y1,y2) =>
 some (y2)
def tb129:=insT 129 (mkE 129 true [] ti129 to129 F129 [.tmp 2] 13 []) tb214
theorem ok129:TbOk Tryz.prog tb129:=okI ok214 noPl noIv func129 rfl call129
abbrev ti215:SPat:=⟨[(0,.sl tg27),(1,.i .i64)],[]⟩
abbrev to215:SPat:=⟨[(4,.ptr 4 0)],[.box 4 (pl [.i .i64,.s,.i .i64,.i .i64])]⟩
def F215:List Cst×Int→Option (Cst):=fun(pool,i) =>
 zAA (F107 (i,(1:Int),(pool.length:Int))) fun y =>
 cndO (y)
 (grdO (decide (0≤IntKind.wrap .i64 (i-1))) (atO (pool) (Int.toNat (IntKind.wrap .i64 (i-1))) fun x=>some ((x.1,x.2.1,x.2.2.1,x.2.2.2))))
 (some (((0:Int),[],(0:Int),(0:Int))))
def tb215:=insT 215 (mkE 215 true [] ti215 to215 F215 [.cell 4 27] 15 []) tb129
theorem ok215:TbOk Tryz.prog tb215:=okI ok129 noPl noIv func215 rfl call215
abbrev ti130:SPat:=⟨[(0,.sl tg27),(1,.i .i64)],[]⟩
abbrev to130:SPat:=⟨[(4,.s)],[]⟩
def F130:List Cst×Int→Option (List UInt8):=fun(pool,i) =>
 zAA (F215 (pool,i)) fun(y,y1,y2,y3) =>
 zAA (F215 (pool,y2)) fun(y4,y5,y6,y7) =>
 cndO (!decide (y=2))
 (some ([]))
 (cndO (!decide (y4=1))
 (some ([]))
 (zAA (F127 y5) fun y8 =>
 cndO (!y8)
 (some ([]))
 (some (y5))))
def tb130:=insT 130 (mkE 130 true [] ti130 to130 F130 [.tmp 4] 30 []) tb215
theorem ok130:TbOk Tryz.prog tb130:=okI ok215 noPl noIv func130 rfl call130
abbrev ti131:SPat:=⟨[(0,.sl tg27),(1,.i .i64)],[]⟩
abbrev to131:SPat:=⟨[(4,.s)],[]⟩
def F131:List Cst×Int→Option (List UInt8):=fun(pool,i) =>
 zAA (F215 (pool,i)) fun(y,y1,y2,y3) =>
 cndO (!decide (y=1))
 (some ([]))
 (some (y1))
def tb131:=insT 131 (mkE 131 true [] ti131 to131 F131 [.tmp 4] 14 []) tb130
theorem ok131:TbOk Tryz.prog tb131:=okI ok130 noPl noIv func131 rfl call131
abbrev ti132:SPat:=⟨[(0,.sl tg27),(1,.i .i64)],[]⟩
abbrev to132:SPat:=⟨[(4,.s),(5,.s),(6,.s)],[]⟩
def tp132:Nat→List Nat×Plan:=fun id=>bif id==3 then([0,1,2,4,5,6,8,9,10],(.br 3 [2,1,0] [4,5,6,8,9,10] [] (.br 7 [6,5,4,3,2,1,0] [8,9,10] [] (.br 11 [10,9,8,7,6,5,4,3,2,1,0] [] [] (.br 12 [11,10,9,8,7,6,5,4,3,2,1,0] [] [] (.br 13 [12,11,10,9,8,7,6,5,4,3,2,1,0] [] [] (.br 14 [13,12,11,10,9,8,7,6,5,4,3,2,1,0] [] [] .fin .fin) .fin) .fin) .fin) .fin) .fin))else([],.fin)
def F132:List Cst×Int→Option (List UInt8×List UInt8×List UInt8):=fun(pool,i) =>
 zAA (F215 (pool,i)) fun(y,y1,y2,y3) =>
 zAA (F215 (pool,y3)) fun(y4,y5,y6,y7) =>
 zAA (F130 (pool,y2)) fun y8 =>
 seqU (seqU (grdO (decide (pool=pool)) (some ())) (seqU (grdO (decide (y6=y6)) (some ())) (seqU (grdO (decide (pool=pool)) (some ())) (seqU (grdO (decide (y7=y7)) (some ())) (some ()))))) (zAA (F131 (pool,y6)) fun y9 =>
 seqU (seqU (grdO (decide (pool=pool)) (some ())) (seqU (grdO (decide (y7=y7)) (some ())) (some ()))) (zAA (F131 (pool,y7)) fun y10 =>
 some ((y8,y9,y10))))
def tb132:=insT 132 (mkE 132 true [] ti132 to132 F132 [.tmp 4,.tmp 5,.tmp 6] 28 []) tb131
theorem ok132:TbOk Tryz.prog tb132:=okI ok131 tp132 noIv func132 rfl call132
abbrev ti133:SPat:=⟨[(0,.sl tg27),(1,.i .i64),(2,.i .i64)],[]⟩
abbrev to133:SPat:=⟨[(6,.b)],[]⟩
def F133:List Cst×Int×Int→Option (Bool):=fun(pool,i,kind_) =>
 zAA (F215 (pool,i)) fun(y,y1,y2,y3) =>
 some (decide (y=kind_))
def tb133:=insT 133 (mkE 133 true [] ti133 to133 F133 [.tmp 6] 13 []) tb132
theorem ok133:TbOk Tryz.prog tb133:=okI ok132 noPl noIv func133 rfl call133
end Go.Proofs.YtdpapeledldifaaGreat
end
