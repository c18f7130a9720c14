/- Part 29 of the proof that the law FnExactFrameLess holds of every input; no condition. -/
import Derived.Test.YtdpapeledldifaaGreatX27
set_option autoImplicit true
set_option relaxedAutoImplicit true
set_option linter.all false
noncomputable section
namespace Go.Proofs.YtdpapeledldifaaGreat
open Go Go.AM Go.TM
open Go.Proofs.Tryz
open Sum (inl inr)
set_option maxRecDepth 100000
set_option maxHeartbeats 4000000
abbrev ti288:SPat:=⟨[(0,.s),(1,.sc [41])],[]⟩
abbrev to288:SPat:=⟨[(4,.s),(5,.s),(6,.b)],[]⟩
def tp288:Nat→List Nat×Plan:=fun id=>bif id==3 then([0,1,2,3,4,5,6,7,8],(.br 9 [2,1,0] [3,4,5,6,7,8] [] (.br 10 [9,8,7,6,5,4,3,2,1,0] [] [] (.br 11 [10,9,8,7,6,5,4,3,2,1,0] [] [] .fin .fin) .fin) .fin))else([],.fin)
def F288:List UInt8→Option (List UInt8×List UInt8×Bool):=fun s =>
 zAA (F321 s) fun y =>
 cndO (decide (0≤y))
 (grdO (decide (0≤y)&&decide (y≤(s.length:Int))) (grdO (decide (0≤IntKind.wrap .i64 (y+1))&&decide (IntKind.wrap .i64 (y+1)≤(s.length:Int))&&decide ((s.length:Int)≤(s.length:Int))) (seqU (seqU (grdO (decide (s=s)) (some ())) (seqU (grdO (decide (y=y)) (some ())) (seqU (grdO (decide (IntKind.wrap .i64 (y+1)=IntKind.wrap .i64 (y+1))) (some ())) (seqU (grdO (decide (0≤IntKind.wrap .i64 (y+1))&&decide (IntKind.wrap .i64 (y+1)≤(s.length:Int))&&decide ((s.length:Int)≤(s.length:Int))) (grdO (decide (List.drop (Int.toNat (IntKind.wrap .i64 (y+1))) (List.take (Int.toNat (s.length:Int)) s)=List.drop (Int.toNat (IntKind.wrap .i64 (y+1))) (List.take (Int.toNat (s.length:Int)) s))) (some ()))) (some ()))))) (some ((List.drop (0:Nat) (List.take y.toNat s),List.drop (Int.toNat (IntKind.wrap .i64 (y+1))) (List.take (Int.toNat (s.length:Int)) s),true))))))
 (some ((s,[],false)))
def tb288:=insT 288 (mkE 288 true [] ti288 to288 F288 [.tmp 4,.tmp 5,.tmp 6] 23 []) tb321
theorem ok288:TbOk Tryz.prog tb288:=okI ok321 tp288 noIv func288 rfl call288
abbrev ti238:SPat:=⟨[(0,.s),(1,.sc [41])],[]⟩
abbrev to238:SPat:=⟨[(4,.s),(5,.s),(6,.b)],[]⟩
def F238:List UInt8→Option (List UInt8×List UInt8×Bool):=fun s =>
 zAA (F288 s) fun(y,y1,y2) =>
 some ((y,y1,y2))
def tb238:=insT 238 (mkE 238 true [] ti238 to238 F238 [.tmp 4,.tmp 5,.tmp 6] 13 []) tb288
theorem ok238:TbOk Tryz.prog tb238:=okI ok288 noPl noIv func238 rfl call238
abbrev ti239:SPat:=⟨[(0,.s),(1,.i .u8)],[]⟩
abbrev to239:SPat:=⟨[(4,.i .i64)],[]⟩
def F239:List UInt8×Int→Option (Int):=fun(s,c) =>
 zAA (F289 (s,c)) fun y =>
 some (y)
def tb239:=insT 239 (mkE 239 true [] ti239 to239 F239 [.tmp 4] 8 []) tb238
theorem ok239:TbOk Tryz.prog tb239:=okI ok238 noPl noIv func239 rfl call239
abbrev ti170:SPat:=⟨[(0,.s)],[]⟩
abbrev to170:SPat:=⟨[(2,.own .str true),(3,.s),(4,.b)],[]⟩
abbrev ts170_6:SPat:=⟨[(6,.s),(8,.s),(10,.own .str true)],[]⟩
abbrev zLY:SPat:=⟨[(6,.s),(8,.s)],[]⟩
abbrev zLX:SPat:=⟨[(6,.s),(8,.s),(10,.own .str true),(11,.i .i64)],[]⟩
abbrev zLW:SPat:=⟨[(6,.s),(8,.s),(10,.own .str true),(11,.i .i64)],[]⟩
abbrev zLV:SPat:=⟨[(6,.s),(10,.own .str true)],[]⟩
def tv170:Nat→Option SPat:=fun k=>bif k==6 then some ts170_6 else bif k==1000005 then some zLY else bif k==1000010 then some zLX else bif k==1000012 then some zLW else bif k==2000000 then some zLV else none
def F170:List UInt8→Option (List (List UInt8)×List UInt8×Bool):=fun app =>
 zAA (F238 app) fun(y,y1,y2) =>
 zAA (F204 (y,[(40:UInt8)])) fun(y3,y4) =>
 bindE (Y:=List UInt8×List UInt8) (cndO (!y2)
 (some (inr ([],[],false)))
 (cndO (!y4)
 (some (inr ([],[],false)))
 (cndO (!decide (y1=[(86:UInt8)]))
 (zAA (F122 y1) fun y5 =>
 cndO (!y5)
 (some (inr ([],[],false)))
 (some (inl (y1,y3))))
 (some (inl (y1,y3)))))) fun(v6,v8) =>
 bindE (Y:=List UInt8×List (List UInt8)) (zAD (fun(v61,v81,v10) =>
 cndO (!decide (v81=[]))
 (bindE (Y:=List UInt8×List UInt8×List (List UInt8)×Int) (atO (v81) ((0:Nat)) fun x=>cndO (!decide ((x.toNat:Int)=73))
 (zAA (F239 (v81,(59:Int))) fun y5 =>
 some (inl (v61,v81,v10,IntKind.wrap .i64 (y5+1))))
 (some (inl (v61,v81,v10,(1:Int))))) fun(v62,v82,v101,v11) =>
 bindE (Y:=List UInt8×List UInt8×List (List UInt8)×Int) (grdO (decide (0≤v11)&&decide (v11≤(v82.length:Int))) (zAA (F122 (List.drop (0:Nat) (List.take v11.toNat v82))) fun y5 =>
 cndO (!y5)
 (some (inr (inr (inr ([],[],false)))))
 (cndO (decide ((v101.length:Int)=4))
 (some (inr (inr (inr ([],[],false)))))
 (some (inl (v62,v82,v101,v11)))))) fun(v63,v83,v102,v111) =>
 grdO (decide (0≤v111)&&decide (v111≤(v83.length:Int))) (grdO (decide (List.length v102+1≤9223372036854775807)&&decide ((List.length v102+1)*16≤140737488355328)) (grdO (decide (0≤v111)&&decide (v111≤(v83.length:Int))&&decide ((v83.length:Int)≤(v83.length:Int))) (some (inl (v63,List.drop v111.toNat (List.take (Int.toNat (v83.length:Int)) v83),v102++[List.drop (0:Nat) (List.take v111.toNat v83)]))))))
 (some (inr (inl (v61,v10))))) ((v6,v8,[]))) fun(v61,v10) =>
 some ((v10,v61,true))
def tb170:=insT 170 (mkE 170 true [] ti170 to170 F170 [.tmp 2,.tmp 3,.tmp 4] 67 []) tb239
theorem ok170:TbOk Tryz.prog tb170:=okI ok239 noPl tv170 func170 rfl call170
abbrev ti113:SPat:=⟨[(0,.s)],[]⟩
abbrev to113:SPat:=⟨[(2,.b)],[]⟩
def F113:List UInt8→Option (Bool):=fun s =>
 zAA (F170 s) fun(y,y1,y2) =>
 some (y2)
def tb113:=insT 113 (mkE 113 true [] ti113 to113 F113 [.tmp 2] 13 []) tb170
theorem ok113:TbOk Tryz.prog tb113:=okI ok170 noPl noIv func113 rfl call113
abbrev ti121:SPat:=⟨[(0,.s)],[]⟩
abbrev to121:SPat:=⟨[(2,.b)],[]⟩
def F121:List UInt8→Option (Bool):=fun s =>
 zAA (F122 s) fun y =>
 cndO (y)
 (some (true))
 (zAA (F113 s) fun y1 =>
 some (y1))
def tb121:=insT 121 (mkE 121 true [] ti121 to121 F121 [.tmp 2] 9 []) tb113
theorem ok121:TbOk Tryz.prog tb121:=okI ok113 noPl noIv func121 rfl call121
abbrev ti124:SPat:=⟨[(0,.sl tg27),(1,.i .i64)],[]⟩
abbrev to124:SPat:=⟨[(4,.ptr 4 0)],[.box 4 (pl [.i .i64,.s,.i .i64,.i .i64])]⟩
def F124:List Cst×Int→Option (Cst):=fun(pool,i) =>
 zAA (F89 (i,(1:Int),(pool.length:Int))) fun y =>
 cndO (!y)
 (some (((0:Int),[],(0:Int),(0:Int))))
 (grdO (decide (0≤IntKind.wrap .i64 (i-1))) (atO (pool) (Int.toNat (IntKind.wrap .i64 (i-1))) fun x=>some ((x.1,x.2.1,x.2.2.1,x.2.2.2))))
def tb124:=insT 124 (mkE 124 true [] ti124 to124 F124 [.cell 4 27] 16 []) tb121
theorem ok124:TbOk Tryz.prog tb124:=okI ok121 noPl noIv func124 rfl call124
abbrev ti49126:SPat:=⟨[(0,.sl tg27),(1,.i .i64),(2,.fn 48 (pl []))],[]⟩
abbrev to49126:SPat:=⟨[(6,.b)],[]⟩
def F49126:List Cst×Int→Option (Bool):=fun(pool,i) =>
 zAA (F124 (pool,i)) fun(y,y1,y2,y3) =>
 cndO (decide (y=1))
 (zAA (F48 y1) fun y4 =>
 some (y4))
 (some (false))
def zTc:=insT 49126 (mkE 126 true [] ti49126 to49126 F49126 [.tmp 6] 20 []) tb124
theorem ok49126:TbOk Tryz.prog zTc:=okI ok124 noPl noIv func126 rfl call126
abbrev ti122126:SPat:=⟨[(0,.sl tg27),(1,.i .i64),(2,.fn 121 (pl []))],[]⟩
abbrev to122126:SPat:=⟨[(6,.b)],[]⟩
def F122126:List Cst×Int→Option (Bool):=fun(pool,i) =>
 zAA (F124 (pool,i)) fun(y,y1,y2,y3) =>
 cndO (decide (y=1))
 (zAA (F121 y1) fun y4 =>
 some (y4))
 (some (false))
def zRg:=insT 122126 (mkE 126 true [] ti122126 to122126 F122126 [.tmp 6] 20 []) zTc
theorem ok122126:TbOk Tryz.prog zRg:=okI ok49126 noPl noIv func126 rfl call126
abbrev ti125:SPat:=⟨[(0,.sl tg27),(1,.i .i64)],[]⟩
abbrev to125:SPat:=⟨[(4,.b)],[]⟩
def F125:List Cst×Int→Option (Bool):=fun(pool,i) =>
 zAA (F124 (pool,i)) fun(y,y1,y2,y3) =>
 cndO (decide (y=2))
 (zAA (F49126 (pool,y2)) fun y4 =>
 some (y4))
 (some (false))
def tb125:=insT 125 (mkE 125 true [] ti125 to125 F125 [.tmp 4] 18 []) zRg
theorem ok125:TbOk Tryz.prog tb125:=okI ok122126 noPl noIv func125 rfl call125
abbrev ti123126:SPat:=⟨[(0,.sl tg27),(1,.i .i64),(2,.fn 122 (pl []))],[]⟩
abbrev to123126:SPat:=⟨[(6,.b)],[]⟩
def F123126:List Cst×Int→Option (Bool):=fun(pool,i) =>
 zAA (F124 (pool,i)) fun(y,y1,y2,y3) =>
 cndO (decide (y=1))
 (zAA (F122 y1) fun y4 =>
 some (y4))
 (some (false))
def zRe:=insT 123126 (mkE 126 true [] ti123126 to123126 F123126 [.tmp 6] 20 []) tb125
theorem ok123126:TbOk Tryz.prog zRe:=okI ok125 noPl noIv func126 rfl call126
abbrev ti123123:SPat:=⟨[(0,.fn 122 (pl [])),(1,.ptr 100000 0),(2,.ptr 100001 0)],[.box 100000 (pl [.sl tg27]),.box 100001 (pl [.i .i64,.s,.i .i64,.i .i64])]⟩
abbrev to123123:SPat:=⟨[(4,.b)],[.box 100000 (pl [.sl tg27]),.box 100001 (pl [.i .i64,.s,.i .i64,.i .i64])]⟩
def F123123:List Cst×Cst→Option (Bool×List Cst×Cst):=fun(o0,o01,o1,o2,o3) =>
 zAA (F124 (o0,o3)) fun(y,y1,y2,y3) =>
 cndO (decide (o1=[]))
 (zAA (F125 (o0,o2)) fun y4 =>
 cndO (y4)
 (cndO (decide (y=3))
 (zAA (F123126 (o0,y3)) fun y5 =>
 some ((y5,o0,o01,o1,o2,o3)))
 (some ((false,o0,o01,o1,o2,o3))))
 (some ((false,o0,o01,o1,o2,o3))))
 (some ((false,o0,o01,o1,o2,o3)))
def zRf:=insT 123123 (mkE 123 false [(1,[]),(2,[])] ti123123 to123123 F123123 [.tmp 4] 31 [100000,100001]) zRe
theorem ok123123:TbOk Tryz.prog zRf:=okI ok123126 noPl noIv func123 rfl call123
abbrev ti114126:SPat:=⟨[(0,.sl tg27),(1,.i .i64),(2,.fn 113 (pl []))],[]⟩
abbrev to114126:SPat:=⟨[(6,.b)],[]⟩
def F114126:List Cst×Int→Option (Bool):=fun(pool,i) =>
 zAA (F124 (pool,i)) fun(y,y1,y2,y3) =>
 cndO (decide (y=1))
 (zAA (F113 y1) fun y4 =>
 some (y4))
 (some (false))
def zRh:=insT 114126 (mkE 126 true [] ti114126 to114126 F114126 [.tmp 6] 20 []) zRf
theorem ok114126:TbOk Tryz.prog zRh:=okI ok123123 noPl noIv func126 rfl call126
abbrev ti114123:SPat:=⟨[(0,.fn 113 (pl [])),(1,.ptr 100000 0),(2,.ptr 100001 0)],[.box 100000 (pl [.sl tg27]),.box 100001 (pl [.i .i64,.s,.i .i64,.i .i64])]⟩
abbrev to114123:SPat:=⟨[(4,.b)],[.box 100000 (pl [.sl tg27]),.box 100001 (pl [.i .i64,.s,.i .i64,.i .i64])]⟩
def F114123:List Cst×Cst→Option (Bool×List Cst×Cst):=fun(o0,o01,o1,o2,o3) =>
 zAA (F124 (o0,o3)) fun(y,y1,y2,y3) =>
 cndO (decide (o1=[]))
 (zAA (F125 (o0,o2)) fun y4 =>
 cndO (y4)
 (cndO (decide (y=3))
 (zAA (F114126 (o0,y3)) fun y5 =>
 some ((y5,o0,o01,o1,o2,o3)))
 (some ((false,o0,o01,o1,o2,o3))))
 (some ((false,o0,o01,o1,o2,o3))))
 (some ((false,o0,o01,o1,o2,o3)))
def zRi:=insT 114123 (mkE 123 false [(1,[]),(2,[])] ti114123 to114123 F114123 [.tmp 4] 31 [100000,100001]) zRh
theorem ok114123:TbOk Tryz.prog zRi:=okI ok114126 noPl noIv func123 rfl call123
abbrev ti52:SPat:=⟨[(0,.sl tg27),(1,.agg (pl [.i .i64,.s,.i .i64,.i .i64]))],[]⟩
abbrev to52:SPat:=⟨[(4,.b)],[]⟩
abbrev zOV:SPat:=⟨[],[]⟩
def tv52:Nat→Option SPat:=fun k=>bif k==2000000 then some zOV else none
def F52:List Cst×Cst→Option (Bool):=fun(app,v10,v11,v12,v13) =>
 bindE (cndO (decide (v10=1))
 (cndO (decide (v12=0))
 (cndO (decide (v13=0))
 (zAA (F48 v11) fun y =>
 cndO (y)
 (some (inr true))
 (zAA (F121 v11) fun y1 =>
 some (inr y1)))
 (some (inr false)))
 (some (inr false)))
 (cndO (decide (v10=2))
 (cndO (decide (v11=[]))
 (cndO (decide (v13=0))
 (zAA (F49126 (app,v12)) fun y =>
 some (inr y))
 (some (inr false)))
 (some (inr false)))
 (cndO (decide (v10=3))
 (cndO (decide (v11=[]))
 (zAA (F49126 (app,v12)) fun y =>
 cndO (y)
 (zAA (F122126 (app,v13)) fun y1 =>
 some (inr y1))
 (some (inr false)))
 (some (inr false)))
 (cndO (decide (v10=4))
 (zAA (F123123 (app,v10,v11,v12,v13)) fun(y,y1,y2,y3,y4,y5) =>
 some (inr y))
 (cndO (decide (v10=5))
 (zAA (F114123 (app,v10,v11,v12,v13)) fun(y,y1,y2,y3,y4,y5) =>
 some (inr y))
 (cndO (decide (v10=6))
 (zAA (F114123 (app,v10,v11,v12,v13)) fun(y,y1,y2,y3,y4,y5) =>
 some (inr y))
 (some (inl ())))))))) fun _ =>
 some (false)
def tb52:=insT 52 (mkE 52 true [] ti52 to52 F52 [.tmp 4] 74 []) zRi
theorem ok52:TbOk Tryz.prog tb52:=okI ok114123 noPl tv52 func52 rfl call52
abbrev ti14:SPat:=⟨[(0,.sl tg27)],[]⟩
abbrev to14:SPat:=⟨[(2,.i .i64)],[]⟩
abbrev ts14_2:SPat:=⟨[(0,.sl tg27),(5,.sl tg27),(6,.i .i64),(7,.i .i64)],[]⟩
abbrev zOw:SPat:=⟨[],[]⟩
def tv14:Nat→Option SPat:=fun k=>bif k==2 then some ts14_2 else bif k==2000000 then some zOw else none
def F14:List Cst→Option (Int):=fun pool =>
 bindE (zAD (fun(pool1,v5,v6,v7) =>
 cndO (decide (v7<v6))
 (grdO (decide (0≤v7)) (atO (v5) v7.toNat fun x=>cndO (decide (v7=60))
 (some (inr (inr (61:Int))))
 (zAA (F52 (pool1,x.1,x.2.1,x.2.2.1,x.2.2.2)) fun y =>
 cndO (!y)
 (some (inr (inr (IntKind.wrap .i64 (v7+1)))))
 (some (inl (pool1,v5,v6,IntKind.wrap .i64 (v7+1)))))))
 (some (inr (inl ())))) ((pool,pool,(pool.length:Int),(0:Int)))) fun _ =>
 some ((0:Int))
def tb14:=insT 14 (mkE 14 true [] ti14 to14 F14 [.tmp 2] 21 []) tb52
theorem ok14:TbOk Tryz.prog tb14:=okI ok52 noPl tv14 func14 rfl call14
abbrev ti162:SPat:=⟨[(0,.agg (pl plC)),(1,.i .i64)],[]⟩
abbrev to162:SPat:=⟨[(4,.b)],[]⟩
def F162:(Cls)×Int→Option (Bool):=fun((c0,c1,c2,c3,c4,c5,c6),i) =>
 zAA (F124 (c0,i)) fun(y,y1,y2,y3) =>
 some (decide (y=2))
def tb162:=insT 162 (mkE 162 true [] ti162 to162 F162 [.tmp 4] 11 []) tb14
theorem ok162:TbOk Tryz.prog tb162:=okI ok14 noPl noIv func162 rfl call162
abbrev ti111:SPat:=⟨[(0,.agg (pl plC)),(1,.i .i64)],[]⟩
abbrev to111:SPat:=⟨[(4,.s)],[]⟩
def F111:(Cls)×Int→Option (List UInt8):=fun((c0,c1,c2,c3,c4,c5,c6),i) =>
 zAA (F124 (c0,i)) fun(y,y1,y2,y3) =>
 cndO (decide (y=2))
 (zAA (F124 (c0,y2)) fun(y4,y5,y6,y7) =>
 some (y5))
 (some (y1))
def tb111:=insT 111 (mkE 111 true [] ti111 to111 F111 [.tmp 4] 20 []) tb162
theorem ok111:TbOk Tryz.prog tb111:=okI ok162 noPl noIv func111 rfl call111
abbrev ti164:SPat:=⟨[(0,.i .i64),(1,.ptr 100000 0),(2,.ptr 100001 0)],[.box 100000 (pl plC),.box 100001 (pl [.i .i64])]⟩
abbrev to164:SPat:=⟨[(4,.b)],[.box 100000 (pl plC),.box 100001 (pl [.i .i64])]⟩
def tp164:Nat→List Nat×Plan:=fun id=>bif id==1 then([0,1,3,4],(.br 2 [1,0] [3,4] [] (.br 5 [4,3,2,1,0] [] [6] (.br 7 [6,5,4,3,2,1,0] [] [] .fin .fin) .fin) .fin))else([],.fin)
def F164:Int×(Cls)×Int→Option (Bool×(Cls)×Int):=fun(g,(o0,o1,o2,o3,o4,o5,o6),o01) =>
 zAA (F111 ((o0,o1,o2,o3,o4,o5,o6),g)) fun y =>
 seqU (seqU (grdO (decide (o0=o0)&&(decide (o1=o1)&&(decide (o2=o2)&&(decide (o3=o3)&&(decide (o4=o4)&&(decide (o5=o5)&&(decide (o6=o6)&&true))))))) (some ())) (seqU (grdO (decide (o01=o01)) (some ())) (some ()))) (zAA (F111 ((o0,o1,o2,o3,o4,o5,o6),o01)) fun y1 =>
 some ((decide (y=y1),(o0,o1,o2,o3,o4,o5,o6),o01)))
def tb164:=insT 164 (mkE 164 false [(1,[]),(2,[])] ti164 to164 F164 [.tmp 4] 12 [100000,100001]) tb111
theorem ok164:TbOk Tryz.prog tb164:=okI ok111 tp164 noIv func164 rfl call164
abbrev ti165235:SPat:=⟨[(0,.sl (.int .i64)),(1,.fn 164 (pl [.ptr 100000 0,.ptr 100001 0]))],[.box 100000 (pl plC),.box 100001 (pl [.i .i64])]⟩
abbrev to165235:SPat:=⟨[(4,.i .i64)],[.box 100000 (pl plC),.box 100001 (pl [.i .i64])]⟩
abbrev zSo:SPat:=⟨[(0,.sl (.int .i64)),(1,.fn 164 (pl [.ptr 100000 0,.ptr 100001 0])),(7,.i .i64),(8,.i .i64)],[.box 100000 (pl plC),.box 100001 (pl [.i .i64])]⟩
abbrev zHO:SPat:=⟨[],[.box 100000 (pl plC),.box 100001 (pl [.i .i64])]⟩
def tv165235:Nat→Option SPat:=fun k=>bif k==2 then some zSo else bif k==2000000 then some zHO else none
def F165235:List Int×(Cls)×Int→Option (Int×(Cls)×Int):=fun(s,(o0,o1,o2,o3,o4,o5,o6),o01) =>
 bindE (Y:=(Cls)×Int) (zAD (fun(s1,v7,v8,(o02,o11,o21,o31,o41,o51,o61),o03) =>
 cndO (decide (v8<v7))
 (grdO (decide (0≤v8)) (atO (s1) v8.toNat fun x=>zAA (F164 (x,(o02,o11,o21,o31,o41,o51,o61),o03)) fun(y,(y1,y2,y3,y4,y5,x1,x2),x3) =>
 cndO (y)
 (some (inr (inr (v8,(y1,y2,y3,y4,y5,x1,x2),x3))))
 (some (inl (s1,v7,IntKind.wrap .i64 (v8+1),(y1,y2,y3,y4,y5,x1,x2),x3)))))
 (some (inr (inl ((o02,o11,o21,o31,o41,o51,o61),o03))))) ((s,(s.length:Int),(0:Int),(o0,o1,o2,o3,o4,o5,o6),o01))) fun((o02,o11,o21,o31,o41,o51,o61),o03) =>
 some (((-1:Int),(o02,o11,o21,o31,o41,o51,o61),o03))
def zRb:=insT 165235 (mkE 235 false [(1,[0]),(1,[1])] ti165235 to165235 F165235 [.tmp 4] 19 [100000,100001]) tb164
theorem ok165235:TbOk Tryz.prog zRb:=okI ok164 noPl tv165235 func235 rfl call235
abbrev ti165163:SPat:=⟨[(0,.sl (.int .i64)),(1,.fn 164 (pl [.ptr 100000 0,.ptr 100001 0]))],[.box 100000 (pl plC),.box 100001 (pl [.i .i64])]⟩
abbrev to165163:SPat:=⟨[(4,.b)],[.box 100000 (pl plC),.box 100001 (pl [.i .i64])]⟩
def F165163:List Int×(Cls)×Int→Option (Bool×(Cls)×Int):=fun(s,(o0,o1,o2,o3,o4,o5,o6),o01) =>
 zAA (F165235 (s,(o0,o1,o2,o3,o4,o5,o6),o01)) fun(y,(y1,y2,y3,y4,y5,x,x1),x2) =>
 some ((decide (0≤y),(y1,y2,y3,y4,y5,x,x1),x2))
def zRc:=insT 165163 (mkE 163 false [(1,[0]),(1,[1])] ti165163 to165163 F165163 [.tmp 4] 9 [100000,100001]) zRb
theorem ok165163:TbOk Tryz.prog zRc:=okI ok165235 noPl noIv func163 rfl call163
abbrev ti165:SPat:=⟨[(0,.agg (pl plC))],[]⟩
abbrev to165:SPat:=⟨[(2,.b)],[]⟩
def F165:Cls→Option (Bool):=fun(c0,c1,c2,c3,c4,c5,c6) =>
 some (!decide (andI IntKind.i64 c1 (1:Int)=0))
def tb165:=insT 165 (mkE 165 true [] ti165 to165 F165 [.tmp 2] 7 []) zRc
theorem ok165:TbOk Tryz.prog tb165:=okI ok165163 noPl noIv func165 rfl call165
abbrev ti83:SPat:=⟨[(0,.agg (pl plC))],[]⟩
abbrev to83:SPat:=⟨[(2,.b)],[]⟩
abbrev ts83_4:SPat:=⟨[(1,.ptr 1 0),(31,.sl (.int .i64)),(32,.i .i64),(33,.i .i64)],[.box 1 (pl plC)]⟩
abbrev zNf:SPat:=⟨[(1,.ptr 1 0)],[.box 1 (pl plC)]⟩
abbrev zNe:SPat:=⟨[(1,.ptr 1 0)],[.box 1 (pl plC)]⟩
abbrev zNd:SPat:=⟨[(1,.ptr 1 0),(31,.sl (.int .i64)),(32,.i .i64),(33,.i .i64)],[.box 1 (pl plC)]⟩
def tv83:Nat→Option SPat:=fun k=>bif k==4 then some ts83_4 else bif k==1000003 then some zNf else bif k==2000000 then some zNe else bif k==2000001 then some zNd else none
def tp83:Nat→List Nat×Plan:=fun id=>bif id==1 then([0,1,2],(.br 3 [2,1,0] [] [4,5,6,7,8] (.br 9 [8,7,6,5,4,3,2,1,0] [] [10,11,12,13,14,15,17,18,19] (.br 16 [15,14,13,12,11,10,9,8,7,6,5,4,3,2,1,0] [17,18,19] [] (.br 20 [19,18,17,16,15,14,13,12,11,10,9,8,7,6,5,4,3,2,1,0] [] [21,22] .fin .fin) .fin) .fin) .fin))else bif id==9 then([0,1,2,3,4,5,6,7],(.br 8 [3,2,1,0] [4,5,6,7] [] (.br 9 [8,7,6,5,4,3,2,1,0] [] [] .fin .fin) .fin))else([],.fin)
def F83:Cls→Option (Bool):=fun(app0,app1,app2,app3,app4,app5,app6) =>
 bindE (Y:=Cls) (zAA (F162 ((app0,app1,app2,app3,app4,app5,app6),app2)) fun y =>
 cndO (!y)
 (some (inr false))
 (zAA (F162 ((app0,app1,app2,app3,app4,app5,app6),app3)) fun y1 =>
 cndO (!y1)
 (some (inr false))
 (zAA (F111 ((app0,app1,app2,app3,app4,app5,app6),app3)) fun y2 =>
 seqU (seqU (grdO (decide (app0=app0)&&(decide (app1=app1)&&(decide (app2=app2)&&(decide (app3=app3)&&(decide (app4=app4)&&(decide (app5=app5)&&(decide (app6=app6)&&true))))))) (some ())) (seqU (grdO (decide (app2=app2)) (some ())) (some ()))) (zAA (F111 ((app0,app1,app2,app3,app4,app5,app6),app2)) fun y3 =>
 cndO (decide (y2=y3))
 (some (inr false))
 (some (inl (app0,app1,app2,app3,app4,app5,app6))))))) fun(o0,o1,o2,o3,o4,o5,o6) =>
 bindE (Y:=Cls) (zAD (fun(v31,v32,v33,o01,o11,o21,o31,o41,o51,o61) =>
 cndO (decide (v33<v32))
 (bindE (Y:=List Int×Int×Int×Cls) (grdO (decide (0≤v33)) (atO (v31) v33.toNat fun x=>zAA (F162 ((o01,o11,o21,o31,o41,o51,o61),x)) fun y =>
 cndO (!y)
 (some (inr (inr (inr false))))
 (grdO (decide (0≤v33)&&decide (v33≤(o41.length:Int))) (zAA (F165163 (List.drop (0:Nat) (List.take v33.toNat o41),(o01,o11,o21,o31,o41,o51,o61),x)) fun(y1,(y2,y3,y4,y5,y6,x1,x2),x3) =>
 cndO (y1)
 (some (inr (inr (inr false))))
 (some (inl (v31,v32,v33,y2,y3,y4,y5,y6,x1,x2))))))) fun(v311,v321,v331,o02,o12,o22,o32,o42,o52,o62) =>
 some (inl (v311,v321,IntKind.wrap .i64 (v331+1),o02,o12,o22,o32,o42,o52,o62)))
 (some (inr (inl (o01,o11,o21,o31,o41,o51,o61))))) ((o4,(o4.length:Int),(0:Int),o0,o1,o2,o3,o4,o5,o6))) fun(o01,o11,o21,o31,o41,o51,o61) =>
 seqU (seqU (grdO (decide (o11=o11)) (some ())) (seqU (grdO (decide (andI IntKind.i64 o11 (4:Int)=andI IntKind.i64 o11 (4:Int))) (some ())) (seqU (grdO (decide ((!decide (andI IntKind.i64 o11 (4:Int)=0)) = !decide (andI IntKind.i64 o11 (4:Int)=0))) (some ())) (some ())))) (zAA (F89 (o11,(0:Int),(7:Int))) fun y =>
 cndO (y)
 (cndO (!decide (andI IntKind.i64 o11 (2:Int)=0))
 (cndO (!!decide (andI IntKind.i64 o11 (4:Int)=0))
 (zAA (F165 (o01,o11,o21,o31,o41,o51,o61)) fun y1 =>
 cndO (!y1)
 (some (true))
 (cndO (!decide (andI IntKind.i64 o11 (4:Int)=0))
 (zAA (F111 ((o01,o11,o21,o31,o41,o51,o61),o31)) fun y2 =>
 some (decide (y2=[(79:UInt8),98,106])))
 (some (false))))
 (some (false)))
 (zAA (F165 (o01,o11,o21,o31,o41,o51,o61)) fun y1 =>
 cndO (!y1)
 (some (true))
 (cndO (!decide (andI IntKind.i64 o11 (4:Int)=0))
 (zAA (F111 ((o01,o11,o21,o31,o41,o51,o61),o31)) fun y2 =>
 some (decide (y2=[(79:UInt8),98,106])))
 (some (false)))))
 (some (false)))
def tb83:=insT 83 (mkE 83 true [] ti83 to83 F83 [.tmp 2] 84 []) tb165
theorem ok83:TbOk Tryz.prog tb83:=okI ok165 tp83 tv83 func83 rfl call83
abbrev ti167:SPat:=⟨[(0,.agg (pl [.i .i64,.i .i64,.i .i64])),(1,.ptr 100000 0),(2,.ptr 100001 0)],[.box 100000 (pl plC),.box 100001 (pl [.i .i64,.i .i64,.i .i64])]⟩
abbrev to167:SPat:=⟨[(4,.b)],[.box 100000 (pl plC),.box 100001 (pl [.i .i64,.i .i64,.i .i64])]⟩
def tp167:Nat→List Nat×Plan:=fun id=>bif id==1 then([0,1,2,4,5,6],(.br 3 [2,1,0] [4,5,6] [] (.br 7 [6,5,4,3,2,1,0] [] [8] (.br 9 [8,7,6,5,4,3,2,1,0] [] [] .fin .fin) .fin) .fin))else([],.fin)
def F167:(Int×Int×Int)×(Cls)×Int×Int×Int→Option (Bool×(Cls)×Int×Int×Int):=fun((g0,g1,g2),(o0,o1,o2,o3,o4,o5,o6),o01,o11,o21) =>
 zAA (F111 ((o0,o1,o2,o3,o4,o5,o6),g1)) fun y =>
 seqU (seqU (grdO (decide (o0=o0)&&(decide (o1=o1)&&(decide (o2=o2)&&(decide (o3=o3)&&(decide (o4=o4)&&(decide (o5=o5)&&(decide (o6=o6)&&true))))))) (some ())) (seqU (grdO (decide (o11=o11)) (some ())) (some ()))) (zAA (F111 ((o0,o1,o2,o3,o4,o5,o6),o11)) fun y1 =>
 some ((decide (y=y1),(o0,o1,o2,o3,o4,o5,o6),o01,o11,o21)))
def tb167:=insT 167 (mkE 167 false [(1,[]),(2,[])] ti167 to167 F167 [.tmp 4] 14 [100000,100001]) tb83
theorem ok167:TbOk Tryz.prog tb167:=okI ok83 tp167 noIv func167 rfl call167
abbrev ti168236:SPat:=⟨[(0,.sl tg89),(1,.fn 167 (pl [.ptr 100000 0,.ptr 100001 0]))],[.box 100000 (pl plC),.box 100001 (pl [.i .i64,.i .i64,.i .i64])]⟩
abbrev to168236:SPat:=⟨[(4,.i .i64)],[.box 100000 (pl plC),.box 100001 (pl [.i .i64,.i .i64,.i .i64])]⟩
abbrev zSn:SPat:=⟨[(0,.sl tg89),(1,.fn 167 (pl [.ptr 100000 0,.ptr 100001 0])),(7,.i .i64),(8,.i .i64)],[.box 100000 (pl plC),.box 100001 (pl [.i .i64,.i .i64,.i .i64])]⟩
abbrev zHN:SPat:=⟨[],[.box 100000 (pl plC),.box 100001 (pl [.i .i64,.i .i64,.i .i64])]⟩
def tv168236:Nat→Option SPat:=fun k=>bif k==2 then some zSn else bif k==2000000 then some zHN else none
def F168236:List (Int×Int×Int)×(Cls)×Int×Int×Int→Option (Int×(Cls)×Int×Int×Int):=fun(s,(o0,o1,o2,o3,o4,o5,o6),o01,o11,o21) =>
 bindE (Y:=(Cls)×Int×Int×Int) (zAD (fun(s1,v7,v8,(o02,o12,o22,o31,o41,o51,o61),o03,o13,o23) =>
 cndO (decide (v8<v7))
 (grdO (decide (0≤v8)) (atO (s1) v8.toNat fun x=>zAA (F167 ((x.1,x.2.1,x.2.2),(o02,o12,o22,o31,o41,o51,o61),o03,o13,o23)) fun(y,(y1,y2,y3,y4,y5,x1,x2),x3,x4,x5) =>
 cndO (y)
 (some (inr (inr (v8,(y1,y2,y3,y4,y5,x1,x2),x3,x4,x5))))
 (some (inl (s1,v7,IntKind.wrap .i64 (v8+1),(y1,y2,y3,y4,y5,x1,x2),x3,x4,x5)))))
 (some (inr (inl ((o02,o12,o22,o31,o41,o51,o61),o03,o13,o23))))) ((s,(s.length:Int),(0:Int),(o0,o1,o2,o3,o4,o5,o6),o01,o11,o21))) fun((o02,o12,o22,o31,o41,o51,o61),o03,o13,o23) =>
 some (((-1:Int),(o02,o12,o22,o31,o41,o51,o61),o03,o13,o23))
def zRZ:=insT 168236 (mkE 236 false [(1,[0]),(1,[1])] ti168236 to168236 F168236 [.tmp 4] 19 [100000,100001]) tb167
theorem ok168236:TbOk Tryz.prog zRZ:=okI ok167 noPl tv168236 func236 rfl call236
abbrev ti168166:SPat:=⟨[(0,.sl tg89),(1,.fn 167 (pl [.ptr 100000 0,.ptr 100001 0]))],[.box 100000 (pl plC),.box 100001 (pl [.i .i64,.i .i64,.i .i64])]⟩
abbrev to168166:SPat:=⟨[(4,.b)],[.box 100000 (pl plC),.box 100001 (pl [.i .i64,.i .i64,.i .i64])]⟩
def F168166:List (Int×Int×Int)×(Cls)×Int×Int×Int→Option (Bool×(Cls)×Int×Int×Int):=fun(s,(o0,o1,o2,o3,o4,o5,o6),o01,o11,o21) =>
 zAA (F168236 (s,(o0,o1,o2,o3,o4,o5,o6),o01,o11,o21)) fun(y,(y1,y2,y3,y4,y5,x,x1),x2,x3,x4) =>
 some ((decide (0≤y),(y1,y2,y3,y4,y5,x,x1),x2,x3,x4))
def zRa:=insT 168166 (mkE 166 false [(1,[0]),(1,[1])] ti168166 to168166 F168166 [.tmp 4] 9 [100000,100001]) zRZ
theorem ok168166:TbOk Tryz.prog zRa:=okI ok168236 noPl noIv func166 rfl call166
abbrev ti84:SPat:=⟨[(0,.agg (pl plC)),(1,.i .i64)],[]⟩
abbrev to84:SPat:=⟨[(4,.b)],[]⟩
abbrev zNc:SPat:=⟨[(1,.i .i64),(2,.ptr 2 0),(5,.ptr 5 0)],[.box 2 (pl plC),.box 5 (pl [.i .i64,.i .i64,.i .i64])]⟩
def tv84:Nat→Option SPat:=fun k=>bif k==1000004 then some zNc else none
def F84:(Cls)×Int→Option (Bool):=fun((c0,c1,c2,c3,c4,c5,c6),i) =>
 grdO (decide (0≤i)) (atO (c5) i.toNat fun x=>bindE (Y:=Int×(Cls)×Int×Int×Int) (zAA (F49126 (c0,x.2.1)) fun y =>
 cndO (!y)
 (some (inr false))
 (zAA (F123126 (c0,x.2.2)) fun y1 =>
 cndO (!y1)
 (some (inr false))
 (zAA (F89 (x.1,(0:Int),(3:Int))) fun y2 =>
 cndO (!y2)
 (some (inr false))
 (zAA (F165 (c0,c1,c2,c3,c4,c5,c6)) fun y3 =>
 cndO (y3)
 (cndO (!decide (x.1=1))
 (some (inr false))
 (some (inl (i,(c0,c1,c2,c3,c4,c5,c6),x.1,x.2.1,x.2.2))))
 (some (inl (i,(c0,c1,c2,c3,c4,c5,c6),x.1,x.2.1,x.2.2))))))) fun(i1,(o0,o1,o2,o3,o4,o5,o6),o01,o11,o21) =>
 grdO (decide (0≤i1)&&decide (i1≤(o5.length:Int))) (zAA (F168166 (List.drop (0:Nat) (List.take i1.toNat o5),(o0,o1,o2,o3,o4,o5,o6),o01,o11,o21)) fun(y,(y1,y2,y3,y4,y5,x1,x2),x3,x4,x5) =>
 some (!y)))
def tb84:=insT 84 (mkE 84 true [] ti84 to84 F84 [.tmp 4] 47 []) zRa
theorem ok84:TbOk Tryz.prog tb84:=okI ok168166 noPl tv84 func84 rfl call84
abbrev ti169:SPat:=⟨[(0,.agg (pl plM)),(1,.ptr 100000 0),(2,.ptr 100001 0),(3,.ptr 100002 0)],[.box 100000 (pl plC),.box 100001 (pl [.s]),.box 100002 (pl [.s])]⟩
abbrev to169:SPat:=⟨[(5,.b)],[.box 100000 (pl plC),.box 100001 (pl [.s]),.box 100002 (pl [.s])]⟩
def tp169:Nat→List Nat×Plan:=fun id=>bif id==1 then([0,1,2,4],(.br 3 [2,1,0] [4] [5,6,7,8,9,11] (.br 10 [9,8,7,6,5,4,3,2,1,0] [11] [12,13] (.br 14 [13,12,11,10,9,8,7,6,5,4,3,2,1,0] [] [] .fin .fin) .fin) .fin))else([],.fin)
def F169:(Mth)×(Cls)×List UInt8×List UInt8→Option (Bool×(Cls)×List UInt8×List UInt8):=fun((n0,n1,n2,n3,n4,n5,n6,n7),(o0,o1,o2,o3,o4,o5,o6),o01,o02) =>
 zAA (F111 ((o0,o1,o2,o3,o4,o5,o6),n1)) fun y =>
 seqU (seqU (grdO (decide (o01=o01)) (some ())) (some ())) (cndO (decide (y=o01))
 (zAA (F111 ((o0,o1,o2,o3,o4,o5,o6),n2)) fun y1 =>
 seqU (seqU (grdO (decide (o02=o02)) (some ())) (some ())) (some ((decide (y1=o02),(o0,o1,o2,o3,o4,o5,o6),o01,o02))))
 (some ((false,(o0,o1,o2,o3,o4,o5,o6),o01,o02))))
def tb169:=insT 169 (mkE 169 false [(1,[]),(2,[]),(3,[])] ti169 to169 F169 [.tmp 5] 20 [100000,100001,100002]) tb84
theorem ok169:TbOk Tryz.prog tb169:=okI ok84 tp169 noIv func169 rfl call169
abbrev ti170237:SPat:=⟨[(0,.sl tg53),(1,.fn 169 (pl [.ptr 100000 0,.ptr 100001 0,.ptr 100002 0]))],[.box 100000 (pl plC),.box 100001 (pl [.s]),.box 100002 (pl [.s])]⟩
abbrev to170237:SPat:=⟨[(4,.i .i64)],[.box 100000 (pl plC),.box 100001 (pl [.s]),.box 100002 (pl [.s])]⟩
abbrev zSm:SPat:=⟨[(0,.sl tg53),(1,.fn 169 (pl [.ptr 100000 0,.ptr 100001 0,.ptr 100002 0])),(7,.i .i64),(8,.i .i64)],[.box 100000 (pl plC),.box 100001 (pl [.s]),.box 100002 (pl [.s])]⟩
abbrev zHM:SPat:=⟨[],[.box 100000 (pl plC),.box 100001 (pl [.s]),.box 100002 (pl [.s])]⟩
def tv170237:Nat→Option SPat:=fun k=>bif k==2 then some zSm else bif k==2000000 then some zHM else none
def F170237:List Mth×(Cls)×List UInt8×List UInt8→Option (Int×(Cls)×List UInt8×List UInt8):=fun(s,(o0,o1,o2,o3,o4,o5,o6),o01,o02) =>
 bindE (Y:=(Cls)×List UInt8×List UInt8) (zAD (fun(s1,v7,v8,(o03,o11,o21,o31,o41,o51,o61),o04,o05) =>
 cndO (decide (v8<v7))
 (grdO (decide (0≤v8)) (atO (s1) v8.toNat fun x=>zAA (F169 ((x.1,x.2.1,x.2.2.1,x.2.2.2.1,x.2.2.2.2.1,x.2.2.2.2.2.1,x.2.2.2.2.2.2.1,x.2.2.2.2.2.2.2),(o03,o11,o21,o31,o41,o51,o61),o04,o05)) fun(y,(y1,y2,y3,y4,y5,x1,x2),x3,x4) =>
 cndO (y)
 (some (inr (inr (v8,(y1,y2,y3,y4,y5,x1,x2),x3,x4))))
 (some (inl (s1,v7,IntKind.wrap .i64 (v8+1),(y1,y2,y3,y4,y5,x1,x2),x3,x4)))))
 (some (inr (inl ((o03,o11,o21,o31,o41,o51,o61),o04,o05))))) ((s,(s.length:Int),(0:Int),(o0,o1,o2,o3,o4,o5,o6),o01,o02))) fun((o03,o11,o21,o31,o41,o51,o61),o04,o05) =>
 some (((-1:Int),(o03,o11,o21,o31,o41,o51,o61),o04,o05))
def zRX:=insT 170237 (mkE 237 false [(1,[0]),(1,[1]),(1,[2])] ti170237 to170237 F170237 [.tmp 4] 19 [100000,100001,100002]) tb169
theorem ok170237:TbOk Tryz.prog zRX:=okI ok169 noPl tv170237 func237 rfl call237
abbrev ti170168:SPat:=⟨[(0,.sl tg53),(1,.fn 169 (pl [.ptr 100000 0,.ptr 100001 0,.ptr 100002 0]))],[.box 100000 (pl plC),.box 100001 (pl [.s]),.box 100002 (pl [.s])]⟩
abbrev to170168:SPat:=⟨[(4,.b)],[.box 100000 (pl plC),.box 100001 (pl [.s]),.box 100002 (pl [.s])]⟩
def F170168:List Mth×(Cls)×List UInt8×List UInt8→Option (Bool×(Cls)×List UInt8×List UInt8):=fun(s,(o0,o1,o2,o3,o4,o5,o6),o01,o02) =>
 zAA (F170237 (s,(o0,o1,o2,o3,o4,o5,o6),o01,o02)) fun(y,(y1,y2,y3,y4,y5,x,x1),x2,x3) =>
 some ((decide (0≤y),(y1,y2,y3,y4,y5,x,x1),x2,x3))
def zRY:=insT 170168 (mkE 168 false [(1,[0]),(1,[1]),(1,[2])] ti170168 to170168 F170168 [.tmp 4] 9 [100000,100001,100002]) zRX
theorem ok170168:TbOk Tryz.prog zRY:=okI ok170237 noPl noIv func168 rfl call168
abbrev ti85:SPat:=⟨[(0,.agg (pl plC)),(1,.i .i64)],[]⟩
abbrev to85:SPat:=⟨[(4,.b)],[]⟩
abbrev zNb:SPat:=⟨[(1,.i .i64),(2,.ptr 2 0),(5,.ptr 5 0)],[.box 2 (pl plC),.box 5 (pl plM)]⟩
abbrev zNa:SPat:=⟨[(1,.i .i64),(2,.ptr 2 0),(5,.ptr 5 0),(6,.ptr 6 0),(7,.ptr 7 0),(41,.b)],[.box 2 (pl plC),.box 5 (pl plM),.box 6 (pl [.s]),.box 7 (pl [.s])]⟩
abbrev zNZ:SPat:=⟨[(1,.i .i64),(2,.ptr 2 0),(5,.ptr 5 0),(6,.ptr 6 0),(7,.ptr 7 0),(56,.b)],[.box 2 (pl plC),.box 5 (pl plM),.box 6 (pl [.s]),.box 7 (pl [.s])]⟩
abbrev zNY:SPat:=⟨[(1,.i .i64),(2,.ptr 2 0),(6,.ptr 6 0),(7,.ptr 7 0)],[.box 2 (pl plC),.box 6 (pl [.s]),.box 7 (pl [.s])]⟩
def tv85:Nat→Option SPat:=fun k=>bif k==1000004 then some zNb else bif k==1000006 then some zNa else bif k==1000008 then some zNZ else bif k==2000000 then some zNY else none
def tp85:Nat→List Nat×Plan:=fun id=>bif id==4 then([0,1,2,4,5,6],(.br 3 [2,1,0] [4,5,6] [] (.br 7 [6,5,4,3,2,1,0] [] [] (.br 8 [] [0,1,2,4,5,6] [] (.br 9 [] [0,1,2,4,5,6] [] (.br 10 [9,8,7,6,5,4,3,2,1,0] [] [] (.br 11 [10,9,8,7,6,5,4,3,2,1,0] [] [] .fin .fin) .fin) .fin) (.br 9 [] [0,1,2,4,5,6] [] (.br 8 [] [0,1,2,4,5,6] [] (.br 10 [9,8,7,6,5,4,3,2,1,0] [] [] (.br 11 [10,9,8,7,6,5,4,3,2,1,0] [] [] .fin .fin) .fin) .fin) .fin)) (.br 8 [] [0,1,2,4,5,6] [] (.br 7 [6,5,4,3,2,1,0] [] [] (.br 9 [] [0,1,2,4,5,6] [] (.br 10 [9,8,7,6,5,4,3,2,1,0] [] [] (.br 11 [10,9,8,7,6,5,4,3,2,1,0] [] [] .fin .fin) .fin) .fin) (.br 9 [] [0,1,2,4,5,6] [] (.br 7 [6,5,4,3,2,1,0] [] [] (.br 10 [9,8,7,6,5,4,3,2,1,0] [] [] (.br 11 [10,9,8,7,6,5,4,3,2,1,0] [] [] .fin .fin) .fin) .fin) .fin)) (.br 9 [] [0,1,2,4,5,6] [] (.br 7 [6,5,4,3,2,1,0] [] [] (.br 8 [] [0,1,2,4,5,6] [] (.br 10 [9,8,7,6,5,4,3,2,1,0] [] [] (.br 11 [10,9,8,7,6,5,4,3,2,1,0] [] [] .fin .fin) .fin) .fin) (.br 8 [] [0,1,2,4,5,6] [] (.br 7 [6,5,4,3,2,1,0] [] [] (.br 10 [9,8,7,6,5,4,3,2,1,0] [] [] (.br 11 [10,9,8,7,6,5,4,3,2,1,0] [] [] .fin .fin) .fin) .fin) .fin)) .fin))) (.br 8 [] [0,1,2,4,5,6] [] (.br 3 [2,1,0] [4,5,6] [] (.br 7 [6,5,4,3,2,1,0] [] [] (.br 9 [] [0,1,2,4,5,6] [] (.br 10 [9,8,7,6,5,4,3,2,1,0] [] [] (.br 11 [10,9,8,7,6,5,4,3,2,1,0] [] [] .fin .fin) .fin) .fin) (.br 9 [] [0,1,2,4,5,6] [] (.br 7 [6,5,4,3,2,1,0] [] [] (.br 10 [9,8,7,6,5,4,3,2,1,0] [] [] (.br 11 [10,9,8,7,6,5,4,3,2,1,0] [] [] .fin .fin) .fin) .fin) .fin)) (.br 9 [] [0,1,2,4,5,6] [] (.br 3 [2,1,0] [4,5,6] [] (.br 7 [6,5,4,3,2,1,0] [] [] (.br 10 [9,8,7,6,5,4,3,2,1,0] [] [] (.br 11 [10,9,8,7,6,5,4,3,2,1,0] [] [] .fin .fin) .fin) .fin) .fin) .fin)) (.br 9 [] [0,1,2,4,5,6] [] (.br 3 [2,1,0] [4,5,6] [] (.br 7 [6,5,4,3,2,1,0] [] [] (.br 8 [] [0,1,2,4,5,6] [] (.br 10 [9,8,7,6,5,4,3,2,1,0] [] [] (.br 11 [10,9,8,7,6,5,4,3,2,1,0] [] [] .fin .fin) .fin) .fin) (.br 8 [] [0,1,2,4,5,6] [] (.br 7 [6,5,4,3,2,1,0] [] [] (.br 10 [9,8,7,6,5,4,3,2,1,0] [] [] (.br 11 [10,9,8,7,6,5,4,3,2,1,0] [] [] .fin .fin) .fin) .fin) .fin)) (.br 8 [] [0,1,2,4,5,6] [] (.br 3 [2,1,0] [4,5,6] [] (.br 7 [6,5,4,3,2,1,0] [] [] (.br 10 [9,8,7,6,5,4,3,2,1,0] [] [] (.br 11 [10,9,8,7,6,5,4,3,2,1,0] [] [] .fin .fin) .fin) .fin) .fin) .fin)) .fin))))else([],.fin)
def F85:(Cls)×Int→Option (Bool):=fun((app0,app1,app2,app3,app4,app5,app6),v1)=>grdO (decide (0≤v1)) (atO (app6) v1.toNat fun x=>bindE (Y:=Int×(Cls)×Mth) (zAA (F49126 (app0,x.2.1)) fun y=>cndO (!y) (some (inr false)) (zAA (F114126 (app0,x.2.2.1)) fun y1=>cndO (!y1) (some (inr false)) (zAA (F89 (x.1,(0:Int),(15:Int))) fun y2=>cndO (!y2) (some (inr false)) (some (inl (v1,(app0,app1,app2,app3,app4,app5,app6),x.1,x.2.1,x.2.2.1,x.2.2.2.1,x.2.2.2.2.1,x.2.2.2.2.2.1,x.2.2.2.2.2.2.1,x.2.2.2.2.2.2.2)))))) fun(v11,(o0,o1,o2,o3,o4,o5,o6),o01,o11,o21,o31,o41,o51,o61,o7)=>let q1:=fun(y:List UInt8) (y1:List UInt8)=>bindE (Y:=Int×(Cls)×List UInt8×List UInt8) (bindE (Y:=Int×Bool×(Cls)×(Mth)×List UInt8×List UInt8) (zAA (F86 o01) fun y2=>cndO (y2) (cndO (!decide (o01=8)) (some (inl (v11,true,(o0,o1,o2,o3,o4,o5,o6),(o01,o11,o21,o31,o41,o51,o61,o7),y,y1))) (some (inl (v11,decide (andI IntKind.i64 o1 (4:Int)=0),(o0,o1,o2,o3,o4,o5,o6),(o01,o11,o21,o31,o41,o51,o61,o7),y,y1)))) (some (inl (v11,false,(o0,o1,o2,o3,o4,o5,o6),(o01,o11,o21,o31,o41,o51,o61,o7),y,y1)))) fun(v12,v41,(o02,o12,o22,o32,o42,o52,o62),(o03,o13,o23,o33,o43,o53,o63,o71),o04,o05)=>cndO (v41) (some (inr false)) (bindE (Y:=Int×Bool×(Cls)×(Mth)×List UInt8×List UInt8) (zAA (F86 o03) fun y2=>cndO (!y2) (zAA (F165 (o02,o12,o22,o32,o42,o52,o62)) fun y3=>cndO (y3) (some (inl (v12,!decide (o03=1),(o02,o12,o22,o32,o42,o52,o62),(o03,o13,o23,o33,o43,o53,o63,o71),o04,o05))) (some (inl (v12,false,(o02,o12,o22,o32,o42,o52,o62),(o03,o13,o23,o33,o43,o53,o63,o71),o04,o05)))) (some (inl (v12,false,(o02,o12,o22,o32,o42,o52,o62),(o03,o13,o23,o33,o43,o53,o63,o71),o04,o05)))) fun(v13,v56,(o06,o14,o24,o34,o44,o54,o64),(o07,o15,o25,o35,o45,o55,o65,o72),o08,o09)=>cndO (v56) (some (inr false)) (cndO (decide (o08=[(98:UInt8),101,103,105,110])) (cndO (!decide (o07=1)) (some (inr false)) (cndO (!decide (o09=[(40:UInt8),41,86])) (some (inr false)) (some (inl (v13,(o06,o14,o24,o34,o44,o54,o64),o08,o09))))) (some (inl (v13,(o06,o14,o24,o34,o44,o54,o64),o08,o09)))))) fun(v12,(o02,o12,o22,o32,o42,o52,o62),o03,o04)=>grdO (decide (0≤v12)&&decide (v12≤(o62.length:Int))) (zAA (F170168 (List.drop (0:Nat) (List.take v12.toNat o62),(o02,o12,o22,o32,o42,o52,o62),o03,o04)) fun(y2,(y3,y4,y5,y6,y7,x1,x2),x3,x4)=>some (!y2));let q3:=seqU (grdO (decide (o0=o0)&&(decide (o1=o1)&&(decide (o2=o2)&&(decide (o3=o3)&&(decide (o4=o4)&&(decide (o5=o5)&&(decide (o6=o6)&&true))))))) (some ())) (seqU (grdO (decide (o21=o21)) (some ())) (some ()));let q2:=seqU (grdO (decide (o0=o0)&&(decide (o1=o1)&&(decide (o2=o2)&&(decide (o3=o3)&&(decide (o4=o4)&&(decide (o5=o5)&&(decide (o6=o6)&&true))))))) (some ())) (seqU (grdO (decide (o11=o11)) (some ())) (q3));zCp (zAA (F111 ((o0,o1,o2,o3,o4,o5,o6),o11)) fun y=>seqU (q3) (zCp (zAA (F111 ((o0,o1,o2,o3,o4,o5,o6),o21)) fun y1=>zCp (seqU (q2) (seqU (q2) (q1 y y1))) (seqU (q2) (seqU (q2) (q1 y y1)))) (zCp (seqU (q2) (zCp (zAA (F111 ((o0,o1,o2,o3,o4,o5,o6),o21)) fun y1=>seqU (q2) (q1 y y1)) (seqU (q2) (zAA (F111 ((o0,o1,o2,o3,o4,o5,o6),o21)) fun y1=>q1 y y1)))) (seqU (q2) (zCp (zAA (F111 ((o0,o1,o2,o3,o4,o5,o6),o21)) fun y1=>seqU (q2) (q1 y y1)) (seqU (q2) (zAA (F111 ((o0,o1,o2,o3,o4,o5,o6),o21)) fun y1=>q1 y y1))))))) (let q4:=seqU (q2) (zCp (zAA (F111 ((o0,o1,o2,o3,o4,o5,o6),o11)) fun y=>seqU (q3) (zCp (zAA (F111 ((o0,o1,o2,o3,o4,o5,o6),o21)) fun y1=>seqU (q2) (q1 y y1)) (seqU (q2) (zAA (F111 ((o0,o1,o2,o3,o4,o5,o6),o21)) fun y1=>q1 y y1)))) (seqU (q2) (zAA (F111 ((o0,o1,o2,o3,o4,o5,o6),o11)) fun y=>seqU (q3) (zAA (F111 ((o0,o1,o2,o3,o4,o5,o6),o21)) fun y1=>q1 y y1))));zCp (q4) (q4)))
def tb85:=insT 85 (mkE 85 true [] ti85 to85 F85 [.tmp 4] 89 []) zRY
theorem ok85:TbOk Tryz.prog tb85:=okI ok170168 tp85 tv85 func85 rfl call85
abbrev ti90:SPat:=⟨[(0,.i .i64)],[]⟩
abbrev to90:SPat:=⟨[(2,.i .i64)],[]⟩
abbrev zNO:SPat:=⟨[(0,.i .i64),(6,.b)],[]⟩
def tv90:Nat→Option SPat:=fun k=>bif k==1000004 then some zNO else none
def F90:Int→Option (Int):=fun op_ =>
 zAA (F89 (op_,(3:Int),(6:Int))) fun y =>
 cndO (y)
 (some ((1:Int)))
 (bindE (cndO (decide (op_=1))
 (some (inl (op_,true)))
 (zAA (F89 (op_,(14:Int),(29:Int))) fun y1 =>
 some (inl (op_,y1)))) fun(op_1,v6) =>
 cndO (v6)
 (some ((2:Int)))
 (zAA (F89 (op_1,(0:Int),(34:Int))) fun y1 =>
 cndO (y1)
 (some ((0:Int)))
 (some ((-1:Int)))))
def tb90:=insT 90 (mkE 90 true [] ti90 to90 F90 [.tmp 2] 16 []) tb85
theorem ok90:TbOk Tryz.prog tb90:=okI ok85 noPl tv90 func90 rfl call90
abbrev ti31:SPat:=⟨[(0,.s)],[]⟩
abbrev to31:SPat:=⟨[(2,.own tg89 true),(3,.b)],[]⟩
abbrev ts31_5:SPat:=⟨[(0,.s),(4,.own tg89 true),(5,.i .i64)],[]⟩
abbrev ts31_11:SPat:=⟨[(0,.s),(4,.own tg89 true),(5,.i .i64),(6,.ptr 6 0),(7,.i .i64),(45,.sl .byte),(46,.i .i64),(47,.i .i64)],[.box 6 (pl [.i .i64,.i .i64,.i .i64])]⟩
abbrev zOg:SPat:=⟨[(0,.s),(4,.own tg89 true),(5,.i .i64),(6,.ptr 6 0),(7,.i .i64)],[.box 6 (pl [.i .i64,.i .i64,.i .i64])]⟩
abbrev zOf:SPat:=⟨[(0,.s),(4,.own tg89 true),(5,.i .i64),(6,.ptr 6 0),(7,.i .i64),(66,.b)],[.box 6 (pl [.i .i64,.i .i64,.i .i64])]⟩
abbrev zOe:SPat:=⟨[(0,.s),(4,.own tg89 true),(5,.i .i64),(6,.ptr 6 0),(7,.i .i64)],[.box 6 (pl [.i .i64,.i .i64,.i .i64])]⟩
abbrev zOd:SPat:=⟨[(4,.own tg89 true)],[]⟩
abbrev zOc:SPat:=⟨[(0,.s),(4,.own tg89 true),(5,.i .i64)],[]⟩
abbrev zOb:SPat:=⟨[(0,.s),(4,.own tg89 true),(5,.i .i64),(6,.ptr 6 0),(7,.i .i64)],[.box 6 (pl [.i .i64,.i .i64,.i .i64])]⟩
def tv31:Nat→Option SPat:=fun k=>bif k==5 then some ts31_5 else bif k==11 then some ts31_11 else bif k==1000010 then some zOg else bif k==1000016 then some zOf else bif k==1000017 then some zOe else bif k==2000000 then some zOd else bif k==2000001 then some zOc else bif k==2000002 then some zOb else none
def F31:List UInt8→Option (List (Int×Int×Int)×Bool):=fun app =>
 zAA (F89 ((app.length:Int),(1:Int),(120:Int))) fun y =>
 cndO (!y)
 (some (([],false)))
 (bindE (Y:=List (Int×Int×Int)) (zAD (fun(app1,v4,v5) =>
 cndO (decide (v5<(app1.length:Int)))
 (bindE (Y:=List UInt8×List (Int×Int×Int)×Int) (grdO (decide (0≤v5)) (atO (app1) v5.toNat fun x=>zAA (F90 (IntKind.wrap .i64 (x.toNat:Int))) fun y1 =>
 bindE (Y:=List UInt8×List (Int×Int×Int)×Int×Int×Int×Int×Int) (cndO (decide (y1<0))
 (some (inr (inr (inr (inr ([],false))))))
 (cndO (decide (IntKind.wrap .i64 ((app1.length:Int)-v5)≤y1))
 (some (inr (inr (inr (inr ([],false))))))
 (some (inl (app1,v4,v5,y1,v5,IntKind.wrap .i64 (x.toNat:Int),(0:Int)))))) fun(app2,v41,v51,v7,o0,o1,o2) =>
 grdO (decide (0≤IntKind.wrap .i64 (v51+1))&&decide (IntKind.wrap .i64 (v51+1)≤IntKind.wrap .i64 (IntKind.wrap .i64 (v51+1)+v7))&&decide (IntKind.wrap .i64 (IntKind.wrap .i64 (v51+1)+v7)≤(app2.length:Int))) (bindE (Y:=List UInt8×List (Int×Int×Int)×Int×Int×Int×Int×Int) (zAD (fun(app3,v42,v52,v71,v45,v46,v47,o01,o11,o21) =>
 cndO (decide (v47<v46))
 (grdO (decide (0≤v47)) (atO (v45) v47.toNat fun x1=>some (inl (app3,v42,v52,v71,v45,v46,IntKind.wrap .i64 (v47+1),o01,o11,IntKind.wrap .i64 (IntKind.wrap .i64 ((256:Int)*o21)+IntKind.wrap .i64 (x1.toNat:Int))))))
 (some (inr (inl (app3,v42,v52,v71,o01,o11,o21))))) ((app2,v41,v51,v7,List.drop (Int.toNat (IntKind.wrap .i64 (v51+1))) (List.take (Int.toNat (IntKind.wrap .i64 (IntKind.wrap .i64 (v51+1)+v7))) app2),(↑(List.length (List.drop (Int.toNat (IntKind.wrap .i64 (v51+1))) (List.take (Int.toNat (IntKind.wrap .i64 (IntKind.wrap .i64 (v51+1)+v7))) app2))):Int),(0:Int),o0,o1,o2))) fun(app3,v42,v52,v71,o01,o11,o21) =>
 bindE (Y:=List UInt8×List (Int×Int×Int)×Int×Int×Int×Int×Int) (bindE (Y:=List UInt8×List (Int×Int×Int)×Int×Int×Bool×Int×Int×Int) (cndO (decide (o11=1))
 (some (inl (app3,v42,v52,v71,decide (32767<o21),o01,o11,o21)))
 (some (inl (app3,v42,v52,v71,false,o01,o11,o21)))) fun(app4,v43,v53,v72,v66,o02,o12,o22) =>
 cndO (v66)
 (some (inl (app4,v43,v53,v72,o02,o12,IntKind.wrap .i64 (o22-65536))))
 (some (inl (app4,v43,v53,v72,o02,o12,o22)))) fun(app4,v43,v53,v72,o02,o12,o22) =>
 grdO (decide (List.length v43+1≤9223372036854775807)&&decide ((List.length v43+1)*24≤140737488355328)) (some (inl (app4,v43++[(o02,o12,o22)],IntKind.wrap .i64 (v53+IntKind.wrap .i64 ((1:Int)+v72)))))))) fun(app2,v41,v51) =>
 some (inl (app2,v41,v51)))
 (some (inr (inl v4)))) ((app,[],(0:Int)))) fun v4 =>
 some ((v4,true)))
def tb31:=insT 31 (mkE 31 true [] ti31 to31 F31 [.tmp 2,.tmp 3] 80 []) tb90
theorem ok31:TbOk Tryz.prog tb31:=okI ok90 noPl tv31 func31 rfl call31
abbrev ti171:SPat:=⟨[(0,.i .i64)],[]⟩
abbrev to171:SPat:=⟨[(2,.i .i64)],[]⟩
abbrev zLU:SPat:=⟨[(0,.i .i64),(3,.b)],[]⟩
def tv171:Nat→Option SPat:=fun k=>bif k==1000002 then some zLU else none
def F171:Int→Option (Int):=fun op_ =>
 bindE (cndO (decide (op_=19))
 (some (inl (op_,true)))
 (cndO (decide (op_=28))
 (some (inl (op_,true)))
 (some (inl (op_,decide (op_=29)))))) fun(op_1,v3) =>
 cndO (v3)
 (some ((2:Int)))
 (zAA (F89 (op_1,(20:Int),(23:Int))) fun y =>
 cndO (y)
 (some ((4:Int)))
 (zAA (F89 (op_1,(24:Int),(26:Int))) fun y1 =>
 cndO (y1)
 (some ((5:Int)))
 (cndO (decide (op_1=27))
 (some ((6:Int)))
 (some ((0:Int))))))
def tb171:=insT 171 (mkE 171 true [] ti171 to171 F171 [.tmp 2] 23 []) tb31
theorem ok171:TbOk Tryz.prog tb171:=okI ok31 noPl tv171 func171 rfl call171
abbrev ti172:SPat:=⟨[(0,.i .i64)],[]⟩
abbrev to172:SPat:=⟨[(2,.b)],[]⟩
def F172:Int→Option (Bool):=fun op_ =>
 zAA (F89 (op_,(14:Int),(18:Int))) fun y =>
 some (y)
def tb172:=insT 172 (mkE 172 true [] ti172 to172 F172 [.tmp 2] 5 []) tb171
theorem ok172:TbOk Tryz.prog tb172:=okI ok171 noPl noIv func172 rfl call172
abbrev ti241:SPat:=⟨[(0,.agg (pl [.i .i64,.i .i64,.i .i64])),(1,.ptr 100000 0)],[.box 100000 (pl [.i .i64])]⟩
abbrev to241:SPat:=⟨[(3,.b)],[.box 100000 (pl [.i .i64])]⟩
def F241:(Int×Int×Int)×Int→Option (Bool×Int):=fun((x0,x1,x2),o0) =>
 some ((decide (x0=o0),o0))
def tb241:=insT 241 (mkE 241 false [(1,[])] ti241 to241 F241 [.tmp 3] 8 [100000]) tb172
theorem ok241:TbOk Tryz.prog tb241:=okI ok172 noPl noIv func241 rfl call241
abbrev ti242240:SPat:=⟨[(0,.sl tg89),(1,.fn 241 (pl [.ptr 100000 0]))],[.box 100000 (pl [.i .i64])]⟩
abbrev to242240:SPat:=⟨[(4,.i .i64)],[.box 100000 (pl [.i .i64])]⟩
abbrev zSk:SPat:=⟨[(0,.sl tg89),(1,.fn 241 (pl [.ptr 100000 0])),(7,.i .i64),(8,.i .i64)],[.box 100000 (pl [.i .i64])]⟩
abbrev zHK:SPat:=⟨[],[.box 100000 (pl [.i .i64])]⟩
def tv242240:Nat→Option SPat:=fun k=>bif k==2 then some zSk else bif k==2000000 then some zHK else none
def F242240:List (Int×Int×Int)×Int→Option (Int×Int):=fun(s,o0) =>
 bindE (zAD (fun(s1,v7,v8,o01) =>
 cndO (decide (v8<v7))
 (grdO (decide (0≤v8)) (atO (s1) v8.toNat fun x=>zAA (F241 ((x.1,x.2.1,x.2.2),o01)) fun(y,y1) =>
 cndO (y)
 (some (inr (inr (v8,y1))))
 (some (inl (s1,v7,IntKind.wrap .i64 (v8+1),y1)))))
 (some (inr (inl o01)))) ((s,(s.length:Int),(0:Int),o0))) fun o01 =>
 some (((-1:Int),o01))
def zRV:=insT 242240 (mkE 240 false [(1,[0])] ti242240 to242240 F242240 [.tmp 4] 19 [100000]) tb241
theorem ok242240:TbOk Tryz.prog zRV:=okI ok241 noPl tv242240 func240 rfl call240
abbrev ti173:SPat:=⟨[(0,.sl tg89),(1,.i .i64)],[]⟩
abbrev to173:SPat:=⟨[(4,.i .i64)],[]⟩
def F173:List (Int×Int×Int)×Int→Option (Int):=fun(list,at_) =>
 zAA (F242240 (list,at_)) fun(y,y1) =>
 some (y)
def tb173:=insT 173 (mkE 173 true [] ti173 to173 F173 [.tmp 4] 8 []) zRV
theorem ok173:TbOk Tryz.prog tb173:=okI ok242240 noPl noIv func173 rfl call173
abbrev ti243:SPat:=⟨[(0,.agg (pl [.i .i64,.i .i64])),(1,.ptr 100000 0)],[.box 100000 (pl plC)]⟩
abbrev to243:SPat:=⟨[(3,.b)],[.box 100000 (pl plC)]⟩
def F243:(Int×Int)×Cls→Option (Bool×Cls):=fun((k0,k1),o0,o1,o2,o3,o4,o5,o6) =>
 cndO (decide (k0=3))
 (zAA (F162 ((o0,o1,o2,o3,o4,o5,o6),k1)) fun y =>
 cndO (!y)
 (some ((true,o0,o1,o2,o3,o4,o5,o6)))
 (cndO (!decide (k0=3))
 (some ((!decide (k1=0),o0,o1,o2,o3,o4,o5,o6)))
 (some ((false,o0,o1,o2,o3,o4,o5,o6)))))
 (cndO (!decide (k0=3))
 (some ((!decide (k1=0),o0,o1,o2,o3,o4,o5,o6)))
 (some ((false,o0,o1,o2,o3,o4,o5,o6))))
def tb243:=insT 243 (mkE 243 false [(1,[])] ti243 to243 F243 [.tmp 3] 24 [100000]) tb173
theorem ok243:TbOk Tryz.prog tb243:=okI ok173 noPl noIv func243 rfl call243
abbrev ti244290:SPat:=⟨[(0,.sl zAg),(1,.fn 243 (pl [.ptr 100000 0]))],[.box 100000 (pl plC)]⟩
abbrev to244290:SPat:=⟨[(4,.i .i64)],[.box 100000 (pl plC)]⟩
abbrev zSj:SPat:=⟨[(0,.sl zAg),(1,.fn 243 (pl [.ptr 100000 0])),(7,.i .i64),(8,.i .i64)],[.box 100000 (pl plC)]⟩
abbrev zHJ:SPat:=⟨[],[.box 100000 (pl plC)]⟩
def tv244290:Nat→Option SPat:=fun k=>bif k==2 then some zSj else bif k==2000000 then some zHJ else none
def F244290:List (Int×Int)×Cls→Option (Int×Cls):=fun(s,o0,o1,o2,o3,o4,o5,o6) =>
 bindE (Y:=Cls) (zAD (fun(s1,v7,v8,o01,o11,o21,o31,o41,o51,o61) =>
 cndO (decide (v8<v7))
 (grdO (decide (0≤v8)) (atO (s1) v8.toNat fun x=>zAA (F243 ((x.1,x.2),o01,o11,o21,o31,o41,o51,o61)) fun(y,y1,y2,y3,y4,y5,x1,x2) =>
 cndO (y)
 (some (inr (inr (v8,y1,y2,y3,y4,y5,x1,x2))))
 (some (inl (s1,v7,IntKind.wrap .i64 (v8+1),y1,y2,y3,y4,y5,x1,x2)))))
 (some (inr (inl (o01,o11,o21,o31,o41,o51,o61))))) ((s,(s.length:Int),(0:Int),o0,o1,o2,o3,o4,o5,o6))) fun(o01,o11,o21,o31,o41,o51,o61) =>
 some (((-1:Int),o01,o11,o21,o31,o41,o51,o61))
def zRT:=insT 244290 (mkE 290 false [(1,[0])] ti244290 to244290 F244290 [.tmp 4] 19 [100000]) tb243
theorem ok244290:TbOk Tryz.prog zRT:=okI ok243 noPl tv244290 func290 rfl call290
abbrev ti244242:SPat:=⟨[(0,.sl zAg),(1,.fn 243 (pl [.ptr 100000 0]))],[.box 100000 (pl plC)]⟩
abbrev to244242:SPat:=⟨[(4,.b)],[.box 100000 (pl plC)]⟩
def F244242:List (Int×Int)×Cls→Option (Bool×Cls):=fun(s,o0,o1,o2,o3,o4,o5,o6) =>
 zAA (F244290 (s,o0,o1,o2,o3,o4,o5,o6)) fun(y,y1,y2,y3,y4,y5,x,x1) =>
 some ((decide (0≤y),y1,y2,y3,y4,y5,x,x1))
def zRU:=insT 244242 (mkE 242 false [(1,[0])] ti244242 to244242 F244242 [.tmp 4] 9 [100000]) zRT
theorem ok244242:TbOk Tryz.prog zRU:=okI ok244290 noPl noIv func242 rfl call242
abbrev ti174:SPat:=⟨[(0,.agg (pl plC)),(1,.sl zAg)],[]⟩
abbrev to174:SPat:=⟨[(4,.b)],[]⟩
def F174:(Cls)×List (Int×Int)→Option (Bool):=fun((c0,c1,c2,c3,c4,c5,c6),list) =>
 zAA (F244242 (list,c0,c1,c2,c3,c4,c5,c6)) fun(y,y1,y2,y3,y4,y5,x,x1) =>
 some (!y)
def tb174:=insT 174 (mkE 174 true [] ti174 to174 F174 [.tmp 4] 9 []) zRU
theorem ok174:TbOk Tryz.prog tb174:=okI ok244242 noPl noIv func174 rfl call174
abbrev ti87:SPat:=⟨[(0,.agg (pl plC)),(1,.agg (pl plM))],[]⟩
abbrev to87:SPat:=⟨[(4,.b)],[]⟩
abbrev ts87_9:SPat:=⟨[(2,.ptr 2 0),(3,.ptr 3 0),(5,.ar 5),(56,.ar 5),(57,.i .i64),(58,.i .i64)],[.box 2 (pl plC),.box 3 (pl plM),.arr 5 tg89 true]⟩
abbrev ts87_18:SPat:=⟨[(2,.ptr 2 0),(3,.ptr 3 0),(5,.own tg89 true),(100,.sl zBq),(101,.i .i64),(102,.i .i64)],[.box 2 (pl plC),.box 3 (pl plM)]⟩
abbrev ts87_25:SPat:=⟨[(2,.ptr 2 0),(3,.ptr 3 0),(5,.own tg89 true),(16,.i .i64),(154,.sl zBL),(155,.i .i64),(156,.i .i64)],[.box 2 (pl plC),.box 3 (pl plM)]⟩
abbrev zNX:SPat:=⟨[(2,.ptr 2 0),(3,.ptr 3 0),(5,.own tg89 true),(6,.b),(10,.i .i64)],[.box 2 (pl plC),.box 3 (pl plM)]⟩
abbrev zNW:SPat:=⟨[(2,.ptr 2 0),(3,.ptr 3 0),(5,.own tg89 true)],[.box 2 (pl plC),.box 3 (pl plM)]⟩
abbrev zNV:SPat:=⟨[(2,.ptr 2 0),(3,.ptr 3 0),(5,.own tg89 true)],[.box 2 (pl plC),.box 3 (pl plM)]⟩
abbrev zNU:SPat:=⟨[(2,.ptr 2 0),(3,.ptr 3 0),(5,.ar 5),(56,.ar 5),(57,.i .i64),(58,.i .i64)],[.box 2 (pl plC),.box 3 (pl plM),.arr 5 tg89 true]⟩
abbrev zNT:SPat:=⟨[(2,.ptr 2 0),(3,.ptr 3 0),(5,.own tg89 true)],[.box 2 (pl plC),.box 3 (pl plM)]⟩
abbrev zNS:SPat:=⟨[(2,.ptr 2 0),(3,.ptr 3 0),(5,.own tg89 true),(100,.sl zBq),(101,.i .i64),(102,.i .i64)],[.box 2 (pl plC),.box 3 (pl plM)]⟩
abbrev zNR:SPat:=⟨[],[]⟩
abbrev zNQ:SPat:=⟨[(2,.ptr 2 0),(3,.ptr 3 0),(5,.own tg89 true),(16,.i .i64),(154,.sl zBL),(155,.i .i64),(156,.i .i64)],[.box 2 (pl plC),.box 3 (pl plM)]⟩
def tv87:Nat→Option SPat:=fun k=>bif k==9 then some ts87_9 else bif k==18 then some ts87_18 else bif k==25 then some ts87_25 else bif k==1000006 then some zNX else bif k==1000008 then some zNW else bif k==2000000 then some zNV else bif k==2000002 then some zNU else bif k==2000003 then some zNT else bif k==2000004 then some zNS else bif k==2000005 then some zNR else bif k==2000006 then some zNQ else none
def F87:(Cls)×Mth→Option (Bool):=fun((app0,app1,app2,app3,app4,app5,app6),v10,v11,v12,v13,v14,v15,v16,v17) =>
 zAA (F31 v15) fun(y,y1) =>
 zAA (F111 ((app0,app1,app2,app3,app4,app5,app6),v12)) fun y2 =>
 zAA (F170 y2) fun(y3,y4,y5) =>
 bindE (Y:=List (Int×Int×Int)×Bool×Int×(Cls)×Mth) (cndO (decide (andI IntKind.i64 v10 (1:Int)=0))
 (some (inl (y,y1,IntKind.wrap .i64 ((y3.length:Int)+1),(app0,app1,app2,app3,app4,app5,app6),v10,v11,v12,v13,v14,v15,v16,v17)))
 (some (inl (y,y1,(y3.length:Int),(app0,app1,app2,app3,app4,app5,app6),v10,v11,v12,v13,v14,v15,v16,v17)))) fun(v5,v6,v101,(o0,o1,o2,o3,o4,o5,o6),o01,o11,o21,o31,o41,o51,o61,o7) =>
 bindE (Y:=List (Int×Int×Int)×(Cls)×Mth) (cndO (!v6)
 (some (inr false))
 (cndO (decide (8<o31))
 (some (inr false))
 (zAA (F89 (o41,v101,(8:Int))) fun y6 =>
 cndO (!y6)
 (some (inr false))
 (some (inl (v5,(o0,o1,o2,o3,o4,o5,o6),o01,o11,o21,o31,o41,o51,o61,o7)))))) fun(v51,(o02,o12,o22,o32,o42,o52,o62),o03,o13,o23,o33,o43,o53,o63,o71) =>
 bindE (Y:=List (Int×Int×Int)×(Cls)×Mth) (zAD (fun(v57,v58,(o04,o14,o24,o34,o44,o54,o64),(o05,o15,o25,o35,o45,o55,o65,o72),l5) =>
 cndO (decide (v58<v57))
 (grdO (decide (0≤v58)&&decide (v58<(l5.length:Int))) (atO (l5) v58.toNat fun x=>zAA (F171 (x.2.1)) fun y6 =>
 bindE (Y:=Int×Int×(Cls)×(Mth)×List (Int×Int×Int)) (zAA (F89 (x.2.1,(3:Int),(6:Int))) fun y7 =>
 cndO (y7)
 (cndO (decide (o45≤x.2.2))
 (some (inr (inr (inr false))))
 (zAA (F172 (x.2.1)) fun y8 =>
 cndO (y8)
 (zAA (F173 (l5,x.2.2)) fun y9 =>
 cndO (decide (y9<0))
 (some (inr (inr (inr false))))
 (cndO (!decide (y6=0))
 (zAA (F124 (o04,x.2.2)) fun(y10,y11,y12,y13) =>
 cndO (!decide (y10=y6))
 (some (inr (inr (inr false))))
 (some (inl (v57,v58,(o04,o14,o24,o34,o44,o54,o64),(o05,o15,o25,o35,o45,o55,o65,o72),l5))))
 (some (inl (v57,v58,(o04,o14,o24,o34,o44,o54,o64),(o05,o15,o25,o35,o45,o55,o65,o72),l5)))))
 (cndO (!decide (y6=0))
 (zAA (F124 (o04,x.2.2)) fun(y9,y10,y11,y12) =>
 cndO (!decide (y9=y6))
 (some (inr (inr (inr false))))
 (some (inl (v57,v58,(o04,o14,o24,o34,o44,o54,o64),(o05,o15,o25,o35,o45,o55,o65,o72),l5))))
 (some (inl (v57,v58,(o04,o14,o24,o34,o44,o54,o64),(o05,o15,o25,o35,o45,o55,o65,o72),l5))))))
 (zAA (F172 (x.2.1)) fun y8 =>
 cndO (y8)
 (zAA (F173 (l5,x.2.2)) fun y9 =>
 cndO (decide (y9<0))
 (some (inr (inr (inr false))))
 (cndO (!decide (y6=0))
 (zAA (F124 (o04,x.2.2)) fun(y10,y11,y12,y13) =>
 cndO (!decide (y10=y6))
 (some (inr (inr (inr false))))
 (some (inl (v57,v58,(o04,o14,o24,o34,o44,o54,o64),(o05,o15,o25,o35,o45,o55,o65,o72),l5))))
 (some (inl (v57,v58,(o04,o14,o24,o34,o44,o54,o64),(o05,o15,o25,o35,o45,o55,o65,o72),l5)))))
 (cndO (!decide (y6=0))
 (zAA (F124 (o04,x.2.2)) fun(y9,y10,y11,y12) =>
 cndO (!decide (y9=y6))
 (some (inr (inr (inr false))))
 (some (inl (v57,v58,(o04,o14,o24,o34,o44,o54,o64),(o05,o15,o25,o35,o45,o55,o65,o72),l5))))
 (some (inl (v57,v58,(o04,o14,o24,o34,o44,o54,o64),(o05,o15,o25,o35,o45,o55,o65,o72),l5)))))) fun(v571,v581,(o06,o16,o26,o36,o46,o56,o66),(o07,o17,o27,o37,o47,o57,o67,o73),l51) =>
 some (inl (v571,IntKind.wrap .i64 (v581+1),(o06,o16,o26,o36,o46,o56,o66),(o07,o17,o27,o37,o47,o57,o67,o73),l51))))
 (some (inr (inl (l5,(o04,o14,o24,o34,o44,o54,o64),o05,o15,o25,o35,o45,o55,o65,o72))))) (((v51.length:Int),(0:Int),(o02,o12,o22,o32,o42,o52,o62),(o03,o13,o23,o33,o43,o53,o63,o71),v51))) fun(v52,(o04,o14,o24,o34,o44,o54,o64),o05,o15,o25,o35,o45,o55,o65,o72) =>
 bindE (Y:=List (Int×Int×Int)×(Cls)×Mth) (zAD (fun(v53,v100,v1011,v102,(o06,o16,o26,o36,o46,o56,o66),o07,o17,o27,o37,o47,o57,o67,o73) =>
 cndO (decide (v102<v1011))
 (bindE (Y:=List (Int×Int×Int)×List (Int×Int×Int×Int)×Int×Int×(Cls)×Mth) (grdO (decide (0≤v102)) (atO (v100) v102.toNat fun x=>cndO (decide (x.2.1≤x.1))
 (some (inr (inr (inr false))))
 (zAA (F173 (v53,x.1)) fun y6 =>
 cndO (decide (y6<0))
 (some (inr (inr (inr false))))
 (zAA (F173 (v53,x.2.2.1)) fun y7 =>
 cndO (decide (y7<0))
 (some (inr (inr (inr false))))
 (zAA (F173 (v53,x.2.1)) fun y8 =>
 cndO (decide (y8<0))
 (cndO (!decide (x.2.1=(o57.length:Int)))
 (some (inr (inr (inr false))))
 (cndO (!decide (x.2.2.2=0))
 (zAA (F162 ((o06,o16,o26,o36,o46,o56,o66),x.2.2.2)) fun y9 =>
 cndO (!y9)
 (some (inr (inr (inr false))))
 (some (inl (v53,v100,v1011,v102,(o06,o16,o26,o36,o46,o56,o66),o07,o17,o27,o37,o47,o57,o67,o73))))
 (some (inl (v53,v100,v1011,v102,(o06,o16,o26,o36,o46,o56,o66),o07,o17,o27,o37,o47,o57,o67,o73)))))
 (cndO (!decide (x.2.2.2=0))
 (zAA (F162 ((o06,o16,o26,o36,o46,o56,o66),x.2.2.2)) fun y9 =>
 cndO (!y9)
 (some (inr (inr (inr false))))
 (some (inl (v53,v100,v1011,v102,(o06,o16,o26,o36,o46,o56,o66),o07,o17,o27,o37,o47,o57,o67,o73))))
 (some (inl (v53,v100,v1011,v102,(o06,o16,o26,o36,o46,o56,o66),o07,o17,o27,o37,o47,o57,o67,o73))))))))) fun(v54,v1001,v1012,v1021,(o08,o18,o28,o38,o48,o58,o68),o09,o19,o29,o39,o49,o59,o69,o74) =>
 some (inl (v54,v1001,v1012,IntKind.wrap .i64 (v1021+1),(o08,o18,o28,o38,o48,o58,o68),o09,o19,o29,o39,o49,o59,o69,o74)))
 (some (inr (inl (v53,(o06,o16,o26,o36,o46,o56,o66),o07,o17,o27,o37,o47,o57,o67,o73))))) ((v52,o65,(o65.length:Int),(0:Int),(o04,o14,o24,o34,o44,o54,o64),o05,o15,o25,o35,o45,o55,o65,o72))) fun(v53,(o06,o16,o26,o36,o46,o56,o66),o07,o17,o27,o37,o47,o57,o67,o73) =>
 bindE (zAD (fun(v54,v161,v154,v155,v156,(o08,o18,o28,o38,o48,o58,o68),o09,o19,o29,o39,o49,o59,o69,o74) =>
 cndO (decide (v156<v155))
 (bindE (Y:=List (Int×Int×Int)×Int×List Frm×Int×Int×(Cls)×Mth) (grdO (decide (0≤v156)) (atO (v154) v156.toNat fun x=>zAA (F173 (v54,x.1)) fun y6 =>
 cndO (decide (y6<0))
 (some (inr (inr (inr false))))
 (cndO (decide (x.1≤v161))
 (some (inr (inr (inr false))))
 (cndO (!decide ((x.2.1.length:Int)=o49))
 (some (inr (inr (inr false))))
 (cndO (decide (o39<(x.2.2.length:Int)))
 (some (inr (inr (inr false))))
 (zAA (F174 ((o08,o18,o28,o38,o48,o58,o68),x.2.1)) fun y7 =>
 cndO (!y7)
 (some (inr (inr (inr false))))
 (zAA (F174 ((o08,o18,o28,o38,o48,o58,o68),x.2.2)) fun y8 =>
 cndO (!y8)
 (some (inr (inr (inr false))))
 (some (inl (v54,x.1,v154,v155,v156,(o08,o18,o28,o38,o48,o58,o68),o09,o19,o29,o39,o49,o59,o69,o74)))))))))) fun(v55,v162,v1541,v1551,v1561,(o010,o110,o210,o310,o410,o510,o610),o011,o111,o211,o311,o411,o511,o611,o75) =>
 some (inl (v55,v162,v1541,v1551,IntKind.wrap .i64 (v1561+1),(o010,o110,o210,o310,o410,o510,o610),o011,o111,o211,o311,o411,o511,o611,o75)))
 (some (inr (inl ())))) ((v53,(-1:Int),o73,(o73.length:Int),(0:Int),(o06,o16,o26,o36,o46,o56,o66),o07,o17,o27,o37,o47,o57,o67,o73))) fun _ =>
 some (true)
def tb87:=insT 87 (mkE 87 true [] ti87 to87 F87 [.tmp 4] 204 []) tb174
theorem ok87:TbOk Tryz.prog tb87:=okI ok174 noPl tv87 func87 rfl call87
abbrev ti29:SPat:=⟨[(0,.agg (pl plC))],[]⟩
abbrev to29:SPat:=⟨[(2,.i .i64)],[]⟩
abbrev ts29_8:SPat:=⟨[(1,.ptr 1 0),(22,.i .i64),(23,.i .i64)],[.box 1 (pl plC)]⟩
abbrev ts29_14:SPat:=⟨[(1,.ptr 1 0),(33,.i .i64),(34,.i .i64)],[.box 1 (pl plC)]⟩
abbrev ts29_20:SPat:=⟨[(1,.ptr 1 0),(43,.sl tg53),(44,.i .i64),(45,.i .i64)],[.box 1 (pl plC)]⟩
abbrev zOl:SPat:=⟨[(1,.ptr 1 0)],[.box 1 (pl plC)]⟩
abbrev zOj:SPat:=⟨[(1,.ptr 1 0)],[.box 1 (pl plC)]⟩
abbrev zOi:SPat:=⟨[],[]⟩
abbrev zOh:SPat:=⟨[(1,.ptr 1 0),(43,.sl tg53),(44,.i .i64),(45,.i .i64)],[.box 1 (pl plC)]⟩
def tv29:Nat→Option SPat:=fun k=>bif k==8 then some ts29_8 else bif k==14 then some ts29_14 else bif k==20 then some ts29_20 else bif k==2000001 then some zOl else bif k==2000003 then some zOj else bif k==2000005 then some zOi else bif k==2000006 then some zOh else none
def F29:Cls→Option (Int):=fun(c0,c1,c2,c3,c4,c5,c6) =>
 zAA (F20 (c0,c1,c2,c3,c4,c5,c6)) fun y =>
 cndO (decide (y=[]))
 (some ((1:Int)))
 (zAA (F14 c0) fun y1 =>
 cndO (!decide (y1=0))
 (some ((2:Int)))
 (zAA (F83 (c0,c1,c2,c3,c4,c5,c6)) fun y2 =>
 cndO (!y2)
 (some ((3:Int)))
 (bindE (Y:=Cls) (zAD (fun(v22,v23,o0,o1,o2,o3,o4,o5,o6) =>
 cndO (decide (v23<v22))
 (zAA (F84 ((o0,o1,o2,o3,o4,o5,o6),v23)) fun y3 =>
 cndO (!y3)
 (some (inr (inr (4:Int))))
 (some (inl (v22,IntKind.wrap .i64 (v23+1),o0,o1,o2,o3,o4,o5,o6))))
 (some (inr (inl (o0,o1,o2,o3,o4,o5,o6))))) (((c5.length:Int),(0:Int),c0,c1,c2,c3,c4,c5,c6))) fun(o0,o1,o2,o3,o4,o5,o6) =>
 bindE (Y:=Cls) (zAD (fun(v33,v34,o01,o11,o21,o31,o41,o51,o61) =>
 cndO (decide (v34<v33))
 (zAA (F85 ((o01,o11,o21,o31,o41,o51,o61),v34)) fun y3 =>
 cndO (!y3)
 (some (inr (inr (5:Int))))
 (some (inl (v33,IntKind.wrap .i64 (v34+1),o01,o11,o21,o31,o41,o51,o61))))
 (some (inr (inl (o01,o11,o21,o31,o41,o51,o61))))) (((o6.length:Int),(0:Int),o0,o1,o2,o3,o4,o5,o6))) fun(o01,o11,o21,o31,o41,o51,o61) =>
 bindE (zAD (fun(v43,v44,v45,o02,o12,o22,o32,o42,o52,o62) =>
 cndO (decide (v45<v44))
 (bindE (Y:=List Mth×Int×Int×Cls) (grdO (decide (0≤v45)) (atO (v43) v45.toNat fun x=>zAA (F86 (x.1)) fun y3 =>
 cndO (!y3)
 (zAA (F87 ((o02,o12,o22,o32,o42,o52,o62),x.1,x.2.1,x.2.2.1,x.2.2.2.1,x.2.2.2.2.1,x.2.2.2.2.2.1,x.2.2.2.2.2.2.1,x.2.2.2.2.2.2.2)) fun y4 =>
 cndO (!y4)
 (some (inr (inr (inr (6:Int)))))
 (some (inl (v43,v44,v45,o02,o12,o22,o32,o42,o52,o62))))
 (some (inl (v43,v44,v45,o02,o12,o22,o32,o42,o52,o62))))) fun(v431,v441,v451,o03,o13,o23,o33,o43,o53,o63) =>
 some (inl (v431,v441,IntKind.wrap .i64 (v451+1),o03,o13,o23,o33,o43,o53,o63)))
 (some (inr (inl ())))) ((o61,(o61.length:Int),(0:Int),o01,o11,o21,o31,o41,o51,o61))) fun _ =>
 some ((0:Int)))))
def tb29:=insT 29 (mkE 29 true [] ti29 to29 F29 [.tmp 2] 60 []) tb87
theorem ok29:TbOk Tryz.prog tb29:=okI ok87 noPl tv29 func29 rfl call29
abbrev ti179:SPat:=⟨[(0,.sl tg27)],[]⟩
abbrev to179:SPat:=⟨[(2,.own tg27 false)],[]⟩
def F179:List Cst→Option (List Cst):=fun s =>
 cndO (decide (List.length s=0))
 (zCp
 (some ([]))
 (grdO (decide (List.length s≤9223372036854775807)&&decide (List.length s*40≤140737488355328)) (some (s))))
 (grdO (decide (List.length s≤9223372036854775807)&&decide (List.length s*40≤140737488355328)) (some (s)))
def tb179:=insT 179 (mkE 179 true [] ti179 to179 F179 [.tmp 2] 8 []) tb29
theorem ok179:TbOk Tryz.prog tb179:=okI ok29 noPl noIv func179 rfl call179
abbrev ti180:SPat:=⟨[(0,.sl (.int .i64))],[]⟩
abbrev to180:SPat:=⟨[(2,.own (.int .i64) false)],[]⟩
def F180:List Int→Option (List Int):=fun s =>
 cndO (decide (List.length s=0))
 (zCp
 (some ([]))
 (grdO (decide (List.length s≤9223372036854775807)&&decide (List.length s*8≤140737488355328)) (some (s))))
 (grdO (decide (List.length s≤9223372036854775807)&&decide (List.length s*8≤140737488355328)) (some (s)))
def tb180:=insT 180 (mkE 180 true [] ti180 to180 F180 [.tmp 2] 8 []) tb179
theorem ok180:TbOk Tryz.prog tb180:=okI ok179 noPl noIv func180 rfl call180
abbrev ti181:SPat:=⟨[(0,.sl tg89)],[]⟩
abbrev to181:SPat:=⟨[(2,.own tg89 false)],[]⟩
def F181:List (Int×Int×Int)→Option (List (Int×Int×Int)):=fun s =>
 cndO (decide (List.length s=0))
 (zCp
 (some ([]))
 (grdO (decide (List.length s≤9223372036854775807)&&decide (List.length s*24≤140737488355328)) (some (s))))
 (grdO (decide (List.length s≤9223372036854775807)&&decide (List.length s*24≤140737488355328)) (some (s)))
def tb181:=insT 181 (mkE 181 true [] ti181 to181 F181 [.tmp 2] 8 []) tb180
theorem ok181:TbOk Tryz.prog tb181:=okI ok180 noPl noIv func181 rfl call181
abbrev ti182:SPat:=⟨[(0,.sl tg53)],[]⟩
abbrev to182:SPat:=⟨[(2,.own tg53 false)],[]⟩
def F182:List Mth→Option (List Mth):=fun s =>
 cndO (decide (List.length s=0))
 (zCp
 (some ([]))
 (grdO (decide (List.length s≤9223372036854775807)&&decide (List.length s*104≤140737488355328)) (some (s))))
 (grdO (decide (List.length s≤9223372036854775807)&&decide (List.length s*104≤140737488355328)) (some (s)))
def tb182:=insT 182 (mkE 182 false [] ti182 to182 F182 [.tmp 2] 8 []) tb181
theorem ok182:TbOk Tryz.prog tb182:=okI ok181 noPl noIv func182 rfl call182
abbrev ti183:SPat:=⟨[(0,.sl zBq)],[]⟩
abbrev to183:SPat:=⟨[(2,.own zBq false)],[]⟩
def F183:List (Int×Int×Int×Int)→Option (List (Int×Int×Int×Int)):=fun s =>
 cndO (decide (List.length s=0))
 (zCp
 (some ([]))
 (grdO (decide (List.length s≤9223372036854775807)&&decide (List.length s*32≤140737488355328)) (some (s))))
 (grdO (decide (List.length s≤9223372036854775807)&&decide (List.length s*32≤140737488355328)) (some (s)))
def tb183:=insT 183 (mkE 183 true [] ti183 to183 F183 [.tmp 2] 8 []) tb182
theorem ok183:TbOk Tryz.prog tb183:=okI ok182 noPl noIv func183 rfl call183
abbrev ti184:SPat:=⟨[(0,.sl zBL)],[]⟩
abbrev to184:SPat:=⟨[(2,.own zBL false)],[]⟩
def F184:List Frm→Option (List Frm):=fun s =>
 cndO (decide (List.length s=0))
 (zCp
 (some ([]))
 (grdO (decide (List.length s≤9223372036854775807)&&decide (List.length s*56≤140737488355328)) (some (s))))
 (grdO (decide (List.length s≤9223372036854775807)&&decide (List.length s*56≤140737488355328)) (some (s)))
def tb184:=insT 184 (mkE 184 false [] ti184 to184 F184 [.tmp 2] 8 []) tb183
theorem ok184:TbOk Tryz.prog tb184:=okI ok183 noPl noIv func184 rfl call184
abbrev ti185:SPat:=⟨[(0,.sl zAg)],[]⟩
abbrev to185:SPat:=⟨[(2,.own zAg false)],[]⟩
def F185:List (Int×Int)→Option (List (Int×Int)):=fun s =>
 cndO (decide (List.length s=0))
 (zCp
 (some ([]))
 (grdO (decide (List.length s≤9223372036854775807)&&decide (List.length s*16≤140737488355328)) (some (s))))
 (grdO (decide (List.length s≤9223372036854775807)&&decide (List.length s*16≤140737488355328)) (some (s)))
def tb185:=insT 185 (mkE 185 true [] ti185 to185 F185 [.tmp 2] 8 []) tb184
theorem ok185:TbOk Tryz.prog tb185:=okI ok184 noPl noIv func185 rfl call185
abbrev ti92:SPat:=⟨[(0,.agg (pl plC))],[]⟩
abbrev to92:SPat:=⟨[(2,.ptr 2 0)],[.box 2 (pl [.own tg27 false,.i .i64,.i .i64,.i .i64,.own (.int .i64) false,.own tg89 false,.own tg53 true])]⟩
abbrev ts92_3:SPat:=⟨[(1,.ptr 1 0),(2,.ptr 2 0),(24,.ar 7024),(25,.i .i64),(26,.i .i64)],[.box 1 (pl [.own tg27 false,.i .i64,.i .i64,.i .i64,.own (.int .i64) false,.own tg89 false,.ar 7024]),.box 2 (pl plD),.spl 7024 tg53]⟩
abbrev ts92_7:SPat:=⟨[(1,.ptr 1 0),(2,.ptr 2 0),(3,.i .i64),(24,.ar 7024),(25,.i .i64),(26,.i .i64),(48,.sl zBL),(49,.i .i64),(50,.i .i64)],[.box 1 (pl [.own tg27 false,.i .i64,.i .i64,.i .i64,.own (.int .i64) false,.own tg89 false,.ar 7024]),.box 2 (pl plD),.opn 7024 tg53 .spl (pl [.i .i64,.i .i64,.i .i64,.i .i64,.i .i64,.s,.own zBq false,.ar 8060]),.spl 8060 zBL]⟩
abbrev zNN:SPat:=⟨[(1,.ptr 1 0),(2,.ptr 2 0)],[.box 1 (pl [.own tg27 false,.i .i64,.i .i64,.i .i64,.own (.int .i64) false,.own tg89 false,.own tg53 true]),.box 2 (pl plD)]⟩
abbrev zNM:SPat:=⟨[(1,.ptr 1 0),(2,.ptr 2 0),(24,.ar 7024),(25,.i .i64),(26,.i .i64)],[.box 1 (pl [.own tg27 false,.i .i64,.i .i64,.i .i64,.own (.int .i64) false,.own tg89 false,.ar 7024]),.box 2 (pl plD),.spl 7024 tg53]⟩
abbrev zNL:SPat:=⟨[(1,.ptr 1 0),(2,.ptr 2 0),(24,.ar 7024),(25,.i .i64),(26,.i .i64)],[.box 1 (pl [.own tg27 false,.i .i64,.i .i64,.i .i64,.own (.int .i64) false,.own tg89 false,.ar 7024]),.box 2 (pl plD),.spl 7024 tg53]⟩
def tv92:Nat→Option SPat:=fun k=>bif k==3 then some ts92_3 else bif k==7 then some ts92_7 else bif k==2000000 then some zNN else bif k==2000001 then some zNM else bif k==2000002 then some zNL else none
def tp92:Nat→List Nat×Plan:=fun id=>bif id==3000009 then([5000000],.fin)else bif id==3000005 then([5000000],.fin)else bif id==1 then([0,1,3,4,6,7,9,10],(.br 2 [1,0] [3,4,6,7,9,10] [12] (.br 5 [4,3,2,1,0] [6,7,9,10,12] [] (.br 8 [7,6,5,4,3,2,1,0] [9,10,12] [] (.br 11 [10,9,8,7,6,5,4,3,2,1,0] [12] [] (.br 13 [12,11,10,9,8,7,6,5,4,3,2,1,0] [] [14] (.br 15 [14,13,12,11,10,9,8,7,6,5,4,3,2,1,0] [] [16] (.br 17 [16,15,14,13,12,11,10,9,8,7,6,5,4,3,2,1,0] [] [18] (.br 19 [18,17,16,15,14,13,12,11,10,9,8,7,6,5,4,3,2,1,0] [] [] .fin .fin) .fin) .fin) .fin) .fin) .fin) .fin) .fin))else bif id==5 then([0,1,2,3,4,5,6,7,9,10],(.br 8 [7,6] [0,1,2,3,4,5,9,10] [] (.br 11 [10,9,8,7,6] [0,1,2,3,4,5] [12,13] (.br 14 [13,12,11,10,9,8,7,6,2,1,0] [3,4,5] [15,16] (.br 17 [16,15,14,13,12,11,10,9,8,7,6,5,4,3,2,1,0] [] [] .fin .fin) .fin) .fin) .fin))else bif id==9 then([0,1,2,3,4,5,6,7,8,9,10,11,12,13,14,15,17,18],(.br 16 [15,14] [0,1,2,3,4,5,6,7,8,9,10,11,12,13,17,18] [] (.br 19 [18,17,16,15,14] [0,1,2,3,4,5,6,7,8,9,10,11,12,13] [20,21] (.br 22 [21,20,19,18,17,16,15,14,12,11,10,9,8,7,6,5,4,3,2,1,0] [13] [23,24] (.br 25 [24,23,22,21,20,19,18,17,16,15,14,13,12,11,10,9,8,7,6,5,4,3,2,1,0] [] [] .fin .fin) .fin) .fin) .fin))else([],.fin)
def F92:Cls→Option (Cls):=fun(app0,app1,app2,app3,app4,app5,app6) =>
 zAA (F179 app0) fun y =>
 seqU (seqU (grdO (decide (app4=app4)) (some ())) (seqU (grdO (decide (app5=app5)) (some ())) (seqU (grdO (decide (app6=app6)) (some ())) (some ())))) (zAA (F180 app4) fun y1 =>
 seqU (seqU (grdO (decide (app5=app5)) (some ())) (seqU (grdO (decide (app6=app6)) (some ())) (some ()))) (zAA (F181 app5) fun y2 =>
 seqU (seqU (grdO (decide (app6=app6)) (some ())) (some ())) (zAA (F182 app6) fun y3 =>
 bindE (Y:=(Cls)×Cls) (zAD (fun(v25,v26,(o0,o1,o2,o3,o4,o5),(o01,o11,o21,o31,o41,o51,o6),l7024,k7024) =>
 cndO (decide (v26<v25))
 (bindE (Y:=Int×Int×(List Cst×Int×Int×Int×List Int×List (Int×Int×Int))×(Cls)×List Mth×Nat) (grdO (decide (0≤v26)&&decide (v26<(l7024.length:Int))) (grdO (decide (k7024≤Int.toNat v26)) (atO (l7024) v26.toNat fun x=>zAA (F183 (x.2.2.2.2.2.2.1)) fun y4 =>
 seqU (seqU (grdO (decide (v26=v26)) (some ())) (seqU (grdO (decide (v26=v26)) (some ())) (seqU (grdO (decide (x.2.2.2.2.2.2.2=x.2.2.2.2.2.2.2)) (some ())) (some ())))) (zAA (F184 (x.2.2.2.2.2.2.2)) fun y5 =>
 seqU (seqU (grdO (decide (v26=v26)) (some ())) (seqU (grdO (decide (v26=v26)) (some ())) (some ()))) (grdO (decide (0≤v26)&&decide (v26<(l7024.length:Int))) (grdO (decide (k7024=Int.toNat v26)) (atO (l7024) v26.toNat fun x1=>grdO (decide (Int.toNat v26=Int.toNat v26)&&decide (Int.toNat v26<List.length l7024)) (seqU (seqU (grdO (decide (v26=v26)) (some ())) (some ())) (grdO (decide (0≤v26)&&decide (v26<(l7024.length:Int))) (grdO (decide (Int.toNat v26=Int.toNat v26)&&decide (Int.toNat v26<List.length l7024)) (bindE (Y:=Int×Int×(List Cst×Int×Int×Int×List Int×List (Int×Int×Int))×(Cls)×List Mth×Nat) (grdO (decide (Int.toNat v26=Int.toNat v26)&&decide (Int.toNat v26<List.length l7024)) (grdO (decide (Int.toNat v26=Int.toNat v26)&&decide (Int.toNat v26<List.length l7024)) (zAD (fun(v3,v251,v261,v48,v49,v50,(o02,o12,o22,o32,o42,o52),(o03,o13,o23,o33,o43,o53,o61),(l70241,i7024,r0,r1,r2,r3,r4,r5,r6),l8060,k8060) =>
 cndO (decide (v50<v49))
 (grdO (decide (0≤v50)) (atO (v48) v50.toNat fun x2=>grdO (decide (0≤v3)&&decide (v3<(l70241.length:Int))) (grdO (decide (Int.toNat v3=i7024)&&decide (i7024<List.length l70241)) (grdO (decide (Int.toNat v3=i7024)&&decide (i7024<List.length l70241)) (grdO (decide (0≤v3)&&decide (v3<(l70241.length:Int))) (grdO (decide (Int.toNat v3=i7024)&&decide (i7024<List.length l70241)) (grdO (decide (Int.toNat v3=i7024)&&decide (i7024<List.length l70241)) (zAA (F185 (x2.2.1)) fun y6 =>
 seqU (seqU (grdO (decide (v3=v3)) (some ())) (seqU (grdO (decide (0≤v3)&&decide (v3<(l70241.length:Int))) (grdO (Int.toNat v3==Int.toNat v3&&true) (some ()))) (seqU (grdO (Int.toNat v3==Int.toNat v3&&true) (some ())) (seqU (grdO (decide (Int.toNat v3=i7024)&&decide (i7024<List.length l70241)) (grdO (decide (Int.toNat v3=i7024)&&decide (i7024<List.length l70241)) (grdO (decide (Int.toNat v3=i7024)&&decide (i7024<List.length l70241)) (some ())))) (seqU (grdO (decide (v50=v50)) (some ())) (seqU (grdO (decide (v3=v3)) (some ())) (seqU (grdO (decide (0≤v3)&&decide (v3<(l70241.length:Int))) (grdO (Int.toNat v3==Int.toNat v3&&true) (some ()))) (seqU (grdO (Int.toNat v3==Int.toNat v3&&true) (some ())) (seqU (grdO (decide (Int.toNat v3=i7024)&&decide (i7024<List.length l70241)) (grdO (decide (Int.toNat v3=i7024)&&decide (i7024<List.length l70241)) (grdO (decide (Int.toNat v3=i7024)&&decide (i7024<List.length l70241)) (some ())))) (seqU (grdO (decide (v50=v50)) (some ())) (seqU (grdO (decide (x2.2.2=x2.2.2)) (some ())) (some ())))))))))))) (zAA (F185 (x2.2.2)) fun y7 =>
 seqU (seqU (grdO (decide (v3=v3)) (some ())) (seqU (grdO (decide (0≤v3)&&decide (v3<(l70241.length:Int))) (grdO (Int.toNat v3==Int.toNat v3&&true) (some ()))) (seqU (grdO (Int.toNat v3==Int.toNat v3&&true) (some ())) (seqU (grdO (decide (Int.toNat v3=i7024)&&decide (i7024<List.length l70241)) (grdO (decide (Int.toNat v3=i7024)&&decide (i7024<List.length l70241)) (grdO (decide (Int.toNat v3=i7024)&&decide (i7024<List.length l70241)) (some ())))) (seqU (grdO (decide (v50=v50)) (some ())) (seqU (grdO (decide (v3=v3)) (some ())) (seqU (grdO (decide (0≤v3)&&decide (v3<(l70241.length:Int))) (grdO (Int.toNat v3==Int.toNat v3&&true) (some ()))) (seqU (grdO (Int.toNat v3==Int.toNat v3&&true) (some ())) (seqU (grdO (decide (Int.toNat v3=i7024)&&decide (i7024<List.length l70241)) (grdO (decide (Int.toNat v3=i7024)&&decide (i7024<List.length l70241)) (grdO (decide (Int.toNat v3=i7024)&&decide (i7024<List.length l70241)) (some ())))) (seqU (grdO (decide (v50=v50)) (some ())) (some ()))))))))))) (grdO (decide (0≤v50)&&decide (v50<(l8060.length:Int))) (grdO (decide (k8060=Int.toNat v50)) (atO (l8060) v50.toNat fun x3=>grdO (decide (Int.toNat v50=Int.toNat v50)&&decide (Int.toNat v50<List.length l8060)) (seqU (seqU (grdO (decide (v50=v50)) (some ())) (some ())) (grdO (decide (0≤v50)&&decide (v50<(l8060.length:Int))) (grdO (decide (Int.toNat v50=Int.toNat v50)&&decide (Int.toNat v50<List.length l8060)) (grdO (decide (i7024=i7024)&&decide (i7024<List.length l70241)) (grdO (decide (Int.toNat v50<List.length l8060)) (some (inl (v3,v251,v261,v48,v49,IntKind.wrap .i64 (v50+1),(o02,o12,o22,o32,o42,o52),(o03,o13,o23,o33,o43,o53,o61),(l70241,i7024,r0,r1,r2,r3,r4,r5,r6),List.set l8060 v50.toNat (x3.1,y6,y7),Int.toNat v50+1))))))))))))))))))))
 (mapR (grdO (decide (k8060=List.length l8060)) (grdO (decide (i7024<List.length l70241)) (grdO (decide (i7024=i7024)&&decide (i7024<List.length l70241)) (grdO (decide (i7024<List.length l70241)) (some (inl (v251,v261,(o02,o12,o22,o32,o42,o52),(o03,o13,o23,o33,o43,o53,o61),List.set l70241 i7024 (r0,r1,r2,r3,r4,r5,r6,l8060),i7024+1))))))))) ((v26,v25,v26,x.2.2.2.2.2.2.2,(x.2.2.2.2.2.2.2.length:Int),(0:Int),(o0,o1,o2,o3,o4,o5),(o01,o11,o21,o31,o41,o51,o6),(l7024,Int.toNat v26,x1.1,x1.2.1,x1.2.2.1,x1.2.2.2.1,x1.2.2.2.2.1,x1.2.2.2.2.2.1,y4),y5,nat_lit 0))))) fun(v251,v261,(o02,o12,o22,o32,o42,o52),(o03,o13,o23,o33,o43,o53,o61),l70241,k70241) =>
 some (inl (v251,v261,(o02,o12,o22,o32,o42,o52),(o03,o13,o23,o33,o43,o53,o61),l70241,k70241))))))))))))) fun(v251,v261,(o02,o12,o22,o32,o42,o52),(o03,o13,o23,o33,o43,o53,o61),l70241,k70241) =>
 some (inl (v251,IntKind.wrap .i64 (v261+1),(o02,o12,o22,o32,o42,o52),(o03,o13,o23,o33,o43,o53,o61),l70241,k70241)))
 (mapR (grdO (decide (k7024=List.length l7024)) (some (inl ((o0,o1,o2,o3,o4,o5,l7024),o01,o11,o21,o31,o41,o51,o6)))))) (((y3.length:Int),(0:Int),(y,app1,app2,app3,y1,y2),([],(0:Int),(0:Int),(0:Int),[],[],[]),y3,nat_lit 0))) fun((o0,o1,o2,o3,o4,o5,o6),o01,o11,o21,o31,o41,o51,o61) =>
 some ((o0,o1,o2,o3,o4,o5,o6)))))
def tb92:=insT 92 (mkE 92 true [] ti92 to92 F92 [.cell 2 34] 82 []) tb185
theorem ok92:TbOk Tryz.prog tb92:=okI ok185 tp92 tv92 func92 rfl call92
abbrev ti33:SPat:=⟨[(0,.agg (pl plC))],[]⟩
abbrev to33:SPat:=⟨[(2,.ptr 2 0)],[.box 2 (pl [.own tg27 false,.i .i64,.i .i64,.i .i64,.own (.int .i64) false,.own tg89 false,.own tg53 true])]⟩
abbrev ts33_5:SPat:=⟨[(2,.ptr 2 0),(3,.ptr 3 0),(13,.i .i64),(14,.i .i64)],[.box 2 (pl plD),.box 3 (pl [.own tg27 false,.i .i64,.i .i64,.i .i64,.own (.int .i64) false,.own tg89 false,.own tg53 true])]⟩
abbrev zOa:SPat:=⟨[(2,.ptr 2 0),(3,.ptr 3 0)],[.box 2 (pl plD),.box 3 (pl [.own tg27 false,.i .i64,.i .i64,.i .i64,.own (.int .i64) false,.own tg89 false,.own tg53 true])]⟩
def tv33:Nat→Option SPat:=fun k=>bif k==5 then some ts33_5 else bif k==2000000 then some zOa else none
def F33:Cls→Option (Cls):=fun(c0,c1,c2,c3,c4,c5,c6) =>
 zAA (F29 (c0,c1,c2,c3,c4,c5,c6)) fun y =>
 cndO (!decide (y=0))
 (some (([],(0:Int),(0:Int),(0:Int),[],[],[])))
 (zAA (F92 (c0,c1,c2,c3,c4,c5,c6)) fun(y1,y2,y3,y4,y5,y6,x) =>
 bindE (Y:=(Cls)×Cls) (zAD (fun(v13,v14,(o0,o1,o2,o3,o4,o5,o6),o01,o11,o21,o31,o41,o51,o61) =>
 cndO (decide (v14<v13))
 (grdO (decide (0≤v14)&&decide (v14<(o61.length:Int))) (atO (o61) v14.toNat fun x1=>some (inl (v13,IntKind.wrap .i64 (v14+1),(o0,o1,o2,o3,o4,o5,o6),o01,o11,o21,o31,o41,o51,List.set o61 v14.toNat (x1.1,x1.2.1,x1.2.2.1,x1.2.2.2.1,x1.2.2.2.2.1,x1.2.2.2.2.2.1,x1.2.2.2.2.2.2.1,[])))))
 (some (inr (inl ((o0,o1,o2,o3,o4,o5,o6),o01,o11,o21,o31,o41,o51,o61))))) (((x.length:Int),(0:Int),([],(0:Int),(0:Int),(0:Int),[],[],[]),y1,y2,y3,y4,y5,y6,x))) fun((o0,o1,o2,o3,o4,o5,o6),o01,o11,o21,o31,o41,o51,o61) =>
 some ((o01,o11,o21,o31,o41,o51,o61)))
def tb33:=insT 33 (mkE 33 true [] ti33 to33 F33 [.cell 2 34] 24 []) tb92
theorem ok33:TbOk Tryz.prog tb33:=okI ok92 noPl tv33 func33 rfl call33
abbrev ti159:SPat:=⟨[(0,.agg (pl [.i .i64,.s,.i .i64,.i .i64])),(1,.agg (pl [.i .i64,.s,.i .i64,.i .i64]))],[]⟩
abbrev to159:SPat:=⟨[(4,.b)],[]⟩
def F159:(Cst)×Cst→Option (Bool):=fun((a0,a1,a2,a3),b0,b1,b2,b3) =>
 cndO (!decide (a0=b0))
 (some (false))
 (cndO (!decide (a1=b1))
 (some (false))
 (cndO (!decide (a2=b2))
 (some (false))
 (cndO (!decide (a3=b3))
 (some (false))
 (some (true)))))
def tb159:=insT 159 (mkE 159 true [] ti159 to159 F159 [.tmp 4] 25 []) tb33
theorem ok159:TbOk Tryz.prog tb159:=okI ok33 noPl noIv func159 rfl call159
abbrev ti79:SPat:=⟨[(0,.sl tg27),(1,.sl tg27)],[]⟩
abbrev to79:SPat:=⟨[(4,.b)],[]⟩
abbrev ts79_4:SPat:=⟨[(0,.sl tg27),(1,.sl tg27),(5,.i .i64)],[]⟩
abbrev zNj:SPat:=⟨[],[]⟩
def tv79:Nat→Option SPat:=fun k=>bif k==4 then some ts79_4 else bif k==2000000 then some zNj else none
def tp79:Nat→List Nat×Plan:=fun id=>bif id==6 then([0,1,2,3,4,5,6,7],(.br 8 [7,6,5,4,3,2,1,0] [] [9] .fin .fin))else([],.fin)
def F79:List Cst×List Cst→Option (Bool):=fun(a,b) =>
 cndO (!decide ((a.length:Int)=(b.length:Int)))
 (some (false))
 (bindE (zAD (fun(a1,b1,i) =>
 cndO (decide (i<(a1.length:Int)))
 (grdO (decide (0≤i)) (atO (a1) i.toNat fun x=>grdO (decide (0≤i)) (atO (b1) i.toNat fun x1=>zAA (F159 ((x.1,x.2.1,x.2.2.1,x.2.2.2),x1.1,x1.2.1,x1.2.2.1,x1.2.2.2)) fun y =>
 cndO (!y)
 (some (inr (inr false)))
 (some (inl (a1,b1,IntKind.wrap .i64 (i+1)))))))
 (some (inr (inl ())))) ((a,b,(0:Int)))) fun _ =>
 some (true))
def tb79:=insT 79 (mkE 79 true [] ti79 to79 F79 [.tmp 4] 27 []) tb159
theorem ok79:TbOk Tryz.prog tb79:=okI ok159 tp79 tv79 func79 rfl call79
abbrev ti80:SPat:=⟨[(0,.sl (.int .i64)),(1,.sl (.int .i64))],[]⟩
abbrev to80:SPat:=⟨[(4,.b)],[]⟩
abbrev ts80_4:SPat:=⟨[(0,.sl (.int .i64)),(1,.sl (.int .i64)),(5,.i .i64)],[]⟩
abbrev zNi:SPat:=⟨[],[]⟩
def tv80:Nat→Option SPat:=fun k=>bif k==4 then some ts80_4 else bif k==2000000 then some zNi else none
def tp80:Nat→List Nat×Plan:=fun id=>bif id==6 then([0,1,2,3,4,5,6,7,8],.fin)else([],.fin)
def F80:List Int×List Int→Option (Bool):=fun(a,b) =>
 cndO (!decide ((a.length:Int)=(b.length:Int)))
 (some (false))
 (bindE (zAD (fun(a1,b1,i) =>
 cndO (decide (i<(a1.length:Int)))
 (grdO (decide (0≤i)) (atO (a1) i.toNat fun x=>grdO (decide (0≤i)) (atO (b1) i.toNat fun x1=>cndO (!decide (x=x1))
 (some (inr (inr false)))
 (some (inl (a1,b1,IntKind.wrap .i64 (i+1)))))))
 (some (inr (inl ())))) ((a,b,(0:Int)))) fun _ =>
 some (true))
def tb80:=insT 80 (mkE 80 true [] ti80 to80 F80 [.tmp 4] 26 []) tb79
theorem ok80:TbOk Tryz.prog tb80:=okI ok79 tp80 tv80 func80 rfl call80
abbrev ti160:SPat:=⟨[(0,.agg (pl [.i .i64,.i .i64,.i .i64])),(1,.agg (pl [.i .i64,.i .i64,.i .i64]))],[]⟩
abbrev to160:SPat:=⟨[(4,.b)],[]⟩
def F160:(Int×Int×Int)×Int×Int×Int→Option (Bool):=fun((a0,a1,a2),b0,b1,b2) =>
 cndO (!decide (a0=b0))
 (some (false))
 (cndO (!decide (a1=b1))
 (some (false))
 (cndO (!decide (a2=b2))
 (some (false))
 (some (true))))
def tb160:=insT 160 (mkE 160 true [] ti160 to160 F160 [.tmp 4] 20 []) tb80
theorem ok160:TbOk Tryz.prog tb160:=okI ok80 noPl noIv func160 rfl call160
abbrev ti81:SPat:=⟨[(0,.sl tg89),(1,.sl tg89)],[]⟩
abbrev to81:SPat:=⟨[(4,.b)],[]⟩
abbrev ts81_4:SPat:=⟨[(0,.sl tg89),(1,.sl tg89),(5,.i .i64)],[]⟩
abbrev zNh:SPat:=⟨[],[]⟩
def tv81:Nat→Option SPat:=fun k=>bif k==4 then some ts81_4 else bif k==2000000 then some zNh else none
def tp81:Nat→List Nat×Plan:=fun id=>bif id==6 then([0,1,2,3,4,5,6,7],(.br 8 [7,6,5,4,3,2,1,0] [] [9] .fin .fin))else([],.fin)
def F81:List (Int×Int×Int)×List (Int×Int×Int)→Option (Bool):=fun(a,b) =>
 cndO (!decide ((a.length:Int)=(b.length:Int)))
 (some (false))
 (bindE (zAD (fun(a1,b1,i) =>
 cndO (decide (i<(a1.length:Int)))
 (grdO (decide (0≤i)) (atO (a1) i.toNat fun x=>grdO (decide (0≤i)) (atO (b1) i.toNat fun x1=>zAA (F160 ((x.1,x.2.1,x.2.2),x1.1,x1.2.1,x1.2.2)) fun y =>
 cndO (!y)
 (some (inr (inr false)))
 (some (inl (a1,b1,IntKind.wrap .i64 (i+1)))))))
 (some (inr (inl ())))) ((a,b,(0:Int)))) fun _ =>
 some (true))
def tb81:=insT 81 (mkE 81 true [] ti81 to81 F81 [.tmp 4] 27 []) tb160
theorem ok81:TbOk Tryz.prog tb81:=okI ok160 tp81 tv81 func81 rfl call81
abbrev ti286:SPat:=⟨[(0,.agg (pl [.i .i64,.i .i64,.i .i64,.i .i64])),(1,.agg (pl [.i .i64,.i .i64,.i .i64,.i .i64]))],[]⟩
abbrev to286:SPat:=⟨[(4,.b)],[]⟩
def F286:(Int×Int×Int×Int)×Int×Int×Int×Int→Option (Bool):=fun((a0,a1,a2,a3),b0,b1,b2,b3) =>
 cndO (!decide (a0=b0))
 (some (false))
 (cndO (!decide (a1=b1))
 (some (false))
 (cndO (!decide (a2=b2))
 (some (false))
 (cndO (!decide (a3=b3))
 (some (false))
 (some (true)))))
def tb286:=insT 286 (mkE 286 true [] ti286 to286 F286 [.tmp 4] 25 []) tb81
theorem ok286:TbOk Tryz.prog tb286:=okI ok81 noPl noIv func286 rfl call286
abbrev ti233:SPat:=⟨[(0,.sl zBq),(1,.sl zBq)],[]⟩
abbrev to233:SPat:=⟨[(4,.b)],[]⟩
abbrev ts233_4:SPat:=⟨[(0,.sl zBq),(1,.sl zBq),(5,.i .i64)],[]⟩
abbrev zKY:SPat:=⟨[],[]⟩
def tv233:Nat→Option SPat:=fun k=>bif k==4 then some ts233_4 else bif k==2000000 then some zKY else none
def tp233:Nat→List Nat×Plan:=fun id=>bif id==6 then([0,1,2,3,4,5,6,7],(.br 8 [7,6,5,4,3,2,1,0] [] [9] .fin .fin))else([],.fin)
def F233:List (Int×Int×Int×Int)×List (Int×Int×Int×Int)→Option (Bool):=fun(a,b) =>
 cndO (!decide ((a.length:Int)=(b.length:Int)))
 (some (false))
 (bindE (zAD (fun(a1,b1,i) =>
 cndO (decide (i<(a1.length:Int)))
 (grdO (decide (0≤i)) (atO (a1) i.toNat fun x=>grdO (decide (0≤i)) (atO (b1) i.toNat fun x1=>zAA (F286 ((x.1,x.2.1,x.2.2.1,x.2.2.2),x1.1,x1.2.1,x1.2.2.1,x1.2.2.2)) fun y =>
 cndO (!y)
 (some (inr (inr false)))
 (some (inl (a1,b1,IntKind.wrap .i64 (i+1)))))))
 (some (inr (inl ())))) ((a,b,(0:Int)))) fun _ =>
 some (true))
def tb233:=insT 233 (mkE 233 true [] ti233 to233 F233 [.tmp 4] 27 []) tb286
theorem ok233:TbOk Tryz.prog tb233:=okI ok286 tp233 tv233 func233 rfl call233
abbrev ti329:SPat:=⟨[(0,.agg (pl [.i .i64,.i .i64])),(1,.agg (pl [.i .i64,.i .i64]))],[]⟩
abbrev to329:SPat:=⟨[(4,.b)],[]⟩
def F329:(Int×Int)×Int×Int→Option (Bool):=fun((a0,a1),b0,b1) =>
 cndO (!decide (a0=b0))
 (some (false))
 (cndO (!decide (a1=b1))
 (some (false))
 (some (true)))
def tb329:=insT 329 (mkE 329 true [] ti329 to329 F329 [.tmp 4] 15 []) tb233
theorem ok329:TbOk Tryz.prog tb329:=okI ok233 noPl noIv func329 rfl call329
abbrev ti320:SPat:=⟨[(0,.sl zAg),(1,.sl zAg)],[]⟩
abbrev to320:SPat:=⟨[(4,.b)],[]⟩
abbrev ts320_4:SPat:=⟨[(0,.sl zAg),(1,.sl zAg),(5,.i .i64)],[]⟩
abbrev zJs:SPat:=⟨[],[]⟩
def tv320:Nat→Option SPat:=fun k=>bif k==4 then some ts320_4 else bif k==2000000 then some zJs else none
def tp320:Nat→List Nat×Plan:=fun id=>bif id==6 then([0,1,2,3,4,5,6,7],(.br 8 [7,6,5,4,3,2,1,0] [] [9] .fin .fin))else([],.fin)
def F320:List (Int×Int)×List (Int×Int)→Option (Bool):=fun(a,b) =>
 cndO (!decide ((a.length:Int)=(b.length:Int)))
 (some (false))
 (bindE (zAD (fun(a1,b1,i) =>
 cndO (decide (i<(a1.length:Int)))
 (grdO (decide (0≤i)) (atO (a1) i.toNat fun x=>grdO (decide (0≤i)) (atO (b1) i.toNat fun x1=>zAA (F329 ((x.1,x.2),x1.1,x1.2)) fun y =>
 cndO (!y)
 (some (inr (inr false)))
 (some (inl (a1,b1,IntKind.wrap .i64 (i+1)))))))
 (some (inr (inl ())))) ((a,b,(0:Int)))) fun _ =>
 some (true))
def tb320:=insT 320 (mkE 320 true [] ti320 to320 F320 [.tmp 4] 27 []) tb329
theorem ok320:TbOk Tryz.prog tb320:=okI ok329 tp320 tv320 func320 rfl call320
abbrev ti287:SPat:=⟨[(0,.agg (pl [.i .i64,.sl zAg,.sl zAg])),(1,.agg (pl [.i .i64,.sl zAg,.sl zAg]))],[]⟩
abbrev to287:SPat:=⟨[(4,.b)],[]⟩
def F287:(Frm)×Frm→Option (Bool):=fun((a0,a1,a2),b0,b1,b2) =>
 cndO (!decide (a0=b0))
 (some (false))
 (zAA (F320 (a1,b1)) fun y =>
 cndO (!y)
 (some (false))
 (zAA (F320 (a2,b2)) fun y1 =>
 cndO (!y1)
 (some (false))
 (some (true))))
def tb287:=insT 287 (mkE 287 true [] ti287 to287 F287 [.tmp 4] 22 []) tb320
theorem ok287:TbOk Tryz.prog tb287:=okI ok320 noPl noIv func287 rfl call287
abbrev ti234:SPat:=⟨[(0,.sl zBL),(1,.sl zBL)],[]⟩
abbrev to234:SPat:=⟨[(4,.b)],[]⟩
abbrev ts234_4:SPat:=⟨[(0,.sl zBL),(1,.sl zBL),(5,.i .i64)],[]⟩
abbrev zKX:SPat:=⟨[],[]⟩
def tv234:Nat→Option SPat:=fun k=>bif k==4 then some ts234_4 else bif k==2000000 then some zKX else none
def tp234:Nat→List Nat×Plan:=fun id=>bif id==6 then([0,1,2,3,4,5,6,7],(.br 8 [7,6,5,4,3,2,1,0] [] [9] .fin .fin))else([],.fin)
def F234:List Frm×List Frm→Option (Bool):=fun(a,b) =>
 cndO (!decide ((a.length:Int)=(b.length:Int)))
 (some (false))
 (bindE (zAD (fun(a1,b1,i) =>
 cndO (decide (i<(a1.length:Int)))
 (grdO (decide (0≤i)) (atO (a1) i.toNat fun x=>grdO (decide (0≤i)) (atO (b1) i.toNat fun x1=>zAA (F287 ((x.1,x.2.1,x.2.2),x1.1,x1.2.1,x1.2.2)) fun y =>
 cndO (!y)
 (some (inr (inr false)))
 (some (inl (a1,b1,IntKind.wrap .i64 (i+1)))))))
 (some (inr (inl ())))) ((a,b,(0:Int)))) fun _ =>
 some (true))
def tb234:=insT 234 (mkE 234 true [] ti234 to234 F234 [.tmp 4] 27 []) tb287
theorem ok234:TbOk Tryz.prog tb234:=okI ok287 tp234 tv234 func234 rfl call234
abbrev ti161:SPat:=⟨[(0,.agg (pl plM)),(1,.agg (pl plM))],[]⟩
abbrev to161:SPat:=⟨[(4,.b)],[]⟩
def F161:(Mth)×Mth→Option (Bool):=fun((a0,a1,a2,a3,a4,a5,a6,a7),b0,b1,b2,b3,b4,b5,b6,b7) =>
 cndO (!decide (a0=b0))
 (some (false))
 (cndO (!decide (a1=b1))
 (some (false))
 (cndO (!decide (a2=b2))
 (some (false))
 (cndO (!decide (a3=b3))
 (some (false))
 (cndO (!decide (a4=b4))
 (some (false))
 (cndO (!decide (a5=b5))
 (some (false))
 (zAA (F233 (a6,b6)) fun y =>
 cndO (!y)
 (some (false))
 (zAA (F234 (a7,b7)) fun y1 =>
 cndO (!y1)
 (some (false))
 (some (true)))))))))
def tb161:=insT 161 (mkE 161 true [] ti161 to161 F161 [.tmp 4] 47 []) tb234
theorem ok161:TbOk Tryz.prog tb161:=okI ok234 noPl noIv func161 rfl call161
abbrev ti82:SPat:=⟨[(0,.sl tg53),(1,.sl tg53)],[]⟩
abbrev to82:SPat:=⟨[(4,.b)],[]⟩
abbrev ts82_4:SPat:=⟨[(0,.sl tg53),(1,.sl tg53),(5,.i .i64)],[]⟩
abbrev zNg:SPat:=⟨[],[]⟩
def tv82:Nat→Option SPat:=fun k=>bif k==4 then some ts82_4 else bif k==2000000 then some zNg else none
def tp82:Nat→List Nat×Plan:=fun id=>bif id==6 then([0,1,2,3,4,5,6,7],(.br 8 [7,6,5,4,3,2,1,0] [] [9] .fin .fin))else([],.fin)
def F82:List Mth×List Mth→Option (Bool):=fun(a,b) =>
 cndO (!decide ((a.length:Int)=(b.length:Int)))
 (some (false))
 (bindE (zAD (fun(a1,b1,i) =>
 cndO (decide (i<(a1.length:Int)))
 (grdO (decide (0≤i)) (atO (a1) i.toNat fun x=>grdO (decide (0≤i)) (atO (b1) i.toNat fun x1=>zAA (F161 ((x.1,x.2.1,x.2.2.1,x.2.2.2.1,x.2.2.2.2.1,x.2.2.2.2.2.1,x.2.2.2.2.2.2.1,x.2.2.2.2.2.2.2),x1.1,x1.2.1,x1.2.2.1,x1.2.2.2.1,x1.2.2.2.2.1,x1.2.2.2.2.2.1,x1.2.2.2.2.2.2.1,x1.2.2.2.2.2.2.2)) fun y =>
 cndO (!y)
 (some (inr (inr false)))
 (some (inl (a1,b1,IntKind.wrap .i64 (i+1)))))))
 (some (inr (inl ())))) ((a,b,(0:Int)))) fun _ =>
 some (true))
def tb82:=insT 82 (mkE 82 true [] ti82 to82 F82 [.tmp 4] 27 []) tb161
theorem ok82:TbOk Tryz.prog tb82:=okI ok161 tp82 tv82 func82 rfl call82
abbrev ti27:SPat:=⟨[(0,.agg (pl plC)),(1,.agg (pl plC))],[]⟩
abbrev to27:SPat:=⟨[(4,.b)],[]⟩
def F27:(Cls)×Cls→Option (Bool):=fun((a0,a1,a2,a3,a4,a5,a6),b0,b1,b2,b3,b4,b5,b6) =>
 zAA (F79 (a0,b0)) fun y =>
 cndO (!y)
 (some (false))
 (cndO (!decide (a1=b1))
 (some (false))
 (cndO (!decide (a2=b2))
 (some (false))
 (cndO (!decide (a3=b3))
 (some (false))
 (zAA (F80 (a4,b4)) fun y1 =>
 cndO (!y1)
 (some (false))
 (zAA (F81 (a5,b5)) fun y2 =>
 cndO (!y2)
 (some (false))
 (zAA (F82 (a6,b6)) fun y3 =>
 cndO (!y3)
 (some (false))
 (some (true))))))))
def tb27:=insT 27 (mkE 27 true [] ti27 to27 F27 [.tmp 4] 44 []) tb82
theorem ok27:TbOk Tryz.prog tb27:=okI ok82 noPl noIv func27 rfl call27
abbrev ti187:SPat:=⟨[(0,.i .i64)],[]⟩
abbrev to187:SPat:=⟨[(2,.s)],[]⟩
abbrev ts187_4:SPat:=⟨[(0,.i .i64),(3,.s)],[]⟩
abbrev zLA:SPat:=⟨[(3,.s)],[]⟩
def tv187:Nat→Option SPat:=fun k=>bif k==4 then some ts187_4 else bif k==2000000 then some zLA else none
def F187:Int→Option (List UInt8):=fun k =>
 cndO (decide (k≤0))
 (some ([(109:UInt8),48]))
 (bindE (Y:=List UInt8) (zAD (fun(k1,out) =>
 cndO (decide (0<k1))
 (grdO (decide (0≤IntKind.wrap .u8 (IntKind.wrap .i64 ((48:Int)+Int.tmod k1 (10:Int))))&&decide (IntKind.wrap .u8 (IntKind.wrap .i64 ((48:Int)+Int.tmod k1 (10:Int)))≤255)) (grdO (decide ((1:Nat)+List.length out≤9223372036854775807)) (some (inl (IntKind.wrap .i64 (Int.tdiv k1 (10:Int)),[UInt8.ofNat (Int.toNat (IntKind.wrap .u8 (IntKind.wrap .i64 ((48:Int)+Int.tmod k1 (10:Int)))))]++out)))))
 (some (inr (inl out)))) ((k,[]))) fun out =>
 grdO (decide ((1:Nat)+List.length out≤9223372036854775807)) (some ([(109:UInt8)]++out)))
def tb187:=insT 187 (mkE 187 true [] ti187 to187 F187 [.tmp 2] 20 []) tb27
theorem ok187:TbOk Tryz.prog tb187:=okI ok27 noPl tv187 func187 rfl call187
abbrev ti94:SPat:=⟨[(0,.ar 100000),(1,.i .i64)],[.arr 100000 tg27 true]⟩
abbrev to94:SPat:=⟨[(4,.i .i64)],[.arr 100000 tg27 true]⟩
abbrev ts94_2:SPat:=⟨[(0,.ar 100000),(1,.i .i64),(5,.i .i64)],[.arr 100000 tg27 true]⟩
abbrev zNJ:SPat:=⟨[(1,.i .i64)],[.arr 100000 tg27 true]⟩
def tv94:Nat→Option SPat:=fun k=>bif k==2 then some ts94_2 else bif k==2000000 then some zNJ else none
def tp94:Nat→List Nat×Plan:=fun id=>bif id==3000010 then([5000000],.fin)else bif id==3000008 then([5000000],.fin)else bif id==3000006 then([5000000],.fin)else bif id==3000004 then([5000000],.fin)else([],.fin)
def F94:Int×List Cst→Option (Int×List Cst):=fun(k,l100000) =>
 bindE (Y:=Int×List Cst) (zAD (fun(k1,i,l1000001) =>
 cndO (decide (i<(l1000001.length:Int)))
 (grdO (decide (0≤i)&&decide (i<(l1000001.length:Int))) (atO (l1000001) i.toNat fun x=>grdO (decide (Int.toNat i=Int.toNat i)&&decide (Int.toNat i<List.length l1000001)) (zAA (F187 (IntKind.wrap .i64 (k1+1))) fun y =>
 grdO (decide (0≤i)&&decide (i<(l1000001.length:Int))) (grdO (decide (Int.toNat i=Int.toNat i)&&decide (Int.toNat i<List.length l1000001)) (grdO (decide (0≤i)&&decide (i<(l1000001.length:Int))) (grdO (decide (Int.toNat i=Int.toNat i)&&decide (Int.toNat i<List.length l1000001)) (grdO (decide (0≤i)&&decide (i<(l1000001.length:Int))) (grdO (decide (Int.toNat i=Int.toNat i)&&decide (Int.toNat i<List.length l1000001)) (grdO (decide (Int.toNat i<List.length l1000001)) (some (inl (IntKind.wrap .i64 (IntKind.wrap .i64 (IntKind.wrap .i64 (IntKind.wrap .i64 (k1+1)+1)+1)+1),IntKind.wrap .i64 (i+1),List.set l1000001 i.toNat (k1,y,IntKind.wrap .i64 (IntKind.wrap .i64 (k1+1)+1),IntKind.wrap .i64 (IntKind.wrap .i64 (IntKind.wrap .i64 (k1+1)+1)+1))))))))))))))
 (some (inr (inl (k1,l1000001))))) ((k,(0:Int),l100000))) fun(k1,l1000001) =>
 some ((k1,l1000001))
def tb94:=insT 94 (mkE 94 false [(0,[])] ti94 to94 F94 [.tmp 4] 42 [100000]) tb187
theorem ok94:TbOk Tryz.prog tb94:=okI ok187 tp94 tv94 func94 rfl call94
abbrev ti95:SPat:=⟨[(0,.ar 100000),(1,.i .i64)],[.arr 100000 (.int .i64) true]⟩
abbrev to95:SPat:=⟨[(4,.i .i64)],[.arr 100000 (.int .i64) true]⟩
abbrev ts95_2:SPat:=⟨[(0,.ar 100000),(1,.i .i64),(5,.i .i64)],[.arr 100000 (.int .i64) true]⟩
abbrev zNI:SPat:=⟨[(1,.i .i64)],[.arr 100000 (.int .i64) true]⟩
def tv95:Nat→Option SPat:=fun k=>bif k==2 then some ts95_2 else bif k==2000000 then some zNI else none
def tp95:Nat→List Nat×Plan:=fun id=>bif id==3000004 then([5000000],.fin)else([],.fin)
def F95:Int×List Int→Option (Int×List Int):=fun(k,l100000) =>
 bindE (Y:=Int×List Int) (zAD (fun(k1,i,l1000001) =>
 cndO (decide (i<(l1000001.length:Int)))
 (grdO (decide (0≤i)&&decide (i<(l1000001.length:Int))) (atO (l1000001) i.toNat fun x=>grdO (decide (Int.toNat i=Int.toNat i)&&decide (Int.toNat i<List.length l1000001)) (grdO (decide (Int.toNat i<List.length l1000001)) (some (inl (IntKind.wrap .i64 (k1+1),IntKind.wrap .i64 (i+1),List.set l1000001 i.toNat k1))))))
 (some (inr (inl (k1,l1000001))))) ((k,(0:Int),l100000))) fun(k1,l1000001) =>
 some ((k1,l1000001))
def tb95:=insT 95 (mkE 95 false [(0,[])] ti95 to95 F95 [.tmp 4] 19 [100000]) tb94
theorem ok95:TbOk Tryz.prog tb95:=okI ok94 tp95 tv95 func95 rfl call95
abbrev ti96:SPat:=⟨[(0,.ar 100000),(1,.i .i64)],[.arr 100000 tg89 true]⟩
abbrev to96:SPat:=⟨[(4,.i .i64)],[.arr 100000 tg89 true]⟩
abbrev ts96_2:SPat:=⟨[(0,.ar 100000),(1,.i .i64),(5,.i .i64)],[.arr 100000 tg89 true]⟩
abbrev zNH:SPat:=⟨[(1,.i .i64)],[.arr 100000 tg89 true]⟩
def tv96:Nat→Option SPat:=fun k=>bif k==2 then some ts96_2 else bif k==2000000 then some zNH else none
def tp96:Nat→List Nat×Plan:=fun id=>bif id==3000008 then([5000000],.fin)else bif id==3000006 then([5000000],.fin)else bif id==3000004 then([5000000],.fin)else([],.fin)
def F96:Int×List (Int×Int×Int)→Option (Int×List (Int×Int×Int)):=fun(k,l100000) =>
 bindE (Y:=Int×List (Int×Int×Int)) (zAD (fun(k1,i,l1000001) =>
 cndO (decide (i<(l1000001.length:Int)))
 (grdO (decide (0≤i)&&decide (i<(l1000001.length:Int))) (atO (l1000001) i.toNat fun x=>grdO (decide (Int.toNat i=Int.toNat i)&&decide (Int.toNat i<List.length l1000001)) (grdO (decide (0≤i)&&decide (i<(l1000001.length:Int))) (grdO (decide (Int.toNat i=Int.toNat i)&&decide (Int.toNat i<List.length l1000001)) (grdO (decide (0≤i)&&decide (i<(l1000001.length:Int))) (grdO (decide (Int.toNat i=Int.toNat i)&&decide (Int.toNat i<List.length l1000001)) (grdO (decide (Int.toNat i<List.length l1000001)) (some (inl (IntKind.wrap .i64 (IntKind.wrap .i64 (IntKind.wrap .i64 (k1+1)+1)+1),IntKind.wrap .i64 (i+1),List.set l1000001 i.toNat (k1,IntKind.wrap .i64 (k1+1),IntKind.wrap .i64 (IntKind.wrap .i64 (k1+1)+1))))))))))))
 (some (inr (inl (k1,l1000001))))) ((k,(0:Int),l100000))) fun(k1,l1000001) =>
 some ((k1,l1000001))
def tb96:=insT 96 (mkE 96 false [(0,[])] ti96 to96 F96 [.tmp 4] 34 [100000]) tb95
theorem ok96:TbOk Tryz.prog tb96:=okI ok95 tp96 tv96 func96 rfl call96
abbrev ti188:SPat:=⟨[(0,.ar 100000),(1,.i .i64)],[.arr 100000 zBq true]⟩
abbrev to188:SPat:=⟨[(4,.i .i64)],[.arr 100000 zBq true]⟩
abbrev ts188_2:SPat:=⟨[(0,.ar 100000),(1,.i .i64),(5,.i .i64)],[.arr 100000 zBq true]⟩
abbrev zKz:SPat:=⟨[(1,.i .i64)],[.arr 100000 zBq true]⟩
def tv188:Nat→Option SPat:=fun k=>bif k==2 then some ts188_2 else bif k==2000000 then some zKz else none
def tp188:Nat→List Nat×Plan:=fun id=>bif id==3000010 then([5000000],.fin)else bif id==3000008 then([5000000],.fin)else bif id==3000006 then([5000000],.fin)else bif id==3000004 then([5000000],.fin)else([],.fin)
def F188:Int×List (Int×Int×Int×Int)→Option (Int×List (Int×Int×Int×Int)):=fun(k,l100000) =>
 bindE (Y:=Int×List (Int×Int×Int×Int)) (zAD (fun(k1,i,l1000001) =>
 cndO (decide (i<(l1000001.length:Int)))
 (grdO (decide (0≤i)&&decide (i<(l1000001.length:Int))) (atO (l1000001) i.toNat fun x=>grdO (decide (Int.toNat i=Int.toNat i)&&decide (Int.toNat i<List.length l1000001)) (grdO (decide (0≤i)&&decide (i<(l1000001.length:Int))) (grdO (decide (Int.toNat i=Int.toNat i)&&decide (Int.toNat i<List.length l1000001)) (grdO (decide (0≤i)&&decide (i<(l1000001.length:Int))) (grdO (decide (Int.toNat i=Int.toNat i)&&decide (Int.toNat i<List.length l1000001)) (grdO (decide (0≤i)&&decide (i<(l1000001.length:Int))) (grdO (decide (Int.toNat i=Int.toNat i)&&decide (Int.toNat i<List.length l1000001)) (grdO (decide (Int.toNat i<List.length l1000001)) (some (inl (IntKind.wrap .i64 (IntKind.wrap .i64 (IntKind.wrap .i64 (IntKind.wrap .i64 (k1+1)+1)+1)+1),IntKind.wrap .i64 (i+1),List.set l1000001 i.toNat (k1,IntKind.wrap .i64 (k1+1),IntKind.wrap .i64 (IntKind.wrap .i64 (k1+1)+1),IntKind.wrap .i64 (IntKind.wrap .i64 (IntKind.wrap .i64 (k1+1)+1)+1))))))))))))))
 (some (inr (inl (k1,l1000001))))) ((k,(0:Int),l100000))) fun(k1,l1000001) =>
 some ((k1,l1000001))
def tb188:=insT 188 (mkE 188 false [(0,[])] ti188 to188 F188 [.tmp 4] 41 [100000]) tb96
theorem ok188:TbOk Tryz.prog tb188:=okI ok96 tp188 tv188 func188 rfl call188
abbrev ti249:SPat:=⟨[(0,.ar 100000),(1,.i .i64)],[.arr 100000 zAg true]⟩
abbrev to249:SPat:=⟨[(4,.i .i64)],[.arr 100000 zAg true]⟩
abbrev ts249_2:SPat:=⟨[(0,.ar 100000),(1,.i .i64),(5,.i .i64)],[.arr 100000 zAg true]⟩
abbrev zKS:SPat:=⟨[(1,.i .i64)],[.arr 100000 zAg true]⟩
def tv249:Nat→Option SPat:=fun k=>bif k==2 then some ts249_2 else bif k==2000000 then some zKS else none
def tp249:Nat→List Nat×Plan:=fun id=>bif id==3000006 then([5000000],.fin)else bif id==3000004 then([5000000],.fin)else([],.fin)
def F249:Int×List (Int×Int)→Option (Int×List (Int×Int)):=fun(k,l100000) =>
 bindE (Y:=Int×List (Int×Int)) (zAD (fun(k1,i,l1000001) =>
 cndO (decide (i<(l1000001.length:Int)))
 (grdO (decide (0≤i)&&decide (i<(l1000001.length:Int))) (atO (l1000001) i.toNat fun x=>grdO (decide (Int.toNat i=Int.toNat i)&&decide (Int.toNat i<List.length l1000001)) (grdO (decide (0≤i)&&decide (i<(l1000001.length:Int))) (grdO (decide (Int.toNat i=Int.toNat i)&&decide (Int.toNat i<List.length l1000001)) (grdO (decide (Int.toNat i<List.length l1000001)) (some (inl (IntKind.wrap .i64 (IntKind.wrap .i64 (k1+1)+1),IntKind.wrap .i64 (i+1),List.set l1000001 i.toNat (k1,IntKind.wrap .i64 (k1+1))))))))))
 (some (inr (inl (k1,l1000001))))) ((k,(0:Int),l100000))) fun(k1,l1000001) =>
 some ((k1,l1000001))
def tb249:=insT 249 (mkE 249 false [(0,[])] ti249 to249 F249 [.tmp 4] 27 [100000]) tb188
theorem ok249:TbOk Tryz.prog tb249:=okI ok188 tp249 tv249 func249 rfl call249
abbrev ti189:SPat:=⟨[(0,.ar 100000),(1,.i .i64)],[.arr 100000 zBL true]⟩
abbrev to189:SPat:=⟨[(4,.i .i64)],[.arr 100000 zBL true]⟩
abbrev ts189_2:SPat:=⟨[(0,.ar 100000),(1,.i .i64),(5,.i .i64)],[.arr 100000 zBL true]⟩
abbrev zKy:SPat:=⟨[(1,.i .i64)],[.arr 100000 zBL true]⟩
def tv189:Nat→Option SPat:=fun k=>bif k==2 then some ts189_2 else bif k==2000000 then some zKy else none
def tp189:Nat→List Nat×Plan:=fun id=>bif id==3000004 then([5000000],.fin)else([],.fin)
def F189:Int×List Frm→Option (Int×List Frm):=fun(k,l100000) =>
 bindE (Y:=Int×List Frm) (zAD (fun(k1,i,l1000001) =>
 cndO (decide (i<(l1000001.length:Int)))
 (grdO (decide (0≤i)&&decide (i<(l1000001.length:Int))) (atO (l1000001) i.toNat fun x=>grdO (decide (Int.toNat i=Int.toNat i)&&decide (Int.toNat i<List.length l1000001)) (grdO (decide (0≤i)&&decide (i<(l1000001.length:Int))) (grdO (decide (Int.toNat i=Int.toNat i)&&decide (Int.toNat i<List.length l1000001)) (grdO (decide (Int.toNat i=Int.toNat i)&&decide (Int.toNat i<List.length l1000001)) (grdO (decide (Int.toNat i=Int.toNat i)&&decide (Int.toNat i<List.length l1000001)) (zAA (F249 (IntKind.wrap .i64 (k1+1),x.2.1)) fun(y,y1) =>
 grdO (decide (0≤i)&&decide (i<(l1000001.length:Int))) (grdO (decide (Int.toNat i=Int.toNat i)&&decide (Int.toNat i<List.length l1000001)) (grdO (decide (Int.toNat i=Int.toNat i)&&decide (Int.toNat i<List.length l1000001)) (grdO (decide (Int.toNat i=Int.toNat i)&&decide (Int.toNat i<List.length l1000001)) (zAA (F249 (y,x.2.2)) fun(y2,y3) =>
 grdO (decide (Int.toNat i<List.length l1000001)) (grdO (decide (Int.toNat i=Int.toNat i)&&decide (Int.toNat i<List.length l1000001)) (grdO (decide (Int.toNat i<List.length l1000001)) (grdO (decide (Int.toNat i=Int.toNat i)&&decide (Int.toNat i<List.length l1000001)) (grdO (decide (Int.toNat i<List.length l1000001)) (some (inl (y2,IntKind.wrap .i64 (i+1),List.set l1000001 i.toNat (k1,y1,y3)))))))))))))))))))
 (some (inr (inl (k1,l1000001))))) ((k,(0:Int),l100000))) fun(k1,l1000001) =>
 some ((k1,l1000001))
def tb189:=insT 189 (mkE 189 false [(0,[])] ti189 to189 F189 [.tmp 4] 34 [100000]) tb249
theorem ok189:TbOk Tryz.prog tb189:=okI ok249 tp189 tv189 func189 rfl call189
abbrev ti97:SPat:=⟨[(0,.ar 100000),(1,.i .i64)],[.arr 100000 tg53 true]⟩
abbrev to97:SPat:=⟨[(4,.i .i64)],[.arr 100000 tg53 true]⟩
abbrev ts97_2:SPat:=⟨[(0,.ar 100000),(1,.i .i64),(5,.i .i64)],[.arr 100000 tg53 true]⟩
abbrev zNG:SPat:=⟨[(1,.i .i64)],[.arr 100000 tg53 true]⟩
def tv97:Nat→Option SPat:=fun k=>bif k==2 then some ts97_2 else bif k==2000000 then some zNG else none
def tp97:Nat→List Nat×Plan:=fun id=>bif id==3000014 then([5000000],.fin)else bif id==3000012 then([5000000],.fin)else bif id==3000010 then([5000000],.fin)else bif id==3000008 then([5000000],.fin)else bif id==3000006 then([5000000],.fin)else bif id==3000004 then([5000000],.fin)else([],.fin)
def F97:Int×List Mth→Option (Int×List Mth):=fun(v1,l100000) =>
 bindE (Y:=Int×List Mth) (zAD (fun(v11,v5,l1000001) =>
 cndO (decide (v5<(l1000001.length:Int)))
 (grdO (decide (0≤v5)&&decide (v5<(l1000001.length:Int))) (atO (l1000001) v5.toNat fun x=>grdO (decide (Int.toNat v5=Int.toNat v5)&&decide (Int.toNat v5<List.length l1000001)) (grdO (decide (0≤v5)&&decide (v5<(l1000001.length:Int))) (grdO (decide (Int.toNat v5=Int.toNat v5)&&decide (Int.toNat v5<List.length l1000001)) (grdO (decide (0≤v5)&&decide (v5<(l1000001.length:Int))) (grdO (decide (Int.toNat v5=Int.toNat v5)&&decide (Int.toNat v5<List.length l1000001)) (grdO (decide (0≤v5)&&decide (v5<(l1000001.length:Int))) (grdO (decide (Int.toNat v5=Int.toNat v5)&&decide (Int.toNat v5<List.length l1000001)) (grdO (decide (0≤v5)&&decide (v5<(l1000001.length:Int))) (grdO (decide (Int.toNat v5=Int.toNat v5)&&decide (Int.toNat v5<List.length l1000001)) (zAA (F187 (IntKind.wrap .i64 (IntKind.wrap .i64 (IntKind.wrap .i64 (IntKind.wrap .i64 (IntKind.wrap .i64 (v11+1)+1)+1)+1)+1))) fun y =>
 grdO (decide (0≤v5)&&decide (v5<(l1000001.length:Int))) (grdO (decide (Int.toNat v5=Int.toNat v5)&&decide (Int.toNat v5<List.length l1000001)) (grdO (decide (0≤v5)&&decide (v5<(l1000001.length:Int))) (grdO (decide (Int.toNat v5=Int.toNat v5)&&decide (Int.toNat v5<List.length l1000001)) (grdO (decide (Int.toNat v5=Int.toNat v5)&&decide (Int.toNat v5<List.length l1000001)) (grdO (decide (Int.toNat v5=Int.toNat v5)&&decide (Int.toNat v5<List.length l1000001)) (zAA (F188 (IntKind.wrap .i64 (IntKind.wrap .i64 (IntKind.wrap .i64 (IntKind.wrap .i64 (IntKind.wrap .i64 (IntKind.wrap .i64 (v11+1)+1)+1)+1)+1)+1),x.2.2.2.2.2.2.1)) fun(y1,y2) =>
 grdO (decide (0≤v5)&&decide (v5<(l1000001.length:Int))) (grdO (decide (Int.toNat v5=Int.toNat v5)&&decide (Int.toNat v5<List.length l1000001)) (grdO (decide (Int.toNat v5=Int.toNat v5)&&decide (Int.toNat v5<List.length l1000001)) (grdO (decide (Int.toNat v5=Int.toNat v5)&&decide (Int.toNat v5<List.length l1000001)) (zAA (F189 (y1,x.2.2.2.2.2.2.2)) fun(y3,y4) =>
 grdO (decide (Int.toNat v5<List.length l1000001)) (grdO (decide (Int.toNat v5=Int.toNat v5)&&decide (Int.toNat v5<List.length l1000001)) (grdO (decide (Int.toNat v5<List.length l1000001)) (grdO (decide (Int.toNat v5=Int.toNat v5)&&decide (Int.toNat v5<List.length l1000001)) (grdO (decide (Int.toNat v5<List.length l1000001)) (some (inl (y3,IntKind.wrap .i64 (v5+1),List.set l1000001 v5.toNat (v11,IntKind.wrap .i64 (v11+1),IntKind.wrap .i64 (IntKind.wrap .i64 (v11+1)+1),IntKind.wrap .i64 (IntKind.wrap .i64 (IntKind.wrap .i64 (v11+1)+1)+1),IntKind.wrap .i64 (IntKind.wrap .i64 (IntKind.wrap .i64 (IntKind.wrap .i64 (v11+1)+1)+1)+1),y,y2,y4)))))))))))))))))))))))))))))
 (some (inr (inl (v11,l1000001))))) ((v1,(0:Int),l100000))) fun(v11,l1000001) =>
 some ((v11,l1000001))
def tb97:=insT 97 (mkE 97 false [(0,[])] ti97 to97 F97 [.tmp 4] 70 [100000]) tb189
theorem ok97:TbOk Tryz.prog tb97:=okI ok189 tp97 tv97 func97 rfl call97
abbrev ti35:SPat:=⟨[(0,.agg (pl [.ar 100000,.i .i64,.i .i64,.i .i64,.ar 100001,.ar 100002,.ar 100003])),(1,.i .i64)],[.arr 100000 tg27 true,.arr 100001 (.int .i64) true,.arr 100002 tg89 true,.arr 100003 tg53 true]⟩
abbrev to35:SPat:=⟨[(4,.i .i64)],[.arr 100000 tg27 true,.arr 100001 (.int .i64) true,.arr 100002 tg89 true,.arr 100003 tg53 true]⟩
def F35:(Int×Int×Int)×Int×List Cst×List Int×List (Int×Int×Int)×List Mth→Option (Int×List Cst×List Int×List (Int×Int×Int)×List Mth):=fun((a1,a2,a3),k,l100000,l100001,l100002,l100003) =>
 zAA (F94 (k,l100000)) fun(y,y1) =>
 zAA (F95 (y,l100001)) fun(y2,y3) =>
 zAA (F96 (y2,l100002)) fun(y4,y5) =>
 zAA (F97 (y4,l100003)) fun(y6,y7) =>
 some ((y6,y1,y3,y5,y7))
def tb35:=insT 35 (mkE 35 false [(0,[0]),(0,[4]),(0,[5]),(0,[6])] ti35 to35 F35 [.tmp 4] 22 [100000,100001,100002,100003]) tb97
theorem ok35:TbOk Tryz.prog tb35:=okI ok97 noPl noIv func35 rfl call35
abbrev ti98:SPat:=⟨[(0,.sl tg27),(1,.i .i64)],[]⟩
abbrev to98:SPat:=⟨[(4,.i .i64)],[]⟩
abbrev ts98_2:SPat:=⟨[(0,.sl tg27),(1,.i .i64),(5,.i .i64)],[]⟩
abbrev zNF:SPat:=⟨[(1,.i .i64)],[]⟩
def tv98:Nat→Option SPat:=fun k=>bif k==2 then some ts98_2 else bif k==2000000 then some zNF else none
def tp98:Nat→List Nat×Plan:=fun id=>bif id==7 then([0,1,2,3,4,5],(.br 6 [5] [0,1,2,3,4] [7] .fin .fin))else([],.fin)
def F98:List Cst×Int→Option (Int):=fun(a,k) =>
 bindE (zAD (fun(a1,k1,i) =>
 cndO (decide (i<(a1.length:Int)))
 (grdO (decide (0≤i)) (atO (a1) i.toNat fun x=>cndO (!decide (x.1=k1))
 (some (inr (inr (-1:Int))))
 (grdO (decide (0≤i)) (atO (a1) i.toNat fun x1=>zAA (F187 (IntKind.wrap .i64 (k1+1))) fun y =>
 seqU (seqU (grdO (decide (a1=a1)) (some ())) (seqU (grdO (decide (i=i)) (some ())) (seqU (grdO (decide (0≤i)) (atO (a1) i.toNat fun x2=>grdO (decide (x2.1=x1.1)&&(decide (x2.2.1=x1.2.1)&&(decide (x2.2.2.1=x1.2.2.1)&&(decide (x2.2.2.2=x1.2.2.2)&&true)))) (some ()))) (seqU (grdO (decide (x1.2.1=x1.2.1)&&(decide (x1.2.2.1=x1.2.2.1)&&(decide (x1.2.2.2=x1.2.2.2)&&true))) (some ())) (seqU (grdO (decide (x1.2.1=x1.2.1)) (some ())) (some ())))))) (cndO (!decide (x1.2.1=y))
 (some (inr (inr (-1:Int))))
 (grdO (decide (0≤i)) (atO (a1) i.toNat fun x2=>cndO (!decide (x2.2.2.1=IntKind.wrap .i64 (IntKind.wrap .i64 (k1+1)+1)))
 (some (inr (inr (-1:Int))))
 (grdO (decide (0≤i)) (atO (a1) i.toNat fun x3=>cndO (!decide (x3.2.2.2=IntKind.wrap .i64 (IntKind.wrap .i64 (IntKind.wrap .i64 (k1+1)+1)+1)))
 (some (inr (inr (-1:Int))))
 (some (inl (a1,IntKind.wrap .i64 (IntKind.wrap .i64 (IntKind.wrap .i64 (IntKind.wrap .i64 (k1+1)+1)+1)+1),IntKind.wrap .i64 (i+1)))))))))))))
 (some (inr (inl k1)))) ((a,k,(0:Int)))) fun k1 =>
 some (k1)
def tb98:=insT 98 (mkE 98 true [] ti98 to98 F98 [.tmp 4] 50 []) tb35
theorem ok98:TbOk Tryz.prog tb98:=okI ok35 tp98 tv98 func98 rfl call98
abbrev ti99:SPat:=⟨[(0,.sl (.int .i64)),(1,.i .i64)],[]⟩
abbrev to99:SPat:=⟨[(4,.i .i64)],[]⟩
abbrev ts99_2:SPat:=⟨[(0,.sl (.int .i64)),(1,.i .i64),(5,.i .i64)],[]⟩
abbrev zNE:SPat:=⟨[(1,.i .i64)],[]⟩
def tv99:Nat→Option SPat:=fun k=>bif k==2 then some ts99_2 else bif k==2000000 then some zNE else none
def F99:List Int×Int→Option (Int):=fun(a,k) =>
 bindE (zAD (fun(a1,k1,i) =>
 cndO (decide (i<(a1.length:Int)))
 (grdO (decide (0≤i)) (atO (a1) i.toNat fun x=>cndO (!decide (x=k1))
 (some (inr (inr (-1:Int))))
 (some (inl (a1,IntKind.wrap .i64 (k1+1),IntKind.wrap .i64 (i+1))))))
 (some (inr (inl k1)))) ((a,k,(0:Int)))) fun k1 =>
 some (k1)
def tb99:=insT 99 (mkE 99 true [] ti99 to99 F99 [.tmp 4] 21 []) tb98
theorem ok99:TbOk Tryz.prog tb99:=okI ok98 noPl tv99 func99 rfl call99
abbrev ti100:SPat:=⟨[(0,.sl tg89),(1,.i .i64)],[]⟩
abbrev to100:SPat:=⟨[(4,.i .i64)],[]⟩
abbrev ts100_2:SPat:=⟨[(0,.sl tg89),(1,.i .i64),(5,.i .i64)],[]⟩
abbrev zLz:SPat:=⟨[(1,.i .i64)],[]⟩
def tv100:Nat→Option SPat:=fun k=>bif k==2 then some ts100_2 else bif k==2000000 then some zLz else none
def F100:List (Int×Int×Int)×Int→Option (Int):=fun(a,k) =>
 bindE (zAD (fun(a1,k1,i) =>
 cndO (decide (i<(a1.length:Int)))
 (grdO (decide (0≤i)) (atO (a1) i.toNat fun x=>cndO (!decide (x.1=k1))
 (some (inr (inr (-1:Int))))
 (grdO (decide (0≤i)) (atO (a1) i.toNat fun x1=>cndO (!decide (x1.2.1=IntKind.wrap .i64 (k1+1)))
 (some (inr (inr (-1:Int))))
 (grdO (decide (0≤i)) (atO (a1) i.toNat fun x2=>cndO (!decide (x2.2.2=IntKind.wrap .i64 (IntKind.wrap .i64 (k1+1)+1)))
 (some (inr (inr (-1:Int))))
 (some (inl (a1,IntKind.wrap .i64 (IntKind.wrap .i64 (IntKind.wrap .i64 (k1+1)+1)+1),IntKind.wrap .i64 (i+1))))))))))
 (some (inr (inl k1)))) ((a,k,(0:Int)))) fun k1 =>
 some (k1)
def tb100:=insT 100 (mkE 100 true [] ti100 to100 F100 [.tmp 4] 40 []) tb99
theorem ok100:TbOk Tryz.prog tb100:=okI ok99 noPl tv100 func100 rfl call100
abbrev ti190:SPat:=⟨[(0,.sl zBq),(1,.i .i64)],[]⟩
abbrev to190:SPat:=⟨[(4,.i .i64)],[]⟩
abbrev ts190_2:SPat:=⟨[(0,.sl zBq),(1,.i .i64),(5,.i .i64)],[]⟩
abbrev zKx:SPat:=⟨[(1,.i .i64)],[]⟩
def tv190:Nat→Option SPat:=fun k=>bif k==2 then some ts190_2 else bif k==2000000 then some zKx else none
def F190:List (Int×Int×Int×Int)×Int→Option (Int):=fun(a,k) =>
 bindE (zAD (fun(a1,k1,i) =>
 cndO (decide (i<(a1.length:Int)))
 (grdO (decide (0≤i)) (atO (a1) i.toNat fun x=>cndO (!decide (x.1=k1))
 (some (inr (inr (-1:Int))))
 (grdO (decide (0≤i)) (atO (a1) i.toNat fun x1=>cndO (!decide (x1.2.1=IntKind.wrap .i64 (k1+1)))
 (some (inr (inr (-1:Int))))
 (grdO (decide (0≤i)) (atO (a1) i.toNat fun x2=>cndO (!decide (x2.2.2.1=IntKind.wrap .i64 (IntKind.wrap .i64 (k1+1)+1)))
 (some (inr (inr (-1:Int))))
 (grdO (decide (0≤i)) (atO (a1) i.toNat fun x3=>cndO (!decide (x3.2.2.2=IntKind.wrap .i64 (IntKind.wrap .i64 (IntKind.wrap .i64 (k1+1)+1)+1)))
 (some (inr (inr (-1:Int))))
 (some (inl (a1,IntKind.wrap .i64 (IntKind.wrap .i64 (IntKind.wrap .i64 (IntKind.wrap .i64 (k1+1)+1)+1)+1),IntKind.wrap .i64 (i+1))))))))))))
 (some (inr (inl k1)))) ((a,k,(0:Int)))) fun k1 =>
 some (k1)
def tb190:=insT 190 (mkE 190 true [] ti190 to190 F190 [.tmp 4] 49 []) tb100
theorem ok190:TbOk Tryz.prog tb190:=okI ok100 noPl tv190 func190 rfl call190
end Go.Proofs.YtdpapeledldifaaGreat
end
