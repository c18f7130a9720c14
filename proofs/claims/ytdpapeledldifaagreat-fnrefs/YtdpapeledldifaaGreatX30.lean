/- Part 31 of the proof that the law FnRefs holds of every input; no condition. -/
import Derived.Test.YtdpapeledldifaaGreatX29
set_option autoImplicit true
set_option relaxedAutoImplicit true
set_option linter.all false
noncomputable section
namespace Go.Proofs.YtdpapeledldifaaGreat
open Go Go.AM Go.TM
open Go.Proofs.Tryz
open Sum (inl inr)
open Go.IntKind (wrap)
set_option maxRecDepth 100000
set_option maxHeartbeats 4000000
def F122:List UInt8→Option Bool:=fun s =>
 zAA (F115 s) fun(y,y1) =>
 cndO (y1)
 (some true)
 (some (decide (s=[(73:UInt8)])))
def tb122:=insT 122 (mkE 122 true [] zCt zDu F122 [.tmp 2] 15 []) tb115
theorem ok122:zTb tb122:=okI ok115 noPl noIv func122 rfl call122
def F289:List UInt8×Int→Option Int:=fun(s,c) =>
 zAA (F322 (s,c)) fun y =>
 some (y)
def tb289:=insT 289 (mkE 289 true [] ti322 zMH F289 [.tmp 4] 8 []) tb122
theorem ok289:zTb tb289:=okI ok122 noPl noIv func289 rfl call289
abbrev ti321:SPat:=⟨[(0,.s),(1,.sc [41])],[]⟩
abbrev zKw:SPat:=⟨[(0,.s),(1,.sc [41]),(5,.i .i64),(16,.b)],[]⟩
def tv321:Nat→Option SPat:=fun k=>bif k==1000003 then some zKw else none
def F321:List UInt8→Option Int:=fun app =>
 bindE (Y:=List UInt8×Int×Bool) (some (inl (app,(1:Int),decide ([(41:UInt8)]=app)))) fun(app1,v5,v16) =>
 cndO (v16)
 (some ((0:Int)))
 (cndO (decide (v5=1))
 (atO ([(41:UInt8)]) ((0:Nat)) fun x=>zAA (F289 (app1,(x.toNat:Int))) fun y =>
 some y)
 (cndO (decide ((app1.length:Int)≤v5))
 (some ((-1:Int)))
 (none)))
def tb321:=insT 321 (mkE 321 true [] ti321 zMH F321 [.tmp 4] 143 []) tb289
theorem ok321:zTb tb321:=okI ok289 noPl tv321 func321 rfl call321
abbrev to288:SPat:=⟨[(4,.s),(5,.s),(6,.b)],[]⟩
def tp288:Nat→List Nat×Plan:=fun id=>bif id==3 then(zn33,(.br 9 zn14 [3,4,5,6,7,8] [] (.br 10 zn0 [] [] (.br 11 zn13 [] [] .fin .fin) .fin) .fin))else([],.fin)
def F288:List UInt8→Option (List UInt8×List UInt8×Bool):=fun s =>
 zAA (F321 s) fun y =>
 cndO (decide (0≤y))
 (grdO (decide (0≤y)&&decide (y≤(s.length:Int))) (grdO (decide (0≤wrap .i64 (y+1))&&decide (wrap .i64 (y+1)≤(s.length:Int))&&decide ((s.length:Int)≤(s.length:Int))) (seqU (seqU (grdO (decide (s=s)) (some ())) (seqU (grdO (decide (y=y)) (some ())) (seqU (grdO (decide (wrap .i64 (y+1)=wrap .i64 (y+1))) (some ())) (seqU (grdO (decide (0≤wrap .i64 (y+1))&&decide (wrap .i64 (y+1)≤(s.length:Int))&&decide ((s.length:Int)≤(s.length:Int))) (grdO (decide (List.drop (Int.toNat (wrap .i64 (y+1))) (List.take (Int.toNat (s.length:Int)) s)=List.drop (Int.toNat (wrap .i64 (y+1))) (List.take (Int.toNat (s.length:Int)) s))) (some ()))) (some ()))))) (some ((List.drop (0:Nat) (List.take y.toNat s),List.drop (Int.toNat (wrap .i64 (y+1))) (List.take (Int.toNat (s.length:Int)) s),true))))))
 (some ((s,[],false)))
def tb288:=insT 288 (mkE 288 true [] ti321 to288 F288 [.tmp 4,.tmp 5,.tmp 6] 23 []) tb321
theorem ok288:zTb tb288:=okI ok321 tp288 noIv func288 rfl call288
def F238:List UInt8→Option (List UInt8×List UInt8×Bool):=fun s =>
 zAA (F288 s) fun(y,y1,y2) =>
 some ((y,y1,y2))
def tb238:=insT 238 (mkE 238 true [] ti321 to288 F238 [.tmp 4,.tmp 5,.tmp 6] 13 []) tb288
theorem ok238:zTb tb238:=okI ok288 noPl noIv func238 rfl call238
def F239:List UInt8×Int→Option Int:=fun(s,c) =>
 zAA (F289 (s,c)) fun y =>
 some (y)
def tb239:=insT 239 (mkE 239 true [] ti322 zMH F239 [.tmp 4] 8 []) tb238
theorem ok239:zTb tb239:=okI ok238 noPl noIv func239 rfl call239
abbrev ts170_6:SPat:=⟨[(6,.s),(8,.s),(10,.own .str true)],[]⟩
abbrev zLx:SPat:=⟨[(6,.s),(8,.s)],[]⟩
abbrev zGT:SPat:=⟨[(6,.s),(8,.s),(10,.own .str true),(11,.i .i64)],[]⟩
abbrev zLw:SPat:=⟨[(6,.s),(10,.own .str true)],[]⟩
def tv170:Nat→Option SPat:=fun k=>bif k==6 then some ts170_6 else bif k==1000005 then some zLx else bif k==1000010 then some zGT else bif k==1000012 then some zGT else bif k==2000000 then some zLw else none
def F170:List UInt8→Option (List (List UInt8)×List UInt8×Bool):=fun app =>
 zAA (F238 app) fun(y,y1,y2) =>
 zAA (F204 (y,[(40:UInt8)])) fun(y3,y4) =>
 bindE (Y:=List UInt8×List UInt8) (cndO (!y2)
 (some (inr ([],[],false)))
 (cndO (!y4)
 (some (inr ([],[],false)))
 (cndO (!decide (y1=[(86:UInt8)]))
 (zAA (F122 y1) fun y5 =>
 cndO (!y5)
 (some (inr ([],[],false)))
 (some (inl (y1,y3))))
 (some (inl (y1,y3)))))) fun(v6,v8) =>
 bindE (Y:=List UInt8×List (List UInt8)) (zAG (fun(v61,v81,v10) =>
 cndO (!decide (v81=[]))
 (bindE (Y:=List UInt8×List UInt8×List (List UInt8)×Int) (atO v81 ((0:Nat)) fun x=>cndO (!decide ((x.toNat:Int)=73))
 (zAA (F239 (v81,59)) fun y5 =>
 some (inl (v61,v81,v10,wrap .i64 (y5+1))))
 (some (inl (v61,v81,v10,(1:Int))))) fun(v62,v82,v101,v11) =>
 bindE (Y:=List UInt8×List UInt8×List (List UInt8)×Int) (grdO (decide (0≤v11)&&decide (v11≤(v82.length:Int))) (zAA (F122 (List.drop (0:Nat) (List.take v11.toNat v82))) fun y5 =>
 cndO (!y5)
 (some (inr (inr (inr ([],[],false)))))
 (cndO (decide ((v101.length:Int)=4))
 (some (inr (inr (inr ([],[],false)))))
 (some (inl (v62,v82,v101,v11)))))) fun(v63,v83,v102,v111) =>
 grdO (decide (0≤v111)&&decide (v111≤(v83.length:Int))) (grdO (decide (v102.length+1≤9223372036854775807)&&decide ((v102.length+1)*16≤140737488355328)) (grdO (decide (0≤v111)&&decide (v111≤(v83.length:Int))&&decide ((v83.length:Int)≤(v83.length:Int))) (some (inl (v63,List.drop v111.toNat (List.take (Int.toNat (v83.length:Int)) v83),v102++[List.drop (0:Nat) (List.take v111.toNat v83)]))))))
 (some (inr (inl (v61,v10))))) ((v6,v8,[]))) fun(v61,v10) =>
 some ((v10,v61,true))
def tb170:=insT 170 (mkE 170 true [] zCt to214 F170 [.tmp 2,.tmp 3,.tmp 4] 67 []) tb239
theorem ok170:zTb tb170:=okI ok239 noPl tv170 func170 rfl call170
def F113:List UInt8→Option Bool:=fun s =>
 zAA (F170 s) fun(y,y1,y2) =>
 some (y2)
def tb113:=insT 113 (mkE 113 true [] zCt zDu F113 [.tmp 2] 13 []) tb170
theorem ok113:zTb tb113:=okI ok170 noPl noIv func113 rfl call113
def F121:List UInt8→Option Bool:=fun s =>
 zAA (F122 s) fun y =>
 cndO (y)
 (some true)
 (zAA (F113 s) fun y1 =>
 some y1)
def tb121:=insT 121 (mkE 121 true [] zCt zDu F121 [.tmp 2] 9 []) tb113
theorem ok121:zTb tb121:=okI ok113 noPl noIv func121 rfl call121
def F124:List Cst×Int→Option Cst:=fun(pool,i) =>
 zAA (F89 (i,1,(pool.length:Int))) fun y =>
 cndO (!y)
 (some (((0:Int),[],(0:Int),(0:Int))))
 (grdO (decide (0≤wrap .i64 (i-1))) (atO pool (Int.toNat (wrap .i64 (i-1))) fun x=>some ((x.1,x.2.1,x.2.2.1,x.2.2.2))))
def tb124:=insT 124 (mkE 124 true [] zPv to215 F124 [.cell 4 27] 16 []) tb121
theorem ok124:zTb tb124:=okI ok121 noPl noIv func124 rfl call124
abbrev ti49126:SPat:=⟨[(0,.sl tg27),(1,.i .i64),(2,.fn 48 (pl []))],[]⟩
def F49126:List Cst×Int→Option Bool:=fun(pool,i) =>
 zAA (F124 (pool,i)) fun(y,y1,y2,y3) =>
 cndO (decide (y=1))
 (zAA (F48 y1) fun y4 =>
 some y4)
 (some false)
def zUP:=insT 49126 (mkE 126 true [] ti49126 zJu F49126 [.tmp 6] 20 []) tb124
theorem ok49126:zTb zUP:=okI ok124 noPl noIv func126 rfl call126
abbrev ti122126:SPat:=⟨[(0,.sl tg27),(1,.i .i64),(2,.fn 121 (pl []))],[]⟩
def F122126:List Cst×Int→Option Bool:=fun(pool,i) =>
 zAA (F124 (pool,i)) fun(y,y1,y2,y3) =>
 cndO (decide (y=1))
 (zAA (F121 y1) fun y4 =>
 some y4)
 (some false)
def zRd:=insT 122126 (mkE 126 true [] ti122126 zJu F122126 [.tmp 6] 20 []) zUP
theorem ok122126:zTb zRd:=okI ok49126 noPl noIv func126 rfl call126
def F125:List Cst×Int→Option Bool:=fun(pool,i) =>
 zAA (F124 (pool,i)) fun(y,y1,y2,y3) =>
 cndO (decide (y=2))
 (zAA (F49126 (pool,y2)) fun y4 =>
 some y4)
 (some false)
def tb125:=insT 125 (mkE 125 true [] zPv zCZ F125 [.tmp 4] 18 []) zRd
theorem ok125:zTb tb125:=okI ok122126 noPl noIv func125 rfl call125
abbrev ti123126:SPat:=⟨[(0,.sl tg27),(1,.i .i64),(2,.fn 122 (pl []))],[]⟩
def F123126:List Cst×Int→Option Bool:=fun(pool,i) =>
 zAA (F124 (pool,i)) fun(y,y1,y2,y3) =>
 cndO (decide (y=1))
 (zAA (F122 y1) fun y4 =>
 some y4)
 (some false)
def zRb:=insT 123126 (mkE 126 true [] ti123126 zJu F123126 [.tmp 6] 20 []) tb125
theorem ok123126:zTb zRb:=okI ok125 noPl noIv func126 rfl call126
abbrev ti123123:SPat:=⟨[(0,.fn 122 (pl [])),(1,.ptr 100000 0),(2,.ptr 100001 0)],[.box 100000 (pl [.sl tg27]),.box 100001 (pl zo4)]⟩
abbrev zRK:SPat:=⟨[(4,.b)],[.box 100000 (pl [.sl tg27]),.box 100001 (pl zo4)]⟩
def F123123:List Cst×Cst→Option (Bool×List Cst×Cst):=fun(o0,o01,o1,o2,o3) =>
 zAA (F124 (o0,o3)) fun(y,y1,y2,y3) =>
 cndO (decide (o1=[]))
 (zAA (F125 (o0,o2)) fun y4 =>
 cndO (y4)
 (cndO (decide (y=3))
 (zAA (F123126 (o0,y3)) fun y5 =>
 some ((y5,o0,o01,o1,o2,o3)))
 (some ((false,o0,o01,o1,o2,o3))))
 (some ((false,o0,o01,o1,o2,o3))))
 (some ((false,o0,o01,o1,o2,o3)))
def zRc:=insT 123123 (mkE 123 false [(1,[]),(2,[])] ti123123 zRK F123123 [.tmp 4] 31 [100000,100001]) zRb
theorem ok123123:zTb zRc:=okI ok123126 noPl noIv func123 rfl call123
abbrev ti114126:SPat:=⟨[(0,.sl tg27),(1,.i .i64),(2,.fn 113 (pl []))],[]⟩
def F114126:List Cst×Int→Option Bool:=fun(pool,i) =>
 zAA (F124 (pool,i)) fun(y,y1,y2,y3) =>
 cndO (decide (y=1))
 (zAA (F113 y1) fun y4 =>
 some y4)
 (some false)
def zRe:=insT 114126 (mkE 126 true [] ti114126 zJu F114126 [.tmp 6] 20 []) zRc
theorem ok114126:zTb zRe:=okI ok123123 noPl noIv func126 rfl call126
abbrev ti114123:SPat:=⟨[(0,.fn 113 (pl [])),(1,.ptr 100000 0),(2,.ptr 100001 0)],[.box 100000 (pl [.sl tg27]),.box 100001 (pl zo4)]⟩
def F114123:List Cst×Cst→Option (Bool×List Cst×Cst):=fun(o0,o01,o1,o2,o3) =>
 zAA (F124 (o0,o3)) fun(y,y1,y2,y3) =>
 cndO (decide (o1=[]))
 (zAA (F125 (o0,o2)) fun y4 =>
 cndO (y4)
 (cndO (decide (y=3))
 (zAA (F114126 (o0,y3)) fun y5 =>
 some ((y5,o0,o01,o1,o2,o3)))
 (some ((false,o0,o01,o1,o2,o3))))
 (some ((false,o0,o01,o1,o2,o3))))
 (some ((false,o0,o01,o1,o2,o3)))
def zRf:=insT 114123 (mkE 123 false [(1,[]),(2,[])] ti114123 zRK F114123 [.tmp 4] 31 [100000,100001]) zRe
theorem ok114123:zTb zRf:=okI ok114126 noPl noIv func123 rfl call123
abbrev ti52:SPat:=⟨[(0,.sl tg27),(1,.agg (pl zo4))],[]⟩
def tv52:Nat→Option SPat:=fun k=>bif k==2000000 then some zCj else none
def F52:List Cst×Cst→Option Bool:=fun(app,v10,v11,v12,v13) =>
 bindE (cndO (decide (v10=1))
 (cndO (decide (v12=0))
 (cndO (decide (v13=0))
 (zAA (F48 v11) fun y =>
 cndO (y)
 (some (inr true))
 (zAA (F121 v11) fun y1 =>
 some (inr y1)))
 (some (inr false)))
 (some (inr false)))
 (cndO (decide (v10=2))
 (cndO (decide (v11=[]))
 (cndO (decide (v13=0))
 (zAA (F49126 (app,v12)) fun y =>
 some (inr y))
 (some (inr false)))
 (some (inr false)))
 (cndO (decide (v10=3))
 (cndO (decide (v11=[]))
 (zAA (F49126 (app,v12)) fun y =>
 cndO (y)
 (zAA (F122126 (app,v13)) fun y1 =>
 some (inr y1))
 (some (inr false)))
 (some (inr false)))
 (cndO (decide (v10=4))
 (zAA (F123123 (app,v10,v11,v12,v13)) fun(y,y1,y2,y3,y4,y5) =>
 some (inr y))
 (cndO (decide (v10=5))
 (zAA (F114123 (app,v10,v11,v12,v13)) fun(y,y1,y2,y3,y4,y5) =>
 some (inr y))
 (cndO (decide (v10=6))
 (zAA (F114123 (app,v10,v11,v12,v13)) fun(y,y1,y2,y3,y4,y5) =>
 some (inr y))
 (some (inl ())))))))) fun _ =>
 some (false)
def tb52:=insT 52 (mkE 52 true [] ti52 zCZ F52 [.tmp 4] 74 []) zRf
theorem ok52:zTb tb52:=okI ok114123 noPl tv52 func52 rfl call52
abbrev ts14_2:SPat:=⟨[(0,.sl tg27),(5,.sl tg27),(6,.i .i64),(7,.i .i64)],[]⟩
def tv14:Nat→Option SPat:=fun k=>bif k==2 then some ts14_2 else bif k==2000000 then some zCj else none
def F14:List Cst→Option Int:=fun pool =>
 bindE (zAG (fun(pool1,v5,v6,v7) =>
 cndO (decide (v7<v6))
 (grdO (decide (0≤v7)) (atO v5 v7.toNat fun x=>cndO (decide (v7=60))
 (some (inr (inr (61:Int))))
 (zAA (F52 (pool1,x.1,x.2.1,x.2.2.1,x.2.2.2)) fun y =>
 cndO (!y)
 (some (inr (inr (wrap .i64 (v7+1)))))
 (some (inl (pool1,v5,v6,wrap .i64 (v7+1)))))))
 (some (inr (inl ())))) ((pool,pool,(pool.length:Int),(0:Int)))) fun _ =>
 some ((0:Int))
def tb14:=insT 14 (mkE 14 true [] ti15 zIB F14 [.tmp 2] 21 []) tb52
theorem ok14:zTb tb14:=okI ok52 noPl tv14 func14 rfl call14
abbrev ti162:SPat:=⟨[(0,.agg (pl plC)),(1,.i .i64)],[]⟩
def F162:(Cls)×Int→Option Bool:=fun((c0,c1,c2,c3,c4,c5,c6),i) =>
 zAA (F124 (c0,i)) fun(y,y1,y2,y3) =>
 some (decide (y=2))
def tb162:=insT 162 (mkE 162 true [] ti162 zCZ F162 [.tmp 4] 11 []) tb14
theorem ok162:zTb tb162:=okI ok14 noPl noIv func162 rfl call162
def F111:(Cls)×Int→Option (List UInt8):=fun((c0,c1,c2,c3,c4,c5,c6),i) =>
 zAA (F124 (c0,i)) fun(y,y1,y2,y3) =>
 cndO (decide (y=2))
 (zAA (F124 (c0,y2)) fun(y4,y5,y6,y7) =>
 some y5)
 (some y1)
def tb111:=insT 111 (mkE 111 true [] ti162 to130 F111 [.tmp 4] 20 []) tb162
theorem ok111:zTb tb111:=okI ok162 noPl noIv func111 rfl call111
abbrev ti164:SPat:=⟨[(0,.i .i64),(1,.ptr 100000 0),(2,.ptr 100001 0)],[.box 100000 (pl plC),.box 100001 (pl zo19)]⟩
abbrev to164:SPat:=⟨[(4,.b)],[.box 100000 (pl plC),.box 100001 (pl zo19)]⟩
def tp164:Nat→List Nat×Plan:=fun id=>bif id==1 then([0,1,3,4],(.br 2 [1,0] [3,4] [] (.br 5 zn25 [] [6] (.br 7 zn11 [] [] .fin .fin) .fin) .fin))else([],.fin)
def F164:Int×(Cls)×Int→Option (Bool×(Cls)×Int):=fun(g,(o0,o1,o2,o3,o4,o5,o6),o01) =>
 zAA (F111 ((o0,o1,o2,o3,o4,o5,o6),g)) fun y =>
 seqU (seqU (grdO (decide (o0=o0)&&(decide (o1=o1)&&(decide (o2=o2)&&(decide (o3=o3)&&(decide (o4=o4)&&(decide (o5=o5)&&(decide (o6=o6)&&true))))))) (some ())) (seqU (grdO (decide (o01=o01)) (some ())) (some ()))) (zAA (F111 ((o0,o1,o2,o3,o4,o5,o6),o01)) fun y1 =>
 some ((decide (y=y1),(o0,o1,o2,o3,o4,o5,o6),o01)))
def tb164:=insT 164 (mkE 164 false [(1,[]),(2,[])] ti164 to164 F164 [.tmp 4] 12 [100000,100001]) tb111
theorem ok164:zTb tb164:=okI ok111 tp164 noIv func164 rfl call164
abbrev zRO:SPat:=⟨[(0,.sl (.int .i64)),(1,.fn 164 (pl zo20))],[.box 100000 (pl plC),.box 100001 (pl zo19)]⟩
abbrev to165235:SPat:=⟨[(4,.i .i64)],[.box 100000 (pl plC),.box 100001 (pl zo19)]⟩
abbrev zSr:SPat:=⟨[(0,.sl (.int .i64)),(1,.fn 164 (pl zo20)),(7,.i .i64),(8,.i .i64)],[.box 100000 (pl plC),.box 100001 (pl zo19)]⟩
abbrev zIA:SPat:=⟨[],[.box 100000 (pl plC),.box 100001 (pl zo19)]⟩
def tv165235:Nat→Option SPat:=fun k=>bif k==2 then some zSr else bif k==2000000 then some zIA else none
def F165235:List Int×(Cls)×Int→Option (Int×(Cls)×Int):=fun(s,(o0,o1,o2,o3,o4,o5,o6),o01) =>
 bindE (Y:=(Cls)×Int) (zAG (fun(s1,v7,v8,(o02,o11,o21,o31,o41,o51,o61),o03) =>
 cndO (decide (v8<v7))
 (grdO (decide (0≤v8)) (atO s1 v8.toNat fun x=>zAA (F164 (x,(o02,o11,o21,o31,o41,o51,o61),o03)) fun(y,(y1,y2,y3,y4,y5,x1,x2),x3) =>
 cndO (y)
 (some (inr (inr (v8,(y1,y2,y3,y4,y5,x1,x2),x3))))
 (some (inl (s1,v7,wrap .i64 (v8+1),(y1,y2,y3,y4,y5,x1,x2),x3)))))
 (some (inr (inl ((o02,o11,o21,o31,o41,o51,o61),o03))))) ((s,(s.length:Int),(0:Int),(o0,o1,o2,o3,o4,o5,o6),o01))) fun((o02,o11,o21,o31,o41,o51,o61),o03) =>
 some (((-1:Int),(o02,o11,o21,o31,o41,o51,o61),o03))
def zRY:=insT 165235 (mkE 235 false [(1,[0]),(1,[1])] zRO to165235 F165235 [.tmp 4] 19 [100000,100001]) tb164
theorem ok165235:zTb zRY:=okI ok164 noPl tv165235 func235 rfl call235
def F165163:List Int×(Cls)×Int→Option (Bool×(Cls)×Int):=fun(s,(o0,o1,o2,o3,o4,o5,o6),o01) =>
 zAA (F165235 (s,(o0,o1,o2,o3,o4,o5,o6),o01)) fun(y,(y1,y2,y3,y4,y5,x,x1),x2) =>
 some ((decide (0≤y),(y1,y2,y3,y4,y5,x,x1),x2))
def zRZ:=insT 165163 (mkE 163 false [(1,[0]),(1,[1])] zRO to164 F165163 [.tmp 4] 9 [100000,100001]) zRY
theorem ok165163:zTb zRZ:=okI ok165235 noPl noIv func163 rfl call163
def F165:Cls→Option Bool:=fun(c0,c1,c2,c3,c4,c5,c6) =>
 some (!decide (andI IntKind.i64 c1 (1:Int)=0))
def tb165:=insT 165 (mkE 165 true [] ti69 zDu F165 [.tmp 2] 7 []) zRZ
theorem ok165:zTb tb165:=okI ok165163 noPl noIv func165 rfl call165
abbrev ts83_4:SPat:=⟨[(1,.ptr 1 0),(31,.sl (.int .i64)),(32,.i .i64),(33,.i .i64)],zo11⟩
def tv83:Nat→Option SPat:=fun k=>bif k==4 then some ts83_4 else bif k==1000003 then some zCE else bif k==2000000 then some zCE else bif k==2000001 then some ts83_4 else none
def tp83:Nat→List Nat×Plan:=fun id=>bif id==1 then([0,1,2],(.br 3 zn14 [] [4,5,6,7,8] (.br 9 zn18 [] [10,11,12,13,14,15,17,18,19] (.br 16 zn2 [17,18,19] [] (.br 20 [19,18,17,16,15,14,13,12,11,10,9,8,7,6,5,4,3,2,1,0] [] [21,22] .fin .fin) .fin) .fin) .fin))else bif id==9 then([0,1,2,3,4,5,6,7],(.br 8 [3,2,1,0] [4,5,6,7] [] (.br 9 zn18 [] [] .fin .fin) .fin))else([],.fin)
def F83:Cls→Option Bool:=fun(app0,app1,app2,app3,app4,app5,app6) =>
 bindE (Y:=Cls) (zAA (F162 ((app0,app1,app2,app3,app4,app5,app6),app2)) fun y =>
 cndO (!y)
 (some (inr false))
 (zAA (F162 ((app0,app1,app2,app3,app4,app5,app6),app3)) fun y1 =>
 cndO (!y1)
 (some (inr false))
 (zAA (F111 ((app0,app1,app2,app3,app4,app5,app6),app3)) fun y2 =>
 seqU (seqU (grdO (decide (app0=app0)&&(decide (app1=app1)&&(decide (app2=app2)&&(decide (app3=app3)&&(decide (app4=app4)&&(decide (app5=app5)&&(decide (app6=app6)&&true))))))) (some ())) (seqU (grdO (decide (app2=app2)) (some ())) (some ()))) (zAA (F111 ((app0,app1,app2,app3,app4,app5,app6),app2)) fun y3 =>
 cndO (decide (y2=y3))
 (some (inr false))
 (some (inl (app0,app1,app2,app3,app4,app5,app6))))))) fun(o0,o1,o2,o3,o4,o5,o6) =>
 bindE (Y:=Cls) (zAG (fun(v31,v32,v33,o01,o11,o21,o31,o41,o51,o61) =>
 cndO (decide (v33<v32))
 (bindE (Y:=List Int×Int×Int×Cls) (grdO (decide (0≤v33)) (atO v31 v33.toNat fun x=>zAA (F162 ((o01,o11,o21,o31,o41,o51,o61),x)) fun y =>
 cndO (!y)
 (some (inr (inr (inr false))))
 (grdO (decide (0≤v33)&&decide (v33≤(o41.length:Int))) (zAA (F165163 (List.drop (0:Nat) (List.take v33.toNat o41),(o01,o11,o21,o31,o41,o51,o61),x)) fun(y1,(y2,y3,y4,y5,y6,x1,x2),x3) =>
 cndO (y1)
 (some (inr (inr (inr false))))
 (some (inl (v31,v32,v33,y2,y3,y4,y5,y6,x1,x2))))))) fun(v311,v321,v331,o02,o12,o22,o32,o42,o52,o62) =>
 some (inl (v311,v321,wrap .i64 (v331+1),o02,o12,o22,o32,o42,o52,o62)))
 (some (inr (inl (o01,o11,o21,o31,o41,o51,o61))))) ((o4,(o4.length:Int),(0:Int),o0,o1,o2,o3,o4,o5,o6))) fun(o01,o11,o21,o31,o41,o51,o61) =>
 seqU (seqU (grdO (decide (o11=o11)) (some ())) (seqU (grdO (decide (andI IntKind.i64 o11 (4:Int)=andI IntKind.i64 o11 (4:Int))) (some ())) (seqU (grdO (decide ((!decide (andI IntKind.i64 o11 (4:Int)=0)) = !decide (andI IntKind.i64 o11 (4:Int)=0))) (some ())) (some ())))) (zAA (F89 (o11,0,7)) fun y =>
 cndO (y)
 (cndO (!decide (andI IntKind.i64 o11 (2:Int)=0))
 (cndO (!!decide (andI IntKind.i64 o11 (4:Int)=0))
 (zAA (F165 (o01,o11,o21,o31,o41,o51,o61)) fun y1 =>
 cndO (!y1)
 (some true)
 (cndO (!decide (andI IntKind.i64 o11 (4:Int)=0))
 (zAA (F111 ((o01,o11,o21,o31,o41,o51,o61),o31)) fun y2 =>
 some (decide (y2=[(79:UInt8),98,106])))
 (some false)))
 (some false))
 (zAA (F165 (o01,o11,o21,o31,o41,o51,o61)) fun y1 =>
 cndO (!y1)
 (some true)
 (cndO (!decide (andI IntKind.i64 o11 (4:Int)=0))
 (zAA (F111 ((o01,o11,o21,o31,o41,o51,o61),o31)) fun y2 =>
 some (decide (y2=[(79:UInt8),98,106])))
 (some false))))
 (some false))
def tb83:=insT 83 (mkE 83 true [] ti69 zDu F83 [.tmp 2] 84 []) tb165
theorem ok83:zTb tb83:=okI ok165 tp83 tv83 func83 rfl call83
abbrev ti167:SPat:=⟨[(0,.agg (pl zo6)),(1,.ptr 100000 0),(2,.ptr 100001 0)],[.box 100000 (pl plC),.box 100001 (pl zo6)]⟩
abbrev to167:SPat:=⟨[(4,.b)],[.box 100000 (pl plC),.box 100001 (pl zo6)]⟩
def tp167:Nat→List Nat×Plan:=fun id=>bif id==1 then(zn38,(.br 3 zn14 zn15 [] (.br 7 zn11 [] [8] (.br 9 zn18 [] [] .fin .fin) .fin) .fin))else([],.fin)
def F167:(Int×Int×Int)×(Cls)×Int×Int×Int→Option (Bool×(Cls)×Int×Int×Int):=fun((g0,g1,g2),(o0,o1,o2,o3,o4,o5,o6),o01,o11,o21) =>
 zAA (F111 ((o0,o1,o2,o3,o4,o5,o6),g1)) fun y =>
 seqU (seqU (grdO (decide (o0=o0)&&(decide (o1=o1)&&(decide (o2=o2)&&(decide (o3=o3)&&(decide (o4=o4)&&(decide (o5=o5)&&(decide (o6=o6)&&true))))))) (some ())) (seqU (grdO (decide (o11=o11)) (some ())) (some ()))) (zAA (F111 ((o0,o1,o2,o3,o4,o5,o6),o11)) fun y1 =>
 some ((decide (y=y1),(o0,o1,o2,o3,o4,o5,o6),o01,o11,o21)))
def tb167:=insT 167 (mkE 167 false [(1,[]),(2,[])] ti167 to167 F167 [.tmp 4] 14 [100000,100001]) tb83
theorem ok167:zTb tb167:=okI ok83 tp167 noIv func167 rfl call167
abbrev zRN:SPat:=⟨[(0,.sl tg89),(1,.fn 167 (pl zo20))],[.box 100000 (pl plC),.box 100001 (pl zo6)]⟩
abbrev to168236:SPat:=⟨[(4,.i .i64)],[.box 100000 (pl plC),.box 100001 (pl zo6)]⟩
abbrev zSq:SPat:=⟨[(0,.sl tg89),(1,.fn 167 (pl zo20)),(7,.i .i64),(8,.i .i64)],[.box 100000 (pl plC),.box 100001 (pl zo6)]⟩
abbrev zHz:SPat:=⟨[],[.box 100000 (pl plC),.box 100001 (pl zo6)]⟩
def tv168236:Nat→Option SPat:=fun k=>bif k==2 then some zSq else bif k==2000000 then some zHz else none
def F168236:List Fld×(Cls)×Int×Int×Int→Option (Int×(Cls)×Int×Int×Int):=fun(s,(o0,o1,o2,o3,o4,o5,o6),o01,o11,o21) =>
 bindE (Y:=(Cls)×Int×Int×Int) (zAG (fun(s1,v7,v8,(o02,o12,o22,o31,o41,o51,o61),o03,o13,o23) =>
 cndO (decide (v8<v7))
 (grdO (decide (0≤v8)) (atO s1 v8.toNat fun x=>zAA (F167 ((x.1,x.2.1,x.2.2),(o02,o12,o22,o31,o41,o51,o61),o03,o13,o23)) fun(y,(y1,y2,y3,y4,y5,x1,x2),x3,x4,x5) =>
 cndO (y)
 (some (inr (inr (v8,(y1,y2,y3,y4,y5,x1,x2),x3,x4,x5))))
 (some (inl (s1,v7,wrap .i64 (v8+1),(y1,y2,y3,y4,y5,x1,x2),x3,x4,x5)))))
 (some (inr (inl ((o02,o12,o22,o31,o41,o51,o61),o03,o13,o23))))) ((s,(s.length:Int),(0:Int),(o0,o1,o2,o3,o4,o5,o6),o01,o11,o21))) fun((o02,o12,o22,o31,o41,o51,o61),o03,o13,o23) =>
 some (((-1:Int),(o02,o12,o22,o31,o41,o51,o61),o03,o13,o23))
def zRW:=insT 168236 (mkE 236 false [(1,[0]),(1,[1])] zRN to168236 F168236 [.tmp 4] 19 [100000,100001]) tb167
theorem ok168236:zTb zRW:=okI ok167 noPl tv168236 func236 rfl call236
def F168166:List Fld×(Cls)×Int×Int×Int→Option (Bool×(Cls)×Int×Int×Int):=fun(s,(o0,o1,o2,o3,o4,o5,o6),o01,o11,o21) =>
 zAA (F168236 (s,(o0,o1,o2,o3,o4,o5,o6),o01,o11,o21)) fun(y,(y1,y2,y3,y4,y5,x,x1),x2,x3,x4) =>
 some ((decide (0≤y),(y1,y2,y3,y4,y5,x,x1),x2,x3,x4))
def zRX:=insT 168166 (mkE 166 false [(1,[0]),(1,[1])] zRN to167 F168166 [.tmp 4] 9 [100000,100001]) zRW
theorem ok168166:zTb zRX:=okI ok168236 noPl noIv func166 rfl call166
abbrev zNX:SPat:=⟨[(1,.i .i64),(2,.ptr 2 0),(5,.ptr 5 0)],[.box 2 (pl plC),.box 5 (pl zo6)]⟩
def tv84:Nat→Option SPat:=fun k=>bif k==1000004 then some zNX else none
def F84:(Cls)×Int→Option Bool:=fun((c0,c1,c2,c3,c4,c5,c6),i) =>
 grdO (decide (0≤i)) (atO c5 i.toNat fun x=>bindE (Y:=Int×(Cls)×Int×Int×Int) (zAA (F49126 (c0,x.2.1)) fun y =>
 cndO (!y)
 (some (inr false))
 (zAA (F123126 (c0,x.2.2)) fun y1 =>
 cndO (!y1)
 (some (inr false))
 (zAA (F89 (x.1,0,3)) fun y2 =>
 cndO (!y2)
 (some (inr false))
 (zAA (F165 (c0,c1,c2,c3,c4,c5,c6)) fun y3 =>
 cndO (y3)
 (cndO (!decide (x.1=1))
 (some (inr false))
 (some (inl (i,(c0,c1,c2,c3,c4,c5,c6),x.1,x.2.1,x.2.2))))
 (some (inl (i,(c0,c1,c2,c3,c4,c5,c6),x.1,x.2.1,x.2.2))))))) fun(i1,(o0,o1,o2,o3,o4,o5,o6),o01,o11,o21) =>
 grdO (decide (0≤i1)&&decide (i1≤(o5.length:Int))) (zAA (F168166 (List.drop (0:Nat) (List.take i1.toNat o5),(o0,o1,o2,o3,o4,o5,o6),o01,o11,o21)) fun(y,(y1,y2,y3,y4,y5,x1,x2),x3,x4,x5) =>
 some (!y)))
def tb84:=insT 84 (mkE 84 true [] ti162 zCZ F84 [.tmp 4] 47 []) zRX
theorem ok84:zTb tb84:=okI ok168166 noPl tv84 func84 rfl call84
abbrev ti169:SPat:=⟨[(0,.agg (pl plM)),(1,.ptr 100000 0),(2,.ptr 100001 0),(3,.ptr 100002 0)],[.box 100000 (pl plC),.box 100001 (pl [.s]),.box 100002 (pl [.s])]⟩
abbrev to169:SPat:=⟨[(5,.b)],[.box 100000 (pl plC),.box 100001 (pl [.s]),.box 100002 (pl [.s])]⟩
def tp169:Nat→List Nat×Plan:=fun id=>bif id==1 then([0,1,2,4],(.br 3 zn14 [4] [5,6,7,8,9,11] (.br 10 zn0 [11] [12,13] (.br 14 zn20 [] [] .fin .fin) .fin) .fin))else([],.fin)
def F169:(Mth)×(Cls)×List UInt8×List UInt8→Option (Bool×(Cls)×List UInt8×List UInt8):=fun((n0,n1,n2,n3,n4,n5,n6,n7),(o0,o1,o2,o3,o4,o5,o6),o01,o02) =>
 zAA (F111 ((o0,o1,o2,o3,o4,o5,o6),n1)) fun y =>
 seqU (seqU (grdO (decide (o01=o01)) (some ())) (some ())) (cndO (decide (y=o01))
 (zAA (F111 ((o0,o1,o2,o3,o4,o5,o6),n2)) fun y1 =>
 seqU (seqU (grdO (decide (o02=o02)) (some ())) (some ())) (some ((decide (y1=o02),(o0,o1,o2,o3,o4,o5,o6),o01,o02))))
 (some ((false,(o0,o1,o2,o3,o4,o5,o6),o01,o02))))
def tb169:=insT 169 (mkE 169 false [(1,[]),(2,[]),(3,[])] ti169 to169 F169 [.tmp 5] 20 [100000,100001,100002]) tb84
theorem ok169:zTb tb169:=okI ok84 tp169 noIv func169 rfl call169
abbrev zRM:SPat:=⟨[(0,.sl tg53),(1,.fn 169 (pl [.ptr 100000 0,.ptr 100001 0,.ptr 100002 0]))],[.box 100000 (pl plC),.box 100001 (pl [.s]),.box 100002 (pl [.s])]⟩
abbrev to170237:SPat:=⟨[(4,.i .i64)],[.box 100000 (pl plC),.box 100001 (pl [.s]),.box 100002 (pl [.s])]⟩
abbrev zSp:SPat:=⟨[(0,.sl tg53),(1,.fn 169 (pl [.ptr 100000 0,.ptr 100001 0,.ptr 100002 0])),(7,.i .i64),(8,.i .i64)],[.box 100000 (pl plC),.box 100001 (pl [.s]),.box 100002 (pl [.s])]⟩
abbrev zHy:SPat:=⟨[],[.box 100000 (pl plC),.box 100001 (pl [.s]),.box 100002 (pl [.s])]⟩
def tv170237:Nat→Option SPat:=fun k=>bif k==2 then some zSp else bif k==2000000 then some zHy else none
def F170237:List Mth×(Cls)×List UInt8×List UInt8→Option (Int×(Cls)×List UInt8×List UInt8):=fun(s,(o0,o1,o2,o3,o4,o5,o6),o01,o02) =>
 bindE (Y:=(Cls)×List UInt8×List UInt8) (zAG (fun(s1,v7,v8,(o03,o11,o21,o31,o41,o51,o61),o04,o05) =>
 cndO (decide (v8<v7))
 (grdO (decide (0≤v8)) (atO s1 v8.toNat fun x=>zAA (F169 ((x.1,x.2.1,x.2.2.1,x.2.2.2.1,x.2.2.2.2.1,x.2.2.2.2.2.1,x.2.2.2.2.2.2.1,x.2.2.2.2.2.2.2),(o03,o11,o21,o31,o41,o51,o61),o04,o05)) fun(y,(y1,y2,y3,y4,y5,x1,x2),x3,x4) =>
 cndO (y)
 (some (inr (inr (v8,(y1,y2,y3,y4,y5,x1,x2),x3,x4))))
 (some (inl (s1,v7,wrap .i64 (v8+1),(y1,y2,y3,y4,y5,x1,x2),x3,x4)))))
 (some (inr (inl ((o03,o11,o21,o31,o41,o51,o61),o04,o05))))) ((s,(s.length:Int),(0:Int),(o0,o1,o2,o3,o4,o5,o6),o01,o02))) fun((o03,o11,o21,o31,o41,o51,o61),o04,o05) =>
 some (((-1:Int),(o03,o11,o21,o31,o41,o51,o61),o04,o05))
def zRU:=insT 170237 (mkE 237 false [(1,[0]),(1,[1]),(1,[2])] zRM to170237 F170237 [.tmp 4] 19 [100000,100001,100002]) tb169
theorem ok170237:zTb zRU:=okI ok169 noPl tv170237 func237 rfl call237
abbrev to170168:SPat:=⟨[(4,.b)],[.box 100000 (pl plC),.box 100001 (pl [.s]),.box 100002 (pl [.s])]⟩
def F170168:List Mth×(Cls)×List UInt8×List UInt8→Option (Bool×(Cls)×List UInt8×List UInt8):=fun(s,(o0,o1,o2,o3,o4,o5,o6),o01,o02) =>
 zAA (F170237 (s,(o0,o1,o2,o3,o4,o5,o6),o01,o02)) fun(y,(y1,y2,y3,y4,y5,x,x1),x2,x3) =>
 some ((decide (0≤y),(y1,y2,y3,y4,y5,x,x1),x2,x3))
def zRV:=insT 170168 (mkE 168 false [(1,[0]),(1,[1]),(1,[2])] zRM to170168 F170168 [.tmp 4] 9 [100000,100001,100002]) zRU
theorem ok170168:zTb zRV:=okI ok170237 noPl noIv func168 rfl call168
abbrev zNW:SPat:=⟨[(1,.i .i64),(2,.ptr 2 0),(5,.ptr 5 0)],[.box 2 (pl plC),.box 5 (pl plM)]⟩
abbrev zNV:SPat:=⟨[(1,.i .i64),(2,.ptr 2 0),(5,.ptr 5 0),(6,.ptr 6 0),(7,.ptr 7 0),(41,.b)],[.box 2 (pl plC),.box 5 (pl plM),.box 6 (pl [.s]),.box 7 (pl [.s])]⟩
abbrev zNU:SPat:=⟨[(1,.i .i64),(2,.ptr 2 0),(5,.ptr 5 0),(6,.ptr 6 0),(7,.ptr 7 0),(56,.b)],[.box 2 (pl plC),.box 5 (pl plM),.box 6 (pl [.s]),.box 7 (pl [.s])]⟩
abbrev zNT:SPat:=⟨[(1,.i .i64),(2,.ptr 2 0),(6,.ptr 6 0),(7,.ptr 7 0)],[.box 2 (pl plC),.box 6 (pl [.s]),.box 7 (pl [.s])]⟩
def tv85:Nat→Option SPat:=fun k=>bif k==1000004 then some zNW else bif k==1000006 then some zNV else bif k==1000008 then some zNU else bif k==2000000 then some zNT else none
def tp85:Nat→List Nat×Plan:=fun id=>bif id==4 then(zn38,(.br 3 zn14 zn15 [] (.br 7 zn11 [] [] (.br 8 [] zn38 [] (.br 9 [] zn38 [] (.br 10 zn0 [] [] (.br 11 zn13 [] [] .fin .fin) .fin) .fin) (.br 9 [] zn38 [] (.br 8 [] zn38 [] (.br 10 zn0 [] [] (.br 11 zn13 [] [] .fin .fin) .fin) .fin) .fin)) (.br 8 [] zn38 [] (.br 7 zn11 [] [] (.br 9 [] zn38 [] (.br 10 zn0 [] [] (.br 11 zn13 [] [] .fin .fin) .fin) .fin) (.br 9 [] zn38 [] (.br 7 zn11 [] [] (.br 10 zn0 [] [] (.br 11 zn13 [] [] .fin .fin) .fin) .fin) .fin)) (.br 9 [] zn38 [] (.br 7 zn11 [] [] (.br 8 [] zn38 [] (.br 10 zn0 [] [] (.br 11 zn13 [] [] .fin .fin) .fin) .fin) (.br 8 [] zn38 [] (.br 7 zn11 [] [] (.br 10 zn0 [] [] (.br 11 zn13 [] [] .fin .fin) .fin) .fin) .fin)) .fin))) (.br 8 [] zn38 [] (.br 3 zn14 zn15 [] (.br 7 zn11 [] [] (.br 9 [] zn38 [] (.br 10 zn0 [] [] (.br 11 zn13 [] [] .fin .fin) .fin) .fin) (.br 9 [] zn38 [] (.br 7 zn11 [] [] (.br 10 zn0 [] [] (.br 11 zn13 [] [] .fin .fin) .fin) .fin) .fin)) (.br 9 [] zn38 [] (.br 3 zn14 zn15 [] (.br 7 zn11 [] [] (.br 10 zn0 [] [] (.br 11 zn13 [] [] .fin .fin) .fin) .fin) .fin) .fin)) (.br 9 [] zn38 [] (.br 3 zn14 zn15 [] (.br 7 zn11 [] [] (.br 8 [] zn38 [] (.br 10 zn0 [] [] (.br 11 zn13 [] [] .fin .fin) .fin) .fin) (.br 8 [] zn38 [] (.br 7 zn11 [] [] (.br 10 zn0 [] [] (.br 11 zn13 [] [] .fin .fin) .fin) .fin) .fin)) (.br 8 [] zn38 [] (.br 3 zn14 zn15 [] (.br 7 zn11 [] [] (.br 10 zn0 [] [] (.br 11 zn13 [] [] .fin .fin) .fin) .fin) .fin) .fin)) .fin))))else([],.fin)
def F85:(Cls)×Int→Option Bool:=fun((app0,app1,app2,app3,app4,app5,app6),v1)=>grdO (decide (0≤v1)) (atO app6 v1.toNat fun x=>bindE (Y:=Int×(Cls)×Mth) (zAA (F49126 (app0,x.2.1)) fun y=>cndO (!y) (some (inr false)) (zAA (F114126 (app0,x.2.2.1)) fun y1=>cndO (!y1) (some (inr false)) (zAA (F89 (x.1,0,15)) fun y2=>cndO (!y2) (some (inr false)) (some (inl (v1,(app0,app1,app2,app3,app4,app5,app6),x.1,x.2.1,x.2.2.1,x.2.2.2.1,x.2.2.2.2.1,x.2.2.2.2.2.1,x.2.2.2.2.2.2.1,x.2.2.2.2.2.2.2)))))) fun(v11,(o0,o1,o2,o3,o4,o5,o6),o01,o11,o21,o31,o41,o51,o61,o7)=>let q1:=fun(y:List UInt8) (y1:List UInt8)=>bindE (Y:=Int×(Cls)×List UInt8×List UInt8) (bindE (Y:=Int×Bool×(Cls)×(Mth)×List UInt8×List UInt8) (zAA (F86 o01) fun y2=>cndO y2 (cndO (!decide (o01=8)) (some (inl (v11,true,(o0,o1,o2,o3,o4,o5,o6),(o01,o11,o21,o31,o41,o51,o61,o7),y,y1))) (some (inl (v11,decide (andI IntKind.i64 o1 (4:Int)=0),(o0,o1,o2,o3,o4,o5,o6),(o01,o11,o21,o31,o41,o51,o61,o7),y,y1)))) (some (inl (v11,false,(o0,o1,o2,o3,o4,o5,o6),(o01,o11,o21,o31,o41,o51,o61,o7),y,y1)))) fun(v12,v41,(o02,o12,o22,o32,o42,o52,o62),(o03,o13,o23,o33,o43,o53,o63,o71),o04,o05)=>cndO v41 (some (inr false)) (bindE (Y:=Int×Bool×(Cls)×(Mth)×List UInt8×List UInt8) (zAA (F86 o03) fun y2=>cndO (!y2) (zAA (F165 (o02,o12,o22,o32,o42,o52,o62)) fun y3=>cndO y3 (some (inl (v12,!decide (o03=1),(o02,o12,o22,o32,o42,o52,o62),(o03,o13,o23,o33,o43,o53,o63,o71),o04,o05))) (some (inl (v12,false,(o02,o12,o22,o32,o42,o52,o62),(o03,o13,o23,o33,o43,o53,o63,o71),o04,o05)))) (some (inl (v12,false,(o02,o12,o22,o32,o42,o52,o62),(o03,o13,o23,o33,o43,o53,o63,o71),o04,o05)))) fun(v13,v56,(o06,o14,o24,o34,o44,o54,o64),(o07,o15,o25,o35,o45,o55,o65,o72),o08,o09)=>cndO v56 (some (inr false)) (cndO (decide (o08=[(98:UInt8),101,103,105,110])) (cndO (!decide (o07=1)) (some (inr false)) (cndO (!decide (o09=[(40:UInt8),41,86])) (some (inr false)) (some (inl (v13,(o06,o14,o24,o34,o44,o54,o64),o08,o09))))) (some (inl (v13,(o06,o14,o24,o34,o44,o54,o64),o08,o09)))))) fun(v12,(o02,o12,o22,o32,o42,o52,o62),o03,o04)=>grdO (decide (0≤v12)&&decide (v12≤(o62.length:Int))) (zAA (F170168 (List.drop (0:Nat) (List.take v12.toNat o62),(o02,o12,o22,o32,o42,o52,o62),o03,o04)) fun(y2,(y3,y4,y5,y6,y7,x1,x2),x3,x4)=>some (!y2));let q3:=seqU (grdO (decide (o0=o0)&&(decide (o1=o1)&&(decide (o2=o2)&&(decide (o3=o3)&&(decide (o4=o4)&&(decide (o5=o5)&&(decide (o6=o6)&&true))))))) (some ())) (seqU (grdO (decide (o21=o21)) (some ())) (some ()));let q2:=seqU (grdO (decide (o0=o0)&&(decide (o1=o1)&&(decide (o2=o2)&&(decide (o3=o3)&&(decide (o4=o4)&&(decide (o5=o5)&&(decide (o6=o6)&&true))))))) (some ())) (seqU (grdO (decide (o11=o11)) (some ())) q3);zBV (zAA (F111 ((o0,o1,o2,o3,o4,o5,o6),o11)) fun y=>seqU q3 (zBV (zAA (F111 ((o0,o1,o2,o3,o4,o5,o6),o21)) fun y1=>zBV (seqU q2 (seqU q2 (q1 y y1))) (seqU q2 (seqU q2 (q1 y y1)))) (zBV (seqU q2 (zBV (zAA (F111 ((o0,o1,o2,o3,o4,o5,o6),o21)) fun y1=>seqU q2 (q1 y y1)) (seqU q2 (zAA (F111 ((o0,o1,o2,o3,o4,o5,o6),o21)) fun y1=>q1 y y1)))) (seqU q2 (zBV (zAA (F111 ((o0,o1,o2,o3,o4,o5,o6),o21)) fun y1=>seqU q2 (q1 y y1)) (seqU q2 (zAA (F111 ((o0,o1,o2,o3,o4,o5,o6),o21)) fun y1=>q1 y y1))))))) (let q4:=seqU q2 (zBV (zAA (F111 ((o0,o1,o2,o3,o4,o5,o6),o11)) fun y=>seqU q3 (zBV (zAA (F111 ((o0,o1,o2,o3,o4,o5,o6),o21)) fun y1=>seqU q2 (q1 y y1)) (seqU q2 (zAA (F111 ((o0,o1,o2,o3,o4,o5,o6),o21)) fun y1=>q1 y y1)))) (seqU q2 (zAA (F111 ((o0,o1,o2,o3,o4,o5,o6),o11)) fun y=>seqU q3 (zAA (F111 ((o0,o1,o2,o3,o4,o5,o6),o21)) fun y1=>q1 y y1))));zBV q4 q4))
def tb85:=insT 85 (mkE 85 true [] ti162 zCZ F85 [.tmp 4] 89 []) zRV
theorem ok85:zTb tb85:=okI ok170168 tp85 tv85 func85 rfl call85
abbrev zNR:SPat:=⟨[(0,.i .i64),(6,.b)],[]⟩
def tv90:Nat→Option SPat:=fun k=>bif k==1000004 then some zNR else none
def F90:Int→Option Int:=fun op_ =>
 zAA (F89 (op_,3,6)) fun y =>
 cndO (y)
 (some ((1:Int)))
 (bindE (cndO (decide (op_=1))
 (some (inl (op_,true)))
 (zAA (F89 (op_,14,29)) fun y1 =>
 some (inl (op_,y1)))) fun(op_1,v6) =>
 cndO (v6)
 (some ((2:Int)))
 (zAA (F89 (op_1,0,34)) fun y1 =>
 cndO (y1)
 (some ((0:Int)))
 (some ((-1:Int)))))
def tb90:=insT 90 (mkE 90 true [] zFv zIB F90 [.tmp 2] 16 []) tb85
theorem ok90:zTb tb90:=okI ok85 noPl tv90 func90 rfl call90
abbrev ts31_11:SPat:=⟨[(0,.s),(4,.own tg89 true),(5,.i .i64),(6,.ptr 6 0),(7,.i .i64),(45,.sl .byte),(46,.i .i64),(47,.i .i64)],[.box 6 (pl zo6)]⟩
abbrev zEz:SPat:=⟨[(0,.s),(4,.own tg89 true),(5,.i .i64),(6,.ptr 6 0),(7,.i .i64)],[.box 6 (pl zo6)]⟩
abbrev zNo:SPat:=⟨[(0,.s),(4,.own tg89 true),(5,.i .i64),(6,.ptr 6 0),(7,.i .i64),(66,.b)],[.box 6 (pl zo6)]⟩
def tv31:Nat→Option SPat:=fun k=>bif k==5 then some zPj else bif k==11 then some ts31_11 else bif k==1000010 then some zEz else bif k==1000016 then some zNo else bif k==1000017 then some zEz else bif k==2000000 then some zGR else bif k==2000001 then some zPj else bif k==2000002 then some zEz else none
def F31:List UInt8→Option (List Fld×Bool):=fun app =>
 zAA (F89 ((app.length:Int),1,120)) fun y =>
 cndO (!y)
 (some (([],false)))
 (bindE (Y:=List Fld) (zAG (fun(app1,v4,v5) =>
 cndO (decide (v5<(app1.length:Int)))
 (bindE (Y:=List UInt8×List Fld×Int) (grdO (decide (0≤v5)) (atO app1 v5.toNat fun x=>zAA (F90 (wrap .i64 (x.toNat:Int))) fun y1 =>
 bindE (Y:=List UInt8×List Fld×Int×Int×Int×Int×Int) (cndO (decide (y1<0))
 (some (inr (inr (inr (inr ([],false))))))
 (cndO (decide (wrap .i64 ((app1.length:Int)-v5)≤y1))
 (some (inr (inr (inr (inr ([],false))))))
 (some (inl (app1,v4,v5,y1,v5,wrap .i64 (x.toNat:Int),(0:Int)))))) fun(app2,v41,v51,v7,o0,o1,o2) =>
 grdO (decide (0≤wrap .i64 (v51+1))&&decide (wrap .i64 (v51+1)≤wrap .i64 (wrap .i64 (v51+1)+v7))&&decide (wrap .i64 (wrap .i64 (v51+1)+v7)≤(app2.length:Int))) (bindE (Y:=List UInt8×List Fld×Int×Int×Int×Int×Int) (zAG (fun(app3,v42,v52,v71,v45,v46,v47,o01,o11,o21) =>
 cndO (decide (v47<v46))
 (grdO (decide (0≤v47)) (atO v45 v47.toNat fun x1=>some (inl (app3,v42,v52,v71,v45,v46,wrap .i64 (v47+1),o01,o11,wrap .i64 (wrap .i64 ((256:Int)*o21)+wrap .i64 (x1.toNat:Int))))))
 (some (inr (inl (app3,v42,v52,v71,o01,o11,o21))))) ((app2,v41,v51,v7,List.drop (Int.toNat (wrap .i64 (v51+1))) (List.take (Int.toNat (wrap .i64 (wrap .i64 (v51+1)+v7))) app2),(↑(List.length (List.drop (Int.toNat (wrap .i64 (v51+1))) (List.take (Int.toNat (wrap .i64 (wrap .i64 (v51+1)+v7))) app2))):Int),(0:Int),o0,o1,o2))) fun(app3,v42,v52,v71,o01,o11,o21) =>
 bindE (Y:=List UInt8×List Fld×Int×Int×Int×Int×Int) (bindE (Y:=List UInt8×List Fld×Int×Int×Bool×Int×Int×Int) (cndO (decide (o11=1))
 (some (inl (app3,v42,v52,v71,decide (32767<o21),o01,o11,o21)))
 (some (inl (app3,v42,v52,v71,false,o01,o11,o21)))) fun(app4,v43,v53,v72,v66,o02,o12,o22) =>
 cndO (v66)
 (some (inl (app4,v43,v53,v72,o02,o12,wrap .i64 (o22-65536))))
 (some (inl (app4,v43,v53,v72,o02,o12,o22)))) fun(app4,v43,v53,v72,o02,o12,o22) =>
 grdO (decide (v43.length+1≤9223372036854775807)&&decide ((v43.length+1)*24≤140737488355328)) (some (inl (app4,v43++[(o02,o12,o22)],wrap .i64 (v53+wrap .i64 ((1:Int)+v72)))))))) fun(app2,v41,v51) =>
 some (inl (app2,v41,v51)))
 (some (inr (inl v4)))) ((app,[],(0:Int)))) fun v4 =>
 some ((v4,true)))
def tb31:=insT 31 (mkE 31 true [] zCt to193 F31 [.tmp 2,.tmp 3] 80 []) tb90
theorem ok31:zTb tb31:=okI ok90 noPl tv31 func31 rfl call31
abbrev zLv:SPat:=⟨[(0,.i .i64),(3,.b)],[]⟩
def tv171:Nat→Option SPat:=fun k=>bif k==1000002 then some zLv else none
def F171:Int→Option Int:=fun op_ =>
 bindE (cndO (decide (op_=19))
 (some (inl (op_,true)))
 (cndO (decide (op_=28))
 (some (inl (op_,true)))
 (some (inl (op_,decide (op_=29)))))) fun(op_1,v3) =>
 cndO (v3)
 (some ((2:Int)))
 (zAA (F89 (op_1,20,23)) fun y =>
 cndO (y)
 (some ((4:Int)))
 (zAA (F89 (op_1,24,26)) fun y1 =>
 cndO (y1)
 (some ((5:Int)))
 (cndO (decide (op_1=27))
 (some ((6:Int)))
 (some ((0:Int))))))
def tb171:=insT 171 (mkE 171 true [] zFv zIB F171 [.tmp 2] 23 []) tb31
theorem ok171:zTb tb171:=okI ok31 noPl tv171 func171 rfl call171
def F172:Int→Option Bool:=fun op_ =>
 zAA (F89 (op_,14,18)) fun y =>
 some (y)
def tb172:=insT 172 (mkE 172 true [] zFv zDu F172 [.tmp 2] 5 []) tb171
theorem ok172:zTb tb172:=okI ok171 noPl noIv func172 rfl call172
abbrev ti241:SPat:=⟨[(0,.agg (pl zo6)),(1,.ptr 100000 0)],[.box 100000 (pl zo19)]⟩
abbrev to241:SPat:=⟨[(3,.b)],[.box 100000 (pl zo19)]⟩
def F241:(Int×Int×Int)×Int→Option (Bool×Int):=fun((x0,x1,x2),o0) =>
 some ((decide (x0=o0),o0))
def tb241:=insT 241 (mkE 241 false [(1,[])] ti241 to241 F241 [.tmp 3] 8 [100000]) tb172
theorem ok241:zTb tb241:=okI ok172 noPl noIv func241 rfl call241
abbrev ti242240:SPat:=⟨[(0,.sl tg89),(1,.fn 241 (pl [.ptr 100000 0]))],[.box 100000 (pl zo19)]⟩
abbrev to242240:SPat:=⟨[(4,.i .i64)],[.box 100000 (pl zo19)]⟩
abbrev zSn:SPat:=⟨[(0,.sl tg89),(1,.fn 241 (pl [.ptr 100000 0])),(7,.i .i64),(8,.i .i64)],[.box 100000 (pl zo19)]⟩
abbrev zHx:SPat:=⟨[],[.box 100000 (pl zo19)]⟩
def tv242240:Nat→Option SPat:=fun k=>bif k==2 then some zSn else bif k==2000000 then some zHx else none
def F242240:List Fld×Int→Option (Int×Int):=fun(s,o0) =>
 bindE (zAG (fun(s1,v7,v8,o01) =>
 cndO (decide (v8<v7))
 (grdO (decide (0≤v8)) (atO s1 v8.toNat fun x=>zAA (F241 ((x.1,x.2.1,x.2.2),o01)) fun(y,y1) =>
 cndO (y)
 (some (inr (inr (v8,y1))))
 (some (inl (s1,v7,wrap .i64 (v8+1),y1)))))
 (some (inr (inl o01)))) ((s,(s.length:Int),(0:Int),o0))) fun o01 =>
 some (((-1:Int),o01))
def zRS:=insT 242240 (mkE 240 false [(1,[0])] ti242240 to242240 F242240 [.tmp 4] 19 [100000]) tb241
theorem ok242240:zTb zRS:=okI ok241 noPl tv242240 func240 rfl call240
def F173:List Fld×Int→Option Int:=fun(list,at_) =>
 zAA (F242240 (list,at_)) fun(y,y1) =>
 some (y)
def tb173:=insT 173 (mkE 173 true [] ti254 zMH F173 [.tmp 4] 8 []) zRS
theorem ok173:zTb tb173:=okI ok242240 noPl noIv func173 rfl call173
abbrev ti243:SPat:=⟨[(0,.agg (pl [.i .i64,.i .i64])),(1,.ptr 100000 0)],zo21⟩
abbrev to243:SPat:=⟨[(3,.b)],zo21⟩
def F243:(Int×Int)×Cls→Option (Bool×Cls):=fun((k0,k1),o0,o1,o2,o3,o4,o5,o6) =>
 cndO (decide (k0=3))
 (zAA (F162 ((o0,o1,o2,o3,o4,o5,o6),k1)) fun y =>
 cndO (!y)
 (some ((true,o0,o1,o2,o3,o4,o5,o6)))
 (cndO (!decide (k0=3))
 (some ((!decide (k1=0),o0,o1,o2,o3,o4,o5,o6)))
 (some ((false,o0,o1,o2,o3,o4,o5,o6)))))
 (cndO (!decide (k0=3))
 (some ((!decide (k1=0),o0,o1,o2,o3,o4,o5,o6)))
 (some ((false,o0,o1,o2,o3,o4,o5,o6))))
def tb243:=insT 243 (mkE 243 false [(1,[])] ti243 to243 F243 [.tmp 3] 24 [100000]) tb173
theorem ok243:zTb tb243:=okI ok173 noPl noIv func243 rfl call243
abbrev zRL:SPat:=⟨[(0,.sl zBg),(1,.fn 243 (pl [.ptr 100000 0]))],zo21⟩
abbrev to244290:SPat:=⟨[(4,.i .i64)],zo21⟩
abbrev zSm:SPat:=⟨[(0,.sl zBg),(1,.fn 243 (pl [.ptr 100000 0])),(7,.i .i64),(8,.i .i64)],zo21⟩
abbrev zHw:SPat:=⟨[],zo21⟩
def tv244290:Nat→Option SPat:=fun k=>bif k==2 then some zSm else bif k==2000000 then some zHw else none
def F244290:List Knd×Cls→Option (Int×Cls):=fun(s,o0,o1,o2,o3,o4,o5,o6) =>
 bindE (Y:=Cls) (zAG (fun(s1,v7,v8,o01,o11,o21,o31,o41,o51,o61) =>
 cndO (decide (v8<v7))
 (grdO (decide (0≤v8)) (atO s1 v8.toNat fun x=>zAA (F243 ((x.1,x.2),o01,o11,o21,o31,o41,o51,o61)) fun(y,y1,y2,y3,y4,y5,x1,x2) =>
 cndO (y)
 (some (inr (inr (v8,y1,y2,y3,y4,y5,x1,x2))))
 (some (inl (s1,v7,wrap .i64 (v8+1),y1,y2,y3,y4,y5,x1,x2)))))
 (some (inr (inl (o01,o11,o21,o31,o41,o51,o61))))) ((s,(s.length:Int),(0:Int),o0,o1,o2,o3,o4,o5,o6))) fun(o01,o11,o21,o31,o41,o51,o61) =>
 some (((-1:Int),o01,o11,o21,o31,o41,o51,o61))
def zRQ:=insT 244290 (mkE 290 false [(1,[0])] zRL to244290 F244290 [.tmp 4] 19 [100000]) tb243
theorem ok244290:zTb zRQ:=okI ok243 noPl tv244290 func290 rfl call290
abbrev to244242:SPat:=⟨[(4,.b)],zo21⟩
def F244242:List Knd×Cls→Option (Bool×Cls):=fun(s,o0,o1,o2,o3,o4,o5,o6) =>
 zAA (F244290 (s,o0,o1,o2,o3,o4,o5,o6)) fun(y,y1,y2,y3,y4,y5,x,x1) =>
 some ((decide (0≤y),y1,y2,y3,y4,y5,x,x1))
def zRR:=insT 244242 (mkE 242 false [(1,[0])] zRL to244242 F244242 [.tmp 4] 9 [100000]) zRQ
theorem ok244242:zTb zRR:=okI ok244290 noPl noIv func242 rfl call242
def F174:(Cls)×List Knd→Option Bool:=fun((c0,c1,c2,c3,c4,c5,c6),list) =>
 zAA (F244242 (list,c0,c1,c2,c3,c4,c5,c6)) fun(y,y1,y2,y3,y4,y5,x,x1) =>
 some (!y)
def tb174:=insT 174 (mkE 174 true [] ti292 zCZ F174 [.tmp 4] 9 []) zRR
theorem ok174:zTb tb174:=okI ok244242 noPl noIv func174 rfl call174
abbrev ts87_9:SPat:=⟨[(2,.ptr 2 0),(3,.ptr 3 0),(5,.ar 5),(56,.ar 5),(57,.i .i64),(58,.i .i64)],[.box 2 (pl plC),.box 3 (pl plM),.arr 5 tg89 true]⟩
abbrev zTi:SPat:=⟨[(2,.ptr 2 0),(3,.ptr 3 0),(5,.own tg89 true),(100,.sl zJv),(101,.i .i64),(102,.i .i64)],zo16⟩
abbrev zTh:SPat:=⟨[(2,.ptr 2 0),(3,.ptr 3 0),(5,.own tg89 true),(16,.i .i64),(154,.sl zDN),(155,.i .i64),(156,.i .i64)],zo16⟩
abbrev zNS:SPat:=⟨[(2,.ptr 2 0),(3,.ptr 3 0),(5,.own tg89 true),(6,.b),(10,.i .i64)],zo16⟩
def tv87:Nat→Option SPat:=fun k=>bif k==9 then some ts87_9 else bif k==18 then some zTi else bif k==25 then some zTh else bif k==1000006 then some zNS else bif k==1000008 then some zBl else bif k==2000000 then some zBl else bif k==2000002 then some ts87_9 else bif k==2000003 then some zBl else bif k==2000004 then some zTi else bif k==2000005 then some zCj else bif k==2000006 then some zTh else none
def F87:(Cls)×Mth→Option Bool:=fun((app0,app1,app2,app3,app4,app5,app6),v10,v11,v12,v13,v14,v15,v16,v17)=>zAA (F31 v15) fun(y,y1)=>zAA (F111 ((app0,app1,app2,app3,app4,app5,app6),v12)) fun y2=>zAA (F170 y2) fun(y3,y4,y5)=>bindE (Y:=List Fld×Bool×Int×(Cls)×Mth) (cndO (decide (andI IntKind.i64 v10 (1:Int)=0)) (some (inl (y,y1,wrap .i64 ((y3.length:Int)+1),(app0,app1,app2,app3,app4,app5,app6),v10,v11,v12,v13,v14,v15,v16,v17))) (some (inl (y,y1,(y3.length:Int),(app0,app1,app2,app3,app4,app5,app6),v10,v11,v12,v13,v14,v15,v16,v17)))) fun(v5,v6,v101,(o0,o1,o2,o3,o4,o5,o6),o01,o11,o21,o31,o41,o51,o61,o7)=>bindE (Y:=List Fld×(Cls)×Mth) (cndO (!v6) (some (inr false)) (cndO (decide (8<o31)) (some (inr false)) (zAA (F89 (o41,v101,8)) fun y6=>cndO (!y6) (some (inr false)) (some (inl (v5,(o0,o1,o2,o3,o4,o5,o6),o01,o11,o21,o31,o41,o51,o61,o7)))))) fun(v51,(o02,o12,o22,o32,o42,o52,o62),o03,o13,o23,o33,o43,o53,o63,o71)=>bindE (Y:=List Fld×(Cls)×Mth) (zAG (fun(v57,v58,(o04,o14,o24,o34,o44,o54,o64),(o05,o15,o25,o35,o45,o55,o65,o72),l5)=>cndO (decide (v58<v57)) (grdO (decide (0≤v58)&&decide (v58<(l5.length:Int))) (atO l5 v58.toNat fun x=>zAA (F171 x.2.1) fun y6=>bindE (Y:=Int×Int×(Cls)×(Mth)×List Fld) (zAA (F89 (x.2.1,3,6)) fun y7=>let q1:=zAA (F172 x.2.1) fun y8=>cndO y8 (zAA (F173 (l5,x.2.2)) fun y9=>cndO (decide (y9<0)) (some (inr (inr (inr false)))) (cndO (!decide (y6=0)) (zAA (F124 (o04,x.2.2)) fun(y10,y11,y12,y13)=>cndO (!decide (y10=y6)) (some (inr (inr (inr false)))) (some (inl (v57,v58,(o04,o14,o24,o34,o44,o54,o64),(o05,o15,o25,o35,o45,o55,o65,o72),l5)))) (some (inl (v57,v58,(o04,o14,o24,o34,o44,o54,o64),(o05,o15,o25,o35,o45,o55,o65,o72),l5))))) (cndO (!decide (y6=0)) (zAA (F124 (o04,x.2.2)) fun(y9,y10,y11,y12)=>cndO (!decide (y9=y6)) (some (inr (inr (inr false)))) (some (inl (v57,v58,(o04,o14,o24,o34,o44,o54,o64),(o05,o15,o25,o35,o45,o55,o65,o72),l5)))) (some (inl (v57,v58,(o04,o14,o24,o34,o44,o54,o64),(o05,o15,o25,o35,o45,o55,o65,o72),l5))));cndO y7 (cndO (decide (o45≤x.2.2)) (some (inr (inr (inr false)))) q1) q1) fun(v571,v581,(o06,o16,o26,o36,o46,o56,o66),(o07,o17,o27,o37,o47,o57,o67,o73),l51)=>some (inl (v571,wrap .i64 (v581+1),(o06,o16,o26,o36,o46,o56,o66),(o07,o17,o27,o37,o47,o57,o67,o73),l51)))) (some (inr (inl (l5,(o04,o14,o24,o34,o44,o54,o64),o05,o15,o25,o35,o45,o55,o65,o72))))) (((v51.length:Int),(0:Int),(o02,o12,o22,o32,o42,o52,o62),(o03,o13,o23,o33,o43,o53,o63,o71),v51))) fun(v52,(o04,o14,o24,o34,o44,o54,o64),o05,o15,o25,o35,o45,o55,o65,o72)=>bindE (Y:=List Fld×(Cls)×Mth) (zAG (fun(v53,v100,v1011,v102,(o06,o16,o26,o36,o46,o56,o66),o07,o17,o27,o37,o47,o57,o67,o73)=>cndO (decide (v102<v1011)) (bindE (Y:=List Fld×List Trp×Int×Int×(Cls)×Mth) (grdO (decide (0≤v102)) (atO v100 v102.toNat fun x=>cndO (decide (x.2.1≤x.1)) (some (inr (inr (inr false)))) (zAA (F173 (v53,x.1)) fun y6=>cndO (decide (y6<0)) (some (inr (inr (inr false)))) (zAA (F173 (v53,x.2.2.1)) fun y7=>cndO (decide (y7<0)) (some (inr (inr (inr false)))) (zAA (F173 (v53,x.2.1)) fun y8=>let q2:=cndO (!decide (x.2.2.2=0)) (zAA (F162 ((o06,o16,o26,o36,o46,o56,o66),x.2.2.2)) fun y9=>cndO (!y9) (some (inr (inr (inr false)))) (some (inl (v53,v100,v1011,v102,(o06,o16,o26,o36,o46,o56,o66),o07,o17,o27,o37,o47,o57,o67,o73)))) (some (inl (v53,v100,v1011,v102,(o06,o16,o26,o36,o46,o56,o66),o07,o17,o27,o37,o47,o57,o67,o73)));cndO (decide (y8<0)) (cndO (!decide (x.2.1=(o57.length:Int))) (some (inr (inr (inr false)))) q2) q2))))) fun(v54,v1001,v1012,v1021,(o08,o18,o28,o38,o48,o58,o68),o09,o19,o29,o39,o49,o59,o69,o74)=>some (inl (v54,v1001,v1012,wrap .i64 (v1021+1),(o08,o18,o28,o38,o48,o58,o68),o09,o19,o29,o39,o49,o59,o69,o74))) (some (inr (inl (v53,(o06,o16,o26,o36,o46,o56,o66),o07,o17,o27,o37,o47,o57,o67,o73))))) ((v52,o65,(o65.length:Int),(0:Int),(o04,o14,o24,o34,o44,o54,o64),o05,o15,o25,o35,o45,o55,o65,o72))) fun(v53,(o06,o16,o26,o36,o46,o56,o66),o07,o17,o27,o37,o47,o57,o67,o73)=>bindE (zAG (fun(v54,v161,v154,v155,v156,(o08,o18,o28,o38,o48,o58,o68),o09,o19,o29,o39,o49,o59,o69,o74)=>cndO (decide (v156<v155)) (bindE (Y:=List Fld×Int×List Frm×Int×Int×(Cls)×Mth) (grdO (decide (0≤v156)) (atO v154 v156.toNat fun x=>zAA (F173 (v54,x.1)) fun y6=>cndO (decide (y6<0)) (some (inr (inr (inr false)))) (cndO (decide (x.1≤v161)) (some (inr (inr (inr false)))) (cndO (!decide ((x.2.1.length:Int)=o49)) (some (inr (inr (inr false)))) (cndO (decide (o39<(x.2.2.length:Int))) (some (inr (inr (inr false)))) (zAA (F174 ((o08,o18,o28,o38,o48,o58,o68),x.2.1)) fun y7=>cndO (!y7) (some (inr (inr (inr false)))) (zAA (F174 ((o08,o18,o28,o38,o48,o58,o68),x.2.2)) fun y8=>cndO (!y8) (some (inr (inr (inr false)))) (some (inl (v54,x.1,v154,v155,v156,(o08,o18,o28,o38,o48,o58,o68),o09,o19,o29,o39,o49,o59,o69,o74)))))))))) fun(v55,v162,v1541,v1551,v1561,(o010,o110,o210,o310,o410,o510,o610),o011,o111,o211,o311,o411,o511,o611,o75)=>some (inl (v55,v162,v1541,v1551,wrap .i64 (v1561+1),(o010,o110,o210,o310,o410,o510,o610),o011,o111,o211,o311,o411,o511,o611,o75))) (some (inr (inl ())))) ((v53,(-1:Int),o73,(o73.length:Int),(0:Int),(o06,o16,o26,o36,o46,o56,o66),o07,o17,o27,o37,o47,o57,o67,o73))) fun _=>some (true)
def tb87:=insT 87 (mkE 87 true [] ti244 zCZ F87 [.tmp 4] 204 []) tb174
theorem ok87:zTb tb87:=okI ok174 noPl tv87 func87 rfl call87
abbrev ts29_8:SPat:=⟨[(1,.ptr 1 0),(22,.i .i64),(23,.i .i64)],zo11⟩
abbrev ts29_14:SPat:=⟨[(1,.ptr 1 0),(33,.i .i64),(34,.i .i64)],zo11⟩
abbrev zTp:SPat:=⟨[(1,.ptr 1 0),(43,.sl tg53),(44,.i .i64),(45,.i .i64)],zo11⟩
def tv29:Nat→Option SPat:=fun k=>bif k==8 then some ts29_8 else bif k==14 then some ts29_14 else bif k==20 then some zTp else bif k==2000001 then some zCE else bif k==2000003 then some zCE else bif k==2000005 then some zCj else bif k==2000006 then some zTp else none
def F29:Cls→Option Int:=fun(c0,c1,c2,c3,c4,c5,c6) =>
 zAA (F20 (c0,c1,c2,c3,c4,c5,c6)) fun y =>
 cndO (decide (y=[]))
 (some ((1:Int)))
 (zAA (F14 c0) fun y1 =>
 cndO (!decide (y1=0))
 (some ((2:Int)))
 (zAA (F83 (c0,c1,c2,c3,c4,c5,c6)) fun y2 =>
 cndO (!y2)
 (some ((3:Int)))
 (bindE (Y:=Cls) (zAG (fun(v22,v23,o0,o1,o2,o3,o4,o5,o6) =>
 cndO (decide (v23<v22))
 (zAA (F84 ((o0,o1,o2,o3,o4,o5,o6),v23)) fun y3 =>
 cndO (!y3)
 (some (inr (inr (4:Int))))
 (some (inl (v22,wrap .i64 (v23+1),o0,o1,o2,o3,o4,o5,o6))))
 (some (inr (inl (o0,o1,o2,o3,o4,o5,o6))))) (((c5.length:Int),(0:Int),c0,c1,c2,c3,c4,c5,c6))) fun(o0,o1,o2,o3,o4,o5,o6) =>
 bindE (Y:=Cls) (zAG (fun(v33,v34,o01,o11,o21,o31,o41,o51,o61) =>
 cndO (decide (v34<v33))
 (zAA (F85 ((o01,o11,o21,o31,o41,o51,o61),v34)) fun y3 =>
 cndO (!y3)
 (some (inr (inr (5:Int))))
 (some (inl (v33,wrap .i64 (v34+1),o01,o11,o21,o31,o41,o51,o61))))
 (some (inr (inl (o01,o11,o21,o31,o41,o51,o61))))) (((o6.length:Int),(0:Int),o0,o1,o2,o3,o4,o5,o6))) fun(o01,o11,o21,o31,o41,o51,o61) =>
 bindE (zAG (fun(v43,v44,v45,o02,o12,o22,o32,o42,o52,o62) =>
 cndO (decide (v45<v44))
 (bindE (Y:=List Mth×Int×Int×Cls) (grdO (decide (0≤v45)) (atO v43 v45.toNat fun x=>zAA (F86 x.1) fun y3 =>
 cndO (!y3)
 (zAA (F87 ((o02,o12,o22,o32,o42,o52,o62),x.1,x.2.1,x.2.2.1,x.2.2.2.1,x.2.2.2.2.1,x.2.2.2.2.2.1,x.2.2.2.2.2.2.1,x.2.2.2.2.2.2.2)) fun y4 =>
 cndO (!y4)
 (some (inr (inr (inr (6:Int)))))
 (some (inl (v43,v44,v45,o02,o12,o22,o32,o42,o52,o62))))
 (some (inl (v43,v44,v45,o02,o12,o22,o32,o42,o52,o62))))) fun(v431,v441,v451,o03,o13,o23,o33,o43,o53,o63) =>
 some (inl (v431,v441,wrap .i64 (v451+1),o03,o13,o23,o33,o43,o53,o63)))
 (some (inr (inl ())))) ((o61,(o61.length:Int),(0:Int),o01,o11,o21,o31,o41,o51,o61))) fun _ =>
 some ((0:Int)))))
def tb29:=insT 29 (mkE 29 true [] ti69 zIB F29 [.tmp 2] 60 []) tb87
theorem ok29:zTb tb29:=okI ok87 noPl tv29 func29 rfl call29
def F112:List UInt8→Option Bool:=fun name =>
 cndO (decide (name=[(79:UInt8),98,106]))
 (some true)
 (some (decide (name=[(69:UInt8),114,114])))
def tb112:=insT 112 (mkE 112 true [] zCt zDu F112 [.tmp 2] 9 []) tb29
theorem ok112:zTb tb112:=okI ok29 noPl noIv func112 rfl call112
abbrev ti110:SPat:=⟨[(0,.s),(1,.ptr 100000 0),(2,.ptr 100001 0)],[.box 100000 (pl plC),.box 100001 (pl zo22)]⟩
abbrev to110:SPat:=⟨[],[.box 100000 (pl plC),.box 100001 (pl zo22)]⟩
abbrev zMG:SPat:=⟨[(0,.s),(2,.ptr 100001 0),(14,.b)],[.box 100000 (pl plC),.box 100001 (pl zo22)]⟩
def tv110:Nat→Option SPat:=fun k=>bif k==1000001 then some zMG else none
def F110:List UInt8×(Cls)×List (List UInt8)→Option ((Cls)×List (List UInt8)):=fun(name,(o0,o1,o2,o3,o4,o5,o6),o01) =>
 bindE (Y:=List UInt8×Bool×(Cls)×List (List UInt8)) (zAA (F111 ((o0,o1,o2,o3,o4,o5,o6),o2)) fun y =>
 cndO (!decide (name=y))
 (zAA (F112 name) fun y1 =>
 some (inl (name,!y1,(o0,o1,o2,o3,o4,o5,o6),o01)))
 (some (inl (name,false,(o0,o1,o2,o3,o4,o5,o6),o01)))) fun(name1,v14,(o02,o11,o21,o31,o41,o51,o61),o03) =>
 cndO (v14)
 (grdO (decide (o03.length+1≤9223372036854775807)&&decide ((o03.length+1)*16≤140737488355328)) (some (((o02,o11,o21,o31,o41,o51,o61),o03++[name1]))))
 (some (((o02,o11,o21,o31,o41,o51,o61),o03)))
def tb110:=insT 110 (mkE 110 false [(1,[]),(2,[])] ti110 to110 F110 [] 19 [100000,100001]) tb112
theorem ok110:zTb tb110:=okI ok112 noPl tv110 func110 rfl call110
abbrev to114:SPat:=⟨[(2,.own .str true)],[]⟩
def F114:List UInt8→Option (List (List UInt8)):=fun desc =>
 zAA (F170 desc) fun(y,y1,y2) =>
 grdO (decide (y.length+1≤9223372036854775807)&&decide ((y.length+1)*16≤140737488355328)) (some (y++[y1]))
def tb114:=insT 114 (mkE 114 true [] zCt to114 F114 [.tmp 2] 16 []) tb110
theorem ok114:zTb tb114:=okI ok110 noPl noIv func114 rfl call114
abbrev zTm:SPat:=⟨[(1,.ptr 1 0),(3,.ptr 3 0),(4,.fn 110 (pl zo23)),(17,.sl tg27),(18,.i .i64),(19,.i .i64)],[.box 1 (pl plC),.box 3 (pl zo22)]⟩
abbrev zTn:SPat:=⟨[(1,.ptr 1 0),(3,.ptr 3 0),(4,.fn 110 (pl zo23)),(17,.sl tg27),(18,.i .i64),(19,.i .i64),(45,.sl .str),(46,.i .i64),(47,.i .i64)],[.box 1 (pl plC),.box 3 (pl zo22)]⟩
abbrev zNn:SPat:=⟨[(1,.ptr 1 0),(3,.ptr 3 0),(4,.fn 110 (pl zo23)),(6,.ptr 6 0),(17,.sl tg27),(18,.i .i64),(19,.i .i64)],[.box 1 (pl plC),.box 3 (pl zo22),.box 6 (pl zo4)]⟩
abbrev zNm:SPat:=⟨[(1,.ptr 1 0),(3,.ptr 3 0),(4,.fn 110 (pl zo23)),(7,.own .str true),(17,.sl tg27),(18,.i .i64),(19,.i .i64)],[.box 1 (pl plC),.box 3 (pl zo22)]⟩
abbrev zNl:SPat:=⟨[(3,.ptr 3 0)],[.box 3 (pl zo22)]⟩
def tv45:Nat→Option SPat:=fun k=>bif k==6 then some zTm else bif k==15 then some zTn else bif k==1000010 then some zNn else bif k==1000014 then some zNm else bif k==2000000 then some zNl else bif k==2000001 then some zTm else bif k==2000002 then some zTm else bif k==2000003 then some zTn else none
def F45:Cls→Option (List (List UInt8)):=fun(app0,app1,app2,app3,app4,app5,app6) =>
 zAA (F29 (app0,app1,app2,app3,app4,app5,app6)) fun y =>
 cndO (!decide (y=0))
 (some ([]))
 (bindE (Y:=List (List UInt8)) (zAG (fun(v17,v18,v19,(o0,o1,o2,o3,o4,o5,o6),o01) =>
 cndO (decide (v19<v18))
 (bindE (Y:=List Cst×Int×Int×(Cls)×List (List UInt8)) (grdO (decide (0≤v19)) (atO v17 v19.toNat fun x=>bindE (Y:=List Cst×Int×Int×(Cls)×List (List UInt8)×Cst) (cndO (decide (x.1=2))
 (zAA (F111 ((o0,o1,o2,o3,o4,o5,o6),wrap .i64 (v19+1))) fun y1 =>
 zAA (F110 (y1,(o0,o1,o2,o3,o4,o5,o6),o01)) fun((y2,y3,y4,y5,y6,y7,x1),x2) =>
 some (inl (v17,v18,v19,(y2,y3,y4,y5,y6,y7,x1),x2,x.1,x.2.1,x.2.2.1,x.2.2.2)))
 (some (inl (v17,v18,v19,(o0,o1,o2,o3,o4,o5,o6),o01,x.1,x.2.1,x.2.2.1,x.2.2.2)))) fun(v171,v181,v191,(o02,o11,o21,o31,o41,o51,o61),o03,o04,o12,o22,o32) =>
 cndO (!decide (o04=1))
 (some (inl (v171,v181,v191,(o02,o11,o21,o31,o41,o51,o61),o03)))
 (bindE (Y:=List (List UInt8)×List Cst×Int×Int×(Cls)×List (List UInt8)) (zAA (F113 o12) fun y1 =>
 cndO (y1)
 (zAA (F114 o12) fun y2 =>
 some (inl (y2,v171,v181,v191,(o02,o11,o21,o31,o41,o51,o61),o03)))
 (some (inl ([o12],v171,v181,v191,(o02,o11,o21,o31,o41,o51,o61),o03)))) fun(v7,v172,v182,v192,(o05,o13,o23,o33,o42,o52,o62),o06) =>
 bindE (Y:=List Cst×Int×Int×(Cls)×List (List UInt8)) (zAG (fun(v173,v183,v193,v45,v46,v47,(o07,o14,o24,o34,o43,o53,o63),o08) =>
 cndO (decide (v47<v46))
 (bindE (Y:=List Cst×Int×Int×List (List UInt8)×Int×Int×(Cls)×List (List UInt8)) (grdO (decide (0≤v47)) (atO v45 v47.toNat fun x1=>zAA (F115 x1) fun(y1,y2) =>
 cndO (y2)
 (zAA (F110 (y1,(o07,o14,o24,o34,o43,o53,o63),o08)) fun((y3,y4,y5,y6,y7,y8,x2),x3) =>
 some (inl (v173,v183,v193,v45,v46,v47,(y3,y4,y5,y6,y7,y8,x2),x3)))
 (some (inl (v173,v183,v193,v45,v46,v47,(o07,o14,o24,o34,o43,o53,o63),o08))))) fun(v174,v184,v194,v451,v461,v471,(o09,o15,o25,o35,o44,o54,o64),o010) =>
 some (inl (v174,v184,v194,v451,v461,wrap .i64 (v471+1),(o09,o15,o25,o35,o44,o54,o64),o010)))
 (some (inr (inl (v173,v183,v193,(o07,o14,o24,o34,o43,o53,o63),o08))))) ((v172,v182,v192,v7,(v7.length:Int),(0:Int),(o05,o13,o23,o33,o42,o52,o62),o06))) fun(v173,v183,v193,(o07,o14,o24,o34,o43,o53,o63),o08) =>
 some (inl (v173,v183,v193,(o07,o14,o24,o34,o43,o53,o63),o08))))) fun(v171,v181,v191,(o02,o11,o21,o31,o41,o51,o61),o03) =>
 some (inl (v171,v181,wrap .i64 (v191+1),(o02,o11,o21,o31,o41,o51,o61),o03)))
 (some (inr (inl o01)))) ((app0,(app0.length:Int),(0:Int),(app0,app1,app2,app3,app4,app5,app6),[]))) fun o0 =>
 zAA (F116 o0) fun y1 =>
 zAA (F117 y1) fun y2 =>
 some y2)
def tb45:=insT 45 (mkE 45 true [] ti69 to114 F45 [.tmp 2] 66 []) tb114
theorem ok45:zTb tb45:=okI ok114 noPl tv45 func45 rfl call45
def F30:Cls→Option Int:=fun(c0,c1,c2,c3,c4,c5,c6) =>
 zAA (F22 (c0,c1,c2,c3,c4,c5,c6)) fun y =>
 cndO (decide (y=[]))
 (some ((1:Int)))
 (zAA (F88 (c0,c1,c2,c3,c4,c5,c6)) fun y1 =>
 some y1)
def tb30:=insT 30 (mkE 30 true [] ti69 zIB F30 [.tmp 2] 8 []) tb45
theorem ok30:zTb tb30:=okI ok45 noPl noIv func30 rfl call30
abbrev to272:SPat:=⟨[(2,.own .str false)],[]⟩
def F272:List UInt8→Option (List (List UInt8)):=fun desc =>
 zAA (F214 desc) fun(y,y1,y2) =>
 grdO (decide (y.length≤9223372036854775807)&&decide (y.length*16≤140737488355328)) (grdO (decide (y.length+1≤9223372036854775807)&&decide ((y.length+1)*16≤140737488355328)) (some (y++[y1])))
def tb272:=insT 272 (mkE 272 true [] zCt to272 F272 [.tmp 2] 18 []) tb30
theorem ok272:zTb tb272:=okI ok30 noPl noIv func272 rfl call272
def F209:List UInt8→Option (List (List UInt8)):=fun s =>
 zAA (F128 s) fun y =>
 cndO (y)
 (some ([s]))
 (zAA (F129 s) fun y1 =>
 cndO (y1)
 (zAA (F272 s) fun y2 =>
 some y2)
 (some ([])))
def tb209:=insT 209 (mkE 209 true [] zCt to114 F209 [.tmp 2] 11 []) tb272
theorem ok209:zTb tb209:=okI ok272 noPl noIv func209 rfl call209
abbrev ti208:SPat:=⟨[(0,.sl .str)],[]⟩
abbrev zTw:SPat:=⟨[(0,.sl .str),(3,.own .str true),(4,.i .i64)],[]⟩
abbrev zLs:SPat:=⟨[(3,.own .str true)],[]⟩
def tv208:Nat→Option SPat:=fun k=>bif k==3 then some zTw else bif k==2000000 then some zLs else bif k==2000001 then some zTw else none
def tp208:Nat→List Nat×Plan:=fun id=>bif id==6 then([0,1,2,3,4,5,6,7,8,9,10,11],(.br 12 [11,10,9,8,7,6,5,4,3,2,1] [0] [] (.br 13 zn10 [] [] (.br 14 zn20 [] [] .fin .fin) .fin) .fin))else([],.fin)
def F208:List (List UInt8)→Option (List (List UInt8)):=fun list =>
 bindE (Y:=List (List UInt8)) (zAG (fun(list1,out,i) =>
 cndO (decide (i<(list1.length:Int)))
 (bindE (Y:=List (List UInt8)×List (List UInt8)×Int) (grdO (decide (0≤i)) (atO list1 i.toNat fun x=>cndO (decide (1<(x.length:Int)))
 (grdO (decide (0≤i)) (atO list1 i.toNat fun x1=>grdO (decide (0≤i)) (atO list1 i.toNat fun x2=>grdO (decide (1≤wrap .i64 ((x2.length:Int)-1))&&decide (wrap .i64 ((x2.length:Int)-1)≤(x1.length:Int))) (grdO (decide (out.length+1≤9223372036854775807)&&decide ((out.length+1)*16≤140737488355328)) (some (inl (list1,out++[List.drop (1:Nat) (List.take (Int.toNat (wrap .i64 ((x2.length:Int)-1))) x1)],i)))))))
 (some (inl (list1,out,i))))) fun(list2,out1,i1) =>
 some (inl (list2,out1,wrap .i64 (i1+1))))
 (some (inr (inl out)))) ((list,[],(0:Int)))) fun out =>
 some (out)
def tb208:=insT 208 (mkE 208 true [] ti208 to114 F208 [.tmp 2] 33 []) tb209
theorem ok208:zTb tb208:=okI ok209 tp208 tv208 func208 rfl call208
def F210:List UInt8→Option Int:=fun name =>
 cndO (decide (name=[(79:UInt8),98,106]))
 (some ((0:Int)))
 (cndO (decide (name=[(69:UInt8),114,114]))
 (some ((1:Int)))
 (some ((-1:Int))))
def tb210:=insT 210 (mkE 210 true [] zCt zIB F210 [.tmp 2] 8 []) tb208
theorem ok210:zTb tb210:=okI ok208 noPl noIv func210 rfl call210
abbrev to211:SPat:=⟨[(4,.sl .str)],[]⟩
def tv211:Nat→Option SPat:=fun k=>bif k==2 then some zLL else bif k==1000006 then some zLL else bif k==2000000 then some zLL else none
def F211:List (List UInt8)×List UInt8→Option (List (List UInt8)):=fun(list,name) =>
 bindE (Y:=List (List UInt8)×List UInt8×Int) (zAG (fun(list1,name1,k) =>
 cndO (decide (k<(list1.length:Int)))
 (grdO (decide (0≤k)) (atO list1 k.toNat fun x=>cndO (Op.bytesLess x name1)
 (some (inl (list1,name1,wrap .i64 (k+1))))
 (some (inr (inl (list1,name1,k))))))
 (some (inr (inl (list1,name1,k))))) ((list,name,(0:Int)))) fun(list1,name1,k) =>
 bindE (Y:=List (List UInt8)×List UInt8×Int) (cndO (decide (k<(list1.length:Int)))
 (grdO (decide (0≤k)) (atO list1 k.toNat fun x=>cndO (decide (x=name1))
 (some (inr list1))
 (some (inl (list1,name1,k)))))
 (some (inl (list1,name1,k)))) fun(list2,name2,k1) =>
 grdO (decide (0≤k1)&&decide (k1≤(list2.length:Int))) (grdO (decide (List.length (List.drop (0:Nat) (List.take k1.toNat list2))≤9223372036854775807)&&decide (List.length (List.drop (0:Nat) (List.take k1.toNat list2))*16≤140737488355328)) (grdO (decide (List.length (List.drop (0:Nat) (List.take k1.toNat list2))+1≤9223372036854775807)&&decide ((List.length (List.drop (0:Nat) (List.take k1.toNat list2))+1)*16≤140737488355328)) (grdO (decide (0≤k1)&&decide (k1≤(list2.length:Int))&&decide ((list2.length:Int)≤(list2.length:Int))) (grdO (decide (List.length (List.drop (0:Nat) (List.take k1.toNat list2)++[name2])+List.length (List.drop k1.toNat (List.take (Int.toNat (list2.length:Int)) list2))≤9223372036854775807)&&decide ((List.length (List.drop (0:Nat) (List.take k1.toNat list2)++[name2])+List.length (List.drop k1.toNat (List.take (Int.toNat (list2.length:Int)) list2)))*16≤140737488355328)) (some (List.drop (0:Nat) (List.take k1.toNat list2)++[name2]++List.drop k1.toNat (List.take (Int.toNat (list2.length:Int)) list2)))))))
def tb211:=insT 211 (mkE 211 false [] ti301 to211 F211 [.tmp 4] 48 []) tb210
theorem ok211:zTb tb211:=okI ok210 noPl tv211 func211 rfl call211
abbrev to118:SPat:=⟨[(2,.sl .str)],[]⟩
abbrev zPm:SPat:=⟨[(1,.ptr 1 0),(3,.sl .str),(4,.s),(5,.i .i64)],zo11⟩
abbrev zRI:SPat:=⟨[(1,.ptr 1 0),(3,.sl .str),(4,.s),(5,.i .i64),(6,.own .str true),(7,.i .i64)],zo11⟩
abbrev zMF:SPat:=⟨[(1,.ptr 1 0),(3,.sl .str),(4,.s),(5,.i .i64),(6,.own .str true)],zo11⟩
abbrev zME:SPat:=⟨[(1,.ptr 1 0),(3,.sl .str),(4,.s),(5,.i .i64),(6,.own .str true),(7,.i .i64),(61,.b)],zo11⟩
abbrev zMD:SPat:=⟨[(3,.sl .str)],[]⟩
def tv118:Nat→Option SPat:=fun k=>bif k==4 then some zPm else bif k==10 then some zRI else bif k==1000009 then some zMF else bif k==1000013 then some zME else bif k==2000000 then some zMD else bif k==2000001 then some zPm else bif k==2000002 then some zPm else bif k==2000003 then some zRI else none
def F118:Cls→Option (List (List UInt8)):=fun(app0,app1,app2,app3,app4,app5,app6) =>
 zAA (F130 (app0,app2)) fun y =>
 bindE (Y:=List (List UInt8)) (zAG (fun(v3,v4,v5,o0,o1,o2,o3,o4,o5,o6) =>
 cndO (decide (v5<(o0.length:Int)))
 (bindE (Y:=List (List UInt8)×List UInt8×Int×Cls) (grdO (decide (0≤v5)) (atO o0 v5.toNat fun x=>zAA (F209 x.2.1) fun y1 =>
 zAA (F208 y1) fun y2 =>
 bindE (Y:=List (List UInt8)×List UInt8×Int×List (List UInt8)×Cls) (grdO (decide (0≤v5)) (atO o0 v5.toNat fun x1=>cndO (decide (x1.1=2))
 (zAA (F130 (o0,wrap .i64 (v5+1))) fun y3 =>
 some (inl (v3,v4,v5,[y3],o0,o1,o2,o3,o4,o5,o6)))
 (some (inl (v3,v4,v5,y2,o0,o1,o2,o3,o4,o5,o6))))) fun(v31,v41,v51,v6,o01,o11,o21,o31,o41,o51,o61) =>
 bindE (Y:=List (List UInt8)×List UInt8×Int×Cls) (zAG (fun(v32,v42,v52,v61,v7,o02,o12,o22,o32,o42,o52,o62) =>
 cndO (decide (v7<(v61.length:Int)))
 (bindE (Y:=List (List UInt8)×List UInt8×Int×List (List UInt8)×Int×Cls) (bindE (Y:=List (List UInt8)×List UInt8×Int×List (List UInt8)×Int×Bool×Cls) (grdO (decide (0≤v7)&&decide (v7<(v61.length:Int))) (atO v61 v7.toNat fun x1=>cndO (!decide (x1=v42))
 (grdO (decide (0≤v7)&&decide (v7<(v61.length:Int))) (atO v61 v7.toNat fun x2=>zAA (F210 x2) fun y3 =>
 some (inl (v32,v42,v52,v61,v7,decide (y3<0),o02,o12,o22,o32,o42,o52,o62))))
 (some (inl (v32,v42,v52,v61,v7,false,o02,o12,o22,o32,o42,o52,o62))))) fun(v33,v43,v53,v62,v71,v611,o03,o13,o23,o33,o43,o53,o63) =>
 cndO (v611)
 (grdO (decide (0≤v71)&&decide (v71<(v62.length:Int))) (atO v62 v71.toNat fun x1=>zAA (F211 (v33,x1)) fun y3 =>
 some (inl (y3,v43,v53,v62,v71,o03,o13,o23,o33,o43,o53,o63))))
 (some (inl (v33,v43,v53,v62,v71,o03,o13,o23,o33,o43,o53,o63)))) fun(v33,v43,v53,v62,v71,o03,o13,o23,o33,o43,o53,o63) =>
 some (inl (v33,v43,v53,v62,wrap .i64 (v71+1),o03,o13,o23,o33,o43,o53,o63)))
 (some (inr (inl (v32,v42,v52,o02,o12,o22,o32,o42,o52,o62))))) ((v31,v41,v51,v6,(0:Int),o01,o11,o21,o31,o41,o51,o61))) fun(v32,v42,v52,o02,o12,o22,o32,o42,o52,o62) =>
 some (inl (v32,v42,v52,o02,o12,o22,o32,o42,o52,o62)))) fun(v31,v41,v51,o01,o11,o21,o31,o41,o51,o61) =>
 some (inl (v31,v41,wrap .i64 (v51+1),o01,o11,o21,o31,o41,o51,o61)))
 (some (inr (inl v3)))) (([],y,(0:Int),app0,app1,app2,app3,app4,app5,app6))) fun v3 =>
 some (v3)
def tb118:=insT 118 (mkE 118 false [] ti69 to118 F118 [.tmp 2] 69 []) tb211
theorem ok118:zTb tb118:=okI ok211 noPl tv118 func118 rfl call118
def F46:Cls→Option (List (List UInt8)):=fun(c0,c1,c2,c3,c4,c5,c6) =>
 zAA (F30 (c0,c1,c2,c3,c4,c5,c6)) fun y =>
 cndO (!decide (y=0))
 (some ([]))
 (zAA (F118 (c0,c1,c2,c3,c4,c5,c6)) fun y1 =>
 some y1)
def tb46:=insT 46 (mkE 46 false [] ti69 to118 F46 [.tmp 2] 8 []) tb118
theorem ok46:zTb tb46:=okI ok118 noPl noIv func46 rfl call46
abbrev ti47:SPat:=⟨[(0,.agg (pl zo24)),(1,.i .i64)],[]⟩
abbrev zNk:SPat:=⟨[(1,.i .i64),(2,.ptr 2 0)],[.box 2 (pl zo24)]⟩
def tv47:Nat→Option SPat:=fun k=>bif k==1000003 then some zNk else none
def F47:(List UInt8×Int×List Cst×Int×Int×Int×List Int×List Fld×List Mth×Int×List Int×Int×Int×List Knd×List (List UInt8×List UInt8×Int×Int)×List Knd)×Int→Option (List UInt8):=fun((c0,c1,c2,c3,c4,c5,c6,c7,c8,c9,c10,c11,c12,c13,c14,c15),i) =>
 bindE (Y:=Int×List UInt8×Int×List Cst×Int×Int×Int×List Int×List Fld×List Mth×Int×List Int×Int×Int×List Knd×List (List UInt8×List UInt8×Int×Int)×List Knd) (cndO (decide (i<1))
 (some (inr []))
 (cndO (decide ((c2.length:Int)<i))
 (some (inr []))
 (some (inl (i,c0,c1,c2,c3,c4,c5,c6,c7,c8,c9,c10,c11,c12,c13,c14,c15))))) fun(i1,o0,o1,o2,o3,o4,o5,o6,o7,o8,o9,o10,o11,o12,o13,o14,o15) =>
 grdO (decide (0≤wrap .i64 (i1-1))) (atO o2 (Int.toNat (wrap .i64 (i1-1))) fun x=>some x.2.1)
def tb47:=insT 47 (mkE 47 true [] ti47 to130 F47 [.tmp 4] 23 []) tb46
theorem ok47:zTb tb47:=okI ok46 noPl tv47 func47 rfl call47
abbrev zPl:SPat:=⟨[(4,.own .str true),(5,.sl .str),(7,.s),(8,.s),(9,.b),(10,.i .i64)],[]⟩
abbrev zNr:SPat:=⟨[(3,.ptr 3 0),(4,.own .str true),(5,.sl .str),(29,.b)],[.box 3 (pl plC)]⟩
abbrev zNq:SPat:=⟨[(4,.own .str true),(5,.sl .str),(7,.s),(8,.s),(9,.b)],[]⟩
abbrev zNp:SPat:=⟨[(9,.b)],[]⟩
def tv12:Nat→Option SPat:=fun k=>bif k==13 then some zPl else bif k==1000007 then some zNr else bif k==1000012 then some zNq else bif k==1000017 then some zPl else bif k==2000000 then some zNp else bif k==2000001 then some zPl else none
def tp12:Nat→List Nat×Plan:=fun id=>bif id==3000003 then([6000000],.fin)else bif id==9 then(zn33,(.br 9 zn18 [] [] (.br 10 zn0 [] [] .fin .fin) .fin))else bif id==10 then(zn33,(.br 9 zn18 [] [] (.br 10 zn0 [] [] .fin .fin) .fin))else bif id==15 then([0,1,2,3,4,5,6,7,8,9,10,11,12,13],(.br 14 zn20 [] [15,16,17,18,19,20,21,22,23,24,25,26,27,28,29,30,31,32,33,34,35,36,37,38,39,40,41,42,43,44,45,46,47,48,49,50,51,52,53,54] .fin .fin))else([],.fin)
def F12:List UInt8→Option Bool:=fun app =>
 cndO (decide (1048576<(app.length:Int)))
 (some true)
 (zAA (F44 app) fun(y,y1,y2,y3,y4,y5,x) =>
 zAA (F45 (y,y1,y2,y3,y4,y5,x)) fun y6 =>
 zAA (F46 (y,y1,y2,y3,y4,y5,x)) fun y7 =>
 bindE (Y:=List (List UInt8)×List (List UInt8)×Bool×Cls) (cndO (!decide ((y6.length:Int)=(y7.length:Int)))
 (some (inl (y6,y7,true,y,y1,y2,y3,y4,y5,x)))
 (zAA (F29 (y,y1,y2,y3,y4,y5,x)) fun y8 =>
 some (inl (y6,y7,!decide (y8=0),y,y1,y2,y3,y4,y5,x)))) fun(v4,v5,v29,o0,o1,o2,o3,o4,o5,o6) =>
 cndO (v29)
 (some (decide ((v4.length:Int)=(v5.length:Int))))
 (grdO (decide (0≤wrap .i64 (o2-1))) (atO o0 (Int.toNat (wrap .i64 (o2-1))) fun x1=>zAA (F47 (([],(0:Int),o0,o1,o2,o3,o4,o5,o6,(0:Int),[],(0:Int),(0:Int),[],[],[]),x1.2.2.1)) fun y8 =>
 grdO (decide (0≤wrap .i64 (o3-1))) (atO o0 (Int.toNat (wrap .i64 (o3-1))) fun x2=>zAA (F47 (([],(0:Int),o0,o1,o2,o3,o4,o5,o6,(0:Int),[],(0:Int),(0:Int),[],[],[]),x2.2.2.1)) fun y9 =>
 bindE (Y:=List (List UInt8)×List (List UInt8)×List UInt8×List UInt8×Bool) (cndO (decide (y9=[(79:UInt8),98,106]))
 (some (inl (v4,v5,y8,y9,true)))
 (some (inl (v4,v5,y8,y9,decide (y9=[(69:UInt8),114,114]))))) fun(v41,v51,v7,v8,v9) =>
 bindE (zAG (fun(v42,v52,v71,v81,v91,v10) =>
 cndO (decide (v10<(v42.length:Int)))
 (bindE (Y:=List (List UInt8)×List (List UInt8)×List UInt8×List UInt8×Bool×Int) (bindE (Y:=List (List UInt8)×List (List UInt8)×List UInt8×List UInt8×Bool×Int) (grdO (decide (0≤v10)&&decide (v10<(v42.length:Int))) (atO v42 v10.toNat fun x3=>grdO (decide (0≤v10)) (atO v52 v10.toNat fun x4=>cndO (!decide (x3=x4))
 (some (inr (inr (inr (inr false)))))
 (grdO (decide (0≤v10)&&decide (v10<(v42.length:Int))) (atO v42 v10.toNat fun x5=>zAA (F48 x5) fun y10 =>
 cndO (!y10)
 (some (inr (inr (inr (inr false)))))
 (grdO (decide (0≤v10)&&decide (v10<(v42.length:Int))) (atO v42 v10.toNat fun x6=>cndO (decide (x6=v71))
 (some (inr (inr (inr (inr false)))))
 (grdO (decide (0≤v10)&&decide (v10<(v42.length:Int))) (atO v42 v10.toNat fun x7=>cndO (decide (x7=[(79:UInt8),98,106]))
 (some (inr (inr (inr (inr false)))))
 (grdO (decide (0≤v10)&&decide (v10<(v42.length:Int))) (atO v42 v10.toNat fun x8=>cndO (decide (x8=[(69:UInt8),114,114]))
 (some (inr (inr (inr (inr false)))))
 (cndO (decide (0<v10))
 (grdO (decide (0≤v10)&&decide (v10<(v42.length:Int))) (atO v42 v10.toNat fun x9=>grdO (decide (0≤wrap .i64 (v10-1))&&decide (wrap .i64 (v10-1)<(v42.length:Int))) (atO v42 (Int.toNat (wrap .i64 (v10-1))) fun x10=>cndO (Op.bytesLess x9 x10||decide (x9=x10))
 (some (inr (inr (inr (inr false)))))
 (some (inl (v42,v52,v71,v81,v91,v10))))))
 (some (inl (v42,v52,v71,v81,v91,v10))))))))))))))) fun(v43,v53,v72,v82,v92,v101) =>
 cndO (v92)
 (some (inl (v43,v53,v72,v82,true,v101)))
 (grdO (decide (0≤v101)&&decide (v101<(v43.length:Int))) (atO v43 v101.toNat fun x3=>some (inl (v43,v53,v72,v82,decide (x3=v82),v101))))) fun(v43,v53,v72,v82,v92,v101) =>
 some (inl (v43,v53,v72,v82,v92,wrap .i64 (v101+1))))
 (some (inr (inl v91)))) ((v41,v51,v7,v8,v9,(0:Int)))) fun v91 =>
 some v91))))
theorem r12 x:funT T tb47 tp12 134 tv12 (bodyOf Tryz.f12) ti49 zDu x=F12 x:=by kernel_rfl
def te12:=mkE 12 true [] ti49 zDu F12 [.tmp 2] 134 []
theorem c12:zHG Tryz.prog 12 te12.W:=zVi ok47 layOk mixed true _ ti49 zDu [] tp12 tv12 func12 rfl results12 ntmps12 (by kernel_rfl) (by kernel_rfl) call12 F12 fun x _ h=>(r12 x).trans h
end Go.Proofs.YtdpapeledldifaaGreat
end
section
namespace Go.Proofs.YtdpapeledldifaaGreat
open Go Go.AM Go.TM Go.RowKit Go.ChangeShapes Go.WideShapes Go.ChangeAt
theorem rowL12 (x:List UInt8)(h:F12 x=some true):AC Tryz.prog 12 (encC false (.sl .byte) x) [] fun sv _=>sv = .b true :=
 law_args c12 x true rfl rfl h rfl
set_option maxRecDepth 100000 in
theorem lifted12 (hall:∀ x:List UInt8,F12 x=some true)(os:Os)(started:os.Started)(H:Type)(enc:TypeId×Value→H) :
  ReturnsInHanded {} Tryz.checked os 12 .any (Rows.fnRefsSpec.pre6 enc Tryz.prog Tryz.f12 [] false) (Rows.fnRefsSpec.post enc Tryz.prog Tryz.f12 false true false false):=by
 refine returnsInHanded_of_change_sized (C:=Tryz.checked) own started (by kernel_rfl) Tryz.func12
  (ChangeSpec.witness6 (enc:=enc) (C:=Tryz.checked) false ⟨#[],#[.slice none 0 0],[]⟩ 8 (by kernel_rfl) (by kernel_rfl) (by kernel_rfl) (by kernel_rfl)) ?_
 intro W base args ds gs before hval0 hW _ hsz0 _
 have hval:∀(j:Nat) t v,Tryz.f12.params[j]? = some t→args[j]? = some v→Value.okWide Tryz.prog W .any base t v:=hval0
 have hsz:(DataW.weightsEach Tryz.prog (Tryz.f12.params.toList++[]) (ds++gs)).all (· ≤ reachBytes)=true:=hsz0
 have hW':=hW
 obtain⟨p,q,hA0,hV,rfl,hfz,hnd⟩:=hW
 have hA:DataW.TrodAll enc Tryz.prog W 0 (fun _=>true) true Tryz.f12.params.toList args.toList ds p:=hA0
 rw[Tryz.params12]at hA hval hsz
 obtain⟨v0,d0,rfl,rfl,h0⟩:=trodAll_one hA
 obtain⟨rfl,rfl⟩:=trodVars_none hV
 obtain⟨b0,n0,k0,rfl⟩:=okWide_slice Tryz.underlying22 (hval 0 22 v0 rfl rfl)
 have h0k:=h0
 obtain⟨fuel,ht⟩:=h0
 obtain⟨x,sx,lx,ox,rx⟩:=opens 8 fuel (.sl .byte) 22 [.slice b0 n0 k0] d0 p rd22 ht (fun m hm=>by
  have:=List.all_eq_true.1 hsz m (by simpa[DataW.weightsEach]using hm)
  simpa using this)
 have hlt:∀z∈p,z.block<W.heap.size:=fun z hz=>hW'.lt z (by simpa using hz)
 refine(zVx Tryz.func12 (by kernel_rfl) (by kernel_rfl) (rowL12 x (hall x)) (fun _ _ h=>h) rfl (fun G hG=>rx G hG)).mono fun e W' ⟨he,hb⟩=>?_
 subst he
 exact⟨_,rfl,[d0],[],p++[],[],p,[],hW',trodAll_mk1 (shut_bool Tryz.underlying4 true),trodAll_mk1 (Below.trod laidOut (by kernel_rfl) (of_decide_eq_true (by kernel_rfl)) h0k hb hlt),rfl,hb.frame _,fun h=>by cases h⟩
set_option maxHeartbeats 4000000 in
theorem joined12:joinedFacts Tryz.pinned.checked.prog 12 Tryz.f12 Rows.fnRefsSpec Rows.fnRefsRow=true:=by
 unfold joinedFacts
 repeat' with_reducible apply band
 all_goals (as_aux_lemma=>kernel_rfl)
theorem fnRefs_of (hall:∀ x:List UInt8,F12 x=some true):Rows.FnRefsSaid :=
 OpenClaim.holds_of_wide 12 Tryz.f12 rfl rfl rfl rfl rfl rfl rfl ⟨rfl,rfl,rfl,rfl,rfl⟩ rfl rfl rfl rfl rfl (by kernel_rfl) Tryz.func12 joined12
  (of_decide_eq_true (by kernel_rfl)) (by unfold Func.isWrapper;first|(rw[if_pos (by decide +kernel)];kernel_rfl)|(rw[if_neg (by decide +kernel)];exact⟨rfl,rfl⟩))
  (fun os started H enc _=>lifted12 hall os started H enc)
end Go.Proofs.YtdpapeledldifaaGreat
end
section
namespace Go.TM
open Go.AM
section
variable {R α X Y:Type}
@[simp] theorem zAJ (A B:Option R):cndO true A B=A:=rfl
@[simp] theorem zAI (A B:Option R):cndO false A B=B:=rfl
@[simp] theorem zAF {p:Prop}[Decidable p](A B:Option R):cndO (decide p) A B=if p then A else B:=by
  by_cases h:p<;>simp[h]
@[simp] theorem zAT (b:Bool)(A B:Option R):cndO (!b) A B=cndO b B A:=by cases b<;>rfl
@[simp] theorem zAE (A:Option R):grdO true A=A:=rfl
theorem zAX {p:Prop}[Decidable p]{A:Option R}(h:p):grdO (decide p) A=A:=by simp[h]
theorem zDF (a b:Bool)(A:Option R):grdO (a&&b) A=grdO a (grdO b A):=by cases a<;>rfl
@[simp] theorem zAB (a:α)(k:α→Option R):zAA (some a) k=k a:=rfl
@[simp] theorem zAC (y:Y)(k:Y→Option R):bindE (some (.inl y)) k=k y:=rfl
@[simp] theorem zAH (r:R)(k:Y→Option R):bindE (some (.inr r)) k=some r:=rfl
@[simp] theorem zAW (u:Unit)(k:Option R):seqU (some u) k=k:=rfl
theorem atO_at {l:List α}{n:Nat}{x:α}{k:α→Option R}(h:l[n]? = some x):atO l n k=k x:=by unfold atO;rw[h]
theorem zAN {l:List α}{n:Nat}{k:α→Option R}(h:n<l.length):atO l n k=k l[n]:=atO_at (List.getElem?_eq_getElem h)
theorem zAq {c:Prop}[Decidable c](A B:Option (Y⊕R))(k:Y→Option R):bindE (if c then A else B) k=if c then bindE A k else bindE B k:=by split<;>rfl
theorem zBX {l:List α}{n:Nat}(h:n<l.length):l.drop n=l[n]::l.drop (n+1):=List.drop_eq_getElem_cons h
end
end Go.TM
end
section
namespace Go.TM
open Go.AM
section
variable {α β:Type}
def SzOk (r:Option Int)(left:Int)(P:Prop):Prop:=∃y,r=some y ∧ -1≤y∧y≤left∧(0≤y→P)
theorem SzOk.bind {r:Option Int}{k:Int→Option Int}{left:Int}{P Q:Prop}(h:SzOk r left P)(hk:∀ y,0≤y→y≤left→SzOk (k y) y Q) :
  SzOk (zAA r fun y=>cndO (decide (y<(0:Int))) (some (-1:Int)) (k y)) left (P∧Q):=by
 obtain⟨y,h1,h2,h3,h4⟩:=h
 rw[h1,zAB,zAF]
 by_cases hy:y<0
 ·rw[if_pos hy];exact⟨-1,rfl,by omega,by omega,by omega⟩
 ·rw[if_neg hy]
  obtain⟨z,g1,g2,g3,g4⟩:=hk y (by omega) h3
  exact⟨z,g1,g2,by omega,fun hz=>⟨h4 (by omega),g4 hz⟩⟩
end
end Go.TM
end
section
namespace Go.Proofs.YtdpapeledldifaaGreat
open Go Go.AM Go.TM
def bCst (c:Cst):Prop:=c.2.1.length≤1048576
def zHa (l:List Knd):Prop:=l.length≤1048576
def bFrm (f:Frm):Prop:=zHa f.2.1∧zHa f.2.2
def bMth (m:Mth):Prop:=m.2.2.2.2.2.1.length≤1048576∧m.2.2.2.2.2.2.1.length≤1048576∧m.2.2.2.2.2.2.2.length≤1048576∧∀f∈m.2.2.2.2.2.2.2,bFrm f
def bCls (c:Cls):Prop:=(c.1.length≤1048576∧∀x∈c.1,bCst x)∧c.2.2.2.2.1.length≤1048576∧c.2.2.2.2.2.1.length≤1048576∧c.2.2.2.2.2.2.length≤1048576∧∀x∈c.2.2.2.2.2.2,bMth x
end Go.Proofs.YtdpapeledldifaaGreat
end
section
namespace Go.TM
open Go.AM
section
variable {σ α β:Type}
def Sm (Re:σ→Option (List UInt8)→Prop)(r:Option (α×σ))(m:Option (α×List UInt8)):Prop :=
 ∃v s,r=some (v,s)∧Re s (m.map (·.2))∧∀v' l,m=some (v',l)→v=v'
variable {Re:σ→Option (List UInt8)→Prop}
theorem Sm.bind {r:Option (α×σ)}{m:Option (α×List UInt8)}{k:α×σ→Option (β×σ)}{k':α→List UInt8→Option (β×List UInt8)}(h:Sm Re r m)
  (hk:∀v s st,Re s st→(∀l,st=some l→m=some (v,l))→Sm Re (k (v,s)) (st.bind (k' v))):Sm Re (zAA r k) (m.bind fun p=>k' p.1 p.2):=by
 obtain⟨v,s,rfl,h1,h2⟩:=h
 rw[zAB]
 have:=hk v s (m.map (·.2)) h1 (by
  intro l hl
  cases m with
  |none=>cases hl
  |some p=>obtain⟨a,b⟩:=p;simp only[Option.map_some,zSe]at hl;subst hl;rw[h2 a b rfl])
 cases m with
 |none=>exact this
 | some p =>
   obtain⟨a,b⟩:=p
   have e:=h2 a b rfl
   subst e
   exact this
theorem Sm.ret {s:σ}{st:Option (List UInt8)}(h:Re s st)(v:α):Sm Re (some (v,s)) (st.bind fun l=>some (v,l)):=by
 refine⟨v,s,rfl,?_,fun v' l hl=>?_⟩
 ·cases st with
  |none=>exact h
  |some l=>exact h
 ·cases st with
  |none=>cases hl
  |some l=>simp only[Option.bind_some,zSe,Prod.mk.injEq]at hl;exact hl.1
def gRep (g:List UInt8→Option (β×List UInt8)):Nat→List UInt8→Option (List β×List UInt8)
 |0,l=>some ([],l)
 |n+1,l=>(g l).bind fun p=>(gRep g n p.2).bind fun q=>some (p.1::q.1,q.2)
theorem zSO {g:List UInt8→Option (β×List UInt8)}:∀(n:Nat) (l:List UInt8) (vs:List β) (l':List UInt8),gRep g n l=some (vs,l')→vs.length=n
 |0,l,vs,l',h=>by simp only[gRep,zSe,Prod.mk.injEq]at h;rw[←h.1];rfl
 | n+1,l,vs,l',h=>by
   simp only[gRep]at h
   cases hg:g l with
   |none=>rw[hg]at h;cases h
   | some p =>
     rw[hg]at h
     simp only[Option.bind_some]at h
     cases hr:gRep g n p.2 with
     |none=>rw[hr]at h;cases h
     | some q =>
       rw[hr]at h
       simp only[Option.bind_some,zSe,Prod.mk.injEq]at h
       rw[←h.1,List.length_cons,zSO n p.2 q.1 q.2 hr]
theorem zSP {g:List UInt8→Option (β×List UInt8)}{P:β→Prop}(hg:∀ l v l',g l=some (v,l')→P v):∀(n:Nat) (l:List UInt8) (vs:List β) (l':List UInt8),gRep g n l=some (vs,l')→∀v∈vs,P v
 |0,l,vs,l',h=>by simp only[gRep,zSe,Prod.mk.injEq]at h;rw[←h.1];simp
 | n+1,l,vs,l',h=>by
   simp only[gRep]at h
   cases hgl:g l with
   |none=>rw[hgl]at h;cases h
   | some p =>
     rw[hgl]at h
     simp only[Option.bind_some]at h
     cases hr:gRep g n p.2 with
     |none=>rw[hr]at h;cases h
     | some q =>
       rw[hr]at h
       simp only[Option.bind_some,zSe,Prod.mk.injEq]at h
       rw[←h.1]
       intro v hv
       simp only[List.mem_cons]at hv
       rcases hv with rfl|hv
       ·exact hg l _ _ hgl
       ·exact zSP hg n p.2 q.1 q.2 hr v hv
theorem loop_sim {X Y:Type}{f:X→Option (X⊕Y)}(mk:List β→Nat→σ→X)(fin:List β→σ→Y)(n:Nat)(g:List UInt8→Option (β×List UInt8))
  (hbad:∀out i s,i≤n→Re s none→f (mk out i s)=some (.inr (fin out s)))
  (hend:∀out s l,Re s (some l)→f (mk out n s)=some (.inr (fin out s)))
  (hstep:∀out i s l,i<n→out.length=i→Re s (some l)→∃v s',f (mk out i s)=some (.inl (mk (out++[v]) (i+1) s'))∧Re s' ((g l).map (·.2))∧∀v' l',g l=some (v',l')→v=v') :
  ∀(out:List β) (i:Nat) (s:σ) (st:Option (List UInt8)),i≤n→(∀l,st=some l→out.length=i)→Re s st →
   ∃out' s',zAG f (mk out i s)=some (fin out' s')∧Re s' ((st.bind (gRep g (n-i))).map (·.2))∧∀vs l',st.bind (gRep g (n-i))=some (vs,l')→out'=out++vs:=by
 intro out i s st hi
 generalize hm:n-i=m
 induction m generalizing out i s st with
 | zero =>
   intro ho h
   have:i=n:=by omega
   subst this
   rw[zAf]
   cases st with
   |none=>rw[hbad out i s hi h];exact⟨out,s,rfl,h,fun _ _ h=>by cases h⟩
   | some l =>
     rw[hend out s l h]
     exact⟨out,s,rfl,h,fun vs l' h=>by simp only[Option.bind_some,gRep,zSe,Prod.mk.injEq]at h;simp[←h.1]⟩
 | succ m ih =>
   intro ho h
   rw[zAf]
   cases st with
   |none=>rw[hbad out i s hi h];exact⟨out,s,rfl,h,fun _ _ h=>by cases h⟩
   | some l =>
     obtain⟨v,s',h1,h2,h3⟩:=hstep out i s l (by omega) (ho l rfl) h
     rw[h1]
     obtain⟨out',s'',q1,q2,q3⟩:=ih (out++[v]) (i+1) s' ((g l).map (·.2)) (by omega) (by omega) (by intro l' hl;simp[ho l rfl]) h2
     refine⟨out',s'',q1,?_,fun vs l' hv=>?_⟩
     ·cases hg:g l with
      |none=>rw[hg]at q2;simpa[gRep,hg]using q2
      | some p =>
        rw[hg]at q2
        simp only[Option.map_some,Option.bind_some]at q2
        simp only[Option.bind_some,gRep,hg]
        cases hr:gRep g m p.2 with
        |none=>rw[hr]at q2;exact q2
        |some q=>rw[hr]at q2;exact q2
     ·cases hg:g l with
      |none=>simp[gRep,hg]at hv
      | some p =>
        obtain⟨a,b⟩:=p
        have e:=h3 a b hg
        subst e
        rw[hg]at q3
        simp only[Option.map_some,Option.bind_some]at q3
        simp only[Option.bind_some,gRep,hg]at hv
        cases hr:gRep g m b with
        |none=>rw[hr]at hv;cases hv
        | some q =>
          rw[hr]at hv
          simp only[Option.bind_some,zSe,Prod.mk.injEq]at hv
          rw[q3 q.1 q.2 hr,←hv.1]
          simp
end
def g1:List UInt8→Option (Int×List UInt8)
 |[]=>none
 |x::l=>some ((x.toNat:Int),l)
def g2 (l:List UInt8):Option (Int×List UInt8):=(g1 l).bind fun p=>(g1 p.2).bind fun q=>some (p.1*256+q.1,q.2)
def gT (n:Int)(l:List UInt8):Option (List UInt8×List UInt8):=if n≤l.length then some (l.take n.toNat,l.drop n.toNat)else none
theorem zDV {l l':List UInt8}{v:Int}(h:g1 l=some (v,l')):0≤v∧v≤255:=by
 cases l with
 |nil=>cases h
 | cons x l =>
   simp only[g1,zSe,Prod.mk.injEq]at h
   have:=x.toNat_lt
   omega
theorem zVg {l l':List UInt8}{v:Int}(h:g2 l=some (v,l')):0≤v∧v≤65535:=by
 unfold g2 at h
 cases h1:g1 l with
 |none=>rw[h1]at h;cases h
 | some p =>
   rw[h1]at h
   simp only[Option.bind_some]at h
   cases h2:g1 p.2 with
   |none=>rw[h2]at h;cases h
   | some q =>
     rw[h2]at h
     simp only[Option.bind_some,zSe,Prod.mk.injEq]at h
     have:=zDV (l:=l) (v:=p.1) (l':=p.2) h1
     have:=zDV (l:=p.2) (v:=q.1) (l':=q.2) h2
     omega
end Go.TM
end
section
namespace Go.Proofs.YtdpapeledldifaaGreat
open Go Go.AM Go.TM
def Re3 (s0:List UInt8)(p:List UInt8×Int×Bool)(st:Option (List UInt8)):Prop :=
 p.1=s0∧0≤p.2.1∧p.2.1≤s0.length∧s0.length≤900∧(st=none→p.2.2=true)∧∀l,st=some l→p.2.2=false∧l=s0.drop p.2.1.toNat
def Re2 (p:List UInt8×Bool)(st:Option (List UInt8)):Prop :=
 p.1.length≤900∧(st=none→p.2=true)∧∀l,st=some l→p.2=false∧l=p.1
theorem wI {x:Int}(h1 : -9223372036854775808≤x)(h2:x≤9223372036854775807):IntKind.wrap .i64 x=x:=AM.wrapI h1 h2
theorem Re3.bad {s0:List UInt8}{p:List UInt8×Int×Bool}{st:Option (List UInt8)}(h:Re3 s0 p st):Re3 s0 (p.1,p.2.1,true) none:=⟨h.1,h.2.1,h.2.2.1,h.2.2.2.1,fun _=>rfl,fun _ h=>by cases h⟩
theorem Re2.bad {p:List UInt8×Bool}{st:Option (List UInt8)}(h:Re2 p st):Re2 (p.1,true) none:=⟨h.1,fun _=>rfl,fun _ h=>by cases h⟩
theorem s221 {s0:List UInt8}(s:List UInt8×Int×Bool)(st:Option (List UInt8))(h:Re3 s0 s st):Sm (Re3 s0) (F221 s) (st.bind g1):=by
 obtain⟨o0,o1,o2⟩:=s
 obtain⟨h1,h2,h3,h4,h5,h6⟩:=h
 simp only at h1 h2 h3 h5 h6
 subst h1
 cases st with
 | none =>
   have:=h5 rfl
   subst this
   refine⟨0,(o0,o1,true),rfl,⟨rfl,h2,h3,h4,fun _=>rfl,fun _ h=>by cases h⟩,fun _ _ h=>by cases h⟩
 | some l =>
   obtain⟨rfl,rfl⟩:=h6 l rfl
   simp only[F221,zAI,zAC,zAF]
   by_cases hl:(o0.length:Int)≤o1
   ·rw[if_pos hl]
    have:o0.drop o1.toNat=[]:=List.drop_eq_nil_of_le (by omega)
    refine⟨_,_,rfl,?_,?_⟩
    ·simp only[Option.bind_some,this,g1,Option.map_none]
     exact⟨rfl,h2,h3,h4,fun _=>rfl,fun _ h=>by cases h⟩
    ·intro v' l' hv
     simp[this,g1]at hv
   ·rw[if_neg hl]
    rw[wI (x:=o1+1) (by omega) (by omega),wI (x:=o1+1-1) (by omega) (by omega),show o1+1-1=o1 by omega]
    have hn:o1.toNat<o0.length:=by omega
    rw[zAX h2,zAN hn]
    have hr:=o0[o1.toNat].toNat_lt
    rw[wI (by omega) (by omega)]
    refine⟨_,_,rfl,?_,?_⟩
    ·simp only[Option.bind_some,zBX hn,g1,Option.map_some]
     refine⟨rfl,by simp only;omega,by simp only;omega,h4,(fun h=>by cases h),fun l h=>⟨rfl,?_⟩⟩
     simp only[zSe]at h
     rw[←h]
     simp only
     rw[show(o1+1).toNat=o1.toNat+1 by omega]
    ·intro v' l' hv
     simp only[Option.bind_some,zBX hn,g1,zSe,Prod.mk.injEq]at hv
     exact hv.1
theorem s222 {s0:List UInt8}(s:List UInt8×Int×Bool)(st:Option (List UInt8))(h:Re3 s0 s st):Sm (Re3 s0) (F222 s) (st.bind g2):=by
 have e:st.bind g2=(st.bind g1).bind fun p=>(g1 p.2).bind fun q=>some (p.1*256+q.1,q.2):=by cases st<;>rfl
 rw[e]
 refine Sm.bind (k':=fun a l=>(g1 l).bind fun q=>some (a*256+q.1,q.2)) (s221 s st h) fun v s1 st1 h1 e1=>?_
 have e:(st1.bind fun l=>(g1 l).bind fun q=>some (v*256+q.1,q.2))=(st1.bind g1).bind fun q=>some (v*256+q.1,q.2):=by cases st1<;>rfl
 rw[e]
 refine Sm.bind (k':=fun a l=>some (v*256+a,l)) (s221 s1 st1 h1) fun v2 s2 st2 h2 e2=>?_
 cases st2 with
 |none=>exact⟨_,_,rfl,h2,fun _ _ h=>by cases h⟩
 | some l2 =>
   have q2:=e2 l2 rfl
   cases st1 with
   |none=>cases q2
   | some l1 =>
     have q1:=e1 l1 rfl
     cases st with
     |none=>cases q1
     | some l =>
       have r1:=zDV (l:=l) q1
       have r2:=zDV (l:=l1) q2
       refine⟨_,_,rfl,h2,fun v' l' hv=>?_⟩
       simp only[Option.bind_some,zSe,Prod.mk.injEq]at hv
       rw[←hv.1]
       rw[wI (x:=v*256) (by omega) (by omega),wI (by omega) (by omega)]
theorem s219 {s0:List UInt8}(n:Int)(s:List UInt8×Int×Bool)(st:Option (List UInt8))(h:Re3 s0 s st)(hn:∀ l,st=some l→0≤n∧n≤65535):Sm (Re3 s0) (F219 (n,s)) (st.bind (gT n)):=by
 obtain⟨o0,o1,o2⟩:=s
 obtain⟨h1,h2,h3,h4,h5,h6⟩:=h
 simp only at h1 h2 h3 h5 h6
 subst h1
 cases st with
 | none =>
   have:=h5 rfl
   subst this
   refine⟨[],(o0,o1,true),rfl,⟨rfl,h2,h3,h4,fun _=>rfl,fun _ h=>by cases h⟩,fun _ _ h=>by cases h⟩
 | some l =>
   obtain⟨rfl,rfl⟩:=h6 l rfl
   obtain⟨n0,n1⟩:=hn _ rfl
   simp only[F219,zAI,zAC,zAF]
   rw[wI (x:=o1+n) (by omega) (by omega),wI (x:=o1+n-n) (by omega) (by omega),show o1+n-n=o1 by omega]
   by_cases hl:(o0.length:Int)<o1+n
   ·rw[if_pos hl]
    refine⟨_,_,rfl,?_,?_⟩
    ·have:¬n≤((o0.drop o1.toNat).length:Int):=by simp only[List.length_drop];omega
     simp only[Option.bind_some,gT,if_neg this,Option.map_none]
     exact⟨rfl,h2,h3,h4,fun _=>rfl,fun _ h=>by cases h⟩
    ·intro v' l' hv
     have:¬n≤((o0.drop o1.toNat).length:Int):=by simp only[List.length_drop];omega
     simp only[Option.bind_some,gT,if_neg this]at hv
     cases hv
   ·rw[if_neg hl]
    have hle:n≤((o0.drop o1.toNat).length:Int):=by simp only[List.length_drop];omega
    rw[zDF,zDF,zAX h2,zAX (by omega),zAX (by omega)]
    refine⟨_,_,rfl,?_,?_⟩
    ·simp only[Option.bind_some,gT,if_pos hle,Option.map_some]
     refine⟨rfl,by simp only;omega,by simp only;omega,h4,(fun h=>by cases h),fun l h=>⟨rfl,?_⟩⟩
     simp only[zSe]at h
     rw[←h,List.drop_drop]
     simp only
     rw[show(o1+n).toNat=o1.toNat+n.toNat by omega]
    ·intro v' l' hv
     simp only[Option.bind_some,gT,if_pos hle,zSe,Prod.mk.injEq]at hv
     rw[←hv.1,show(o1+n).toNat=o1.toNat+n.toNat by omega,List.drop_take]
     congr 1
     omega
theorem i57 (n:Int)(s:List UInt8×Bool)(st:Option (List UInt8))(h:Re2 s st)(hn:∀ l,st=some l→0≤n):Sm Re2 (F57 (n,s)) (st.bind (gT n)):=by
 obtain⟨o0,o1⟩:=s
 obtain⟨h4,h5,h6⟩:=h
 simp only at h4 h5 h6
 cases st with
 | none =>
   have:=h5 rfl
   subst this
   refine⟨[],(o0,true),rfl,⟨h4,fun _=>rfl,fun _ h=>by cases h⟩,fun _ _ h=>by cases h⟩
 | some l =>
   obtain⟨rfl,rfl⟩:=h6 l rfl
   have n0:=hn _ rfl
   simp only[F57,zAI,zAC,zAF]
   by_cases hl:(l.length:Int)<n
   ·rw[if_pos hl]
    refine⟨_,_,rfl,?_,?_⟩
    ·simp only[Option.bind_some,gT,if_neg (show ¬n≤(l.length:Int)by omega),Option.map_none]
     exact⟨h4,fun _=>rfl,fun _ h=>by cases h⟩
    ·intro v' l' hv
     simp only[Option.bind_some,gT,if_neg (show ¬n≤(l.length:Int)by omega)]at hv
     cases hv
   ·rw[if_neg hl]
    have hle:n≤(l.length:Int):=by omega
    rw[zDF,zAX n0,zAX hle,zDF,zDF,zAX n0,zAX hle,zAX (Int.le_refl _)]
    have et:List.take (Int.toNat (l.length:Int)) l=l:=by rw[show Int.toNat (l.length:Int)=l.length by omega,List.take_length]
    refine⟨_,_,rfl,?_,?_⟩
    ·simp only[Option.bind_some,gT,if_pos hle,Option.map_some]
     refine⟨by rw[et];simp only[List.length_drop];omega,(fun h=>by cases h),fun l' h=>⟨rfl,?_⟩⟩
     simp only[zSe]at h
     rw[←h,et]
    ·intro v' l' hv
     simp only[Option.bind_some,gT,if_pos hle,zSe,Prod.mk.injEq]at hv
     rw[←hv.1,List.drop_zero]
theorem i59 (s:List UInt8×Bool)(st:Option (List UInt8))(h:Re2 s st):Sm Re2 (F59 s) (st.bind g1):=by
 obtain⟨v,s1,e1,e2,e3⟩:=i57 1 s st h fun _ _=>by omega
 obtain⟨o0,o1⟩:=s
 obtain⟨p0,p1⟩:=s1
 simp only[F59]
 rw[e1,zAB]
 simp only
 cases st with
 | none =>
   have:=e2.2.1 rfl
   simp only at this
   subst this
   exact⟨_,_,rfl,e2,fun _ _ h=>by cases h⟩
 | some l =>
   cases l with
   | nil =>
     have hb:=e2.2.1 (by simp[gT])
     simp only at hb
     subst hb
     refine⟨_,_,rfl,?_,fun _ _ h=>by simp[g1]at h⟩
     simpa[gT,g1]using e2
   | cons x l =>
     have hg:(some (x::l)).bind (gT 1)=some ([x],l):=by simp[gT];omega
     rw[hg]at e2 e3
     have:=e3 _ _ rfl
     subst this
     have hb:=(e2.2.2 l rfl).1
     simp only at hb
     subst hb
     have hr:=x.toNat_lt
     simp only[zAI,atO,List.getElem?_cons_zero,Int.toNat_zero]
     rw[wI (by omega) (by omega)]
     exact⟨_,_,rfl,e2,fun v' l' hv=>by simp only[Option.bind_some,g1,zSe,Prod.mk.injEq]at hv;exact hv.1⟩
theorem i61 (s:List UInt8×Bool)(st:Option (List UInt8))(h:Re2 s st):Sm Re2 (F61 s) (st.bind g2):=by
 have e:st.bind g2=(st.bind g1).bind fun p=>(g1 p.2).bind fun q=>some (p.1*256+q.1,q.2):=by cases st<;>rfl
 rw[e]
 refine Sm.bind (k':=fun a l=>(g1 l).bind fun q=>some (a*256+q.1,q.2)) (i59 s st h) fun v s1 st1 h1 e1=>?_
 have e:(st1.bind fun l=>(g1 l).bind fun q=>some (v*256+q.1,q.2))=(st1.bind g1).bind fun q=>some (v*256+q.1,q.2):=by cases st1<;>rfl
 rw[e]
 refine Sm.bind (k':=fun a l=>some (v*256+a,l)) (i59 s1 st1 h1) fun v2 s2 st2 h2 e2=>?_
 cases st2 with
 |none=>exact⟨_,_,rfl,h2,fun _ _ h=>by cases h⟩
 | some l2 =>
   have q2:=e2 l2 rfl
   cases st1 with
   |none=>cases q2
   | some l1 =>
     have q1:=e1 l1 rfl
     cases st with
     |none=>cases q1
     | some l =>
       have r1:=zDV (l:=l) q1
       have r2:=zDV (l:=l1) q2
       refine⟨_,_,rfl,h2,fun v' l' hv=>?_⟩
       simp only[Option.bind_some,zSe,Prod.mk.injEq]at hv
       rw[←hv.1]
       rw[wI (x:=256*v) (by omega) (by omega),wI (by omega) (by omega)]
       omega
end Go.Proofs.YtdpapeledldifaaGreat
end
section
namespace Go.TM
open Go.AM
section
variable {σ α β R Y:Type}
theorem zAx {r:Option α}{k:α→Option (Y⊕R)}{k2:Y→Option R}:bindE (zAA r k) k2=zAA r fun x=>bindE (k x) k2:=by cases r<;>rfl
theorem zCV {c:Prop}[Decidable c](A B:Y)(k:Y→Option R):bindE (cndO (decide c) (some (.inl A)) (some (.inl B))) k=k (if c then A else B):=by by_cases h:c<;>simp[h]
variable {Re:σ→Option (List UInt8)→Prop}
theorem Sm.step {F:Option (α×σ)}{g:List UInt8→Option (α×List UInt8)}{st:Option (List UInt8)}{k:α×σ→Option (β×σ)}{k':α→List UInt8→Option (β×List UInt8)}
  (hF:Sm Re F (st.bind g)) (hk:∀v s' st',Re s' st'→(∀l',st'=some l'→∃l,st=some l∧g l=some (v,l'))→Sm Re (k (v,s')) (st'.bind (k' v))) :
  Sm Re (zAA F k) (st.bind fun l=>(g l).bind fun p=>k' p.1 p.2):=by
 have e:(st.bind fun l=>(g l).bind fun p=>k' p.1 p.2)=(st.bind g).bind fun p=>k' p.1 p.2:=by cases st<;>rfl
 rw[e]
 refine Sm.bind hF fun v s' st' h1 h2=>hk v s' st' h1 fun l' hl=>?_
 have:=h2 l' hl
 cases st with
 |none=>cases this
 |some l=>exact⟨l,rfl,this⟩
theorem zBB {c:Prop}[Decidable c](st:Option (List UInt8))(M:List UInt8→Option (β×List UInt8)):(st.bind fun l=>if c then none else M l)=(if c then none else st).bind M:=by
 by_cases h:c<;>cases st<;>simp[h]
theorem zKS {X Y:Type}{f:X→Option (X⊕Y)}(mk:List β→Nat→σ→X)(fin:List β→σ→Y)(n:Nat)(g:List UInt8→Option (β×List UInt8))(s:σ)(st:Option (List UInt8))(h:Re s st)
  (hbad:∀out i s,Re s none→f (mk out i s)=some (.inr (fin out s)))
  (hg:∀l,st=some l→(∀out s l,Re s (some l)→f (mk out n s)=some (.inr (fin out s))) ∧
   ∀out i s l,i<n→out.length=i→Re s (some l)→∃v s',f (mk out i s)=some (.inl (mk (out++[v]) (i+1) s'))∧Re s' ((g l).map (·.2))∧∀v' l',g l=some (v',l')→v=v') :
   ∃out' s',zAG f (mk [] 0 s)=some (fin out' s')∧Re s' ((st.bind (gRep g n)).map (·.2))∧∀vs l',st.bind (gRep g n)=some (vs,l')→out'=vs:=by
 cases st with
 | none =>
   rw[zAf,hbad [] 0 s h]
   exact⟨[],s,rfl,h,fun _ _ h=>by cases h⟩
 | some l =>
   obtain⟨h1,h2⟩:=hg l rfl
   obtain⟨o,s',q1,q2,q3⟩:=loop_sim mk fin n g (fun out i s _ h=>hbad out i s h) h1 h2 [] 0 s (some l) (Nat.zero_le _) (fun _ _=>rfl) h
   exact⟨o,s',q1,q2,fun vs l' h=>by simpa using q3 vs l' h⟩
theorem Sm.loop {X Y γ:Type}{f:X→Option (X⊕(Y⊕(γ×σ)))}(mk:List β→Nat→σ→X)(fin:List β→σ→Y)(n:Nat)(g:List UInt8→Option (β×List UInt8)){s:σ}{st:Option (List UInt8)}(h:Re s st)
  {k:Y→Option (γ×σ)} {k':List β→List UInt8→Option (γ×List UInt8)} {x0:X} (hx:x0=mk [] 0 s)
  (hbad:∀out i s,Re s none→f (mk out i s)=some (.inr (.inl (fin out s))))
  (hg:∀l,st=some l→(∀out s l,Re s (some l)→f (mk out n s)=some (.inr (.inl (fin out s)))) ∧
   ∀out i s l,i<n→out.length=i→Re s (some l)→∃v s',f (mk out i s)=some (.inl (mk (out++[v]) (i+1) s'))∧Re s' ((g l).map (·.2))∧∀v' l',g l=some (v',l')→v=v')
  (hk:∀out s' st',Re s' st'→Sm Re (k (fin out s')) (st'.bind (k' out))) :
  Sm Re (bindE (zAG f x0) k) (st.bind fun l=>(gRep g n l).bind fun p=>k' p.1 p.2):=by
 obtain⟨o,s',q1,q2,q3⟩:=zKS mk (fun out s=>(.inl (fin out s):Y⊕(γ×σ))) n g s st h hbad hg
 rw[hx,q1,zAC]
 have:=hk o s' _ q2
 have e:(st.bind fun l=>(gRep g n l).bind fun p=>k' p.1 p.2)=(st.bind (gRep g n)).bind fun p=>k' p.1 p.2:=by cases st<;>rfl
 rw[e]
 cases hm:st.bind (gRep g n)with
 |none=>rw[hm]at this;exact this
 | some p =>
   rw[hm]at this
   rw[q3 p.1 p.2 hm]at this ⊢
   exact this
theorem Sm.one {X Y:Type}{r:Option (β×σ)}{m:Option (β×List UInt8)}{q:Option (X⊕Y)}{mk:β→σ→X}(h:Sm Re r m)(hq:∀ v s,r=some (v,s)→q=some (.inl (mk v s))) :
  ∃v s',q=some (.inl (mk v s'))∧Re s' (m.map (·.2))∧∀v' l',m=some (v',l')→v=v':=by
 obtain⟨v,s,h1,h2,h3⟩:=h
 exact⟨v,s,hq v s h1,h2,h3⟩
end
end Go.TM
namespace Go.Proofs.YtdpapeledldifaaGreat
open Go Go.AM Go.TM
theorem Re3.cut {s0 a:List UInt8}{b:Int}{t:Bool}{st:Option (List UInt8)}(c:Prop)[Decidable c](h:Re3 s0 (a,b,t) st):Re3 s0 (a,b,if c then true else t) (if c then none else st):=by
 by_cases hc:c
 ·simp only[if_pos hc];exact h.bad
 ·simp only[if_neg hc];exact h
def gEnt (t:Int)(l:List UInt8):Option (Cst×List UInt8) :=
 if t=1 then(g1 l).bind fun p=>(gT p.1 p.2).bind fun q=>some ((1,q.1,0,0),q.2)
 else if t=2 then(g2 l).bind fun p=>some ((2,[],p.1,0),p.2)
 else if t=3∨t=4∨t=5∨t=6 then(g2 l).bind fun p=>(g2 p.2).bind fun q=>some ((t,[],p.1,q.1),q.2)
 else none
def zCz (l:List UInt8):Option (Cst×List UInt8):=(g1 l).bind fun p=>gEnt p.1 p.2
theorem s280 {s0:List UInt8}(s:List UInt8×Int×Bool)(st:Option (List UInt8))(h:Re3 s0 s st):Sm (Re3 s0) (F280 s) (st.bind zCz):=by
 obtain⟨o0,o1,o2⟩:=s
 simp only[F280]
 refine Sm.step (s221 _ st h) (k':=gEnt) fun v ⟨a,b,c⟩ st1 h1 e1=>?_
 simp only[zAF,zAq]
 by_cases t1:v=1
 ·subst t1
  simp only[gEnt,if_true,zAx,zAC]
  refine Sm.step (s221 _ st1 h1) (k':=fun n l=>(gT n l).bind fun q=>some ((1,q.1,0,0),q.2)) fun n ⟨a2,b2,c2⟩ st2 h2 e2=>?_
  simp only[zAx,zAC]
  refine Sm.step (s219 n _ st2 h2 fun l hl=>?_) (k':=fun q l=>some ((1,q,0,0),l)) fun n ⟨a3,b3,c3⟩ st3 h3 e3=>Sm.ret h3 _
  obtain⟨_,_,hg⟩:=e2 l hl
  have:=zDV hg
  omega
 ·by_cases t2:v=2
  ·subst t2
   simp only[gEnt,t1,if_false,if_true,zAx,zAC]
   exact Sm.step (s222 _ st1 h1) (k':=fun n l=>some ((2,[],n,0),l)) fun n ⟨a2,b2,c2⟩ st2 h2 e2=>Sm.ret h2 _
  ·by_cases t3:v=3∨v=4∨v=5∨v=6
   ·have two:Sm (Re3 s0) (zAA (F222 (a,b,c)) fun x=>match x with
      | (y4,y5,y6,y7)=>zAA (F222 (y5,y6,y7)) fun x=>match x with
        |(y8,y9,y10,y11)=>some ((v,([]:List UInt8),y4,y8),y9,y10,y11)) (st1.bind fun l=>(g2 l).bind fun p=>(g2 p.2).bind fun q=>some ((v,[],p.1,q.1),q.2)) :=
     Sm.step (s222 _ st1 h1) (k':=fun n l=>(g2 l).bind fun q=>some ((v,[],n,q.1),q.2)) fun n ⟨a2,b2,c2⟩ st2 h2 e2 =>
      Sm.step (s222 _ st2 h2) (k':=fun q l=>some ((v,[],n,q),l)) fun n ⟨a3,b3,c3⟩ st3 h3 e3=>Sm.ret h3 _
    rcases t3 with rfl|rfl|rfl|rfl <;>
    ·simp only[gEnt,Int.reduceEq,↓reduceIte,zAx,zAC,zAJ,decide_true,or_true,true_or]
     exact two
   ·have h3:¬v=3:=fun h=>t3 (.inl h)
    have h4:¬v=4:=fun h=>t3 (.inr (.inl h))
    have h5:¬v=5:=fun h=>t3 (.inr (.inr (.inl h)))
    have h6:¬v=6:=fun h=>t3 (.inr (.inr (.inr h)))
    simp only[t1,t2,h3,h4,h5,h6,↓reduceIte,zAC,zAI,decide_false]
    refine⟨_,_,rfl,?_,?_⟩
    ·cases st1<;>simp only[Option.bind_none,Option.bind_some,gEnt,t1,t2,h3,h4,h5,h6,↓reduceIte,or_false]<;>exact h1.bad
    ·intro _ _ h;cases st1<;>simp only[Option.bind_none,Option.bind_some,gEnt,t1,t2,h3,h4,h5,h6,↓reduceIte,or_false]at h<;>cases h
theorem i60 (s:List UInt8×Bool)(st:Option (List UInt8))(h:Re2 s st):Sm Re2 (F60 s) (st.bind zCz):=by
 obtain⟨o0,o1⟩:=s
 simp only[F60]
 refine Sm.step (i59 _ st h) (k':=gEnt) fun v ⟨a,c⟩ st1 h1 e1=>?_
 simp only[zAF,zAq]
 by_cases t1:v=1
 ·subst t1
  simp only[gEnt,if_true,zAx,zAC]
  refine Sm.step (i59 _ st1 h1) (k':=fun n l=>(gT n l).bind fun q=>some ((1,q.1,0,0),q.2)) fun n ⟨a2,c2⟩ st2 h2 e2=>?_
  simp only[zAx,zAC]
  refine Sm.step (i57 n _ st2 h2 fun l hl=>?_) (k':=fun q l=>some ((1,q,0,0),l)) fun n ⟨a3,c3⟩ st3 h3 e3=>Sm.ret h3 _
  obtain⟨_,_,hg⟩:=e2 l hl
  have:=zDV hg
  omega
 ·by_cases t2:v=2
  ·subst t2
   simp only[gEnt,t1,if_false,if_true,zAx,zAC]
   exact Sm.step (i61 _ st1 h1) (k':=fun n l=>some ((2,[],n,0),l)) fun n ⟨a2,c2⟩ st2 h2 e2=>Sm.ret h2 _
  ·by_cases t3:v=3∨v=4∨v=5∨v=6
   ·have two:Sm Re2 (zAA (F61 (a,c)) fun x=>match x with
      | (y4,y5,y7)=>zAA (F61 (y5,y7)) fun x=>match x with
        |(y8,y9,y11)=>some ((v,([]:List UInt8),y4,y8),y9,y11)) (st1.bind fun l=>(g2 l).bind fun p=>(g2 p.2).bind fun q=>some ((v,[],p.1,q.1),q.2)) :=
     Sm.step (i61 _ st1 h1) (k':=fun n l=>(g2 l).bind fun q=>some ((v,[],n,q.1),q.2)) fun n ⟨a2,c2⟩ st2 h2 e2 =>
      Sm.step (i61 _ st2 h2) (k':=fun q l=>some ((v,[],n,q),l)) fun n ⟨a3,c3⟩ st3 h3 e3=>Sm.ret h3 _
    rcases t3 with rfl|rfl|rfl|rfl <;>
    ·simp only[gEnt,Int.reduceEq,↓reduceIte,zAx,zAC,zAJ,decide_true,or_true,true_or]
     exact two
   ·have h3:¬v=3:=fun h=>t3 (.inl h)
    have h4:¬v=4:=fun h=>t3 (.inr (.inl h))
    have h5:¬v=5:=fun h=>t3 (.inr (.inr (.inl h)))
    have h6:¬v=6:=fun h=>t3 (.inr (.inr (.inr h)))
    simp only[t1,t2,h3,h4,h5,h6,↓reduceIte,zAC,zAI,decide_false]
    refine⟨_,_,rfl,?_,?_⟩
    ·cases st1<;>simp only[Option.bind_none,Option.bind_some,gEnt,t1,t2,h3,h4,h5,h6,↓reduceIte,or_false]<;>exact h1.bad
    ·intro _ _ h;cases st1<;>simp only[Option.bind_none,Option.bind_some,gEnt,t1,t2,h3,h4,h5,h6,↓reduceIte,or_false]at h<;>cases h
def zBp {β:Type}(most:Int)(g:List UInt8→Option (β×List UInt8))(l:List UInt8):Option (List β×List UInt8) :=
 (g1 l).bind fun p=>if most<p.1 then none else gRep g p.1.toNat p.2
theorem s220 {s0:List UInt8}(s:List UInt8×Int×Bool)(st:Option (List UInt8))(h:Re3 s0 s st):Sm (Re3 s0) (F220 s) (st.bind (zBp 60 zCz)):=by
 obtain⟨o0,o1,o2⟩:=s
 simp only[F220]
 refine Sm.step (s221 _ st h) (k':=fun n l=>if 60<n then none else gRep zCz n.toNat l) fun v ⟨a,b,c⟩ st1 h1 e1=>?_
 simp only[zCV]
 rw[show(if(60:Int)<v then(([]:List Cst),v,a,b,true)else([],v,a,b,c))=([],v,a,b,if 60<v then true else c)by split<;>rfl]
 simp only
 rw[zBB]
 have h2:=h1.cut (60<v)
 have e:((if 60<v then none else st1).bind fun l=>gRep zCz v.toNat l)=(if 60<v then none else st1).bind fun l=>(gRep zCz v.toNat l).bind fun p=>some (p.1,p.2):=by
  congr 1;funext l;cases gRep zCz v.toNat l<;>rfl
 rw[e]
 refine Sm.loop (fun out i s=>(out,v,(i:Int),s)) (fun out s=>(out,s)) v.toNat zCz h2 (k':=fun p l=>some (p,l)) rfl ?_ ?_ ?_
 ·intro out i ⟨a,b,c⟩ hs
  have:=hs.2.2.2.2.1 rfl
  simp only at this
  subst this
  by_cases hi:(i:Int)<v<;>simp only[hi,decide_true,decide_false,zAJ,zAI,Bool.not_true,zAH]
 ·intro l hl
  have hv:0≤v∧v≤60:=by
   split at hl
   ·cases hl
   ·obtain⟨_,_,hg⟩:=e1 l hl
    have:=zDV hg
    omega
  refine⟨fun out ⟨a,b,c⟩ l hs=>?_,fun out i ⟨a,b,c⟩ l hi ho hs=>?_⟩
  ·have hi:¬((v.toNat:Int)<v):=by omega
   simp only[hi,decide_false,zAI,zAH]
  ·have hi':(i:Int)<v:=by omega
   have hc:=(hs.2.2.2.2.2 l rfl).1
   simp only at hc
   subst hc
   obtain⟨w,⟨a2,b2,c2⟩,r1,r2,r3⟩:=s280 (a,b,false) (some l) hs
   simp only[hi',decide_true,zAJ,Bool.not_false,zAC,r1,zAB]
   rw[zDF,zAX (by omega),zAX (by omega),wI (by omega) (by omega)]
   exact⟨w,_,rfl,r2,r3⟩
 ·intro out ⟨a,b,c⟩ st' hs
  exact Sm.ret hs _
end Go.Proofs.YtdpapeledldifaaGreat
end
