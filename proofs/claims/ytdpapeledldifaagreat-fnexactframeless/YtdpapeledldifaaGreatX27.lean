/- Part 28 of the proof that the law FnExactFrameLess holds of every input; no condition. -/
import Derived.Test.YtdpapeledldifaaGreatX26
set_option autoImplicit true
set_option relaxedAutoImplicit true
set_option linter.all false
noncomputable section
namespace Go.Proofs.YtdpapeledldifaaGreat
open Go Go.AM Go.TM
open Go.Proofs.Tryz
open Sum (inl inr)
set_option maxRecDepth 100000
set_option maxHeartbeats 4000000
abbrev ti53:SPat:=⟨[(0,.sl tg27),(1,.i .i64)],[]⟩
abbrev to53:SPat:=⟨[(4,.b)],[]⟩
abbrev zOU:SPat:=⟨[(5,.ptr 5 0),(9,.s)],[.box 5 (pl [.i .i64,.s,.i .i64,.i .i64])]⟩
def tv53:Nat→Option SPat:=fun k=>bif k==1000013 then some zOU else none
def F53:List Cst×Int→Option (Bool):=fun(app,v1) =>
 grdO (decide (0≤v1)) (atO (app) v1.toNat fun x=>cndO (decide (x.1=1))
 (cndO (decide (x.2.2.1=0))
 (cndO (decide (x.2.2.2=0))
 (zAA (F127 (x.2.1)) fun y =>
 cndO (y)
 (some (true))
 (zAA (F128 (x.2.1)) fun y1 =>
 cndO (y1)
 (some (true))
 (zAA (F129 (x.2.1)) fun y2 =>
 some (y2))))
 (some (false)))
 (some (false)))
 (cndO (decide (x.1=2))
 (cndO (decide (x.2.1=[]))
 (cndO (decide (x.2.2.2=0))
 (zAA (F130 (app,IntKind.wrap .i64 (v1+1))) fun y =>
 some (!decide (y=[])))
 (some (false)))
 (some (false)))
 (cndO (decide (x.1=3))
 (zAA (F131 (app,x.2.2.2)) fun y =>
 cndO (decide (x.2.1=[]))
 (zAA (F131 (app,x.2.2.1)) fun y1 =>
 zAA (F127 y1) fun y2 =>
 cndO (y2)
 (zAA (F128 y) fun y3 =>
 cndO (y3)
 (some (true))
 (zAA (F129 y) fun y4 =>
 some (y4)))
 (some (false)))
 (some (false)))
 (zAA (F132 (app,IntKind.wrap .i64 (v1+1))) fun(y,y1,y2) =>
 bindE (Y:=List UInt8×Cst) (zAA (F107 (x.1,(4:Int),(6:Int))) fun y3 =>
 cndO (!y3)
 (some (inr false))
 (cndO (!decide (x.2.1=[]))
 (some (inr false))
 (zAA (F130 (app,x.2.2.1)) fun y4 =>
 cndO (decide (y4=[]))
 (some (inr false))
 (zAA (F133 (app,x.2.2.2,(3:Int))) fun y5 =>
 cndO (!y5)
 (some (inr false))
 (some (inl (y2,x.1,x.2.1,x.2.2.1,x.2.2.2))))))) fun(v9,o0,o1,o2,o3) =>
 cndO (decide (o0=4))
 (zAA (F128 v9) fun y3 =>
 some (y3))
 (zAA (F129 v9) fun y3 =>
 some (y3))))))
def tb53:=insT 53 (mkE 53 true [] ti53 to53 F53 [.tmp 4] 120 []) tb133
theorem ok53:TbOk Tryz.prog tb53:=okI ok133 noPl tv53 func53 rfl call53
abbrev ti15:SPat:=⟨[(0,.sl tg27)],[]⟩
abbrev to15:SPat:=⟨[(2,.i .i64)],[]⟩
abbrev ts15_2:SPat:=⟨[(0,.sl tg27),(3,.i .i64)],[]⟩
abbrev zOv:SPat:=⟨[(0,.sl tg27),(3,.i .i64)],[]⟩
abbrev zOu:SPat:=⟨[(0,.sl tg27)],[]⟩
def tv15:Nat→Option SPat:=fun k=>bif k==2 then some ts15_2 else bif k==1000004 then some zOv else bif k==2000000 then some zOu else none
def F15:List Cst→Option (Int):=fun pool =>
 bindE (Y:=List Cst) (zAD (fun(pool1,i) =>
 bindE (Y:=List Cst×Int) (cndO (decide (i<(pool1.length:Int)))
 (cndO (decide (i<60))
 (some (inl (pool1,i)))
 (some (inr (inr (inl pool1)))))
 (some (inr (inr (inl pool1))))) fun(pool2,i1) =>
 zAA (F53 (pool2,i1)) fun y =>
 cndO (!y)
 (some (inr (inr (IntKind.wrap .i64 (i1+1)))))
 (some (inl (pool2,IntKind.wrap .i64 (i1+1))))) ((pool,(0:Int)))) fun pool1 =>
 cndO (decide (60<(pool1.length:Int)))
 (some ((61:Int)))
 (some ((0:Int)))
def tb15:=insT 15 (mkE 15 true [] ti15 to15 F15 [.tmp 2] 23 []) tb53
theorem ok15:TbOk Tryz.prog tb15:=okI ok53 noPl tv15 func15 rfl call15
abbrev ti108:SPat:=⟨[(0,.i .i64),(1,.i .i64)],[]⟩
abbrev to108:SPat:=⟨[(4,.b)],[]⟩
def F108:Int×Int→Option (Bool):=fun(flags,one_) =>
 grdO (!decide (one_=0)) (some (decide (Int.tmod (IntKind.wrap .i64 (Int.tdiv flags one_)) (2:Int)=1)))
def tb108:=insT 108 (mkE 108 true [] ti108 to108 F108 [.tmp 4] 10 []) tb15
theorem ok108:TbOk Tryz.prog tb108:=okI ok15 noPl noIv func108 rfl call108
abbrev ti175:SPat:=⟨[(0,.agg (pl plC))],[]⟩
abbrev to175:SPat:=⟨[(2,.b)],[]⟩
abbrev ts175_5:SPat:=⟨[(1,.ptr 1 0),(3,.s),(4,.i .i64)],[.box 1 (pl plC)]⟩
abbrev ts175_10:SPat:=⟨[(1,.ptr 1 0),(3,.s),(4,.i .i64),(5,.i .i64)],[.box 1 (pl plC)]⟩
abbrev zLT:SPat:=⟨[(1,.ptr 1 0),(3,.s)],[.box 1 (pl plC)]⟩
abbrev zLS:SPat:=⟨[(1,.ptr 1 0),(3,.s)],[.box 1 (pl plC)]⟩
abbrev zLR:SPat:=⟨[(1,.ptr 1 0),(3,.s)],[.box 1 (pl plC)]⟩
abbrev zLQ:SPat:=⟨[(1,.ptr 1 0),(3,.s),(4,.i .i64)],[.box 1 (pl plC)]⟩
abbrev zLP:SPat:=⟨[(1,.ptr 1 0),(3,.s),(4,.i .i64)],[.box 1 (pl plC)]⟩
def tv175:Nat→Option SPat:=fun k=>bif k==5 then some ts175_5 else bif k==10 then some ts175_10 else bif k==1000004 then some zLT else bif k==1000016 then some zLS else bif k==2000000 then some zLR else bif k==2000001 then some zLQ else bif k==2000002 then some zLP else none
def tp175:Nat→List Nat×Plan:=fun id=>bif id==7 then([0,1,2,3,4,5,6],(.br 7 [6,5,4,3,2,1,0] [] [8] .fin .fin))else bif id==12 then([0,1,2,3,4,5,6,8,9,10,11,12,13,14],(.br 7 [6,5,4,3,2,1,0] [8,9,10,11,12,13,14] [] (.br 15 [14,13,12,11,10,9,8,7,6,5,4,3,2,1,0] [] [16] .fin .fin) .fin))else([],.fin)
def F175:Cls→Option (Bool):=fun(app0,app1,app2,app3,app4,app5,app6) =>
 zAA (F130 (app0,app3)) fun y =>
 bindE (Y:=List UInt8×Cls) (zAA (F130 (app0,app2)) fun y1 =>
 cndO (decide (y1=[]))
 (some (inr false))
 (cndO (decide (y=[]))
 (some (inr false))
 (zAA (F130 (app0,app2)) fun y2 =>
 cndO (decide (y=y2))
 (some (inr false))
 (zAA (F107 (app1,(0:Int),(7:Int))) fun y3 =>
 cndO (!y3)
 (some (inr false))
 (some (inl (y,app0,app1,app2,app3,app4,app5,app6))))))) fun(v3,o0,o1,o2,o3,o4,o5,o6) =>
 bindE (Y:=List UInt8×Cls) (zAD (fun(v31,v4,o01,o11,o21,o31,o41,o51,o61) =>
 cndO (decide (v4<(o41.length:Int)))
 (bindE (Y:=List UInt8×Int×Cls) (grdO (decide (0≤v4)) (atO (o41) v4.toNat fun x=>zAA (F130 (o01,x)) fun y1 =>
 cndO (decide (y1=[]))
 (some (inr (inr (inr false))))
 (bindE (Y:=List UInt8×Int×Cls) (zAD (fun(v32,v41,v5,o02,o12,o22,o32,o42,o52,o62) =>
 cndO (decide (v5<v41))
 (grdO (decide (0≤v5)) (atO (o42) v5.toNat fun x1=>grdO (decide (0≤v41)) (atO (o42) v41.toNat fun x2=>zAA (F130 (o02,x1)) fun y2 =>
 seqU (seqU (grdO (decide (o02=o02)) (some ())) (seqU (grdO (decide (o42=o42)) (some ())) (seqU (grdO (decide (v41=v41)) (some ())) (seqU (grdO (decide (0≤v41)) (atO (o42) v41.toNat fun x3=>grdO (decide (x3=x2)&&true) (some ()))) (seqU (grdO (decide (x2=x2)) (some ())) (some ())))))) (zAA (F130 (o02,x2)) fun y3 =>
 cndO (decide (y2=y3))
 (some (inr (inr (inr (inr (inr false))))))
 (some (inl (v32,v41,IntKind.wrap .i64 (v5+1),o02,o12,o22,o32,o42,o52,o62)))))))
 (some (inr (inl (v32,v41,o02,o12,o22,o32,o42,o52,o62))))) ((v31,v4,(0:Int),o01,o11,o21,o31,o41,o51,o61))) fun(v32,v41,o02,o12,o22,o32,o42,o52,o62) =>
 some (inl (v32,v41,o02,o12,o22,o32,o42,o52,o62))))) fun(v32,v41,o02,o12,o22,o32,o42,o52,o62) =>
 some (inl (v32,IntKind.wrap .i64 (v41+1),o02,o12,o22,o32,o42,o52,o62)))
 (some (inr (inl (v31,o01,o11,o21,o31,o41,o51,o61))))) ((v3,(0:Int),o0,o1,o2,o3,o4,o5,o6))) fun(v31,o01,o11,o21,o31,o41,o51,o61) =>
 bindE (Y:=List UInt8×Cls) (zAA (F108 (o11,(2:Int))) fun y1 =>
 cndO (y1)
 (zAA (F108 (o11,(4:Int))) fun y2 =>
 cndO (y2)
 (some (inr false))
 (some (inl (v31,o01,o11,o21,o31,o41,o51,o61))))
 (some (inl (v31,o01,o11,o21,o31,o41,o51,o61)))) fun(v32,o02,o12,o22,o32,o42,o52,o62) =>
 zAA (F108 (o12,(1:Int))) fun y1 =>
 cndO (!y1)
 (some (true))
 (zAA (F108 (o12,(4:Int))) fun y2 =>
 cndO (y2)
 (some (decide (v32=[(79:UInt8),98,106])))
 (some (false)))
def tb175:=insT 175 (mkE 175 true [] ti175 to175 F175 [.tmp 2] 95 []) tb108
theorem ok175:TbOk Tryz.prog tb175:=okI ok108 tp175 tv175 func175 rfl call175
abbrev ti176:SPat:=⟨[(0,.agg (pl plC))],[]⟩
abbrev to176:SPat:=⟨[(2,.b)],[]⟩
abbrev ts176_2:SPat:=⟨[(1,.ptr 1 0),(3,.i .i64)],[.box 1 (pl plC)]⟩
abbrev ts176_10:SPat:=⟨[(1,.ptr 1 0),(3,.i .i64),(4,.ptr 4 0),(5,.i .i64)],[.box 1 (pl plC),.box 4 (pl [.i .i64,.i .i64,.i .i64])]⟩
abbrev zLO:SPat:=⟨[(1,.ptr 1 0),(3,.i .i64),(4,.ptr 4 0)],[.box 1 (pl plC),.box 4 (pl [.i .i64,.i .i64,.i .i64])]⟩
abbrev zLN:SPat:=⟨[(1,.ptr 1 0),(3,.i .i64),(4,.ptr 4 0)],[.box 1 (pl plC),.box 4 (pl [.i .i64,.i .i64,.i .i64])]⟩
abbrev zLM:SPat:=⟨[],[]⟩
abbrev zLL:SPat:=⟨[(1,.ptr 1 0),(3,.i .i64)],[.box 1 (pl plC)]⟩
abbrev zLK:SPat:=⟨[(1,.ptr 1 0),(3,.i .i64)],[.box 1 (pl plC)]⟩
def tv176:Nat→Option SPat:=fun k=>bif k==2 then some ts176_2 else bif k==10 then some ts176_10 else bif k==1000007 then some zLO else bif k==1000009 then some zLN else bif k==2000000 then some zLM else bif k==2000001 then some zLL else bif k==2000002 then some zLK else none
def tp176:Nat→List Nat×Plan:=fun id=>bif id==12 then([0,1,2,3,4,5,6,7,9,10,11,12],(.br 8 [7,6,5,4,3,2,1,0] [9,10,11,12] [] (.br 13 [12,11,10,9,8,7,6,5,4,3,2,1,0] [] [14] .fin .fin) .fin))else([],.fin)
def F176:Cls→Option (Bool):=fun(app0,app1,app2,app3,app4,app5,app6) =>
 bindE (zAD (fun(v3,o0,o1,o2,o3,o4,o5,o6) =>
 cndO (decide (v3<(o5.length:Int)))
 (bindE (Y:=Int×Cls) (grdO (decide (0≤v3)) (atO (o5) v3.toNat fun x=>bindE (Y:=Int×(Cls)×Int×Int×Int) (zAA (F131 (o0,x.2.1)) fun y =>
 zAA (F127 y) fun y1 =>
 cndO (!y1)
 (some (inr (inr (inr (inr false)))))
 (zAA (F131 (o0,x.2.2)) fun y2 =>
 zAA (F128 y2) fun y3 =>
 cndO (!y3)
 (some (inr (inr (inr (inr false)))))
 (zAA (F107 (x.1,(0:Int),(3:Int))) fun y4 =>
 cndO (!y4)
 (some (inr (inr (inr (inr false)))))
 (some (inl (v3,(o0,o1,o2,o3,o4,o5,o6),x.1,x.2.1,x.2.2)))))) fun(v31,(o01,o11,o21,o31,o41,o51,o61),o02,o12,o22) =>
 bindE (Y:=Int×(Cls)×Int×Int×Int) (zAA (F108 (o11,(1:Int))) fun y =>
 cndO (y)
 (cndO (!decide (o02=1))
 (some (inr (inr (inr (inr false)))))
 (some (inl (v31,(o01,o11,o21,o31,o41,o51,o61),o02,o12,o22))))
 (some (inl (v31,(o01,o11,o21,o31,o41,o51,o61),o02,o12,o22)))) fun(v32,(o03,o13,o23,o32,o42,o52,o62),o04,o14,o24) =>
 bindE (Y:=Int×Cls) (zAD (fun(v33,v5,(o05,o15,o25,o33,o43,o53,o63),o06,o16,o26) =>
 cndO (decide (v5<v33))
 (grdO (decide (0≤v5)) (atO (o53) v5.toNat fun x1=>zAA (F131 (o05,x1.2.1)) fun y =>
 seqU (seqU (grdO (decide (o05=o05)) (some ())) (seqU (grdO (decide (o16=o16)) (some ())) (some ()))) (zAA (F131 (o05,o16)) fun y1 =>
 cndO (decide (y=y1))
 (some (inr (inr (inr (inr (inr false))))))
 (some (inl (v33,IntKind.wrap .i64 (v5+1),(o05,o15,o25,o33,o43,o53,o63),o06,o16,o26))))))
 (some (inr (inl (v33,o05,o15,o25,o33,o43,o53,o63))))) ((v32,(0:Int),(o03,o13,o23,o32,o42,o52,o62),o04,o14,o24))) fun(v33,o05,o15,o25,o33,o43,o53,o63) =>
 some (inl (v33,o05,o15,o25,o33,o43,o53,o63)))) fun(v31,o01,o11,o21,o31,o41,o51,o61) =>
 some (inl (IntKind.wrap .i64 (v31+1),o01,o11,o21,o31,o41,o51,o61)))
 (some (inr (inl ())))) (((0:Int),app0,app1,app2,app3,app4,app5,app6))) fun _ =>
 some (true)
def tb176:=insT 176 (mkE 176 true [] ti176 to176 F176 [.tmp 2] 68 []) tb175
theorem ok176:TbOk Tryz.prog tb176:=okI ok175 tp176 tv176 func176 rfl call176
abbrev ti244:SPat:=⟨[(0,.agg (pl plC)),(1,.agg (pl plM))],[]⟩
abbrev to244:SPat:=⟨[(4,.b)],[]⟩
abbrev zKW:SPat:=⟨[(2,.ptr 2 0),(3,.ptr 3 0)],[.box 2 (pl plC),.box 3 (pl plM)]⟩
def tv244:Nat→Option SPat:=fun k=>bif k==1000005 then some zKW else none
def F244:(Cls)×Mth→Option (Bool):=fun((c0,c1,c2,c3,c4,c5,c6),m0,m1,m2,m3,m4,m5,m6,m7) =>
 zAA (F107 (m0,(0:Int),(15:Int))) fun y =>
 cndO (!y)
 (some (false))
 (bindE (Y:=(Cls)×Mth) (zAA (F131 (c0,m1)) fun y1 =>
 cndO (decide (y1=[(98:UInt8),101,103,105,110]))
 (cndO (!decide (m0=1))
 (some (inr false))
 (zAA (F131 (c0,m2)) fun y2 =>
 cndO (!decide (y2=[(40:UInt8),41,86]))
 (some (inr false))
 (some (inl ((c0,c1,c2,c3,c4,c5,c6),m0,m1,m2,m3,m4,m5,m6,m7)))))
 (some (inl ((c0,c1,c2,c3,c4,c5,c6),m0,m1,m2,m3,m4,m5,m6,m7)))) fun((o0,o1,o2,o3,o4,o5,o6),o01,o11,o21,o31,o41,o51,o61,o7) =>
 zAA (F108 (o01,(8:Int))) fun y1 =>
 cndO (y1)
 (cndO (decide (o01=8))
 (zAA (F108 (o1,(4:Int))) fun y2 =>
 some (y2))
 (some (false)))
 (zAA (F108 (o1,(1:Int))) fun y2 =>
 cndO (!y2)
 (some (true))
 (some (decide (o01=1)))))
def tb244:=insT 244 (mkE 244 true [] ti244 to244 F244 [.tmp 4] 48 []) tb176
theorem ok244:TbOk Tryz.prog tb244:=okI ok176 noPl tv244 func244 rfl call244
abbrev ti177:SPat:=⟨[(0,.agg (pl plC))],[]⟩
abbrev to177:SPat:=⟨[(2,.b)],[]⟩
abbrev ts177_2:SPat:=⟨[(1,.ptr 1 0),(3,.i .i64)],[.box 1 (pl plC)]⟩
abbrev ts177_8:SPat:=⟨[(1,.ptr 1 0),(3,.i .i64),(4,.ptr 4 0),(5,.i .i64)],[.box 1 (pl plC),.box 4 (pl plM)]⟩
abbrev zLJ:SPat:=⟨[(1,.ptr 1 0),(3,.i .i64),(4,.ptr 4 0)],[.box 1 (pl plC),.box 4 (pl plM)]⟩
abbrev zLI:SPat:=⟨[],[]⟩
abbrev zLH:SPat:=⟨[(1,.ptr 1 0),(3,.i .i64)],[.box 1 (pl plC)]⟩
abbrev zLG:SPat:=⟨[(1,.ptr 1 0),(3,.i .i64)],[.box 1 (pl plC)]⟩
abbrev zLF:SPat:=⟨[(1,.ptr 1 0),(3,.i .i64),(4,.ptr 4 0),(5,.i .i64)],[.box 1 (pl plC),.box 4 (pl plM)]⟩
def tv177:Nat→Option SPat:=fun k=>bif k==2 then some ts177_2 else bif k==8 then some ts177_8 else bif k==1000007 then some zLJ else bif k==2000000 then some zLI else bif k==2000001 then some zLH else bif k==2000002 then some zLG else bif k==2000003 then some zLF else none
def tp177:Nat→List Nat×Plan:=fun id=>bif id==10 then([0,1,2,3,4,5,6,7,9,10,11,12],(.br 8 [7,6,5,4,3,2,1,0] [9,10,11,12] [] (.br 13 [12,11,10,9,8,7,6,5,4,3,2,1,0] [] [14,15,16,17,18,19,20,21,22,23,25,26,27,28] (.br 24 [23,22,21,20,19,18,17,16,15,14,13,12,11,10,9,8,7,6,5,4,3,2,1,0] [25,26,27,28] [] (.br 29 [28,27,26,25,24,23,22,21,20,19,18,17,16,15,14,13,12,11,10,9,8,7,6,5,4,3,2,1,0] [] [30,31] .fin .fin) .fin) .fin) .fin))else([],.fin)
def F177:Cls→Option (Bool):=fun(app0,app1,app2,app3,app4,app5,app6) =>
 bindE (zAD (fun(v3,o0,o1,o2,o3,o4,o5,o6) =>
 cndO (decide (v3<(o6.length:Int)))
 (bindE (Y:=Int×Cls) (grdO (decide (0≤v3)) (atO (o6) v3.toNat fun x=>bindE (Y:=Int×(Cls)×Mth) (zAA (F131 (o0,x.2.1)) fun y =>
 zAA (F127 y) fun y1 =>
 cndO (!y1)
 (some (inr (inr (inr (inr false)))))
 (zAA (F131 (o0,x.2.2.1)) fun y2 =>
 zAA (F129 y2) fun y3 =>
 cndO (!y3)
 (some (inr (inr (inr (inr false)))))
 (zAA (F244 ((o0,o1,o2,o3,o4,o5,o6),x.1,x.2.1,x.2.2.1,x.2.2.2.1,x.2.2.2.2.1,x.2.2.2.2.2.1,x.2.2.2.2.2.2.1,x.2.2.2.2.2.2.2)) fun y4 =>
 cndO (!y4)
 (some (inr (inr (inr (inr false)))))
 (some (inl (v3,(o0,o1,o2,o3,o4,o5,o6),x.1,x.2.1,x.2.2.1,x.2.2.2.1,x.2.2.2.2.1,x.2.2.2.2.2.1,x.2.2.2.2.2.2.1,x.2.2.2.2.2.2.2)))))) fun(v31,(o01,o11,o21,o31,o41,o51,o61),o02,o12,o22,o32,o42,o52,o62,o7) =>
 bindE (Y:=Int×Cls) (zAD (fun(v32,v5,(o03,o13,o23,o33,o43,o53,o63),o04,o14,o24,o34,o44,o54,o64,o71) =>
 cndO (decide (v5<v32))
 (bindE (Y:=Int×Int×(Cls)×Mth) (grdO (decide (0≤v5)) (atO (o63) v5.toNat fun x1=>zAA (F131 (o03,x1.2.1)) fun y =>
 seqU (seqU (grdO (decide (o03=o03)) (some ())) (seqU (grdO (decide (o14=o14)) (some ())) (some ()))) (zAA (F131 (o03,o14)) fun y1 =>
 cndO (decide (y=y1))
 (grdO (decide (0≤v5)) (atO (o63) v5.toNat fun x2=>zAA (F131 (o03,x2.2.2.1)) fun y2 =>
 seqU (seqU (grdO (decide (o03=o03)) (some ())) (seqU (grdO (decide (o24=o24)) (some ())) (some ()))) (zAA (F131 (o03,o24)) fun y3 =>
 cndO (decide (y2=y3))
 (some (inr (inr (inr (inr (inr (inr false)))))))
 (some (inl (v32,v5,(o03,o13,o23,o33,o43,o53,o63),o04,o14,o24,o34,o44,o54,o64,o71))))))
 (some (inl (v32,v5,(o03,o13,o23,o33,o43,o53,o63),o04,o14,o24,o34,o44,o54,o64,o71)))))) fun(v33,v51,(o05,o15,o25,o35,o45,o55,o65),o06,o16,o26,o36,o46,o56,o66,o72) =>
 some (inl (v33,IntKind.wrap .i64 (v51+1),(o05,o15,o25,o35,o45,o55,o65),o06,o16,o26,o36,o46,o56,o66,o72)))
 (some (inr (inl (v32,o03,o13,o23,o33,o43,o53,o63))))) ((v31,(0:Int),(o01,o11,o21,o31,o41,o51,o61),o02,o12,o22,o32,o42,o52,o62,o7))) fun(v32,o03,o13,o23,o33,o43,o53,o63) =>
 some (inl (v32,o03,o13,o23,o33,o43,o53,o63)))) fun(v31,o01,o11,o21,o31,o41,o51,o61) =>
 some (inl (IntKind.wrap .i64 (v31+1),o01,o11,o21,o31,o41,o51,o61)))
 (some (inr (inl ())))) (((0:Int),app0,app1,app2,app3,app4,app5,app6))) fun _ =>
 some (true)
def tb177:=insT 177 (mkE 177 true [] ti177 to177 F177 [.tmp 2] 77 []) tb244
theorem ok177:TbOk Tryz.prog tb177:=okI ok244 tp177 tv177 func177 rfl call177
abbrev ti251:SPat:=⟨[(0,.i .i64)],[]⟩
abbrev to251:SPat:=⟨[(2,.i .i64)],[]⟩
abbrev zKQ:SPat:=⟨[(0,.i .i64)],[]⟩
def tv251:Nat→Option SPat:=fun k=>bif k==2000000 then some zKQ else none
def F251:Int→Option (Int):=fun op_ =>
 bindE (cndO (decide (op_=1))
 (some (inr (2:Int)))
 (cndO (decide (op_=3))
 (some (inr (1:Int)))
 (cndO (decide (op_=4))
 (some (inr (1:Int)))
 (cndO (decide (op_=5))
 (some (inr (1:Int)))
 (cndO (decide (op_=6))
 (some (inr (1:Int)))
 (some (inl op_))))))) fun op_1 =>
 zAA (F107 (op_1,(14:Int),(18:Int))) fun y =>
 cndO (y)
 (some ((2:Int)))
 (zAA (F107 (op_1,(19:Int),(29:Int))) fun y1 =>
 cndO (y1)
 (some ((2:Int)))
 (zAA (F107 (op_1,(0:Int),(34:Int))) fun y2 =>
 cndO (y2)
 (some ((0:Int)))
 (some ((-1:Int)))))
def tb251:=insT 251 (mkE 251 true [] ti251 to251 F251 [.tmp 2] 19 []) tb177
theorem ok251:TbOk Tryz.prog tb251:=okI ok177 noPl tv251 func251 rfl call251
abbrev ti252:SPat:=⟨[(0,.s),(1,.i .i64)],[]⟩
abbrev to252:SPat:=⟨[(4,.i .i64)],[]⟩
abbrev zKP:SPat:=⟨[(1,.i .i64),(5,.i .i64)],[]⟩
def tv252:Nat→Option SPat:=fun k=>bif k==1000006 then some zKP else none
def F252:List UInt8×Int→Option (Int):=fun(s,op_) =>
 cndO (decide ((s.length:Int)=0))
 (some ((0:Int)))
 (atO (s) ((0:Nat)) fun x=>bindE (cndO (decide ((s.length:Int)=2))
 (atO (s) ((1:Nat)) fun x1=>some (inl (op_,IntKind.wrap .i64 (IntKind.wrap .i64 (IntKind.wrap .i64 (x.toNat:Int)*256)+IntKind.wrap .i64 (x1.toNat:Int)))))
 (some (inl (op_,IntKind.wrap .i64 (x.toNat:Int))))) fun(op_1,n) =>
 cndO (decide (op_1=1))
 (cndO (decide (32768≤n))
 (some (IntKind.wrap .i64 (n-65536)))
 (some (n)))
 (some (n)))
def tb252:=insT 252 (mkE 252 true [] ti252 to252 F252 [.tmp 4] 30 []) tb251
theorem ok252:TbOk Tryz.prog tb252:=okI ok251 noPl tv252 func252 rfl call252
abbrev ti193:SPat:=⟨[(0,.s)],[]⟩
abbrev to193:SPat:=⟨[(2,.own tg89 true),(3,.b)],[]⟩
abbrev ts193_3:SPat:=⟨[(0,.s),(4,.own tg89 true),(5,.i .i64)],[]⟩
abbrev zKv:SPat:=⟨[(0,.s),(4,.own tg89 true),(5,.i .i64),(6,.i .i64),(7,.i .i64)],[]⟩
abbrev zKu:SPat:=⟨[(4,.own tg89 true)],[]⟩
def tv193:Nat→Option SPat:=fun k=>bif k==3 then some ts193_3 else bif k==1000008 then some zKv else bif k==2000000 then some zKu else none
def F193:List UInt8→Option (List (Int×Int×Int)×Bool):=fun s =>
 bindE (Y:=List (Int×Int×Int)) (zAD (fun(s1,out,at_) =>
 cndO (decide (at_<(s1.length:Int)))
 (grdO (decide (0≤at_)) (atO (s1) at_.toNat fun x=>zAA (F251 (IntKind.wrap .i64 (x.toNat:Int))) fun y =>
 bindE (Y:=List UInt8×List (Int×Int×Int)×Int×Int×Int) (cndO (decide (y<0))
 (some (inr (inr (inr ([],false)))))
 (cndO (decide ((s1.length:Int)<IntKind.wrap .i64 (IntKind.wrap .i64 (at_+1)+y)))
 (some (inr (inr (inr ([],false)))))
 (some (inl (s1,out,at_,IntKind.wrap .i64 (x.toNat:Int),y))))) fun(s2,out1,at_1,op_,n) =>
 grdO (decide (0≤IntKind.wrap .i64 (at_1+1))&&decide (IntKind.wrap .i64 (at_1+1)≤IntKind.wrap .i64 (IntKind.wrap .i64 (at_1+1)+n))&&decide (IntKind.wrap .i64 (IntKind.wrap .i64 (at_1+1)+n)≤(s2.length:Int))) (zAA (F252 (List.drop (Int.toNat (IntKind.wrap .i64 (at_1+1))) (List.take (Int.toNat (IntKind.wrap .i64 (IntKind.wrap .i64 (at_1+1)+n))) s2),op_)) fun y1 =>
 grdO (decide (List.length out1+1≤9223372036854775807)&&decide ((List.length out1+1)*24≤140737488355328)) (some (inl (s2,out1++[(at_1,op_,y1)],IntKind.wrap .i64 (IntKind.wrap .i64 (at_1+1)+n)))))))
 (some (inr (inl out)))) ((s,[],(0:Int)))) fun out =>
 some ((out,decide (0<(out.length:Int))))
def tb193:=insT 193 (mkE 193 true [] ti193 to193 F193 [.tmp 2,.tmp 3] 54 []) tb252
theorem ok193:TbOk Tryz.prog tb193:=okI ok252 noPl tv193 func193 rfl call193
abbrev ti245:SPat:=⟨[(0,.agg (pl plC)),(1,.agg (pl plM))],[]⟩
abbrev to245:SPat:=⟨[(4,.i .i64)],[]⟩
def F245:(Cls)×Mth→Option (Int):=fun((c0,c1,c2,c3,c4,c5,c6),m0,m1,m2,m3,m4,m5,m6,m7) =>
 zAA (F131 (c0,m2)) fun y =>
 zAA (F214 y) fun(y1,y2,y3) =>
 zAA (F108 (m0,(1:Int))) fun y4 =>
 cndO (y4)
 (some ((y1.length:Int)))
 (some (IntKind.wrap .i64 ((y1.length:Int)+1)))
def tb245:=insT 245 (mkE 245 true [] ti245 to245 F245 [.tmp 4] 26 []) tb193
theorem ok245:TbOk Tryz.prog tb245:=okI ok193 noPl noIv func245 rfl call245
abbrev ti254:SPat:=⟨[(0,.sl tg89),(1,.i .i64)],[]⟩
abbrev to254:SPat:=⟨[(4,.i .i64)],[]⟩
abbrev ts254_2:SPat:=⟨[(0,.sl tg89),(1,.i .i64),(5,.i .i64)],[]⟩
abbrev zKO:SPat:=⟨[],[]⟩
def tv254:Nat→Option SPat:=fun k=>bif k==2 then some ts254_2 else bif k==2000000 then some zKO else none
def F254:List (Int×Int×Int)×Int→Option (Int):=fun(list,at_) =>
 bindE (zAD (fun(list1,at_1,i) =>
 cndO (decide (i<(list1.length:Int)))
 (grdO (decide (0≤i)) (atO (list1) i.toNat fun x=>cndO (decide (x.1=at_1))
 (some (inr (inr i)))
 (some (inl (list1,at_1,IntKind.wrap .i64 (i+1))))))
 (some (inr (inl ())))) ((list,at_,(0:Int)))) fun _ =>
 some ((-1:Int))
def tb254:=insT 254 (mkE 254 true [] ti254 to254 F254 [.tmp 4] 20 []) tb245
theorem ok254:TbOk Tryz.prog tb254:=okI ok245 noPl tv254 func254 rfl call254
abbrev ti291:SPat:=⟨[(0,.i .i64)],[]⟩
abbrev to291:SPat:=⟨[(2,.i .i64)],[]⟩
abbrev zKD:SPat:=⟨[(3,.i .i64),(4,.b)],[]⟩
abbrev zKC:SPat:=⟨[(3,.i .i64),(8,.b)],[]⟩
abbrev zKB:SPat:=⟨[(3,.i .i64),(13,.b)],[]⟩
def tv291:Nat→Option SPat:=fun k=>bif k==1000005 then some zKD else bif k==1000010 then some zKC else bif k==1000014 then some zKB else none
def F291:Int→Option (Int):=fun op_ =>
 bindE (cndO (decide (op_=19))
 (some (inl (op_,true)))
 (cndO (decide (op_=28))
 (some (inl (op_,true)))
 (some (inl (op_,decide (op_=29)))))) fun(v3,v4) =>
 cndO (v4)
 (some ((2:Int)))
 (bindE (cndO (decide (v3=20))
 (some (inl (v3,true)))
 (cndO (decide (v3=21))
 (some (inl (v3,true)))
 (cndO (decide (v3=22))
 (some (inl (v3,true)))
 (some (inl (v3,decide (v3=23))))))) fun(v31,v8) =>
 cndO (v8)
 (some ((4:Int)))
 (bindE (cndO (decide (v31=24))
 (some (inl (v31,true)))
 (cndO (decide (v31=25))
 (some (inl (v31,true)))
 (some (inl (v31,decide (v31=26)))))) fun(v32,v13) =>
 cndO (v13)
 (some ((5:Int)))
 (cndO (decide (v32=27))
 (some ((6:Int)))
 (some ((0:Int))))))
def tb291:=insT 291 (mkE 291 true [] ti291 to291 F291 [.tmp 2] 19 []) tb254
theorem ok291:TbOk Tryz.prog tb291:=okI ok254 noPl tv291 func291 rfl call291
abbrev ti246:SPat:=⟨[(0,.agg (pl plC)),(1,.agg (pl plM)),(2,.sl tg89),(3,.agg (pl [.i .i64,.i .i64,.i .i64]))],[]⟩
abbrev to246:SPat:=⟨[(8,.b)],[]⟩
def F246:(Cls)×(Mth)×List (Int×Int×Int)×Int×Int×Int→Option (Bool):=fun((c0,c1,c2,c3,c4,c5,c6),(m0,m1,m2,m3,m4,m5,m6,m7),list,x0,x1,x2) =>
 zAA (F107 (x1,(3:Int),(6:Int))) fun y =>
 cndO (y)
 (some (decide (x2<m4)))
 (zAA (F107 (x1,(14:Int),(18:Int))) fun y1 =>
 cndO (y1)
 (zAA (F254 (list,x2)) fun y2 =>
 some (decide (0≤y2)))
 (zAA (F291 x1) fun y2 =>
 cndO (decide (y2=0))
 (some (true))
 (zAA (F133 (c0,x2,y2)) fun y3 =>
 some (y3))))
def tb246:=insT 246 (mkE 246 true [] ti246 to246 F246 [.tmp 8] 39 []) tb291
theorem ok246:TbOk Tryz.prog tb246:=okI ok291 noPl noIv func246 rfl call246
abbrev ti247:SPat:=⟨[(0,.agg (pl plC)),(1,.agg (pl plM)),(2,.sl tg89),(3,.agg (pl [.i .i64,.i .i64,.i .i64,.i .i64]))],[]⟩
abbrev to247:SPat:=⟨[(8,.b)],[]⟩
abbrev zKV:SPat:=⟨[(4,.ptr 4 0),(7,.ptr 7 0)],[.box 4 (pl plC),.box 7 (pl [.i .i64,.i .i64,.i .i64,.i .i64])]⟩
def tv247:Nat→Option SPat:=fun k=>bif k==1000003 then some zKV else none
def F247:(Cls)×(Mth)×List (Int×Int×Int)×Int×Int×Int×Int→Option (Bool):=fun((c0,c1,c2,c3,c4,c5,c6),(m0,m1,m2,m3,m4,m5,m6,m7),list,t0,t1,t2,t3) =>
 bindE (Y:=(Cls)×Int×Int×Int×Int) (cndO (decide (t1≤t0))
 (some (inr false))
 (zAA (F254 (list,t0)) fun y =>
 cndO (decide (y<0))
 (some (inr false))
 (cndO (!decide (t1=(m5.length:Int)))
 (zAA (F254 (list,t1)) fun y1 =>
 cndO (decide (y1<0))
 (some (inr false))
 (zAA (F254 (list,t2)) fun y2 =>
 cndO (decide (y2<0))
 (some (inr false))
 (some (inl ((c0,c1,c2,c3,c4,c5,c6),t0,t1,t2,t3)))))
 (zAA (F254 (list,t2)) fun y1 =>
 cndO (decide (y1<0))
 (some (inr false))
 (some (inl ((c0,c1,c2,c3,c4,c5,c6),t0,t1,t2,t3))))))) fun((o0,o1,o2,o3,o4,o5,o6),o01,o11,o21,o31) =>
 cndO (decide (o31=0))
 (some (true))
 (zAA (F130 (o0,o31)) fun y =>
 some (!decide (y=[])))
def tb247:=insT 247 (mkE 247 true [] ti247 to247 F247 [.tmp 8] 54 []) tb246
theorem ok247:TbOk Tryz.prog tb247:=okI ok246 noPl tv247 func247 rfl call247
abbrev ti292:SPat:=⟨[(0,.agg (pl plC)),(1,.sl zAg)],[]⟩
abbrev to292:SPat:=⟨[(4,.b)],[]⟩
abbrev ts292_2:SPat:=⟨[(1,.sl zAg),(2,.ptr 2 0),(5,.i .i64)],[.box 2 (pl plC)]⟩
abbrev zKA:SPat:=⟨[],[]⟩
abbrev zJz:SPat:=⟨[(1,.sl zAg),(2,.ptr 2 0),(5,.i .i64)],[.box 2 (pl plC)]⟩
def tv292:Nat→Option SPat:=fun k=>bif k==2 then some ts292_2 else bif k==2000000 then some zKA else bif k==2000001 then some zJz else none
def tp292:Nat→List Nat×Plan:=fun id=>bif id==4 then([0,1,2,3,4],(.br 5 [4,3,2,1,0] [] [6,7,8,9,10,11,12,13,14,15,16,17,18,19,20,21] (.br 22 [21,20,19,18,17,16,15,14,13,12,11,10,9,8,7,6,5,4,3,2,1,0] [] [23,24,25,26,27,28,29,30,31,32,33,34,35,36,37,38,39,40,41] .fin .fin) .fin))else([],.fin)
def F292:(Cls)×List (Int×Int)→Option (Bool):=fun((c0,c1,c2,c3,c4,c5,c6),list) =>
 bindE (zAD (fun(list1,i,o0,o1,o2,o3,o4,o5,o6) =>
 cndO (decide (i<(list1.length:Int)))
 (bindE (Y:=List (Int×Int)×Int×Cls) (grdO (decide (0≤i)) (atO (list1) i.toNat fun x=>zAA (F107 (x.1,(0:Int),(3:Int))) fun y =>
 cndO (!y)
 (some (inr (inr (inr false))))
 (grdO (decide (0≤i)) (atO (list1) i.toNat fun x1=>cndO (decide (x1.1=3))
 (grdO (decide (0≤i)) (atO (list1) i.toNat fun x2=>zAA (F130 (o0,x2.2)) fun y1 =>
 cndO (decide (y1=[]))
 (some (inr (inr (inr false))))
 (grdO (decide (0≤i)) (atO (list1) i.toNat fun x3=>cndO (!decide (x3.1=3))
 (grdO (decide (0≤i)) (atO (list1) i.toNat fun x4=>cndO (!decide (x4.2=0))
 (some (inr (inr (inr false))))
 (some (inl (list1,i,o0,o1,o2,o3,o4,o5,o6)))))
 (some (inl (list1,i,o0,o1,o2,o3,o4,o5,o6)))))))
 (grdO (decide (0≤i)) (atO (list1) i.toNat fun x2=>cndO (!decide (x2.1=3))
 (grdO (decide (0≤i)) (atO (list1) i.toNat fun x3=>cndO (!decide (x3.2=0))
 (some (inr (inr (inr false))))
 (some (inl (list1,i,o0,o1,o2,o3,o4,o5,o6)))))
 (some (inl (list1,i,o0,o1,o2,o3,o4,o5,o6))))))))) fun(list2,i1,o01,o11,o21,o31,o41,o51,o61) =>
 some (inl (list2,IntKind.wrap .i64 (i1+1),o01,o11,o21,o31,o41,o51,o61)))
 (some (inr (inl ())))) ((list,(0:Int),c0,c1,c2,c3,c4,c5,c6))) fun _ =>
 some (true)
def tb292:=insT 292 (mkE 292 true [] ti292 to292 F292 [.tmp 4] 54 []) tb247
theorem ok292:TbOk Tryz.prog tb292:=okI ok247 tp292 tv292 func292 rfl call292
abbrev ti248:SPat:=⟨[(0,.agg (pl plC)),(1,.agg (pl plM)),(2,.sl tg89)],[]⟩
abbrev to248:SPat:=⟨[(6,.b)],[]⟩
abbrev ts248_2:SPat:=⟨[(2,.sl tg89),(3,.ptr 3 0),(4,.ptr 4 0),(7,.i .i64)],[.box 3 (pl plC),.box 4 (pl plM)]⟩
abbrev zKU:SPat:=⟨[],[]⟩
abbrev zKT:SPat:=⟨[(2,.sl tg89),(3,.ptr 3 0),(4,.ptr 4 0),(7,.i .i64)],[.box 3 (pl plC),.box 4 (pl plM)]⟩
def tv248:Nat→Option SPat:=fun k=>bif k==2 then some ts248_2 else bif k==2000000 then some zKU else bif k==2000001 then some zKT else none
def tp248:Nat→List Nat×Plan:=fun id=>bif id==5 then([0,1,2],(.br 3 [2,1,0] [] [4,5,6,7,8,9,10,11,12,13,14,15,16,17,18,19,20,21,22,23,24,25,26,27,28,29,30,31,32,33,34,35,36,37,38,39,40] (.br 41 [40,39,38,37,36,35,34,33,32,31,30,29,28,27,26,25,24,23,22,21,20,19,18,17,16,15,14,13,12,11,10,9,8,7,6,5,4,3,2,1,0] [] [42,43,44,45,46,47] (.br 48 [47,46,45,44,43,42,41,40,39,38,37,36,35,34,33,32,31,30,29,28,27,26,25,24,23,22,21,20,19,18,17,16,15,14,13,12,11,10,9,8,7,6,5,4,3,2,1,0] [] [49,50] .fin .fin) .fin) .fin))else([],.fin)
def F248:(Cls)×(Mth)×List (Int×Int×Int)→Option (Bool):=fun((app0,app1,app2,app3,app4,app5,app6),(v10,v11,v12,v13,v14,v15,v16,v17),v2) =>
 bindE (zAD (fun(v21,v7,(o0,o1,o2,o3,o4,o5,o6),o01,o11,o21,o31,o41,o51,o61,o7) =>
 cndO (decide (v7<(o7.length:Int)))
 (bindE (Y:=List (Int×Int×Int)×Int×(Cls)×Mth) (grdO (decide (0≤v7)) (atO (o7) v7.toNat fun x=>zAA (F254 (v21,x.1)) fun y =>
 cndO (decide (y<0))
 (some (inr (inr (inr false))))
 (cndO (decide (0<v7))
 (grdO (decide (0≤IntKind.wrap .i64 (v7-1))) (atO (o7) (Int.toNat (IntKind.wrap .i64 (v7-1))) fun x1=>cndO (decide (x.1≤x1.1))
 (some (inr (inr (inr false))))
 (cndO (!decide ((x.2.1.length:Int)=o41))
 (some (inr (inr (inr false))))
 (cndO (decide (o31<(x.2.2.length:Int)))
 (some (inr (inr (inr false))))
 (zAA (F292 ((o0,o1,o2,o3,o4,o5,o6),x.2.1)) fun y1 =>
 cndO (!y1)
 (some (inr (inr (inr false))))
 (zAA (F292 ((o0,o1,o2,o3,o4,o5,o6),x.2.2)) fun y2 =>
 cndO (!y2)
 (some (inr (inr (inr false))))
 (some (inl (v21,v7,(o0,o1,o2,o3,o4,o5,o6),o01,o11,o21,o31,o41,o51,o61,o7)))))))))
 (cndO (!decide ((x.2.1.length:Int)=o41))
 (some (inr (inr (inr false))))
 (cndO (decide (o31<(x.2.2.length:Int)))
 (some (inr (inr (inr false))))
 (zAA (F292 ((o0,o1,o2,o3,o4,o5,o6),x.2.1)) fun y1 =>
 cndO (!y1)
 (some (inr (inr (inr false))))
 (zAA (F292 ((o0,o1,o2,o3,o4,o5,o6),x.2.2)) fun y2 =>
 cndO (!y2)
 (some (inr (inr (inr false))))
 (some (inl (v21,v7,(o0,o1,o2,o3,o4,o5,o6),o01,o11,o21,o31,o41,o51,o61,o7)))))))))) fun(v22,v71,(o02,o12,o22,o32,o42,o52,o62),o03,o13,o23,o33,o43,o53,o63,o71) =>
 some (inl (v22,IntKind.wrap .i64 (v71+1),(o02,o12,o22,o32,o42,o52,o62),o03,o13,o23,o33,o43,o53,o63,o71)))
 (some (inr (inl ())))) ((v2,(0:Int),(app0,app1,app2,app3,app4,app5,app6),v10,v11,v12,v13,v14,v15,v16,v17))) fun _ =>
 some (true)
def tb248:=insT 248 (mkE 248 true [] ti248 to248 F248 [.tmp 6] 72 []) tb292
theorem ok248:TbOk Tryz.prog tb248:=okI ok292 tp248 tv248 func248 rfl call248
abbrev ti178:SPat:=⟨[(0,.agg (pl plC)),(1,.agg (pl plM))],[]⟩
abbrev to178:SPat:=⟨[(4,.b)],[]⟩
abbrev ts178_7:SPat:=⟨[(2,.ptr 2 0),(3,.ptr 3 0),(5,.own tg89 true),(7,.i .i64)],[.box 2 (pl plC),.box 3 (pl plM)]⟩
abbrev ts178_12:SPat:=⟨[(2,.ptr 2 0),(3,.ptr 3 0),(5,.own tg89 true),(8,.i .i64)],[.box 2 (pl plC),.box 3 (pl plM)]⟩
abbrev zLE:SPat:=⟨[(2,.ptr 2 0),(3,.ptr 3 0),(5,.own tg89 true)],[.box 2 (pl plC),.box 3 (pl plM)]⟩
abbrev zLD:SPat:=⟨[(2,.ptr 2 0),(3,.ptr 3 0),(5,.own tg89 true)],[.box 2 (pl plC),.box 3 (pl plM)]⟩
abbrev zLC:SPat:=⟨[(2,.ptr 2 0),(3,.ptr 3 0),(5,.own tg89 true)],[.box 2 (pl plC),.box 3 (pl plM)]⟩
def tv178:Nat→Option SPat:=fun k=>bif k==7 then some ts178_7 else bif k==12 then some ts178_12 else bif k==1000006 then some zLE else bif k==2000000 then some zLD else bif k==2000002 then some zLC else none
def tp178:Nat→List Nat×Plan:=fun id=>bif id==4 then([0,1,2,3,4,5,6,7,8,9,10,11],(.br 12 [11,10,7,6,5,4,3,2,1,0] [8,9] [] (.br 13 [12,11,10,9,8,7,6,5,4,3,2,1,0] [] [14,15] .fin .fin) .fin))else bif id==9 then([0,1,2,3,4,5,6],(.br 7 [6,5,4,3,2,1,0] [] [8] .fin .fin))else bif id==14 then([0,1,2,3,4,5,6,7],(.br 8 [7,6,5,4,3,2,1,0] [] [9] .fin .fin))else([],.fin)
def F178:(Cls)×Mth→Option (Bool):=fun((app0,app1,app2,app3,app4,app5,app6),v10,v11,v12,v13,v14,v15,v16,v17) =>
 zAA (F108 (v10,(8:Int))) fun y =>
 cndO (y)
 (some (true))
 (zAA (F193 v15) fun(y1,y2) =>
 bindE (Y:=List (Int×Int×Int)×(Cls)×Mth) (cndO (!y2)
 (some (inr false))
 (cndO (decide (8<v13))
 (some (inr false))
 (zAA (F245 ((app0,app1,app2,app3,app4,app5,app6),v10,v11,v12,v13,v14,v15,v16,v17)) fun y3 =>
 seqU (seqU (grdO (decide (v14=v14)) (some ())) (some ())) (zAA (F107 (v14,y3,(8:Int))) fun y4 =>
 cndO (!y4)
 (some (inr false))
 (some (inl (y1,(app0,app1,app2,app3,app4,app5,app6),v10,v11,v12,v13,v14,v15,v16,v17))))))) fun(v5,(o0,o1,o2,o3,o4,o5,o6),o01,o11,o21,o31,o41,o51,o61,o7) =>
 bindE (Y:=List (Int×Int×Int)×(Cls)×Mth) (zAD (fun(v51,v7,(o02,o12,o22,o32,o42,o52,o62),o03,o13,o23,o33,o43,o53,o63,o71) =>
 cndO (decide (v7<(v51.length:Int)))
 (grdO (decide (0≤v7)&&decide (v7<(v51.length:Int))) (atO (v51) v7.toNat fun x=>zAA (F246 ((o02,o12,o22,o32,o42,o52,o62),(o03,o13,o23,o33,o43,o53,o63,o71),v51,x.1,x.2.1,x.2.2)) fun y3 =>
 cndO (!y3)
 (some (inr (inr false)))
 (some (inl (v51,IntKind.wrap .i64 (v7+1),(o02,o12,o22,o32,o42,o52,o62),o03,o13,o23,o33,o43,o53,o63,o71)))))
 (some (inr (inl (v51,(o02,o12,o22,o32,o42,o52,o62),o03,o13,o23,o33,o43,o53,o63,o71))))) ((v5,(0:Int),(o0,o1,o2,o3,o4,o5,o6),o01,o11,o21,o31,o41,o51,o61,o7))) fun(v51,(o02,o12,o22,o32,o42,o52,o62),o03,o13,o23,o33,o43,o53,o63,o71) =>
 bindE (Y:=List (Int×Int×Int)×(Cls)×Mth) (zAD (fun(v52,v8,(o04,o14,o24,o34,o44,o54,o64),o05,o15,o25,o35,o45,o55,o65,o72) =>
 cndO (decide (v8<(o65.length:Int)))
 (grdO (decide (0≤v8)) (atO (o65) v8.toNat fun x=>zAA (F247 ((o04,o14,o24,o34,o44,o54,o64),(o05,o15,o25,o35,o45,o55,o65,o72),v52,x.1,x.2.1,x.2.2.1,x.2.2.2)) fun y3 =>
 cndO (!y3)
 (some (inr (inr false)))
 (some (inl (v52,IntKind.wrap .i64 (v8+1),(o04,o14,o24,o34,o44,o54,o64),o05,o15,o25,o35,o45,o55,o65,o72)))))
 (some (inr (inl (v52,(o04,o14,o24,o34,o44,o54,o64),o05,o15,o25,o35,o45,o55,o65,o72))))) ((v51,(0:Int),(o02,o12,o22,o32,o42,o52,o62),o03,o13,o23,o33,o43,o53,o63,o71))) fun(v52,(o04,o14,o24,o34,o44,o54,o64),o05,o15,o25,o35,o45,o55,o65,o72) =>
 zAA (F248 ((o04,o14,o24,o34,o44,o54,o64),(o05,o15,o25,o35,o45,o55,o65,o72),v52)) fun y3 =>
 some (y3))
def tb178:=insT 178 (mkE 178 true [] ti178 to178 F178 [.tmp 4] 70 []) tb248
theorem ok178:TbOk Tryz.prog tb178:=okI ok248 tp178 tv178 func178 rfl call178
abbrev ti88:SPat:=⟨[(0,.agg (pl plC))],[]⟩
abbrev to88:SPat:=⟨[(2,.i .i64)],[]⟩
abbrev ts88_10:SPat:=⟨[(1,.ptr 1 0),(3,.i .i64)],[.box 1 (pl plC)]⟩
abbrev zNP:SPat:=⟨[],[]⟩
def tv88:Nat→Option SPat:=fun k=>bif k==10 then some ts88_10 else bif k==2000000 then some zNP else none
def tp88:Nat→List Nat×Plan:=fun id=>bif id==12 then([0,1,2,3,4,5],(.br 6 [5,4,3,2,1,0] [] [7] .fin .fin))else([],.fin)
def F88:Cls→Option (Int):=fun(c0,c1,c2,c3,c4,c5,c6) =>
 zAA (F15 c0) fun y =>
 cndO (!decide (y=0))
 (some ((2:Int)))
 (zAA (F175 (c0,c1,c2,c3,c4,c5,c6)) fun y1 =>
 cndO (!y1)
 (some ((3:Int)))
 (zAA (F176 (c0,c1,c2,c3,c4,c5,c6)) fun y2 =>
 cndO (!y2)
 (some ((4:Int)))
 (zAA (F177 (c0,c1,c2,c3,c4,c5,c6)) fun y3 =>
 cndO (!y3)
 (some ((5:Int)))
 (bindE (zAD (fun(i,o0,o1,o2,o3,o4,o5,o6) =>
 cndO (decide (i<(o6.length:Int)))
 (grdO (decide (0≤i)) (atO (o6) i.toNat fun x=>zAA (F178 ((o0,o1,o2,o3,o4,o5,o6),x.1,x.2.1,x.2.2.1,x.2.2.2.1,x.2.2.2.2.1,x.2.2.2.2.2.1,x.2.2.2.2.2.2.1,x.2.2.2.2.2.2.2)) fun y4 =>
 cndO (!y4)
 (some (inr (inr (6:Int))))
 (some (inl (IntKind.wrap .i64 (i+1),o0,o1,o2,o3,o4,o5,o6)))))
 (some (inr (inl ())))) (((0:Int),c0,c1,c2,c3,c4,c5,c6))) fun _ =>
 some ((0:Int))))))
def tb88:=insT 88 (mkE 88 true [] ti88 to88 F88 [.tmp 2] 32 []) tb178
theorem ok88:TbOk Tryz.prog tb88:=okI ok178 tp88 tv88 func88 rfl call88
abbrev ti30:SPat:=⟨[(0,.agg (pl plC))],[]⟩
abbrev to30:SPat:=⟨[(2,.i .i64)],[]⟩
def F30:Cls→Option (Int):=fun(c0,c1,c2,c3,c4,c5,c6) =>
 zAA (F22 (c0,c1,c2,c3,c4,c5,c6)) fun y =>
 cndO (decide (y=[]))
 (some ((1:Int)))
 (zAA (F88 (c0,c1,c2,c3,c4,c5,c6)) fun y1 =>
 some (y1))
def tb30:=insT 30 (mkE 30 true [] ti30 to30 F30 [.tmp 2] 8 []) tb88
theorem ok30:TbOk Tryz.prog tb30:=okI ok88 noPl noIv func30 rfl call30
abbrev ti186:SPat:=⟨[(0,.agg (pl plM))],[]⟩
abbrev to186:SPat:=⟨[(2,.ptr 2 0)],[.box 2 (pl [.i .i64,.i .i64,.i .i64,.i .i64,.i .i64,.s,.own zBq false,.own zBL true])]⟩
abbrev ts186_5:SPat:=⟨[(1,.ptr 1 0),(2,.ptr 2 0),(3,.ptr 3 0),(4,.i .i64)],[.box 1 (pl plM),.box 2 (pl plN),.box 3 (pl [.i .i64,.i .i64,.i .i64,.i .i64,.i .i64,.s,.own zBq false,.own zBL true])]⟩
abbrev zLB:SPat:=⟨[(2,.ptr 2 0),(3,.ptr 3 0)],[.box 2 (pl plN),.box 3 (pl [.i .i64,.i .i64,.i .i64,.i .i64,.i .i64,.s,.own zBq false,.own zBL true])]⟩
def tv186:Nat→Option SPat:=fun k=>bif k==5 then some ts186_5 else bif k==2000000 then some zLB else none
def F186:Mth→Option (Mth):=fun(m0,m1,m2,m3,m4,m5,m6,m7) =>
 grdO (decide (List.length m6≤9223372036854775807)&&decide (List.length m6*32≤140737488355328)) (bindE (Y:=(Mth)×Mth) (zAD (fun(i,(o0,o1,o2,o3,o4,o5,o6,o7),(o01,o11,o21,o31,o41,o51,o61,o71),o02,o12,o22,o32,o42,o52,o62,o72) =>
 cndO (decide (i<(o7.length:Int)))
 (grdO (decide (0≤i)) (atO (o7) i.toNat fun x=>grdO (decide (List.length (x.2.1)≤9223372036854775807)&&decide (List.length (x.2.1)*16≤140737488355328)) (grdO (decide (List.length (x.2.2)≤9223372036854775807)&&decide (List.length (x.2.2)*16≤140737488355328)) (grdO (decide (List.length o72+1≤9223372036854775807)&&decide ((List.length o72+1)*56≤140737488355328)) (some (inl (IntKind.wrap .i64 (i+1),(o0,o1,o2,o3,o4,o5,o6,o7),(o01,o11,o21,o31,o41,o51,o61,o71),o02,o12,o22,o32,o42,o52,o62,o72++[(x.1,x.2.1,x.2.2)])))))))
 (some (inr (inl ((o01,o11,o21,o31,o41,o51,o61,o71),o02,o12,o22,o32,o42,o52,o62,o72))))) (((0:Int),(m0,m1,m2,m3,m4,m5,m6,m7),((0:Int),(0:Int),(0:Int),(0:Int),(0:Int),[],[],[]),m0,m1,m2,m3,m4,m5,m6,[]))) fun((o0,o1,o2,o3,o4,o5,o6,o7),o01,o11,o21,o31,o41,o51,o61,o71) =>
 some ((o01,o11,o21,o31,o41,o51,o61,o71)))
def tb186:=insT 186 (mkE 186 true [] ti186 to186 F186 [.cell 2 53] 42 []) tb30
theorem ok186:TbOk Tryz.prog tb186:=okI ok30 noPl tv186 func186 rfl call186
abbrev ti93:SPat:=⟨[(0,.agg (pl plC))],[]⟩
abbrev to93:SPat:=⟨[(2,.ptr 2 0)],[.box 2 (pl [.own tg27 false,.i .i64,.i .i64,.i .i64,.own (.int .i64) false,.own tg89 false,.own tg53 true])]⟩
abbrev ts93_7:SPat:=⟨[(1,.ptr 1 0),(2,.ptr 2 0),(3,.ptr 3 0),(4,.i .i64)],[.box 1 (pl plC),.box 2 (pl plD),.box 3 (pl [.own tg27 false,.i .i64,.i .i64,.i .i64,.own (.int .i64) false,.own tg89 false,.own tg53 true])]⟩
abbrev zNK:SPat:=⟨[(2,.ptr 2 0),(3,.ptr 3 0)],[.box 2 (pl plD),.box 3 (pl [.own tg27 false,.i .i64,.i .i64,.i .i64,.own (.int .i64) false,.own tg89 false,.own tg53 true])]⟩
def tv93:Nat→Option SPat:=fun k=>bif k==7 then some ts93_7 else bif k==2000000 then some zNK else none
def tp93:Nat→List Nat×Plan:=fun id=>bif id==9 then([0,1,2,3,4,5,6],(.br 7 [6,5,4,3,2] [0,1] [] (.br 8 [7,6,5,4,3,2] [0,1] [] (.br 9 [8,7,6,5,4,3,2,1,0] [] [10] (.br 11 [10,9,8,7,6,5,4,3,2,1,0] [] [] .fin .fin) .fin) .fin) .fin))else([],.fin)
def F93:Cls→Option (Cls):=fun(f0,f1,f2,f3,f4,f5,f6) =>
 grdO (decide (List.length f0≤9223372036854775807)&&decide (List.length f0*40≤140737488355328)) (grdO (decide (List.length f4≤9223372036854775807)&&decide (List.length f4*8≤140737488355328)) (grdO (decide (List.length f5≤9223372036854775807)&&decide (List.length f5*24≤140737488355328)) (bindE (Y:=(Cls)×Cls) (zAD (fun(i,(o0,o1,o2,o3,o4,o5,o6),(o01,o11,o21,o31,o41,o51,o61),o02,o12,o22,o32,o42,o52,o62) =>
 cndO (decide (i<(o6.length:Int)))
 (grdO (decide (0≤i)) (atO (o6) i.toNat fun x=>zAA (F186 (x.1,x.2.1,x.2.2.1,x.2.2.2.1,x.2.2.2.2.1,x.2.2.2.2.2.1,x.2.2.2.2.2.2.1,x.2.2.2.2.2.2.2)) fun(y,y1,y2,y3,y4,y5,x1,x2) =>
 grdO (decide (List.length o62+1≤9223372036854775807)&&decide ((List.length o62+1)*104≤140737488355328)) (some (inl (IntKind.wrap .i64 (i+1),(o0,o1,o2,o3,o4,o5,o6),(o01,o11,o21,o31,o41,o51,o61),o02,o12,o22,o32,o42,o52,o62++[(y,y1,y2,y3,y4,y5,x1,x2)])))))
 (some (inr (inl ((o01,o11,o21,o31,o41,o51,o61),o02,o12,o22,o32,o42,o52,o62))))) (((0:Int),(f0,f1,f2,f3,f4,f5,f6),([],(0:Int),(0:Int),(0:Int),[],[],[]),f0,f1,f2,f3,f4,f5,[]))) fun((o0,o1,o2,o3,o4,o5,o6),o01,o11,o21,o31,o41,o51,o61) =>
 some ((o01,o11,o21,o31,o41,o51,o61)))))
def tb93:=insT 93 (mkE 93 true [] ti93 to93 F93 [.cell 2 34] 41 []) tb186
theorem ok93:TbOk Tryz.prog tb93:=okI ok186 tp93 tv93 func93 rfl call93
abbrev ti34:SPat:=⟨[(0,.agg (pl plC))],[]⟩
abbrev to34:SPat:=⟨[(2,.ptr 2 0)],[.box 2 (pl [.own tg27 false,.i .i64,.i .i64,.i .i64,.own (.int .i64) false,.own tg89 false,.own tg53 true])]⟩
abbrev ts34_5:SPat:=⟨[(2,.ptr 2 0),(3,.ptr 3 0),(4,.i .i64)],[.box 2 (pl plD),.box 3 (pl [.own tg27 false,.i .i64,.i .i64,.i .i64,.own (.int .i64) false,.own tg89 false,.own tg53 true])]⟩
abbrev zOZ:SPat:=⟨[(2,.ptr 2 0),(3,.ptr 3 0)],[.box 2 (pl plD),.box 3 (pl [.own tg27 false,.i .i64,.i .i64,.i .i64,.own (.int .i64) false,.own tg89 false,.own tg53 true])]⟩
def tv34:Nat→Option SPat:=fun k=>bif k==5 then some ts34_5 else bif k==2000000 then some zOZ else none
def F34:Cls→Option (Cls):=fun(c0,c1,c2,c3,c4,c5,c6) =>
 zAA (F30 (c0,c1,c2,c3,c4,c5,c6)) fun y =>
 cndO (!decide (y=0))
 (some (([],(0:Int),(0:Int),(0:Int),[],[],[])))
 (zAA (F93 (c0,c1,c2,c3,c4,c5,c6)) fun(y1,y2,y3,y4,y5,y6,x) =>
 bindE (Y:=(Cls)×Cls) (zAD (fun(i,(o0,o1,o2,o3,o4,o5,o6),o01,o11,o21,o31,o41,o51,o61) =>
 cndO (decide (i<(o61.length:Int)))
 (grdO (decide (0≤i)&&decide (i<(o61.length:Int))) (atO (o61) i.toNat fun x1=>some (inl (IntKind.wrap .i64 (i+1),(o0,o1,o2,o3,o4,o5,o6),o01,o11,o21,o31,o41,o51,List.set o61 i.toNat (x1.1,x1.2.1,x1.2.2.1,x1.2.2.2.1,x1.2.2.2.2.1,x1.2.2.2.2.2.1,x1.2.2.2.2.2.2.1,[])))))
 (some (inr (inl ((o0,o1,o2,o3,o4,o5,o6),o01,o11,o21,o31,o41,o51,o61))))) (((0:Int),([],(0:Int),(0:Int),(0:Int),[],[],[]),y1,y2,y3,y4,y5,y6,x))) fun((o0,o1,o2,o3,o4,o5,o6),o01,o11,o21,o31,o41,o51,o61) =>
 some ((o01,o11,o21,o31,o41,o51,o61)))
def tb34:=insT 34 (mkE 34 true [] ti34 to34 F34 [.cell 2 34] 24 []) tb93
theorem ok34:TbOk Tryz.prog tb34:=okI ok93 noPl tv34 func34 rfl call34
abbrev ti66:SPat:=⟨[(0,.agg (pl plC))],[]⟩
abbrev to66:SPat:=⟨[(2,.b)],[]⟩
abbrev ts66_4:SPat:=⟨[(1,.ptr 1 0),(32,.sl tg27),(33,.i .i64),(34,.i .i64)],[.box 1 (pl plC)]⟩
abbrev ts66_10:SPat:=⟨[(44,.sl tg53),(45,.i .i64),(46,.i .i64)],[]⟩
abbrev ts66_15:SPat:=⟨[(44,.sl tg53),(45,.i .i64),(46,.i .i64),(67,.sl zBL),(68,.i .i64),(69,.i .i64)],[]⟩
abbrev zOI:SPat:=⟨[(1,.ptr 1 0)],[.box 1 (pl plC)]⟩
abbrev zOH:SPat:=⟨[(6,.ptr 6 0),(44,.sl tg53),(45,.i .i64),(46,.i .i64)],[.box 6 (pl plM)]⟩
abbrev zOG:SPat:=⟨[(1,.ptr 1 0)],[.box 1 (pl plC)]⟩
abbrev zOF:SPat:=⟨[],[]⟩
abbrev zOE:SPat:=⟨[(44,.sl tg53),(45,.i .i64),(46,.i .i64)],[]⟩
abbrev zOD:SPat:=⟨[(44,.sl tg53),(45,.i .i64),(46,.i .i64)],[]⟩
abbrev zOC:SPat:=⟨[(44,.sl tg53),(45,.i .i64),(46,.i .i64),(67,.sl zBL),(68,.i .i64),(69,.i .i64)],[]⟩
def tv66:Nat→Option SPat:=fun k=>bif k==4 then some ts66_4 else bif k==10 then some ts66_10 else bif k==15 then some ts66_15 else bif k==1000003 then some zOI else bif k==1000014 then some zOH else bif k==2000000 then some zOG else bif k==2000002 then some zOF else bif k==2000003 then some zOE else bif k==2000004 then some zOD else bif k==2000005 then some zOC else none
def F66:Cls→Option (Bool):=fun(app0,app1,app2,app3,app4,app5,app6) =>
 bindE (Y:=Cls) (cndO (decide (60<(app0.length:Int)))
 (some (inr false))
 (cndO (decide (3<(app4.length:Int)))
 (some (inr false))
 (cndO (decide (5<(app5.length:Int)))
 (some (inr false))
 (cndO (decide (6<(app6.length:Int)))
 (some (inr false))
 (some (inl (app0,app1,app2,app3,app4,app5,app6))))))) fun(o0,o1,o2,o3,o4,o5,o6) =>
 bindE (Y:=Cls) (zAD (fun(v32,v33,v34,o01,o11,o21,o31,o41,o51,o61) =>
 cndO (decide (v34<v33))
 (grdO (decide (0≤v34)) (atO (v32) v34.toNat fun x=>cndO (decide (255<(x.2.1.length:Int)))
 (some (inr (inr false)))
 (some (inl (v32,v33,IntKind.wrap .i64 (v34+1),o01,o11,o21,o31,o41,o51,o61)))))
 (some (inr (inl (o01,o11,o21,o31,o41,o51,o61))))) ((o0,(o0.length:Int),(0:Int),o0,o1,o2,o3,o4,o5,o6))) fun(o01,o11,o21,o31,o41,o51,o61) =>
 bindE (zAD (fun(v44,v45,v46) =>
 cndO (decide (v46<v45))
 (bindE (Y:=List Mth×Int×Int) (grdO (decide (0≤v46)) (atO (v44) v46.toNat fun x=>bindE (Y:=List Mth×Int×Int×Mth) (cndO (decide (120<(x.2.2.2.2.2.1.length:Int)))
 (some (inr (inr (inr (inr false)))))
 (cndO (decide (3<(x.2.2.2.2.2.2.1.length:Int)))
 (some (inr (inr (inr (inr false)))))
 (cndO (decide (8<(x.2.2.2.2.2.2.2.length:Int)))
 (some (inr (inr (inr (inr false)))))
 (some (inl (v44,v45,v46,x.1,x.2.1,x.2.2.1,x.2.2.2.1,x.2.2.2.2.1,x.2.2.2.2.2.1,x.2.2.2.2.2.2.1,x.2.2.2.2.2.2.2)))))) fun(v441,v451,v461,o02,o12,o22,o32,o42,o52,o62,o7) =>
 bindE (Y:=List Mth×Int×Int) (zAD (fun(v442,v452,v462,v67,v68,v69) =>
 cndO (decide (v69<v68))
 (bindE (Y:=List Mth×Int×Int×List Frm×Int×Int) (grdO (decide (0≤v69)) (atO (v67) v69.toNat fun x1=>cndO (decide (8<(x1.2.1.length:Int)))
 (some (inr (inr (inr (inr (inr (inr false)))))))
 (cndO (decide (8<(x1.2.2.length:Int)))
 (some (inr (inr (inr (inr (inr (inr false)))))))
 (some (inl (v442,v452,v462,v67,v68,v69)))))) fun(v443,v453,v463,v671,v681,v691) =>
 some (inl (v443,v453,v463,v671,v681,IntKind.wrap .i64 (v691+1))))
 (some (inr (inl (v442,v452,v462))))) ((v441,v451,v461,o7,(o7.length:Int),(0:Int)))) fun(v442,v452,v462) =>
 some (inl (v442,v452,v462)))) fun(v441,v451,v461) =>
 some (inl (v441,v451,IntKind.wrap .i64 (v461+1))))
 (some (inr (inl ())))) ((o61,(o61.length:Int),(0:Int)))) fun _ =>
 some (true)
def tb66:=insT 66 (mkE 66 true [] ti66 to66 F66 [.tmp 2] 85 []) tb34
theorem ok66:TbOk Tryz.prog tb66:=okI ok34 noPl tv66 func66 rfl call66
abbrev ti144:SPat:=⟨[(0,.i .i64)],[]⟩
abbrev to144:SPat:=⟨[(2,.s)],[]⟩
def F144:Int→Option (List UInt8):=fun n =>
 grdO (decide (0≤IntKind.wrap .u8 n)&&decide (IntKind.wrap .u8 n≤255)) (some ([UInt8.ofNat (Int.toNat (IntKind.wrap .u8 n))]))
def tb144:=insT 144 (mkE 144 true [] ti144 to144 F144 [.tmp 2] 7 []) tb66
theorem ok144:TbOk Tryz.prog tb144:=okI ok66 noPl noIv func144 rfl call144
abbrev ti145:SPat:=⟨[(0,.i .i64)],[]⟩
abbrev to145:SPat:=⟨[(2,.s)],[]⟩
def F145:Int→Option (List UInt8):=fun n =>
 zAA (F144 (Int.fdiv n (256:Int))) fun y =>
 zAA (F144 n) fun y1 =>
 grdO (decide (List.length y+List.length y1≤9223372036854775807)) (some (y++y1))
def tb145:=insT 145 (mkE 145 true [] ti145 to145 F145 [.tmp 2] 9 []) tb144
theorem ok145:TbOk Tryz.prog tb145:=okI ok144 noPl noIv func145 rfl call145
abbrev ti86:SPat:=⟨[(0,.i .i64)],[]⟩
abbrev to86:SPat:=⟨[(2,.b)],[]⟩
def F86:Int→Option (Bool):=fun flags =>
 some (!decide (andI IntKind.i64 flags (8:Int)=0))
def tb86:=insT 86 (mkE 86 true [] ti86 to86 F86 [.tmp 2] 6 []) tb145
theorem ok86:TbOk Tryz.prog tb86:=okI ok145 noPl noIv func86 rfl call86
abbrev ti146:SPat:=⟨[(0,.sl zAg)],[]⟩
abbrev to146:SPat:=⟨[(2,.s)],[]⟩
abbrev ts146_3:SPat:=⟨[(3,.s),(9,.sl zAg),(10,.i .i64),(11,.i .i64)],[]⟩
abbrev zLg:SPat:=⟨[(3,.s)],[]⟩
abbrev zLf:SPat:=⟨[(3,.s),(9,.sl zAg),(10,.i .i64),(11,.i .i64)],[]⟩
def tv146:Nat→Option SPat:=fun k=>bif k==3 then some ts146_3 else bif k==2000000 then some zLg else bif k==2000001 then some zLf else none
def F146:List (Int×Int)→Option (List UInt8):=fun list =>
 zAA (F144 (list.length:Int)) fun y =>
 bindE (Y:=List UInt8) (zAD (fun(out,v9,v10,v11) =>
 cndO (decide (v11<v10))
 (bindE (Y:=List UInt8×List (Int×Int)×Int×Int) (grdO (decide (0≤v11)) (atO (v9) v11.toNat fun x=>zAA (F144 (x.1)) fun y1 =>
 grdO (decide (List.length out+List.length y1≤9223372036854775807)) (cndO (decide (x.1=3))
 (zAA (F145 (x.2)) fun y2 =>
 grdO (decide (List.length (out++y1)+List.length y2≤9223372036854775807)) (some (inl (out++y1++y2,v9,v10,v11))))
 (some (inl (out++y1,v9,v10,v11)))))) fun(out1,v91,v101,v111) =>
 some (inl (out1,v91,v101,IntKind.wrap .i64 (v111+1))))
 (some (inr (inl out)))) ((y,list,(list.length:Int),(0:Int)))) fun out =>
 some (out)
def tb146:=insT 146 (mkE 146 true [] ti146 to146 F146 [.tmp 2] 30 []) tb86
theorem ok146:TbOk Tryz.prog tb146:=okI ok86 noPl tv146 func146 rfl call146
abbrev ti67:SPat:=⟨[(0,.agg (pl plC))],[]⟩
abbrev to67:SPat:=⟨[(2,.s)],[]⟩
abbrev ts67_3:SPat:=⟨[(1,.ptr 1 0),(3,.s),(22,.sl tg27),(23,.i .i64),(24,.i .i64)],[.box 1 (pl plC)]⟩
abbrev ts67_15:SPat:=⟨[(1,.ptr 1 0),(3,.s),(82,.sl (.int .i64)),(83,.i .i64),(84,.i .i64)],[.box 1 (pl plC)]⟩
abbrev ts67_21:SPat:=⟨[(1,.ptr 1 0),(3,.s),(100,.sl tg89),(101,.i .i64),(102,.i .i64)],[.box 1 (pl plC)]⟩
abbrev ts67_27:SPat:=⟨[(3,.s),(127,.sl tg53),(128,.i .i64),(129,.i .i64)],[]⟩
abbrev ts67_33:SPat:=⟨[(3,.s),(11,.ptr 11 0),(127,.sl tg53),(128,.i .i64),(129,.i .i64),(172,.sl zBq),(173,.i .i64),(174,.i .i64)],[.box 11 (pl plM)]⟩
abbrev ts67_39:SPat:=⟨[(3,.s),(127,.sl tg53),(128,.i .i64),(129,.i .i64),(203,.sl zBL),(204,.i .i64),(205,.i .i64)],[]⟩
abbrev zOB:SPat:=⟨[(1,.ptr 1 0),(3,.s)],[.box 1 (pl plC)]⟩
abbrev zOA:SPat:=⟨[(1,.ptr 1 0),(3,.s),(22,.sl tg27),(23,.i .i64),(24,.i .i64)],[.box 1 (pl plC)]⟩
abbrev zNz:SPat:=⟨[(1,.ptr 1 0),(3,.s)],[.box 1 (pl plC)]⟩
abbrev zNy:SPat:=⟨[(1,.ptr 1 0),(3,.s)],[.box 1 (pl plC)]⟩
abbrev zNx:SPat:=⟨[(3,.s)],[]⟩
abbrev zNw:SPat:=⟨[(3,.s),(127,.sl tg53),(128,.i .i64),(129,.i .i64)],[]⟩
abbrev zNv:SPat:=⟨[(3,.s),(11,.ptr 11 0),(127,.sl tg53),(128,.i .i64),(129,.i .i64)],[.box 11 (pl plM)]⟩
abbrev zNu:SPat:=⟨[(3,.s),(127,.sl tg53),(128,.i .i64),(129,.i .i64)],[]⟩
def tv67:Nat→Option SPat:=fun k=>bif k==3 then some ts67_3 else bif k==15 then some ts67_15 else bif k==21 then some ts67_21 else bif k==27 then some ts67_27 else bif k==33 then some ts67_33 else bif k==39 then some ts67_39 else bif k==2000000 then some zOB else bif k==2000002 then some zOA else bif k==2000003 then some zNz else bif k==2000005 then some zNy else bif k==2000007 then some zNx else bif k==2000008 then some zNw else bif k==2000009 then some zNv else bif k==2000011 then some zNu else none
def tp67:Nat→List Nat×Plan:=fun id=>bif id==9 then([0,1,2,3,5,6],(.br 4 [3,2,1] [0,5,6] [7,8] (.br 9 [8,7,6,5,4,3,2,1,0] [] [] .fin .fin) .fin))else bif id==7 then([0,1,2,4,5],(.br 3 [2,1] [0,4,5] [] (.br 6 [5,4,3,2,1] [0] [7,8] (.br 9 [8,7,6,5,4,3,2,1,0] [] [] .fin .fin) .fin) .fin))else bif id==13 then([0,1,2,4,5,8,9,12,13,14],(.br 3 [2,1] [0,4,5,8,9,12,13,14] [] (.br 6 [5,4,3,2,1] [0,8,9,12,13,14] [7] (.br 10 [9,8,6,5,4,3,2,1] [0,12,13,14,7] [11] (.br 15 [14,13,12,10,9,8,6,5,4,3,2,1] [0,7,11] [16,17] (.br 18 [17,16,15,14,13,12,11,10,9,8,7,6,5,4,3,2,1,0] [] [] .fin .fin) .fin) .fin) .fin) .fin))else bif id==23 then([0,1,2,4,5,8,9],(.br 3 [2,1] [0,4,5,8,9] [] (.br 6 [5,4,3,2,1] [0,8,9] [7] (.br 10 [9,8,6,5,4,3,2,1] [0,7] [11,12] (.br 13 [12,11,10,9,8,7,6,5,4,3,2,1,0] [] [] .fin .fin) .fin) .fin) .fin))else bif id==29 then([0,1,2,4,5,8,9],(.br 3 [2,1] [0,4,5,8,9] [] (.br 6 [5,4,3,2,1] [0,8,9] [7] (.br 10 [9,8,6,5,4,3,2,1] [0,7] [11,12] (.br 13 [12,11,10,9,8,7,6,5,4,3,2,1,0] [] [] .fin .fin) .fin) .fin) .fin))else bif id==31 then([0,1,2,4,5,8,9,10,13,14,16,17,18],(.br 3 [2,1] [0,4,5,8,9,10,13,14,16,17,18] [] (.br 6 [5,4,3,2,1] [0,8,9,10,13,14,16,17,18] [7] (.br 11 [10,9,8,6,5,4,3,2,1] [0,13,14,16,17,18,7] [12,15] (.br 19 [18,17,16,11,10,9,8,6,5,4,3,2,1] [0,13,14,7,12,15] [20,21] (.br 22 [21,20,19,18,17,16,15,14,13,12,11,10,9,8,7,6,5,4,3,2,1,0] [] [] .fin .fin) .fin) .fin) .fin) .fin))else bif id==35 then([0,1,2,4,5,8,9,12,13],(.br 3 [2,1] [0,4,5,8,9,12,13] [] (.br 6 [5,4,3,2,1] [0,8,9,12,13] [7] (.br 10 [9,8,6,5,4,3,2,1] [0,12,13,7] [11] (.br 14 [13,12,10,9,8,6,5,4,3,2,1] [0,7,11] [15,16] (.br 17 [16,15,14,13,12,11,10,9,8,7,6,5,4,3,2,1,0] [] [] .fin .fin) .fin) .fin) .fin) .fin))else bif id==41 then([0,1,2,4,5,8,9],(.br 3 [2,1] [0,4,5,8,9] [] (.br 6 [5,4,3,2,1] [0,8,9] [7] (.br 10 [9,8,6,5,4,3,2,1] [0,7] [11,12] (.br 13 [12,11,10,9,8,7,6,5,4,3,2,1,0] [] [] .fin .fin) .fin) .fin) .fin))else([],.fin)
def F67:Cls→Option (List UInt8):=fun(app0,app1,app2,app3,app4,app5,app6) =>
 zAA (F144 (app0.length:Int)) fun y =>
 grdO (decide ((4:Nat)+List.length y≤9223372036854775807)) (bindE (Y:=List UInt8×Cls) (zAD (fun(v3,v22,v23,v24,o0,o1,o2,o3,o4,o5,o6) =>
 cndO (decide (v24<v23))
 (grdO (decide (0≤v24)) (atO (v22) v24.toNat fun x=>zAA (F144 (x.1)) fun y1 =>
 grdO (decide (List.length v3+List.length y1≤9223372036854775807)) (bindE (Y:=List UInt8×List Cst×Int×Int×Cls) (cndO (decide (x.1=1))
 (zAA (F144 (x.2.1.length:Int)) fun y2 =>
 seqU (seqU (grdO (decide (v3++y1=v3++y1)) (some ())) (seqU (grdO (decide (x.2.1=x.2.1)) (some ())) (some ()))) (grdO (decide (List.length y2+List.length (x.2.1)≤9223372036854775807)) (grdO (decide (List.length (v3++y1)+List.length (y2++x.2.1)≤9223372036854775807)) (some (inl (v3++y1++(y2++x.2.1),v22,v23,v24,o0,o1,o2,o3,o4,o5,o6))))))
 (cndO (decide (x.1=2))
 (zAA (F145 (x.2.2.1)) fun y2 =>
 grdO (decide (List.length (v3++y1)+List.length y2≤9223372036854775807)) (some (inl (v3++y1++y2,v22,v23,v24,o0,o1,o2,o3,o4,o5,o6))))
 (zAA (F145 (x.2.2.1)) fun y2 =>
 seqU (seqU (grdO (decide (v3++y1=v3++y1)) (some ())) (seqU (grdO (decide (x.2.2.2=x.2.2.2)) (some ())) (some ()))) (zAA (F145 (x.2.2.2)) fun y3 =>
 seqU (seqU (grdO (decide (v3++y1=v3++y1)) (some ())) (some ())) (grdO (decide (List.length y2+List.length y3≤9223372036854775807)) (grdO (decide (List.length (v3++y1)+List.length (y2++y3)≤9223372036854775807)) (some (inl (v3++y1++(y2++y3),v22,v23,v24,o0,o1,o2,o3,o4,o5,o6))))))))) fun(v31,v221,v231,v241,o01,o11,o21,o31,o41,o51,o61) =>
 some (inl (v31,v221,v231,IntKind.wrap .i64 (v241+1),o01,o11,o21,o31,o41,o51,o61)))))
 (some (inr (inl (v3,o0,o1,o2,o3,o4,o5,o6))))) (([(83:UInt8),84,79,87]++y,app0,(app0.length:Int),(0:Int),app0,app1,app2,app3,app4,app5,app6))) fun(v3,o0,o1,o2,o3,o4,o5,o6) =>
 zAA (F144 o1) fun y1 =>
 seqU (seqU (grdO (decide (v3=v3)) (some ())) (seqU (grdO (decide (o2=o2)) (some ())) (seqU (grdO (decide (o3=o3)) (some ())) (seqU (grdO (decide (o4=o4)) (some ())) (seqU (grdO (decide ((o4.length:Int)=(o4.length:Int))) (some ())) (some ())))))) (zAA (F145 o2) fun y2 =>
 seqU (seqU (grdO (decide (v3=v3)) (some ())) (seqU (grdO (decide (o3=o3)) (some ())) (seqU (grdO (decide (o4=o4)) (some ())) (seqU (grdO (decide ((o4.length:Int)=(o4.length:Int))) (some ())) (some ()))))) (grdO (decide (List.length y1+List.length y2≤9223372036854775807)) (zAA (F145 o3) fun y3 =>
 seqU (seqU (grdO (decide (v3=v3)) (some ())) (seqU (grdO (decide (o4=o4)) (some ())) (seqU (grdO (decide ((o4.length:Int)=(o4.length:Int))) (some ())) (seqU (grdO (decide (List.length y1+List.length y2≤9223372036854775807)) (grdO (decide (y1++y2=y1++y2)) (some ()))) (some ()))))) (grdO (decide (List.length (y1++y2)+List.length y3≤9223372036854775807)) (zAA (F144 (o4.length:Int)) fun y4 =>
 seqU (seqU (grdO (decide (v3=v3)) (some ())) (seqU (grdO (decide (List.length y1+List.length y2≤9223372036854775807)) (grdO (decide (y1++y2=y1++y2)) (some ()))) (seqU (grdO (decide (List.length (y1++y2)+List.length y3≤9223372036854775807)) (grdO (decide (y1++y2++y3=y1++y2++y3)) (some ()))) (some ())))) (grdO (decide (List.length (y1++y2++y3)+List.length y4≤9223372036854775807)) (grdO (decide (List.length v3+List.length (y1++y2++y3++y4)≤9223372036854775807)) (bindE (Y:=List UInt8×Cls) (zAD (fun(v31,v82,v83,v84,o01,o11,o21,o31,o41,o51,o61) =>
 cndO (decide (v84<v83))
 (grdO (decide (0≤v84)) (atO (v82) v84.toNat fun x=>zAA (F145 x) fun y5 =>
 grdO (decide (List.length v31+List.length y5≤9223372036854775807)) (some (inl (v31++y5,v82,v83,IntKind.wrap .i64 (v84+1),o01,o11,o21,o31,o41,o51,o61)))))
 (some (inr (inl (v31,o01,o11,o21,o31,o41,o51,o61))))) ((v3++(y1++y2++y3++y4),o4,(o4.length:Int),(0:Int),o0,o1,o2,o3,o4,o5,o6))) fun(v31,o01,o11,o21,o31,o41,o51,o61) =>
 zAA (F144 (o51.length:Int)) fun y5 =>
 grdO (decide (List.length v31+List.length y5≤9223372036854775807)) (bindE (Y:=List UInt8×Cls) (zAD (fun(v32,v100,v101,v102,o02,o12,o22,o32,o42,o52,o62) =>
 cndO (decide (v102<v101))
 (grdO (decide (0≤v102)) (atO (v100) v102.toNat fun x=>zAA (F144 (x.1)) fun y6 =>
 seqU (seqU (grdO (decide (v32=v32)) (some ())) (seqU (grdO (decide (x.2.1=x.2.1)) (some ())) (seqU (grdO (decide (x.2.2=x.2.2)) (some ())) (some ())))) (zAA (F145 (x.2.1)) fun y7 =>
 seqU (seqU (grdO (decide (v32=v32)) (some ())) (seqU (grdO (decide (x.2.2=x.2.2)) (some ())) (some ()))) (grdO (decide (List.length y6+List.length y7≤9223372036854775807)) (zAA (F145 (x.2.2)) fun y8 =>
 seqU (seqU (grdO (decide (v32=v32)) (some ())) (seqU (grdO (decide (List.length y6+List.length y7≤9223372036854775807)) (grdO (decide (y6++y7=y6++y7)) (some ()))) (some ()))) (grdO (decide (List.length (y6++y7)+List.length y8≤9223372036854775807)) (grdO (decide (List.length v32+List.length (y6++y7++y8)≤9223372036854775807)) (some (inl (v32++(y6++y7++y8),v100,v101,IntKind.wrap .i64 (v102+1),o02,o12,o22,o32,o42,o52,o62))))))))))
 (some (inr (inl (v32,o02,o12,o22,o32,o42,o52,o62))))) ((v31++y5,o51,(o51.length:Int),(0:Int),o01,o11,o21,o31,o41,o51,o61))) fun(v32,o02,o12,o22,o32,o42,o52,o62) =>
 zAA (F144 (o62.length:Int)) fun y6 =>
 grdO (decide (List.length v32+List.length y6≤9223372036854775807)) (bindE (Y:=List UInt8) (zAD (fun(v33,v127,v128,v129) =>
 cndO (decide (v129<v128))
 (bindE (Y:=List UInt8×List Mth×Int×Int) (grdO (decide (0≤v129)) (atO (v127) v129.toNat fun x=>zAA (F144 (x.1)) fun y7 =>
 seqU (seqU (grdO (decide (v33=v33)) (some ())) (seqU (grdO (decide (x.2.1=x.2.1)) (some ())) (seqU (grdO (decide (x.2.2.1=x.2.2.1)) (some ())) (some ())))) (zAA (F145 (x.2.1)) fun y8 =>
 seqU (seqU (grdO (decide (v33=v33)) (some ())) (seqU (grdO (decide (x.2.2.1=x.2.2.1)) (some ())) (some ()))) (grdO (decide (List.length y7+List.length y8≤9223372036854775807)) (zAA (F145 (x.2.2.1)) fun y9 =>
 seqU (seqU (grdO (decide (v33=v33)) (some ())) (seqU (grdO (decide (List.length y7+List.length y8≤9223372036854775807)) (grdO (decide (y7++y8=y7++y8)) (some ()))) (some ()))) (grdO (decide (List.length (y7++y8)+List.length y9≤9223372036854775807)) (grdO (decide (List.length v33+List.length (y7++y8++y9)≤9223372036854775807)) (zAA (F86 (x.1)) fun y10 =>
 cndO (y10)
 (some (inl (v33++(y7++y8++y9),v127,v128,v129)))
 (zAA (F144 (x.2.2.2.1)) fun y11 =>
 seqU (seqU (grdO (decide (v33++(y7++y8++y9)=v33++(y7++y8++y9))) (some ())) (seqU (grdO (decide (x.2.2.2.2.1=x.2.2.2.2.1)) (some ())) (seqU (grdO (decide (x.2.2.2.2.2.1=x.2.2.2.2.2.1)) (some ())) (seqU (grdO (decide ((x.2.2.2.2.2.1.length:Int)=(x.2.2.2.2.2.1.length:Int))) (some ())) (seqU (grdO (decide (x.2.2.2.2.2.1=x.2.2.2.2.2.1)) (some ())) (seqU (grdO (decide (x.2.2.2.2.2.2.1=x.2.2.2.2.2.2.1)) (some ())) (seqU (grdO (decide ((x.2.2.2.2.2.2.1.length:Int)=(x.2.2.2.2.2.2.1.length:Int))) (some ())) (some ())))))))) (zAA (F144 (x.2.2.2.2.1)) fun y12 =>
 seqU (seqU (grdO (decide (v33++(y7++y8++y9)=v33++(y7++y8++y9))) (some ())) (seqU (grdO (decide (x.2.2.2.2.2.1=x.2.2.2.2.2.1)) (some ())) (seqU (grdO (decide ((x.2.2.2.2.2.1.length:Int)=(x.2.2.2.2.2.1.length:Int))) (some ())) (seqU (grdO (decide (x.2.2.2.2.2.1=x.2.2.2.2.2.1)) (some ())) (seqU (grdO (decide (x.2.2.2.2.2.2.1=x.2.2.2.2.2.2.1)) (some ())) (seqU (grdO (decide ((x.2.2.2.2.2.2.1.length:Int)=(x.2.2.2.2.2.2.1.length:Int))) (some ())) (some ()))))))) (grdO (decide (List.length y11+List.length y12≤9223372036854775807)) (zAA (F145 (x.2.2.2.2.2.1.length:Int)) fun y13 =>
 seqU (seqU (grdO (decide (v33++(y7++y8++y9)=v33++(y7++y8++y9))) (some ())) (seqU (grdO (decide (x.2.2.2.2.2.1=x.2.2.2.2.2.1)) (some ())) (seqU (grdO (decide (x.2.2.2.2.2.2.1=x.2.2.2.2.2.2.1)) (some ())) (seqU (grdO (decide ((x.2.2.2.2.2.2.1.length:Int)=(x.2.2.2.2.2.2.1.length:Int))) (some ())) (seqU (grdO (decide (List.length y11+List.length y12≤9223372036854775807)) (grdO (decide (y11++y12=y11++y12)) (some ()))) (some ())))))) (grdO (decide (List.length (y11++y12)+List.length y13≤9223372036854775807)) (grdO (decide (List.length (y11++y12++y13)+List.length (x.2.2.2.2.2.1)≤9223372036854775807)) (zAA (F144 (x.2.2.2.2.2.2.1.length:Int)) fun y14 =>
 seqU (seqU (grdO (decide (v33++(y7++y8++y9)=v33++(y7++y8++y9))) (some ())) (seqU (grdO (decide (x.2.2.2.2.2.1=x.2.2.2.2.2.1)) (some ())) (seqU (grdO (decide (List.length y11+List.length y12≤9223372036854775807)) (grdO (decide (y11++y12=y11++y12)) (some ()))) (seqU (grdO (decide (List.length (y11++y12)+List.length y13≤9223372036854775807)) (grdO (decide (y11++y12++y13=y11++y12++y13)) (some ()))) (seqU (grdO (decide (List.length (y11++y12++y13)+List.length (x.2.2.2.2.2.1)≤9223372036854775807)) (grdO (decide (y11++y12++y13++x.2.2.2.2.2.1=y11++y12++y13++x.2.2.2.2.2.1)) (some ()))) (some ())))))) (grdO (decide (List.length (y11++y12++y13++x.2.2.2.2.2.1)+List.length y14≤9223372036854775807)) (grdO (decide (List.length (v33++(y7++y8++y9))+List.length (y11++y12++y13++x.2.2.2.2.2.1++y14)≤9223372036854775807)) (bindE (Y:=List UInt8×List Mth×Int×Int×Mth) (zAD (fun(v34,v1271,v1281,v1291,v172,v173,v174,o03,o13,o23,o33,o43,o53,o63,o7) =>
 cndO (decide (v174<v173))
 (grdO (decide (0≤v174)) (atO (v172) v174.toNat fun x1=>zAA (F145 (x1.1)) fun y15 =>
 seqU (seqU (grdO (decide (v34=v34)) (some ())) (seqU (grdO (decide (x1.2.1=x1.2.1)) (some ())) (seqU (grdO (decide (x1.2.2.1=x1.2.2.1)) (some ())) (seqU (grdO (decide (x1.2.2.2=x1.2.2.2)) (some ())) (some ()))))) (zAA (F145 (x1.2.1)) fun y16 =>
 seqU (seqU (grdO (decide (v34=v34)) (some ())) (seqU (grdO (decide (x1.2.2.1=x1.2.2.1)) (some ())) (seqU (grdO (decide (x1.2.2.2=x1.2.2.2)) (some ())) (some ())))) (grdO (decide (List.length y15+List.length y16≤9223372036854775807)) (zAA (F145 (x1.2.2.1)) fun y17 =>
 seqU (seqU (grdO (decide (v34=v34)) (some ())) (seqU (grdO (decide (x1.2.2.2=x1.2.2.2)) (some ())) (seqU (grdO (decide (List.length y15+List.length y16≤9223372036854775807)) (grdO (decide (y15++y16=y15++y16)) (some ()))) (some ())))) (grdO (decide (List.length (y15++y16)+List.length y17≤9223372036854775807)) (zAA (F145 (x1.2.2.2)) fun y18 =>
 seqU (seqU (grdO (decide (v34=v34)) (some ())) (seqU (grdO (decide (List.length y15+List.length y16≤9223372036854775807)) (grdO (decide (y15++y16=y15++y16)) (some ()))) (seqU (grdO (decide (List.length (y15++y16)+List.length y17≤9223372036854775807)) (grdO (decide (y15++y16++y17=y15++y16++y17)) (some ()))) (some ())))) (grdO (decide (List.length (y15++y16++y17)+List.length y18≤9223372036854775807)) (grdO (decide (List.length v34+List.length (y15++y16++y17++y18)≤9223372036854775807)) (some (inl (v34++(y15++y16++y17++y18),v1271,v1281,v1291,v172,v173,IntKind.wrap .i64 (v174+1),o03,o13,o23,o33,o43,o53,o63,o7))))))))))))
 (some (inr (inl (v34,v1271,v1281,v1291,o03,o13,o23,o33,o43,o53,o63,o7))))) ((v33++(y7++y8++y9)++(y11++y12++y13++x.2.2.2.2.2.1++y14),v127,v128,v129,x.2.2.2.2.2.2.1,(x.2.2.2.2.2.2.1.length:Int),(0:Int),x.1,x.2.1,x.2.2.1,x.2.2.2.1,x.2.2.2.2.1,x.2.2.2.2.2.1,x.2.2.2.2.2.2.1,x.2.2.2.2.2.2.2))) fun(v34,v1271,v1281,v1291,o03,o13,o23,o33,o43,o53,o63,o7) =>
 zAA (F144 (o7.length:Int)) fun y15 =>
 grdO (decide (List.length v34+List.length y15≤9223372036854775807)) (bindE (Y:=List UInt8×List Mth×Int×Int) (zAD (fun(v35,v1272,v1282,v1292,v203,v204,v205) =>
 cndO (decide (v205<v204))
 (grdO (decide (0≤v205)) (atO (v203) v205.toNat fun x1=>zAA (F145 (x1.1)) fun y16 =>
 seqU (seqU (grdO (decide (v35=v35)) (some ())) (seqU (grdO (decide (x1.2.1=x1.2.1)) (some ())) (seqU (grdO (decide (x1.2.2=x1.2.2)) (some ())) (some ())))) (zAA (F146 (x1.2.1)) fun y17 =>
 seqU (seqU (grdO (decide (v35=v35)) (some ())) (seqU (grdO (decide (x1.2.2=x1.2.2)) (some ())) (some ()))) (grdO (decide (List.length y16+List.length y17≤9223372036854775807)) (zAA (F146 (x1.2.2)) fun y18 =>
 seqU (seqU (grdO (decide (v35=v35)) (some ())) (seqU (grdO (decide (List.length y16+List.length y17≤9223372036854775807)) (grdO (decide (y16++y17=y16++y17)) (some ()))) (some ()))) (grdO (decide (List.length (y16++y17)+List.length y18≤9223372036854775807)) (grdO (decide (List.length v35+List.length (y16++y17++y18)≤9223372036854775807)) (some (inl (v35++(y16++y17++y18),v1272,v1282,v1292,v203,v204,IntKind.wrap .i64 (v205+1)))))))))))
 (some (inr (inl (v35,v1272,v1282,v1292))))) ((v34++y15,v1271,v1281,v1291,o7,(o7.length:Int),(0:Int)))) fun(v35,v1272,v1282,v1292) =>
 some (inl (v35,v1272,v1282,v1292))))))))))))))))))))) fun(v34,v1271,v1281,v1291) =>
 some (inl (v34,v1271,v1281,IntKind.wrap .i64 (v1291+1))))
 (some (inr (inl v33)))) ((v32++y6,o62,(o62.length:Int),(0:Int)))) fun v33 =>
 some (v33))))))))))))
def tb67:=insT 67 (mkE 67 true [] ti67 to67 F67 [.tmp 2] 225 []) tb146
theorem ok67:TbOk Tryz.prog tb67:=okI ok146 tp67 tv67 func67 rfl call67
abbrev ti57:SPat:=⟨[(0,.ptr 100000 0),(1,.i .i64)],[.box 100000 (pl [.s,.b])]⟩
abbrev to57:SPat:=⟨[(4,.s)],[.box 100000 (pl [.s,.b])]⟩
abbrev zOP:SPat:=⟨[(0,.ptr 100000 0),(1,.i .i64),(18,.b)],[.box 100000 (pl [.s,.b])]⟩
def tv57:Nat→Option SPat:=fun k=>bif k==1000002 then some zOP else none
def F57:Int×List UInt8×Bool→Option (List UInt8×List UInt8×Bool):=fun(n,o0,o1) =>
 bindE (Y:=Int×Bool×List UInt8×Bool) (cndO (o1)
 (some (inl (n,true,o0,o1)))
 (some (inl (n,decide ((o0.length:Int)<n),o0,o1)))) fun(n1,v18,o01,o11) =>
 cndO (v18)
 (some (([],o01,true)))
 (grdO (decide (0≤n1)&&decide (n1≤(o01.length:Int))) (grdO (decide (0≤n1)&&decide (n1≤(o01.length:Int))&&decide ((o01.length:Int)≤(o01.length:Int))) (some ((List.drop (0:Nat) (List.take n1.toNat o01),List.drop n1.toNat (List.take (Int.toNat (o01.length:Int)) o01),o11)))))
def tb57:=insT 57 (mkE 57 false [(0,[])] ti57 to57 F57 [.tmp 4] 38 [100000]) tb67
theorem ok57:TbOk Tryz.prog tb57:=okI ok67 noPl tv57 func57 rfl call57
abbrev ti59:SPat:=⟨[(0,.ptr 100000 0)],[.box 100000 (pl [.s,.b])]⟩
abbrev to59:SPat:=⟨[(2,.i .i64)],[.box 100000 (pl [.s,.b])]⟩
def F59:List UInt8×Bool→Option (Int×List UInt8×Bool):=fun(o0,o1) =>
 zAA (F57 ((1:Int),o0,o1)) fun(y,y1,y2) =>
 cndO (y2)
 (some (((0:Int),y1,y2)))
 (atO (y) ((0:Nat)) fun x=>some ((IntKind.wrap .i64 (x.toNat:Int),y1,y2)))
def tb59:=insT 59 (mkE 59 false [(0,[])] ti59 to59 F59 [.tmp 2] 13 [100000]) tb57
theorem ok59:TbOk Tryz.prog tb59:=okI ok57 noPl noIv func59 rfl call59
abbrev ti58:SPat:=⟨[(0,.ptr 100000 0),(1,.i .i64),(2,.i .i64)],[.box 100000 (pl [.s,.b])]⟩
abbrev to58:SPat:=⟨[(6,.i .i64)],[.box 100000 (pl [.s,.b])]⟩
def F58:Int×Int×List UInt8×Bool→Option (Int×List UInt8×Bool):=fun(n,most,o0,o1) =>
 cndO (decide (most<n))
 (some (((0:Int),o0,true)))
 (some ((n,o0,o1)))
def tb58:=insT 58 (mkE 58 false [(0,[])] ti58 to58 F58 [.tmp 6] 14 [100000]) tb59
theorem ok58:TbOk Tryz.prog tb58:=okI ok59 noPl noIv func58 rfl call58
abbrev ti61:SPat:=⟨[(0,.ptr 100000 0)],[.box 100000 (pl [.s,.b])]⟩
abbrev to61:SPat:=⟨[(2,.i .i64)],[.box 100000 (pl [.s,.b])]⟩
def F61:List UInt8×Bool→Option (Int×List UInt8×Bool):=fun(o0,o1) =>
 zAA (F59 (o0,o1)) fun(y,y1,y2) =>
 zAA (F59 (y1,y2)) fun(y3,y4,y5) =>
 some ((IntKind.wrap .i64 (IntKind.wrap .i64 ((256:Int)*y)+y3),y4,y5))
def tb61:=insT 61 (mkE 61 false [(0,[])] ti61 to61 F61 [.tmp 2] 11 [100000]) tb58
theorem ok61:TbOk Tryz.prog tb61:=okI ok58 noPl noIv func61 rfl call61
abbrev ti60:SPat:=⟨[(0,.ptr 100000 0)],[.box 100000 (pl [.s,.b])]⟩
abbrev to60:SPat:=⟨[(2,.ptr 2 0)],[.box 2 (pl [.i .i64,.s,.i .i64,.i .i64]),.box 100000 (pl [.s,.b])]⟩
abbrev zOO:SPat:=⟨[(0,.ptr 100000 0),(2,.ptr 2 0),(3,.ptr 3 0),(24,.b)],[.box 2 (pl [.i .i64,.s,.i .i64,.i .i64]),.box 3 (pl [.i .i64,.s,.i .i64,.i .i64]),.box 100000 (pl [.s,.b])]⟩
abbrev zON:SPat:=⟨[(2,.ptr 2 0),(3,.ptr 3 0)],[.box 2 (pl [.i .i64,.s,.i .i64,.i .i64]),.box 3 (pl [.i .i64,.s,.i .i64,.i .i64]),.box 100000 (pl [.s,.b])]⟩
def tv60:Nat→Option SPat:=fun k=>bif k==1000012 then some zOO else bif k==2000000 then some zON else none
def F60:List UInt8×Bool→Option ((Cst)×List UInt8×Bool):=fun(o0,o1) =>
 zAA (F59 (o0,o1)) fun(y,y1,y2) =>
 bindE (Y:=(Cst)×(Cst)×List UInt8×Bool) (cndO (decide (y=1))
 (zAA (F59 (y1,y2)) fun(y3,y4,y5) =>
 zAA (F57 (y3,y4,y5)) fun(y6,y7,y8) =>
 some (inl (((0:Int),[],(0:Int),(0:Int)),(y,y6,(0:Int),(0:Int)),y7,y8)))
 (cndO (decide (y=2))
 (zAA (F61 (y1,y2)) fun(y3,y4,y5) =>
 some (inl (((0:Int),[],(0:Int),(0:Int)),(y,[],y3,(0:Int)),y4,y5)))
 (bindE (Y:=Bool×(Cst)×(Cst)×List UInt8×Bool) (cndO (decide (y=3))
 (some (inl (true,((0:Int),[],(0:Int),(0:Int)),(y,[],(0:Int),(0:Int)),y1,y2)))
 (cndO (decide (y=4))
 (some (inl (true,((0:Int),[],(0:Int),(0:Int)),(y,[],(0:Int),(0:Int)),y1,y2)))
 (cndO (decide (y=5))
 (some (inl (true,((0:Int),[],(0:Int),(0:Int)),(y,[],(0:Int),(0:Int)),y1,y2)))
 (some (inl (decide (y=6),((0:Int),[],(0:Int),(0:Int)),(y,[],(0:Int),(0:Int)),y1,y2)))))) fun(v24,(o01,o11,o2,o3),(o02,o12,o21,o31),o03,o13) =>
 cndO (v24)
 (zAA (F61 (o03,o13)) fun(y3,y4,y5) =>
 zAA (F61 (y4,y5)) fun(y6,y7,y8) =>
 some (inl ((o01,o11,o2,o3),(o02,o12,y3,y6),y7,y8)))
 (some (inl ((o01,o11,o2,o3),(o02,o12,o21,o31),o03,true)))))) fun((o01,o11,o2,o3),(o02,o12,o21,o31),o03,o13) =>
 some (((o02,o12,o21,o31),o03,o13))
def tb60:=insT 60 (mkE 60 false [(0,[])] ti60 to60 F60 [.cell 2 27] 36 [100000]) tb61
theorem ok60:TbOk Tryz.prog tb60:=okI ok61 noPl tv60 func60 rfl call60
abbrev ti141:SPat:=⟨[(0,.ptr 100000 0)],[.box 100000 (pl [.s,.b])]⟩
abbrev to141:SPat:=⟨[(2,.own zAg true)],[.box 100000 (pl [.s,.b])]⟩
abbrev ts141_3:SPat:=⟨[(0,.ptr 100000 0),(3,.own zAg true),(4,.i .i64)],[.box 100000 (pl [.s,.b])]⟩
abbrev zLt:SPat:=⟨[(0,.ptr 100000 0),(3,.own zAg true),(4,.i .i64)],[.box 100000 (pl [.s,.b])]⟩
abbrev zLs:SPat:=⟨[(3,.own zAg true)],[.box 100000 (pl [.s,.b])]⟩
abbrev zLr:SPat:=⟨[(0,.ptr 100000 0),(3,.own zAg true),(4,.i .i64)],[.box 100000 (pl [.s,.b])]⟩
def tv141:Nat→Option SPat:=fun k=>bif k==3 then some ts141_3 else bif k==1000005 then some zLt else bif k==2000000 then some zLs else bif k==2000001 then some zLr else none
def F141:List UInt8×Bool→Option (List (Int×Int)×List UInt8×Bool):=fun(o0,o1) =>
 zAA (F59 (o0,o1)) fun(y,y1,y2) =>
 zAA (F58 (y,(8:Int),y1,y2)) fun(y3,y4,y5) =>
 bindE (Y:=List (Int×Int)×List UInt8×Bool) (zAD (fun(out,n,o01,o11) =>
 bindE (Y:=List (Int×Int)×Int×List UInt8×Bool) (cndO (decide (0<n))
 (cndO (!o11)
 (some (inl (out,n,o01,o11)))
 (some (inr (inr (inl (out,o01,o11))))))
 (some (inr (inr (inl (out,o01,o11)))))) fun(out1,n1,o02,o12) =>
 bindE (Y:=List (Int×Int)×Int×List UInt8×Bool) (zAA (F59 (o02,o12)) fun(y6,y7,y8) =>
 zAA (F58 (y6,(3:Int),y7,y8)) fun(y9,y10,y11) =>
 cndO (decide (y9=3))
 (zAA (F61 (y10,y11)) fun(y12,y13,y14) =>
 grdO (decide (List.length out1+1≤9223372036854775807)&&decide ((List.length out1+1)*16≤140737488355328)) (some (inl (out1++[(y9,y12)],n1,y13,y14))))
 (grdO (decide (List.length out1+1≤9223372036854775807)&&decide ((List.length out1+1)*16≤140737488355328)) (some (inl (out1++[(y9,(0:Int))],n1,y10,y11))))) fun(out2,n2,o03,o13) =>
 some (inl (out2,IntKind.wrap .i64 (n2-1),o03,o13))) (([],y3,y4,y5))) fun(out,o01,o11) =>
 some ((out,o01,o11))
def tb141:=insT 141 (mkE 141 false [(0,[])] ti141 to141 F141 [.tmp 2] 37 [100000]) tb60
theorem ok141:TbOk Tryz.prog tb141:=okI ok60 noPl tv141 func141 rfl call141
abbrev ti62:SPat:=⟨[(0,.ptr 100000 0)],[.box 100000 (pl [.s,.b])]⟩
abbrev to62:SPat:=⟨[(2,.ptr 2 0)],[.box 2 (pl plN),.box 100000 (pl [.s,.b])]⟩
abbrev ts62_10:SPat:=⟨[(0,.ptr 100000 0),(2,.ptr 2 0),(3,.ptr 3 0),(4,.i .i64)],[.box 2 (pl plN),.box 3 (pl plN),.box 100000 (pl [.s,.b])]⟩
abbrev ts62_18:SPat:=⟨[(0,.ptr 100000 0),(2,.ptr 2 0),(3,.ptr 3 0),(6,.i .i64)],[.box 2 (pl plN),.box 3 (pl plN),.box 100000 (pl [.s,.b])]⟩
abbrev zOM:SPat:=⟨[(0,.ptr 100000 0),(2,.ptr 2 0),(3,.ptr 3 0),(4,.i .i64)],[.box 2 (pl plN),.box 3 (pl plN),.box 100000 (pl [.s,.b])]⟩
abbrev zOL:SPat:=⟨[(0,.ptr 100000 0),(2,.ptr 2 0),(3,.ptr 3 0),(6,.i .i64)],[.box 2 (pl plN),.box 3 (pl plN),.box 100000 (pl [.s,.b])]⟩
abbrev zOK:SPat:=⟨[(0,.ptr 100000 0),(2,.ptr 2 0),(3,.ptr 3 0)],[.box 2 (pl plN),.box 3 (pl plN),.box 100000 (pl [.s,.b])]⟩
abbrev zOJ:SPat:=⟨[(2,.ptr 2 0),(3,.ptr 3 0)],[.box 2 (pl plN),.box 3 (pl plN),.box 100000 (pl [.s,.b])]⟩
def tv62:Nat→Option SPat:=fun k=>bif k==10 then some ts62_10 else bif k==18 then some ts62_18 else bif k==1000012 then some zOM else bif k==1000020 then some zOL else bif k==2000000 then some zOK else bif k==2000002 then some zOJ else none
def F62:List UInt8×Bool→Option ((Mth)×List UInt8×Bool):=fun(o0,o1) =>
 zAA (F59 (o0,o1)) fun(y,y1,y2) =>
 zAA (F61 (y1,y2)) fun(y3,y4,y5) =>
 zAA (F61 (y4,y5)) fun(y6,y7,y8) =>
 zAA (F86 y) fun y9 =>
 cndO (y9)
 (some (((y,y3,y6,(0:Int),(0:Int),[],[],[]),y7,y8)))
 (zAA (F59 (y7,y8)) fun(y10,y11,y12) =>
 zAA (F59 (y11,y12)) fun(y13,y14,y15) =>
 zAA (F61 (y14,y15)) fun(y16,y17,y18) =>
 zAA (F58 (y16,(120:Int),y17,y18)) fun(y19,y20,y21) =>
 zAA (F57 (y19,y20,y21)) fun(y22,y23,y24) =>
 zAA (F59 (y23,y24)) fun(y25,y26,y27) =>
 zAA (F58 (y25,(3:Int),y26,y27)) fun(y28,y29,y30) =>
 bindE (Y:=(Mth)×(Mth)×List UInt8×Bool) (zAD (fun(v4,(o01,o11,o2,o3,o4,o5,o6,o7),(o02,o12,o21,o31,o41,o51,o61,o71),o03,o13) =>
 bindE (Y:=Int×(Mth)×(Mth)×List UInt8×Bool) (cndO (decide (0<v4))
 (cndO (!o13)
 (some (inl (v4,(o01,o11,o2,o3,o4,o5,o6,o7),(o02,o12,o21,o31,o41,o51,o61,o71),o03,o13)))
 (some (inr (inr (inl ((o01,o11,o2,o3,o4,o5,o6,o7),(o02,o12,o21,o31,o41,o51,o61,o71),o03,o13))))))
 (some (inr (inr (inl ((o01,o11,o2,o3,o4,o5,o6,o7),(o02,o12,o21,o31,o41,o51,o61,o71),o03,o13)))))) fun(v41,(o04,o14,o22,o32,o42,o52,o62,o72),(o05,o15,o23,o33,o43,o53,o63,o73),o06,o16) =>
 zAA (F61 (o06,o16)) fun(y31,y32,y33) =>
 zAA (F61 (y32,y33)) fun(y34,y35,y36) =>
 zAA (F61 (y35,y36)) fun(y37,y38,y39) =>
 zAA (F61 (y38,y39)) fun(y40,y41,y42) =>
 grdO (decide (List.length o63+1≤9223372036854775807)&&decide ((List.length o63+1)*32≤140737488355328)) (some (inl (IntKind.wrap .i64 (v41-1),(o04,o14,o22,o32,o42,o52,o62,o72),(o05,o15,o23,o33,o43,o53,o63++[(y31,y34,y37,y40)],o73),y41,y42)))) ((y28,((0:Int),(0:Int),(0:Int),(0:Int),(0:Int),[],[],[]),(y,y3,y6,y10,y13,y22,[],[]),y29,y30))) fun((o01,o11,o2,o3,o4,o5,o6,o7),(o02,o12,o21,o31,o41,o51,o61,o71),o03,o13) =>
 zAA (F59 (o03,o13)) fun(y31,y32,y33) =>
 zAA (F58 (y31,(8:Int),y32,y33)) fun(y34,y35,y36) =>
 bindE (Y:=(Mth)×(Mth)×List UInt8×Bool) (zAD (fun(v6,(o04,o14,o22,o32,o42,o52,o62,o72),(o05,o15,o23,o33,o43,o53,o63,o73),o06,o16) =>
 bindE (Y:=Int×(Mth)×(Mth)×List UInt8×Bool) (cndO (decide (0<v6))
 (cndO (!o16)
 (some (inl (v6,(o04,o14,o22,o32,o42,o52,o62,o72),(o05,o15,o23,o33,o43,o53,o63,o73),o06,o16)))
 (some (inr (inr (inl ((o04,o14,o22,o32,o42,o52,o62,o72),(o05,o15,o23,o33,o43,o53,o63,o73),o06,o16))))))
 (some (inr (inr (inl ((o04,o14,o22,o32,o42,o52,o62,o72),(o05,o15,o23,o33,o43,o53,o63,o73),o06,o16)))))) fun(v61,(o07,o17,o24,o34,o44,o54,o64,o74),(o08,o18,o25,o35,o45,o55,o65,o75),o09,o19) =>
 zAA (F61 (o09,o19)) fun(y37,y38,y39) =>
 zAA (F141 (y38,y39)) fun(y40,y41,y42) =>
 zAA (F141 (y41,y42)) fun(y43,y44,y45) =>
 grdO (decide (List.length o75+1≤9223372036854775807)&&decide ((List.length o75+1)*56≤140737488355328)) (some (inl (IntKind.wrap .i64 (v61-1),(o07,o17,o24,o34,o44,o54,o64,o74),(o08,o18,o25,o35,o45,o55,o65,o75++[(y37,y40,y43)]),y44,y45)))) ((y34,(o01,o11,o2,o3,o4,o5,o6,o7),(o02,o12,o21,o31,o41,o51,o61,o71),y35,y36))) fun((o04,o14,o22,o32,o42,o52,o62,o72),(o05,o15,o23,o33,o43,o53,o63,o73),o06,o16) =>
 some (((o05,o15,o23,o33,o43,o53,o63,o73),o06,o16)))
def tb62:=insT 62 (mkE 62 false [(0,[])] ti62 to62 F62 [.cell 2 53] 98 [100000]) tb141
theorem ok62:TbOk Tryz.prog tb62:=okI ok141 noPl tv62 func62 rfl call62
abbrev ti17:SPat:=⟨[(0,.s)],[]⟩
abbrev to17:SPat:=⟨[(2,.ptr 2 0),(3,.b)],[.box 2 (pl plD)]⟩
abbrev ts17_8:SPat:=⟨[(2,.ptr 2 0),(4,.ptr 17 0),(5,.ptr 5 0),(6,.i .i64)],[.box 2 (pl plD),.box 5 (pl plD),.box 17 (pl [.s,.b])]⟩
abbrev ts17_15:SPat:=⟨[(2,.ptr 2 0),(4,.ptr 17 0),(5,.ptr 5 0),(7,.i .i64)],[.box 2 (pl plD),.box 5 (pl plD),.box 17 (pl [.s,.b])]⟩
abbrev ts17_19:SPat:=⟨[(2,.ptr 2 0),(4,.ptr 17 0),(5,.ptr 5 0),(8,.i .i64)],[.box 2 (pl plD),.box 5 (pl plD),.box 17 (pl [.s,.b])]⟩
abbrev ts17_26:SPat:=⟨[(2,.ptr 2 0),(4,.ptr 17 0),(5,.ptr 5 0),(10,.i .i64)],[.box 2 (pl plD),.box 5 (pl plD),.box 17 (pl [.s,.b])]⟩
abbrev zOt:SPat:=⟨[(2,.ptr 2 0),(4,.ptr 17 0),(5,.ptr 5 0),(6,.i .i64)],[.box 2 (pl plD),.box 5 (pl plD),.box 17 (pl [.s,.b])]⟩
abbrev zOs:SPat:=⟨[(2,.ptr 2 0),(4,.ptr 17 0),(5,.ptr 5 0),(7,.i .i64)],[.box 2 (pl plD),.box 5 (pl plD),.box 17 (pl [.s,.b])]⟩
abbrev zOr:SPat:=⟨[(2,.ptr 2 0),(4,.ptr 17 0),(5,.ptr 5 0),(8,.i .i64)],[.box 2 (pl plD),.box 5 (pl plD),.box 17 (pl [.s,.b])]⟩
abbrev zOq:SPat:=⟨[(2,.ptr 2 0),(4,.ptr 17 0),(5,.ptr 5 0),(10,.i .i64)],[.box 2 (pl plD),.box 5 (pl plD),.box 17 (pl [.s,.b])]⟩
abbrev zOp:SPat:=⟨[(2,.ptr 2 0),(4,.ptr 17 0),(5,.ptr 5 0)],[.box 2 (pl plD),.box 5 (pl plD),.box 17 (pl [.s,.b])]⟩
abbrev zOo:SPat:=⟨[(2,.ptr 2 0),(4,.ptr 17 0),(5,.ptr 5 0)],[.box 2 (pl plD),.box 5 (pl plD),.box 17 (pl [.s,.b])]⟩
abbrev zOn:SPat:=⟨[(2,.ptr 2 0),(4,.ptr 17 0),(5,.ptr 5 0)],[.box 2 (pl plD),.box 5 (pl plD),.box 17 (pl [.s,.b])]⟩
abbrev zOm:SPat:=⟨[(2,.ptr 2 0),(4,.ptr 17 0),(5,.ptr 5 0)],[.box 2 (pl plD),.box 5 (pl plD),.box 17 (pl [.s,.b])]⟩
def tv17:Nat→Option SPat:=fun k=>bif k==8 then some ts17_8 else bif k==15 then some ts17_15 else bif k==19 then some ts17_19 else bif k==26 then some ts17_26 else bif k==1000010 then some zOt else bif k==1000017 then some zOs else bif k==1000021 then some zOr else bif k==1000028 then some zOq else bif k==2000000 then some zOp else bif k==2000002 then some zOo else bif k==2000004 then some zOn else bif k==2000006 then some zOm else none
def tp17:Nat→List Nat×Plan:=fun id=>bif id==10 then([0,1,2],(.br 3 [2] [0,1] [] (.br 4 [3,2] [0,1] [] (.br 5 [4,3,2,1,0] [] [6] (.br 7 [6,5,4,3,2,1,0] [] [] .fin .fin) .fin) .fin) .fin))else bif id==17 then([0,1,2],(.br 3 [2] [0,1] [] (.br 4 [3,2] [0,1] [] (.br 5 [4,3,2,1,0] [] [6] (.br 7 [6,5,4,3,2,1,0] [] [] .fin .fin) .fin) .fin) .fin))else bif id==28 then([0,1,2],(.br 3 [2] [0,1] [] (.br 4 [3,2] [0,1] [] (.br 5 [4,3,2,1,0] [] [6] (.br 7 [6,5,4,3,2,1,0] [] [] .fin .fin) .fin) .fin) .fin))else([],.fin)
def F17:List UInt8→Option (Bool×Cls):=fun app =>
 cndO (decide (900<(app.length:Int)))
 (some ((false,[],(0:Int),(0:Int),(0:Int),[],[],[])))
 (zAA (F57 ((4:Int),app,false)) fun(y,y1,y2) =>
 cndO (!decide (y=[(83:UInt8),84,79,87]))
 (some ((false,[],(0:Int),(0:Int),(0:Int),[],[],[])))
 (zAA (F59 (y1,y2)) fun(y3,y4,y5) =>
 zAA (F58 (y3,(60:Int),y4,y5)) fun(y6,y7,y8) =>
 bindE (Y:=(Cls)×(Cls)×List UInt8×Bool) (zAD (fun(v6,(o0,o1,o2,o3,o4,o5,o6),(o01,o11,o21,o31,o41,o51,o61),o02,o12) =>
 bindE (Y:=Int×(Cls)×(Cls)×List UInt8×Bool) (cndO (decide (0<v6))
 (cndO (!o12)
 (some (inl (v6,(o0,o1,o2,o3,o4,o5,o6),(o01,o11,o21,o31,o41,o51,o61),o02,o12)))
 (some (inr (inr (inl ((o0,o1,o2,o3,o4,o5,o6),(o01,o11,o21,o31,o41,o51,o61),o02,o12))))))
 (some (inr (inr (inl ((o0,o1,o2,o3,o4,o5,o6),(o01,o11,o21,o31,o41,o51,o61),o02,o12)))))) fun(v61,(o03,o13,o22,o32,o42,o52,o62),(o04,o14,o23,o33,o43,o53,o63),o05,o15) =>
 zAA (F60 (o05,o15)) fun((y9,y10,y11,y12),y13,y14) =>
 grdO (decide (List.length o04+1≤9223372036854775807)&&decide ((List.length o04+1)*40≤140737488355328)) (some (inl (IntKind.wrap .i64 (v61-1),(o03,o13,o22,o32,o42,o52,o62),(o04++[(y9,y10,y11,y12)],o14,o23,o33,o43,o53,o63),y13,y14)))) ((y6,([],(0:Int),(0:Int),(0:Int),[],[],[]),([],(0:Int),(0:Int),(0:Int),[],[],[]),y7,y8))) fun((o0,o1,o2,o3,o4,o5,o6),(o01,o11,o21,o31,o41,o51,o61),o02,o12) =>
 zAA (F59 (o02,o12)) fun(y9,y10,y11) =>
 zAA (F61 (y10,y11)) fun(y12,y13,y14) =>
 zAA (F61 (y13,y14)) fun(y15,y16,y17) =>
 zAA (F59 (y16,y17)) fun(y18,y19,y20) =>
 zAA (F58 (y18,(3:Int),y19,y20)) fun(y21,y22,y23) =>
 bindE (Y:=(Cls)×(Cls)×List UInt8×Bool) (zAD (fun(v7,(o03,o13,o22,o32,o42,o52,o62),(o04,o14,o23,o33,o43,o53,o63),o05,o15) =>
 bindE (Y:=Int×(Cls)×(Cls)×List UInt8×Bool) (cndO (decide (0<v7))
 (cndO (!o15)
 (some (inl (v7,(o03,o13,o22,o32,o42,o52,o62),(o04,o14,o23,o33,o43,o53,o63),o05,o15)))
 (some (inr (inr (inl ((o03,o13,o22,o32,o42,o52,o62),(o04,o14,o23,o33,o43,o53,o63),o05,o15))))))
 (some (inr (inr (inl ((o03,o13,o22,o32,o42,o52,o62),(o04,o14,o23,o33,o43,o53,o63),o05,o15)))))) fun(v71,(o06,o16,o24,o34,o44,o54,o64),(o07,o17,o25,o35,o45,o55,o65),o08,o18) =>
 zAA (F61 (o08,o18)) fun(y24,y25,y26) =>
 grdO (decide (List.length o45+1≤9223372036854775807)&&decide ((List.length o45+1)*8≤140737488355328)) (some (inl (IntKind.wrap .i64 (v71-1),(o06,o16,o24,o34,o44,o54,o64),(o07,o17,o25,o35,o45++[y24],o55,o65),y25,y26)))) ((y21,(o0,o1,o2,o3,o4,o5,o6),(o01,y9,y12,y15,o41,o51,o61),y22,y23))) fun((o03,o13,o22,o32,o42,o52,o62),(o04,o14,o23,o33,o43,o53,o63),o05,o15) =>
 zAA (F59 (o05,o15)) fun(y24,y25,y26) =>
 zAA (F58 (y24,(5:Int),y25,y26)) fun(y27,y28,y29) =>
 bindE (Y:=(Cls)×(Cls)×List UInt8×Bool) (zAD (fun(v8,(o06,o16,o24,o34,o44,o54,o64),(o07,o17,o25,o35,o45,o55,o65),o08,o18) =>
 bindE (Y:=Int×(Cls)×(Cls)×List UInt8×Bool) (cndO (decide (0<v8))
 (cndO (!o18)
 (some (inl (v8,(o06,o16,o24,o34,o44,o54,o64),(o07,o17,o25,o35,o45,o55,o65),o08,o18)))
 (some (inr (inr (inl ((o06,o16,o24,o34,o44,o54,o64),(o07,o17,o25,o35,o45,o55,o65),o08,o18))))))
 (some (inr (inr (inl ((o06,o16,o24,o34,o44,o54,o64),(o07,o17,o25,o35,o45,o55,o65),o08,o18)))))) fun(v81,(o09,o19,o26,o36,o46,o56,o66),(o010,o110,o27,o37,o47,o57,o67),o011,o111) =>
 zAA (F59 (o011,o111)) fun(y30,y31,y32) =>
 zAA (F61 (y31,y32)) fun(y33,y34,y35) =>
 zAA (F61 (y34,y35)) fun(y36,y37,y38) =>
 grdO (decide (List.length o57+1≤9223372036854775807)&&decide ((List.length o57+1)*24≤140737488355328)) (some (inl (IntKind.wrap .i64 (v81-1),(o09,o19,o26,o36,o46,o56,o66),(o010,o110,o27,o37,o47,o57++[(y30,y33,y36)],o67),y37,y38)))) ((y27,(o03,o13,o22,o32,o42,o52,o62),(o04,o14,o23,o33,o43,o53,o63),y28,y29))) fun((o06,o16,o24,o34,o44,o54,o64),(o07,o17,o25,o35,o45,o55,o65),o08,o18) =>
 zAA (F59 (o08,o18)) fun(y30,y31,y32) =>
 zAA (F58 (y30,(6:Int),y31,y32)) fun(y33,y34,y35) =>
 bindE (Y:=(Cls)×(Cls)×List UInt8×Bool) (zAD (fun(v10,(o09,o19,o26,o36,o46,o56,o66),(o010,o110,o27,o37,o47,o57,o67),o011,o111) =>
 bindE (Y:=Int×(Cls)×(Cls)×List UInt8×Bool) (cndO (decide (0<v10))
 (cndO (!o111)
 (some (inl (v10,(o09,o19,o26,o36,o46,o56,o66),(o010,o110,o27,o37,o47,o57,o67),o011,o111)))
 (some (inr (inr (inl ((o09,o19,o26,o36,o46,o56,o66),(o010,o110,o27,o37,o47,o57,o67),o011,o111))))))
 (some (inr (inr (inl ((o09,o19,o26,o36,o46,o56,o66),(o010,o110,o27,o37,o47,o57,o67),o011,o111)))))) fun(v101,(o012,o112,o28,o38,o48,o58,o68),(o013,o113,o29,o39,o49,o59,o69),o014,o114) =>
 zAA (F62 (o014,o114)) fun((y36,y37,y38,y39,y40,y41,x,x1),x2,x3) =>
 grdO (decide (List.length o69+1≤9223372036854775807)&&decide ((List.length o69+1)*104≤140737488355328)) (some (inl (IntKind.wrap .i64 (v101-1),(o012,o112,o28,o38,o48,o58,o68),(o013,o113,o29,o39,o49,o59,o69++[(y36,y37,y38,y39,y40,y41,x,x1)]),x2,x3)))) ((y33,(o06,o16,o24,o34,o44,o54,o64),(o07,o17,o25,o35,o45,o55,o65),y34,y35))) fun((o09,o19,o26,o36,o46,o56,o66),(o010,o110,o27,o37,o47,o57,o67),o011,o111) =>
 cndO (o111)
 (some ((false,[],(0:Int),(0:Int),(0:Int),[],[],[])))
 (cndO (!decide (o011=[]))
 (some ((false,[],(0:Int),(0:Int),(0:Int),[],[],[])))
 (some ((true,o010,o110,o27,o37,o47,o57,o67))))))
def tb17:=insT 17 (mkE 17 true [] ti17 to17 F17 [.cell 2 34,.tmp 3] 140 []) tb62
theorem ok17:TbOk Tryz.prog tb17:=okI ok62 tp17 tv17 func17 rfl call17
abbrev ti147:SPat:=⟨[(0,.sl tg27),(1,.sl tg27)],[]⟩
abbrev to147:SPat:=⟨[(4,.b)],[]⟩
abbrev ts147_4:SPat:=⟨[(0,.sl tg27),(1,.sl tg27),(12,.i .i64),(13,.i .i64)],[]⟩
abbrev zLe:SPat:=⟨[],[]⟩
def tv147:Nat→Option SPat:=fun k=>bif k==4 then some ts147_4 else bif k==2000000 then some zLe else none
def tp147:Nat→List Nat×Plan:=fun id=>bif id==6 then([0,1,2,3,4,5,6,7,8],.fin)else([],.fin)
def F147:List Cst×List Cst→Option (Bool):=fun(s1,s2) =>
 cndO (!decide ((s1.length:Int)=(s2.length:Int)))
 (some (false))
 (bindE (zAD (fun(s11,s21,v12,v13) =>
 cndO (decide (v13<v12))
 (grdO (decide (0≤v13)) (atO (s11) v13.toNat fun x=>grdO (decide (0≤v13)) (atO (s21) v13.toNat fun x1=>cndO (!(decide (x.1=x1.1)&&(decide (x.2.1=x1.2.1)&&(decide (x.2.2.1=x1.2.2.1)&&(decide (x.2.2.2=x1.2.2.2)&&true)))))
 (some (inr (inr false)))
 (some (inl (s11,s21,v12,IntKind.wrap .i64 (v13+1)))))))
 (some (inr (inl ())))) ((s1,s2,(s1.length:Int),(0:Int)))) fun _ =>
 some (true))
def tb147:=insT 147 (mkE 147 true [] ti147 to147 F147 [.tmp 4] 26 []) tb17
theorem ok147:TbOk Tryz.prog tb147:=okI ok17 tp147 tv147 func147 rfl call147
abbrev ti148:SPat:=⟨[(0,.sl (.int .i64)),(1,.sl (.int .i64))],[]⟩
abbrev to148:SPat:=⟨[(4,.b)],[]⟩
abbrev ts148_4:SPat:=⟨[(0,.sl (.int .i64)),(1,.sl (.int .i64)),(12,.i .i64),(13,.i .i64)],[]⟩
abbrev zLd:SPat:=⟨[],[]⟩
def tv148:Nat→Option SPat:=fun k=>bif k==4 then some ts148_4 else bif k==2000000 then some zLd else none
def tp148:Nat→List Nat×Plan:=fun id=>bif id==6 then([0,1,2,3,4,5,6,7,8],.fin)else([],.fin)
def F148:List Int×List Int→Option (Bool):=fun(s1,s2) =>
 cndO (!decide ((s1.length:Int)=(s2.length:Int)))
 (some (false))
 (bindE (zAD (fun(s11,s21,v12,v13) =>
 cndO (decide (v13<v12))
 (grdO (decide (0≤v13)) (atO (s11) v13.toNat fun x=>grdO (decide (0≤v13)) (atO (s21) v13.toNat fun x1=>cndO (!decide (x=x1))
 (some (inr (inr false)))
 (some (inl (s11,s21,v12,IntKind.wrap .i64 (v13+1)))))))
 (some (inr (inl ())))) ((s1,s2,(s1.length:Int),(0:Int)))) fun _ =>
 some (true))
def tb148:=insT 148 (mkE 148 true [] ti148 to148 F148 [.tmp 4] 26 []) tb147
theorem ok148:TbOk Tryz.prog tb148:=okI ok147 tp148 tv148 func148 rfl call148
abbrev ti149:SPat:=⟨[(0,.sl tg89),(1,.sl tg89)],[]⟩
abbrev to149:SPat:=⟨[(4,.b)],[]⟩
abbrev ts149_4:SPat:=⟨[(0,.sl tg89),(1,.sl tg89),(12,.i .i64),(13,.i .i64)],[]⟩
abbrev zLc:SPat:=⟨[],[]⟩
def tv149:Nat→Option SPat:=fun k=>bif k==4 then some ts149_4 else bif k==2000000 then some zLc else none
def tp149:Nat→List Nat×Plan:=fun id=>bif id==6 then([0,1,2,3,4,5,6,7,8],.fin)else([],.fin)
def F149:List (Int×Int×Int)×List (Int×Int×Int)→Option (Bool):=fun(s1,s2) =>
 cndO (!decide ((s1.length:Int)=(s2.length:Int)))
 (some (false))
 (bindE (zAD (fun(s11,s21,v12,v13) =>
 cndO (decide (v13<v12))
 (grdO (decide (0≤v13)) (atO (s11) v13.toNat fun x=>grdO (decide (0≤v13)) (atO (s21) v13.toNat fun x1=>cndO (!(decide (x.1=x1.1)&&(decide (x.2.1=x1.2.1)&&(decide (x.2.2=x1.2.2)&&true))))
 (some (inr (inr false)))
 (some (inl (s11,s21,v12,IntKind.wrap .i64 (v13+1)))))))
 (some (inr (inl ())))) ((s1,s2,(s1.length:Int),(0:Int)))) fun _ =>
 some (true))
def tb149:=insT 149 (mkE 149 true [] ti149 to149 F149 [.tmp 4] 26 []) tb148
theorem ok149:TbOk Tryz.prog tb149:=okI ok148 tp149 tv149 func149 rfl call149
abbrev ti224:SPat:=⟨[(0,.sl zBq),(1,.sl zBq)],[]⟩
abbrev to224:SPat:=⟨[(4,.b)],[]⟩
abbrev ts224_4:SPat:=⟨[(0,.sl zBq),(1,.sl zBq),(12,.i .i64),(13,.i .i64)],[]⟩
abbrev zKf:SPat:=⟨[],[]⟩
def tv224:Nat→Option SPat:=fun k=>bif k==4 then some ts224_4 else bif k==2000000 then some zKf else none
def tp224:Nat→List Nat×Plan:=fun id=>bif id==6 then([0,1,2,3,4,5,6,7,8],.fin)else([],.fin)
def F224:List (Int×Int×Int×Int)×List (Int×Int×Int×Int)→Option (Bool):=fun(s1,s2) =>
 cndO (!decide ((s1.length:Int)=(s2.length:Int)))
 (some (false))
 (bindE (zAD (fun(s11,s21,v12,v13) =>
 cndO (decide (v13<v12))
 (grdO (decide (0≤v13)) (atO (s11) v13.toNat fun x=>grdO (decide (0≤v13)) (atO (s21) v13.toNat fun x1=>cndO (!(decide (x.1=x1.1)&&(decide (x.2.1=x1.2.1)&&(decide (x.2.2.1=x1.2.2.1)&&(decide (x.2.2.2=x1.2.2.2)&&true)))))
 (some (inr (inr false)))
 (some (inl (s11,s21,v12,IntKind.wrap .i64 (v13+1)))))))
 (some (inr (inl ())))) ((s1,s2,(s1.length:Int),(0:Int)))) fun _ =>
 some (true))
def tb224:=insT 224 (mkE 224 true [] ti224 to224 F224 [.tmp 4] 26 []) tb149
theorem ok224:TbOk Tryz.prog tb224:=okI ok149 tp224 tv224 func224 rfl call224
abbrev ti227:SPat:=⟨[(0,.sl zAg),(1,.sl zAg)],[]⟩
abbrev to227:SPat:=⟨[(4,.b)],[]⟩
abbrev ts227_4:SPat:=⟨[(0,.sl zAg),(1,.sl zAg),(12,.i .i64),(13,.i .i64)],[]⟩
abbrev zKe:SPat:=⟨[],[]⟩
def tv227:Nat→Option SPat:=fun k=>bif k==4 then some ts227_4 else bif k==2000000 then some zKe else none
def tp227:Nat→List Nat×Plan:=fun id=>bif id==6 then([0,1,2,3,4,5,6,7,8],.fin)else([],.fin)
def F227:List (Int×Int)×List (Int×Int)→Option (Bool):=fun(s1,s2) =>
 cndO (!decide ((s1.length:Int)=(s2.length:Int)))
 (some (false))
 (bindE (zAD (fun(s11,s21,v12,v13) =>
 cndO (decide (v13<v12))
 (grdO (decide (0≤v13)) (atO (s11) v13.toNat fun x=>grdO (decide (0≤v13)) (atO (s21) v13.toNat fun x1=>cndO (!(decide (x.1=x1.1)&&(decide (x.2=x1.2)&&true)))
 (some (inr (inr false)))
 (some (inl (s11,s21,v12,IntKind.wrap .i64 (v13+1)))))))
 (some (inr (inl ())))) ((s1,s2,(s1.length:Int),(0:Int)))) fun _ =>
 some (true))
def tb227:=insT 227 (mkE 227 true [] ti227 to227 F227 [.tmp 4] 26 []) tb224
theorem ok227:TbOk Tryz.prog tb227:=okI ok224 tp227 tv227 func227 rfl call227
abbrev ti226:SPat:=⟨[(0,.agg (pl [.i .i64,.sl zAg,.sl zAg])),(1,.agg (pl [.i .i64,.sl zAg,.sl zAg]))],[]⟩
abbrev to226:SPat:=⟨[(4,.b)],[]⟩
def F226:(Frm)×Frm→Option (Bool):=fun((f0,f1,f2),g0,g1,g2) =>
 cndO (decide (f0=g0))
 (zAA (F227 (f1,g1)) fun y =>
 cndO (y)
 (zAA (F227 (f2,g2)) fun y1 =>
 some (y1))
 (some (false)))
 (some (false))
def tb226:=insT 226 (mkE 226 true [] ti226 to226 F226 [.tmp 4] 24 []) tb227
theorem ok226:TbOk Tryz.prog tb226:=okI ok227 noPl noIv func226 rfl call226
abbrev ti227225:SPat:=⟨[(0,.sl zBL),(1,.sl zBL),(2,.fn 226 (pl []))],[]⟩
abbrev to227225:SPat:=⟨[(6,.b)],[]⟩
abbrev zSl:SPat:=⟨[(1,.sl zBL),(2,.fn 226 (pl [])),(15,.sl zBL),(16,.i .i64),(17,.i .i64)],[]⟩
abbrev zHL:SPat:=⟨[],[]⟩
def tv227225:Nat→Option SPat:=fun k=>bif k==4 then some zSl else bif k==2000000 then some zHL else none
def F227225:List Frm×List Frm→Option (Bool):=fun(s1,s2) =>
 cndO (!decide ((s1.length:Int)=(s2.length:Int)))
 (some (false))
 (bindE (zAD (fun(s21,v15,v16,v17) =>
 cndO (decide (v17<v16))
 (grdO (decide (0≤v17)) (atO (v15) v17.toNat fun x=>grdO (decide (0≤v17)) (atO (s21) v17.toNat fun x1=>zAA (F226 ((x.1,x.2.1,x.2.2),x1.1,x1.2.1,x1.2.2)) fun y =>
 cndO (!y)
 (some (inr (inr false)))
 (some (inl (s21,v15,v16,IntKind.wrap .i64 (v17+1)))))))
 (some (inr (inl ())))) ((s2,s1,(s1.length:Int),(0:Int)))) fun _ =>
 some (true))
def zRW:=insT 227225 (mkE 225 true [] ti227225 to227225 F227225 [.tmp 6] 32 []) tb226
theorem ok227225:TbOk Tryz.prog zRW:=okI ok226 noPl tv227225 func225 rfl call225
abbrev ti151:SPat:=⟨[(0,.agg (pl plM)),(1,.agg (pl plM))],[]⟩
abbrev to151:SPat:=⟨[(4,.b)],[]⟩
def F151:(Mth)×Mth→Option (Bool):=fun((a0,a1,a2,a3,a4,a5,a6,a7),b0,b1,b2,b3,b4,b5,b6,b7) =>
 cndO (decide (a0=b0))
 (cndO (decide (a1=b1))
 (cndO (decide (a2=b2))
 (cndO (decide (a3=b3))
 (cndO (decide (a4=b4))
 (cndO (decide (a5=b5))
 (zAA (F224 (a6,b6)) fun y =>
 cndO (y)
 (zAA (F227225 (a7,b7)) fun y1 =>
 some (y1))
 (some (false)))
 (some (false)))
 (some (false)))
 (some (false)))
 (some (false)))
 (some (false)))
 (some (false))
def tb151:=insT 151 (mkE 151 true [] ti151 to151 F151 [.tmp 4] 59 []) zRW
theorem ok151:TbOk Tryz.prog tb151:=okI ok227225 noPl noIv func151 rfl call151
abbrev ti152150:SPat:=⟨[(0,.sl tg53),(1,.sl tg53),(2,.fn 151 (pl []))],[]⟩
abbrev to152150:SPat:=⟨[(6,.b)],[]⟩
abbrev zSp:SPat:=⟨[(1,.sl tg53),(2,.fn 151 (pl [])),(15,.sl tg53),(16,.i .i64),(17,.i .i64)],[]⟩
abbrev zHP:SPat:=⟨[],[]⟩
def tv152150:Nat→Option SPat:=fun k=>bif k==4 then some zSp else bif k==2000000 then some zHP else none
def F152150:List Mth×List Mth→Option (Bool):=fun(s1,s2) =>
 cndO (!decide ((s1.length:Int)=(s2.length:Int)))
 (some (false))
 (bindE (zAD (fun(s21,v15,v16,v17) =>
 cndO (decide (v17<v16))
 (grdO (decide (0≤v17)) (atO (v15) v17.toNat fun x=>grdO (decide (0≤v17)) (atO (s21) v17.toNat fun x1=>zAA (F151 ((x.1,x.2.1,x.2.2.1,x.2.2.2.1,x.2.2.2.2.1,x.2.2.2.2.2.1,x.2.2.2.2.2.2.1,x.2.2.2.2.2.2.2),x1.1,x1.2.1,x1.2.2.1,x1.2.2.2.1,x1.2.2.2.2.1,x1.2.2.2.2.2.1,x1.2.2.2.2.2.2.1,x1.2.2.2.2.2.2.2)) fun y =>
 cndO (!y)
 (some (inr (inr false)))
 (some (inl (s21,v15,v16,IntKind.wrap .i64 (v17+1)))))))
 (some (inr (inl ())))) ((s2,s1,(s1.length:Int),(0:Int)))) fun _ =>
 some (true))
def zRd:=insT 152150 (mkE 150 true [] ti152150 to152150 F152150 [.tmp 6] 32 []) tb151
theorem ok152150:TbOk Tryz.prog zRd:=okI ok151 noPl tv152150 func150 rfl call150
abbrev ti68:SPat:=⟨[(0,.agg (pl plC)),(1,.agg (pl plC))],[]⟩
abbrev to68:SPat:=⟨[(4,.b)],[]⟩
def F68:(Cls)×Cls→Option (Bool):=fun((a0,a1,a2,a3,a4,a5,a6),b0,b1,b2,b3,b4,b5,b6) =>
 zAA (F147 (a0,b0)) fun y =>
 cndO (y)
 (cndO (decide (a1=b1))
 (cndO (decide (a2=b2))
 (cndO (decide (a3=b3))
 (zAA (F148 (a4,b4)) fun y1 =>
 cndO (y1)
 (zAA (F149 (a5,b5)) fun y2 =>
 cndO (y2)
 (zAA (F152150 (a6,b6)) fun y3 =>
 some (y3))
 (some (false)))
 (some (false)))
 (some (false)))
 (some (false)))
 (some (false)))
 (some (false))
def tb68:=insT 68 (mkE 68 true [] ti68 to68 F68 [.tmp 4] 52 []) zRd
theorem ok68:TbOk Tryz.prog tb68:=okI ok152150 noPl noIv func68 rfl call68
abbrev ti20:SPat:=⟨[(0,.agg (pl plC))],[]⟩
abbrev to20:SPat:=⟨[(2,.s)],[]⟩
def F20:Cls→Option (List UInt8):=fun(c0,c1,c2,c3,c4,c5,c6) =>
 zAA (F66 (c0,c1,c2,c3,c4,c5,c6)) fun y =>
 cndO (!y)
 (some ([]))
 (zAA (F67 (c0,c1,c2,c3,c4,c5,c6)) fun y1 =>
 zAA (F17 y1) fun(y2,y3,y4,y5,y6,y7,x,x1) =>
 cndO (!y2)
 (some ([]))
 (zAA (F68 ((c0,c1,c2,c3,c4,c5,c6),y3,y4,y5,y6,y7,x,x1)) fun y8 =>
 cndO (!y8)
 (some ([]))
 (some (y1))))
def tb20:=insT 20 (mkE 20 true [] ti20 to20 F20 [.tmp 2] 25 []) tb68
theorem ok20:TbOk Tryz.prog tb20:=okI ok68 noPl noIv func20 rfl call20
abbrev ti89:SPat:=⟨[(0,.i .i64),(1,.i .i64),(2,.i .i64)],[]⟩
abbrev to89:SPat:=⟨[(6,.b)],[]⟩
def F89:Int×Int×Int→Option (Bool):=fun(n,low,high) =>
 cndO (decide (low≤n))
 (some (decide (n≤high)))
 (some (false))
def tb89:=insT 89 (mkE 89 true [] ti89 to89 F89 [.tmp 6] 15 []) tb20
theorem ok89:TbOk Tryz.prog tb89:=okI ok20 noPl noIv func89 rfl call89
abbrev ti48:SPat:=⟨[(0,.s)],[]⟩
abbrev to48:SPat:=⟨[(2,.b)],[]⟩
abbrev ts48_4:SPat:=⟨[(0,.s),(20,.i .i64),(21,.i .i64)],[]⟩
abbrev zOY:SPat:=⟨[(0,.s)],[]⟩
abbrev zOX:SPat:=⟨[],[]⟩
abbrev zOW:SPat:=⟨[(0,.s),(20,.i .i64),(21,.i .i64)],[]⟩
def tv48:Nat→Option SPat:=fun k=>bif k==4 then some ts48_4 else bif k==1000003 then some zOY else bif k==2000000 then some zOX else bif k==2000001 then some zOW else none
def F48:List UInt8→Option (Bool):=fun s =>
 bindE (Y:=List UInt8) (zAA (F89 ((s.length:Int),(1:Int),(8:Int))) fun y =>
 cndO (!y)
 (some (inr false))
 (atO (s) ((0:Nat)) fun x=>cndO (decide (48≤(x.toNat:Int)))
 (atO (s) ((0:Nat)) fun x1=>cndO (decide ((x1.toNat:Int)≤57))
 (some (inr false))
 (some (inl s)))
 (some (inl s)))) fun s1 =>
 bindE (zAD (fun(s2,v20,v21) =>
 cndO (decide (v21<v20))
 (bindE (Y:=List UInt8×Int×Int) (grdO (decide (0≤v21)) (atO (s2) v21.toNat fun x=>cndO (decide (97≤(x.toNat:Int)))
 (cndO (decide ((x.toNat:Int)≤122))
 (some (inl (s2,v20,v21)))
 (cndO (decide (65≤(x.toNat:Int)))
 (cndO (decide ((x.toNat:Int)≤90))
 (some (inl (s2,v20,v21)))
 (cndO (decide (48≤(x.toNat:Int)))
 (cndO (!decide ((x.toNat:Int)≤57))
 (some (inr (inr (inr false))))
 (some (inl (s2,v20,v21))))
 (some (inr (inr (inr false))))))
 (cndO (decide (48≤(x.toNat:Int)))
 (cndO (!decide ((x.toNat:Int)≤57))
 (some (inr (inr (inr false))))
 (some (inl (s2,v20,v21))))
 (some (inr (inr (inr false)))))))
 (cndO (decide (65≤(x.toNat:Int)))
 (cndO (decide ((x.toNat:Int)≤90))
 (some (inl (s2,v20,v21)))
 (cndO (decide (48≤(x.toNat:Int)))
 (cndO (!decide ((x.toNat:Int)≤57))
 (some (inr (inr (inr false))))
 (some (inl (s2,v20,v21))))
 (some (inr (inr (inr false))))))
 (cndO (decide (48≤(x.toNat:Int)))
 (cndO (!decide ((x.toNat:Int)≤57))
 (some (inr (inr (inr false))))
 (some (inl (s2,v20,v21))))
 (some (inr (inr (inr false)))))))) fun(s3,v201,v211) =>
 some (inl (s3,v201,IntKind.wrap .i64 (v211+1))))
 (some (inr (inl ())))) ((s1,(s1.length:Int),(0:Int)))) fun _ =>
 some (true)
def tb48:=insT 48 (mkE 48 true [] ti48 to48 F48 [.tmp 2] 51 []) tb89
theorem ok48:TbOk Tryz.prog tb48:=okI ok89 noPl tv48 func48 rfl call48
abbrev ti293:SPat:=⟨[(0,.s),(1,.s)],[]⟩
abbrev to293:SPat:=⟨[(4,.b)],[]⟩
def F293:List UInt8×List UInt8→Option (Bool):=fun(s,prefix_) =>
 cndO (decide ((prefix_.length:Int)≤(s.length:Int)))
 (grdO (decide (0≤(prefix_.length:Int))&&decide ((prefix_.length:Int)≤(s.length:Int))) (some (decide (List.drop (0:Nat) (List.take (Int.toNat (prefix_.length:Int)) s)=prefix_))))
 (some (false))
def tb293:=insT 293 (mkE 293 true [] ti293 to293 F293 [.tmp 4] 18 []) tb48
theorem ok293:TbOk Tryz.prog tb293:=okI ok48 noPl noIv func293 rfl call293
abbrev ti259:SPat:=⟨[(0,.s),(1,.s)],[]⟩
abbrev to259:SPat:=⟨[(4,.s),(5,.b)],[]⟩
def F259:List UInt8×List UInt8→Option (List UInt8×Bool):=fun(s,prefix_) =>
 zAA (F293 (s,prefix_)) fun y =>
 cndO (!y)
 (some ((s,false)))
 (grdO (decide (0≤(prefix_.length:Int))&&decide ((prefix_.length:Int)≤(s.length:Int))&&decide ((s.length:Int)≤(s.length:Int))) (some ((List.drop (Int.toNat (prefix_.length:Int)) (List.take (Int.toNat (s.length:Int)) s),true))))
def tb259:=insT 259 (mkE 259 true [] ti259 to259 F259 [.tmp 4,.tmp 5] 15 []) tb293
theorem ok259:TbOk Tryz.prog tb259:=okI ok293 noPl noIv func259 rfl call259
abbrev ti204:SPat:=⟨[(0,.s),(1,.s)],[]⟩
abbrev to204:SPat:=⟨[(4,.s),(5,.b)],[]⟩
def F204:List UInt8×List UInt8→Option (List UInt8×Bool):=fun(s,prefix_) =>
 zAA (F259 (s,prefix_)) fun(y,y1) =>
 some ((y,y1))
def tb204:=insT 204 (mkE 204 true [] ti204 to204 F204 [.tmp 4,.tmp 5] 11 []) tb259
theorem ok204:TbOk Tryz.prog tb204:=okI ok259 noPl noIv func204 rfl call204
abbrev ti294:SPat:=⟨[(0,.s),(1,.s)],[]⟩
abbrev to294:SPat:=⟨[(4,.b)],[]⟩
def F294:List UInt8×List UInt8→Option (Bool):=fun(s,suffix) =>
 cndO (decide ((suffix.length:Int)≤(s.length:Int)))
 (grdO (decide (0≤IntKind.wrap .i64 ((s.length:Int)-(suffix.length:Int)))&&decide (IntKind.wrap .i64 ((s.length:Int)-(suffix.length:Int))≤(s.length:Int))&&decide ((s.length:Int)≤(s.length:Int))) (some (decide (List.drop (Int.toNat (IntKind.wrap .i64 ((s.length:Int)-(suffix.length:Int)))) (List.take (Int.toNat (s.length:Int)) s)=suffix))))
 (some (false))
def tb294:=insT 294 (mkE 294 true [] ti294 to294 F294 [.tmp 4] 21 []) tb204
theorem ok294:TbOk Tryz.prog tb294:=okI ok204 noPl noIv func294 rfl call294
abbrev ti260:SPat:=⟨[(0,.s),(1,.s)],[]⟩
abbrev to260:SPat:=⟨[(4,.s),(5,.b)],[]⟩
def F260:List UInt8×List UInt8→Option (List UInt8×Bool):=fun(s,suffix) =>
 zAA (F294 (s,suffix)) fun y =>
 cndO (!y)
 (some ((s,false)))
 (grdO (decide (0≤IntKind.wrap .i64 ((s.length:Int)-(suffix.length:Int)))&&decide (IntKind.wrap .i64 ((s.length:Int)-(suffix.length:Int))≤(s.length:Int))) (some ((List.drop (0:Nat) (List.take (Int.toNat (IntKind.wrap .i64 ((s.length:Int)-(suffix.length:Int)))) s),true))))
def tb260:=insT 260 (mkE 260 true [] ti260 to260 F260 [.tmp 4,.tmp 5] 18 []) tb294
theorem ok260:TbOk Tryz.prog tb260:=okI ok294 noPl noIv func260 rfl call260
abbrev ti205:SPat:=⟨[(0,.s),(1,.s)],[]⟩
abbrev to205:SPat:=⟨[(4,.s),(5,.b)],[]⟩
def F205:List UInt8×List UInt8→Option (List UInt8×Bool):=fun(s,suffix) =>
 zAA (F260 (s,suffix)) fun(y,y1) =>
 some ((y,y1))
def tb205:=insT 205 (mkE 205 true [] ti205 to205 F205 [.tmp 4,.tmp 5] 11 []) tb260
theorem ok205:TbOk Tryz.prog tb205:=okI ok260 noPl noIv func205 rfl call205
abbrev ti115:SPat:=⟨[(0,.s)],[]⟩
abbrev to115:SPat:=⟨[(2,.s),(3,.b)],[]⟩
def F115:List UInt8→Option (List UInt8×Bool):=fun s =>
 zAA (F204 (s,[(76:UInt8)])) fun(y,y1) =>
 zAA (F205 (y,[(59:UInt8)])) fun(y2,y3) =>
 cndO (y1)
 (cndO (y3)
 (zAA (F48 y2) fun y4 =>
 some ((y2,y4)))
 (some ((y2,false))))
 (some ((y2,false)))
def tb115:=insT 115 (mkE 115 true [] ti115 to115 F115 [.tmp 2,.tmp 3] 27 []) tb205
theorem ok115:TbOk Tryz.prog tb115:=okI ok205 noPl noIv func115 rfl call115
abbrev ti122:SPat:=⟨[(0,.s)],[]⟩
abbrev to122:SPat:=⟨[(2,.b)],[]⟩
def F122:List UInt8→Option (Bool):=fun s =>
 zAA (F115 s) fun(y,y1) =>
 cndO (y1)
 (some (true))
 (some (decide (s=[(73:UInt8)])))
def tb122:=insT 122 (mkE 122 true [] ti122 to122 F122 [.tmp 2] 15 []) tb115
theorem ok122:TbOk Tryz.prog tb122:=okI ok115 noPl noIv func122 rfl call122
abbrev ti289:SPat:=⟨[(0,.s),(1,.i .u8)],[]⟩
abbrev to289:SPat:=⟨[(4,.i .i64)],[]⟩
def F289:List UInt8×Int→Option (Int):=fun(s,c) =>
 zAA (F322 (s,c)) fun y =>
 some (y)
def tb289:=insT 289 (mkE 289 true [] ti289 to289 F289 [.tmp 4] 8 []) tb122
theorem ok289:TbOk Tryz.prog tb289:=okI ok122 noPl noIv func289 rfl call289
abbrev ti321:SPat:=⟨[(0,.s),(1,.sc [41])],[]⟩
abbrev to321:SPat:=⟨[(4,.i .i64)],[]⟩
abbrev zJr:SPat:=⟨[(0,.s),(1,.sc [41]),(5,.i .i64),(16,.b)],[]⟩
def tv321:Nat→Option SPat:=fun k=>bif k==1000003 then some zJr else none
def F321:List UInt8→Option (Int):=fun app =>
 bindE (Y:=List UInt8×Int×Bool) (some (inl (app,(1:Int),decide ([(41:UInt8)]=app)))) fun(app1,v5,v16) =>
 cndO (v16)
 (some ((0:Int)))
 (cndO (decide (v5=1))
 (atO ([(41:UInt8)]) ((0:Nat)) fun x=>zAA (F289 (app1,(x.toNat:Int))) fun y =>
 some (y))
 (cndO (decide ((app1.length:Int)≤v5))
 (some ((-1:Int)))
 (none)))
def tb321:=insT 321 (mkE 321 true [] ti321 to321 F321 [.tmp 4] 143 []) tb289
theorem ok321:TbOk Tryz.prog tb321:=okI ok289 noPl tv321 func321 rfl call321
end Go.Proofs.YtdpapeledldifaaGreat
end
