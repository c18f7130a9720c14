/- Part 30 of the proof that the law FnRefs holds of every input; no condition. -/
import Derived.Test.YtdpapeledldifaaGreatX28
set_option autoImplicit true
set_option relaxedAutoImplicit true
set_option linter.all false
noncomputable section
namespace Go.Proofs.YtdpapeledldifaaGreat
open Go Go.AM Go.TM
open Go.Proofs.Tryz
open Sum (inl inr)
open Go.IntKind (wrap)
set_option maxRecDepth 100000
set_option maxHeartbeats 4000000
abbrev ti133:SPat:=⟨[(0,.sl tg27),(1,.i .i64),(2,.i .i64)],[]⟩
def F133:List Cst×Int×Int→Option Bool:=fun(pool,i,kind_) =>
 zAA (F215 (pool,i)) fun(y,y1,y2,y3) =>
 some (decide (y=kind_))
def tb133:=insT 133 (mkE 133 true [] ti133 zJu F133 [.tmp 6] 13 []) tb132
theorem ok133:zTb tb133:=okI ok132 noPl noIv func133 rfl call133
abbrev zNi:SPat:=⟨[(5,.ptr 5 0),(9,.s)],[.box 5 (pl zo4)]⟩
def tv53:Nat→Option SPat:=fun k=>bif k==1000013 then some zNi else none
def F53:List Cst×Int→Option Bool:=fun(app,v1) =>
 grdO (decide (0≤v1)) (atO app v1.toNat fun x=>cndO (decide (x.1=1))
 (cndO (decide (x.2.2.1=0))
 (cndO (decide (x.2.2.2=0))
 (zAA (F127 x.2.1) fun y =>
 cndO (y)
 (some true)
 (zAA (F128 x.2.1) fun y1 =>
 cndO (y1)
 (some true)
 (zAA (F129 x.2.1) fun y2 =>
 some y2)))
 (some false))
 (some false))
 (cndO (decide (x.1=2))
 (cndO (decide (x.2.1=[]))
 (cndO (decide (x.2.2.2=0))
 (zAA (F130 (app,wrap .i64 (v1+1))) fun y =>
 some (!decide (y=[])))
 (some false))
 (some false))
 (cndO (decide (x.1=3))
 (zAA (F131 (app,x.2.2.2)) fun y =>
 cndO (decide (x.2.1=[]))
 (zAA (F131 (app,x.2.2.1)) fun y1 =>
 zAA (F127 y1) fun y2 =>
 cndO (y2)
 (zAA (F128 y) fun y3 =>
 cndO (y3)
 (some true)
 (zAA (F129 y) fun y4 =>
 some y4))
 (some false))
 (some false))
 (zAA (F132 (app,wrap .i64 (v1+1))) fun(y,y1,y2) =>
 bindE (Y:=List UInt8×Cst) (zAA (F107 (x.1,4,6)) fun y3 =>
 cndO (!y3)
 (some (inr false))
 (cndO (!decide (x.2.1=[]))
 (some (inr false))
 (zAA (F130 (app,x.2.2.1)) fun y4 =>
 cndO (decide (y4=[]))
 (some (inr false))
 (zAA (F133 (app,x.2.2.2,3)) fun y5 =>
 cndO (!y5)
 (some (inr false))
 (some (inl (y2,x.1,x.2.1,x.2.2.1,x.2.2.2))))))) fun(v9,o0,o1,o2,o3) =>
 cndO (decide (o0=4))
 (zAA (F128 v9) fun y3 =>
 some y3)
 (zAA (F129 v9) fun y3 =>
 some y3)))))
def tb53:=insT 53 (mkE 53 true [] zPv zCZ F53 [.tmp 4] 120 []) tb133
theorem ok53:zTb tb53:=okI ok133 noPl tv53 func53 rfl call53
abbrev ti15:SPat:=⟨[(0,.sl tg27)],[]⟩
abbrev ts15_2:SPat:=⟨[(0,.sl tg27),(3,.i .i64)],[]⟩
def tv15:Nat→Option SPat:=fun k=>bif k==2 then some ts15_2 else bif k==1000004 then some ts15_2 else bif k==2000000 then some ti15 else none
def F15:List Cst→Option Int:=fun pool =>
 bindE (Y:=List Cst) (zAG (fun(pool1,i) =>
 bindE (Y:=List Cst×Int) (cndO (decide (i<(pool1.length:Int)))
 (cndO (decide (i<60))
 (some (inl (pool1,i)))
 (some (inr (inr (inl pool1)))))
 (some (inr (inr (inl pool1))))) fun(pool2,i1) =>
 zAA (F53 (pool2,i1)) fun y =>
 cndO (!y)
 (some (inr (inr (wrap .i64 (i1+1)))))
 (some (inl (pool2,wrap .i64 (i1+1))))) ((pool,(0:Int)))) fun pool1 =>
 cndO (decide (60<(pool1.length:Int)))
 (some ((61:Int)))
 (some ((0:Int)))
def tb15:=insT 15 (mkE 15 true [] ti15 zIB F15 [.tmp 2] 23 []) tb53
theorem ok15:zTb tb15:=okI ok53 noPl tv15 func15 rfl call15
abbrev ts175_10:SPat:=⟨[(1,.ptr 1 0),(3,.s),(4,.i .i64),(5,.i .i64)],zo11⟩
def tv175:Nat→Option SPat:=fun k=>bif k==5 then some zRC else bif k==10 then some ts175_10 else bif k==1000004 then some zBI else bif k==1000016 then some zBI else bif k==2000000 then some zBI else bif k==2000001 then some zRC else bif k==2000002 then some zRC else none
def tp175:Nat→List Nat×Plan:=fun id=>bif id==7 then(zn6,(.br 7 zn11 [] [8] .fin .fin))else bif id==12 then([0,1,2,3,4,5,6,8,9,10,11,12,13,14],(.br 7 zn11 [8,9,10,11,12,13,14] [] (.br 15 zn30 [] [16] .fin .fin) .fin))else([],.fin)
def F175:Cls→Option Bool:=fun(app0,app1,app2,app3,app4,app5,app6) =>
 zAA (F130 (app0,app3)) fun y =>
 bindE (Y:=List UInt8×Cls) (zAA (F130 (app0,app2)) fun y1 =>
 cndO (decide (y1=[]))
 (some (inr false))
 (cndO (decide (y=[]))
 (some (inr false))
 (zAA (F130 (app0,app2)) fun y2 =>
 cndO (decide (y=y2))
 (some (inr false))
 (zAA (F107 (app1,0,7)) fun y3 =>
 cndO (!y3)
 (some (inr false))
 (some (inl (y,app0,app1,app2,app3,app4,app5,app6))))))) fun(v3,o0,o1,o2,o3,o4,o5,o6) =>
 bindE (Y:=List UInt8×Cls) (zAG (fun(v31,v4,o01,o11,o21,o31,o41,o51,o61) =>
 cndO (decide (v4<(o41.length:Int)))
 (bindE (Y:=List UInt8×Int×Cls) (grdO (decide (0≤v4)) (atO o41 v4.toNat fun x=>zAA (F130 (o01,x)) fun y1 =>
 cndO (decide (y1=[]))
 (some (inr (inr (inr false))))
 (bindE (Y:=List UInt8×Int×Cls) (zAG (fun(v32,v41,v5,o02,o12,o22,o32,o42,o52,o62) =>
 cndO (decide (v5<v41))
 (grdO (decide (0≤v5)) (atO o42 v5.toNat fun x1=>grdO (decide (0≤v41)) (atO o42 v41.toNat fun x2=>zAA (F130 (o02,x1)) fun y2 =>
 seqU (seqU (grdO (decide (o02=o02)) (some ())) (seqU (grdO (decide (o42=o42)) (some ())) (seqU (grdO (decide (v41=v41)) (some ())) (seqU (grdO (decide (0≤v41)) (atO o42 v41.toNat fun x3=>grdO (decide (x3=x2)&&true) (some ()))) (seqU (grdO (decide (x2=x2)) (some ())) (some ())))))) (zAA (F130 (o02,x2)) fun y3 =>
 cndO (decide (y2=y3))
 (some (inr (inr (inr (inr (inr false))))))
 (some (inl (v32,v41,wrap .i64 (v5+1),o02,o12,o22,o32,o42,o52,o62)))))))
 (some (inr (inl (v32,v41,o02,o12,o22,o32,o42,o52,o62))))) ((v31,v4,(0:Int),o01,o11,o21,o31,o41,o51,o61))) fun(v32,v41,o02,o12,o22,o32,o42,o52,o62) =>
 some (inl (v32,v41,o02,o12,o22,o32,o42,o52,o62))))) fun(v32,v41,o02,o12,o22,o32,o42,o52,o62) =>
 some (inl (v32,wrap .i64 (v41+1),o02,o12,o22,o32,o42,o52,o62)))
 (some (inr (inl (v31,o01,o11,o21,o31,o41,o51,o61))))) ((v3,(0:Int),o0,o1,o2,o3,o4,o5,o6))) fun(v31,o01,o11,o21,o31,o41,o51,o61) =>
 bindE (Y:=List UInt8×Cls) (zAA (F108 (o11,2)) fun y1 =>
 cndO (y1)
 (zAA (F108 (o11,4)) fun y2 =>
 cndO (y2)
 (some (inr false))
 (some (inl (v31,o01,o11,o21,o31,o41,o51,o61))))
 (some (inl (v31,o01,o11,o21,o31,o41,o51,o61)))) fun(v32,o02,o12,o22,o32,o42,o52,o62) =>
 zAA (F108 (o12,1)) fun y1 =>
 cndO (!y1)
 (some true)
 (zAA (F108 (o12,4)) fun y2 =>
 cndO (y2)
 (some (decide (v32=[(79:UInt8),98,106])))
 (some false))
def tb175:=insT 175 (mkE 175 true [] ti69 zDu F175 [.tmp 2] 95 []) tb15
theorem ok175:zTb tb175:=okI ok15 tp175 tv175 func175 rfl call175
abbrev zFt:SPat:=⟨[(1,.ptr 1 0),(3,.i .i64)],zo11⟩
abbrev ts176_10:SPat:=⟨[(1,.ptr 1 0),(3,.i .i64),(4,.ptr 4 0),(5,.i .i64)],[.box 1 (pl plC),.box 4 (pl zo6)]⟩
abbrev zGS:SPat:=⟨[(1,.ptr 1 0),(3,.i .i64),(4,.ptr 4 0)],[.box 1 (pl plC),.box 4 (pl zo6)]⟩
def tv176:Nat→Option SPat:=fun k=>bif k==2 then some zFt else bif k==10 then some ts176_10 else bif k==1000007 then some zGS else bif k==1000009 then some zGS else bif k==2000000 then some zCj else bif k==2000001 then some zFt else bif k==2000002 then some zFt else none
def tp176:Nat→List Nat×Plan:=fun id=>bif id==12 then([0,1,2,3,4,5,6,7,9,10,11,12],(.br 8 zn34 [9,10,11,12] [] (.br 13 zn10 [] [14] .fin .fin) .fin))else([],.fin)
def F176:Cls→Option Bool:=fun(app0,app1,app2,app3,app4,app5,app6) =>
 bindE (zAG (fun(v3,o0,o1,o2,o3,o4,o5,o6) =>
 cndO (decide (v3<(o5.length:Int)))
 (bindE (Y:=Int×Cls) (grdO (decide (0≤v3)) (atO o5 v3.toNat fun x=>bindE (Y:=Int×(Cls)×Int×Int×Int) (zAA (F131 (o0,x.2.1)) fun y =>
 zAA (F127 y) fun y1 =>
 cndO (!y1)
 (some (inr (inr (inr (inr false)))))
 (zAA (F131 (o0,x.2.2)) fun y2 =>
 zAA (F128 y2) fun y3 =>
 cndO (!y3)
 (some (inr (inr (inr (inr false)))))
 (zAA (F107 (x.1,0,3)) fun y4 =>
 cndO (!y4)
 (some (inr (inr (inr (inr false)))))
 (some (inl (v3,(o0,o1,o2,o3,o4,o5,o6),x.1,x.2.1,x.2.2)))))) fun(v31,(o01,o11,o21,o31,o41,o51,o61),o02,o12,o22) =>
 bindE (Y:=Int×(Cls)×Int×Int×Int) (zAA (F108 (o11,1)) fun y =>
 cndO (y)
 (cndO (!decide (o02=1))
 (some (inr (inr (inr (inr false)))))
 (some (inl (v31,(o01,o11,o21,o31,o41,o51,o61),o02,o12,o22))))
 (some (inl (v31,(o01,o11,o21,o31,o41,o51,o61),o02,o12,o22)))) fun(v32,(o03,o13,o23,o32,o42,o52,o62),o04,o14,o24) =>
 bindE (Y:=Int×Cls) (zAG (fun(v33,v5,(o05,o15,o25,o33,o43,o53,o63),o06,o16,o26) =>
 cndO (decide (v5<v33))
 (grdO (decide (0≤v5)) (atO o53 v5.toNat fun x1=>zAA (F131 (o05,x1.2.1)) fun y =>
 seqU (seqU (grdO (decide (o05=o05)) (some ())) (seqU (grdO (decide (o16=o16)) (some ())) (some ()))) (zAA (F131 (o05,o16)) fun y1 =>
 cndO (decide (y=y1))
 (some (inr (inr (inr (inr (inr false))))))
 (some (inl (v33,wrap .i64 (v5+1),(o05,o15,o25,o33,o43,o53,o63),o06,o16,o26))))))
 (some (inr (inl (v33,o05,o15,o25,o33,o43,o53,o63))))) ((v32,(0:Int),(o03,o13,o23,o32,o42,o52,o62),o04,o14,o24))) fun(v33,o05,o15,o25,o33,o43,o53,o63) =>
 some (inl (v33,o05,o15,o25,o33,o43,o53,o63)))) fun(v31,o01,o11,o21,o31,o41,o51,o61) =>
 some (inl (wrap .i64 (v31+1),o01,o11,o21,o31,o41,o51,o61)))
 (some (inr (inl ())))) (((0:Int),app0,app1,app2,app3,app4,app5,app6))) fun _ =>
 some (true)
def tb176:=insT 176 (mkE 176 true [] ti69 zDu F176 [.tmp 2] 68 []) tb175
theorem ok176:zTb tb176:=okI ok175 tp176 tv176 func176 rfl call176
abbrev ti244:SPat:=⟨[(0,.agg (pl plC)),(1,.agg (pl plM))],[]⟩
abbrev zLi:SPat:=⟨[(2,.ptr 2 0),(3,.ptr 3 0)],zo16⟩
def tv244:Nat→Option SPat:=fun k=>bif k==1000005 then some zLi else none
def F244:(Cls)×Mth→Option Bool:=fun((c0,c1,c2,c3,c4,c5,c6),m0,m1,m2,m3,m4,m5,m6,m7) =>
 zAA (F107 (m0,0,15)) fun y =>
 cndO (!y)
 (some false)
 (bindE (Y:=(Cls)×Mth) (zAA (F131 (c0,m1)) fun y1 =>
 cndO (decide (y1=[(98:UInt8),101,103,105,110]))
 (cndO (!decide (m0=1))
 (some (inr false))
 (zAA (F131 (c0,m2)) fun y2 =>
 cndO (!decide (y2=[(40:UInt8),41,86]))
 (some (inr false))
 (some (inl ((c0,c1,c2,c3,c4,c5,c6),m0,m1,m2,m3,m4,m5,m6,m7)))))
 (some (inl ((c0,c1,c2,c3,c4,c5,c6),m0,m1,m2,m3,m4,m5,m6,m7)))) fun((o0,o1,o2,o3,o4,o5,o6),o01,o11,o21,o31,o41,o51,o61,o7) =>
 zAA (F108 (o01,8)) fun y1 =>
 cndO (y1)
 (cndO (decide (o01=8))
 (zAA (F108 (o1,4)) fun y2 =>
 some y2)
 (some false))
 (zAA (F108 (o1,1)) fun y2 =>
 cndO (!y2)
 (some true)
 (some (decide (o01=1)))))
def tb244:=insT 244 (mkE 244 true [] ti244 zCZ F244 [.tmp 4] 48 []) tb176
theorem ok244:zTb tb244:=okI ok176 noPl tv244 func244 rfl call244
abbrev zUB:SPat:=⟨[(1,.ptr 1 0),(3,.i .i64),(4,.ptr 4 0),(5,.i .i64)],[.box 1 (pl plC),.box 4 (pl plM)]⟩
abbrev zLu:SPat:=⟨[(1,.ptr 1 0),(3,.i .i64),(4,.ptr 4 0)],[.box 1 (pl plC),.box 4 (pl plM)]⟩
def tv177:Nat→Option SPat:=fun k=>bif k==2 then some zFt else bif k==8 then some zUB else bif k==1000007 then some zLu else bif k==2000000 then some zCj else bif k==2000001 then some zFt else bif k==2000002 then some zFt else bif k==2000003 then some zUB else none
def tp177:Nat→List Nat×Plan:=fun id=>bif id==10 then([0,1,2,3,4,5,6,7,9,10,11,12],(.br 8 zn34 [9,10,11,12] [] (.br 13 zn10 [] [14,15,16,17,18,19,20,21,22,23,25,26,27,28] (.br 24 zn24 [25,26,27,28] [] (.br 29 [28,27,26,25,24,23,22,21,20,19,18,17,16,15,14,13,12,11,10,9,8,7,6,5,4,3,2,1,0] [] [30,31] .fin .fin) .fin) .fin) .fin))else([],.fin)
def F177:Cls→Option Bool:=fun(app0,app1,app2,app3,app4,app5,app6) =>
 bindE (zAG (fun(v3,o0,o1,o2,o3,o4,o5,o6) =>
 cndO (decide (v3<(o6.length:Int)))
 (bindE (Y:=Int×Cls) (grdO (decide (0≤v3)) (atO o6 v3.toNat fun x=>bindE (Y:=Int×(Cls)×Mth) (zAA (F131 (o0,x.2.1)) fun y =>
 zAA (F127 y) fun y1 =>
 cndO (!y1)
 (some (inr (inr (inr (inr false)))))
 (zAA (F131 (o0,x.2.2.1)) fun y2 =>
 zAA (F129 y2) fun y3 =>
 cndO (!y3)
 (some (inr (inr (inr (inr false)))))
 (zAA (F244 ((o0,o1,o2,o3,o4,o5,o6),x.1,x.2.1,x.2.2.1,x.2.2.2.1,x.2.2.2.2.1,x.2.2.2.2.2.1,x.2.2.2.2.2.2.1,x.2.2.2.2.2.2.2)) fun y4 =>
 cndO (!y4)
 (some (inr (inr (inr (inr false)))))
 (some (inl (v3,(o0,o1,o2,o3,o4,o5,o6),x.1,x.2.1,x.2.2.1,x.2.2.2.1,x.2.2.2.2.1,x.2.2.2.2.2.1,x.2.2.2.2.2.2.1,x.2.2.2.2.2.2.2)))))) fun(v31,(o01,o11,o21,o31,o41,o51,o61),o02,o12,o22,o32,o42,o52,o62,o7) =>
 bindE (Y:=Int×Cls) (zAG (fun(v32,v5,(o03,o13,o23,o33,o43,o53,o63),o04,o14,o24,o34,o44,o54,o64,o71) =>
 cndO (decide (v5<v32))
 (bindE (Y:=Int×Int×(Cls)×Mth) (grdO (decide (0≤v5)) (atO o63 v5.toNat fun x1=>zAA (F131 (o03,x1.2.1)) fun y =>
 seqU (seqU (grdO (decide (o03=o03)) (some ())) (seqU (grdO (decide (o14=o14)) (some ())) (some ()))) (zAA (F131 (o03,o14)) fun y1 =>
 cndO (decide (y=y1))
 (grdO (decide (0≤v5)) (atO o63 v5.toNat fun x2=>zAA (F131 (o03,x2.2.2.1)) fun y2 =>
 seqU (seqU (grdO (decide (o03=o03)) (some ())) (seqU (grdO (decide (o24=o24)) (some ())) (some ()))) (zAA (F131 (o03,o24)) fun y3 =>
 cndO (decide (y2=y3))
 (some (inr (inr (inr (inr (inr (inr false)))))))
 (some (inl (v32,v5,(o03,o13,o23,o33,o43,o53,o63),o04,o14,o24,o34,o44,o54,o64,o71))))))
 (some (inl (v32,v5,(o03,o13,o23,o33,o43,o53,o63),o04,o14,o24,o34,o44,o54,o64,o71)))))) fun(v33,v51,(o05,o15,o25,o35,o45,o55,o65),o06,o16,o26,o36,o46,o56,o66,o72) =>
 some (inl (v33,wrap .i64 (v51+1),(o05,o15,o25,o35,o45,o55,o65),o06,o16,o26,o36,o46,o56,o66,o72)))
 (some (inr (inl (v32,o03,o13,o23,o33,o43,o53,o63))))) ((v31,(0:Int),(o01,o11,o21,o31,o41,o51,o61),o02,o12,o22,o32,o42,o52,o62,o7))) fun(v32,o03,o13,o23,o33,o43,o53,o63) =>
 some (inl (v32,o03,o13,o23,o33,o43,o53,o63)))) fun(v31,o01,o11,o21,o31,o41,o51,o61) =>
 some (inl (wrap .i64 (v31+1),o01,o11,o21,o31,o41,o51,o61)))
 (some (inr (inl ())))) (((0:Int),app0,app1,app2,app3,app4,app5,app6))) fun _ =>
 some (true)
def tb177:=insT 177 (mkE 177 true [] ti69 zDu F177 [.tmp 2] 77 []) tb244
theorem ok177:zTb tb177:=okI ok244 tp177 tv177 func177 rfl call177
abbrev zLg:SPat:=⟨[(1,.i .i64),(5,.i .i64)],[]⟩
def tv252:Nat→Option SPat:=fun k=>bif k==1000006 then some zLg else none
def F252:List UInt8×Int→Option Int:=fun(s,op_) =>
 cndO (decide ((s.length:Int)=0))
 (some ((0:Int)))
 (atO s ((0:Nat)) fun x=>bindE (cndO (decide ((s.length:Int)=2))
 (atO s ((1:Nat)) fun x1=>some (inl (op_,wrap .i64 (wrap .i64 (wrap .i64 (x.toNat:Int)*256)+wrap .i64 (x1.toNat:Int)))))
 (some (inl (op_,wrap .i64 (x.toNat:Int))))) fun(op_1,n) =>
 cndO (decide (op_1=1))
 (cndO (decide (32768≤n))
 (some (wrap .i64 (n-65536)))
 (some n))
 (some n))
def tb252:=insT 252 (mkE 252 true [] ti213 zMH F252 [.tmp 4] 30 []) tb177
theorem ok252:zTb tb252:=okI ok177 noPl tv252 func252 rfl call252
abbrev to193:SPat:=⟨[(2,.own tg89 true),(3,.b)],[]⟩
abbrev zPj:SPat:=⟨[(0,.s),(4,.own tg89 true),(5,.i .i64)],[]⟩
abbrev zLt:SPat:=⟨[(0,.s),(4,.own tg89 true),(5,.i .i64),(6,.i .i64),(7,.i .i64)],[]⟩
abbrev zGR:SPat:=⟨[(4,.own tg89 true)],[]⟩
def tv193:Nat→Option SPat:=fun k=>bif k==3 then some zPj else bif k==1000008 then some zLt else bif k==2000000 then some zGR else none
def F193:List UInt8→Option (List Fld×Bool):=fun s =>
 bindE (Y:=List Fld) (zAG (fun(s1,out,at_) =>
 cndO (decide (at_<(s1.length:Int)))
 (grdO (decide (0≤at_)) (atO s1 at_.toNat fun x=>zAA (F251 (wrap .i64 (x.toNat:Int))) fun y =>
 bindE (Y:=List UInt8×List Fld×Int×Int×Int) (cndO (decide (y<0))
 (some (inr (inr (inr ([],false)))))
 (cndO (decide ((s1.length:Int)<wrap .i64 (wrap .i64 (at_+1)+y)))
 (some (inr (inr (inr ([],false)))))
 (some (inl (s1,out,at_,wrap .i64 (x.toNat:Int),y))))) fun(s2,out1,at_1,op_,n) =>
 grdO (decide (0≤wrap .i64 (at_1+1))&&decide (wrap .i64 (at_1+1)≤wrap .i64 (wrap .i64 (at_1+1)+n))&&decide (wrap .i64 (wrap .i64 (at_1+1)+n)≤(s2.length:Int))) (zAA (F252 (List.drop (Int.toNat (wrap .i64 (at_1+1))) (List.take (Int.toNat (wrap .i64 (wrap .i64 (at_1+1)+n))) s2),op_)) fun y1 =>
 grdO (decide (out1.length+1≤9223372036854775807)&&decide ((out1.length+1)*24≤140737488355328)) (some (inl (s2,out1++[(at_1,op_,y1)],wrap .i64 (wrap .i64 (at_1+1)+n)))))))
 (some (inr (inl out)))) ((s,[],(0:Int)))) fun out =>
 some ((out,decide (0<(out.length:Int))))
def tb193:=insT 193 (mkE 193 true [] zCt to193 F193 [.tmp 2,.tmp 3] 54 []) tb252
theorem ok193:zTb tb193:=okI ok252 noPl tv193 func193 rfl call193
def F245:(Cls)×Mth→Option Int:=fun((c0,c1,c2,c3,c4,c5,c6),m0,m1,m2,m3,m4,m5,m6,m7) =>
 zAA (F131 (c0,m2)) fun y =>
 zAA (F214 y) fun(y1,y2,y3) =>
 zAA (F108 (m0,1)) fun y4 =>
 cndO (y4)
 (some ((y1.length:Int)))
 (some (wrap .i64 ((y1.length:Int)+1)))
def tb245:=insT 245 (mkE 245 true [] ti244 zMH F245 [.tmp 4] 26 []) tb193
theorem ok245:zTb tb245:=okI ok193 noPl noIv func245 rfl call245
abbrev ti254:SPat:=⟨[(0,.sl tg89),(1,.i .i64)],[]⟩
abbrev ts254_2:SPat:=⟨[(0,.sl tg89),(1,.i .i64),(5,.i .i64)],[]⟩
def tv254:Nat→Option SPat:=fun k=>bif k==2 then some ts254_2 else bif k==2000000 then some zCj else none
def F254:List Fld×Int→Option Int:=fun(list,at_) =>
 bindE (zAG (fun(list1,at_1,i) =>
 cndO (decide (i<(list1.length:Int)))
 (grdO (decide (0≤i)) (atO list1 i.toNat fun x=>cndO (decide (x.1=at_1))
 (some (inr (inr i)))
 (some (inl (list1,at_1,wrap .i64 (i+1))))))
 (some (inr (inl ())))) ((list,at_,(0:Int)))) fun _ =>
 some ((-1:Int))
def tb254:=insT 254 (mkE 254 true [] ti254 zMH F254 [.tmp 4] 20 []) tb245
theorem ok254:zTb tb254:=okI ok245 noPl tv254 func254 rfl call254
abbrev ti246:SPat:=⟨[(0,.agg (pl plC)),(1,.agg (pl plM)),(2,.sl tg89),(3,.agg (pl zo6))],[]⟩
abbrev to246:SPat:=⟨[(8,.b)],[]⟩
def F246:(Cls)×(Mth)×List Fld×Int×Int×Int→Option Bool:=fun((c0,c1,c2,c3,c4,c5,c6),(m0,m1,m2,m3,m4,m5,m6,m7),list,x0,x1,x2) =>
 zAA (F107 (x1,3,6)) fun y =>
 cndO (y)
 (some (decide (x2<m4)))
 (zAA (F107 (x1,14,18)) fun y1 =>
 cndO (y1)
 (zAA (F254 (list,x2)) fun y2 =>
 some (decide (0≤y2)))
 (zAA (F291 x1) fun y2 =>
 cndO (decide (y2=0))
 (some true)
 (zAA (F133 (c0,x2,y2)) fun y3 =>
 some y3)))
def tb246:=insT 246 (mkE 246 true [] ti246 to246 F246 [.tmp 8] 39 []) tb254
theorem ok246:zTb tb246:=okI ok254 noPl noIv func246 rfl call246
abbrev ti247:SPat:=⟨[(0,.agg (pl plC)),(1,.agg (pl plM)),(2,.sl tg89),(3,.agg (pl zo9))],[]⟩
abbrev zLh:SPat:=⟨[(4,.ptr 4 0),(7,.ptr 7 0)],[.box 4 (pl plC),.box 7 (pl zo9)]⟩
def tv247:Nat→Option SPat:=fun k=>bif k==1000003 then some zLh else none
def F247:(Cls)×(Mth)×List Fld×Int×Int×Int×Int→Option Bool:=fun((c0,c1,c2,c3,c4,c5,c6),(m0,m1,m2,m3,m4,m5,m6,m7),list,t0,t1,t2,t3) =>
 bindE (Y:=(Cls)×Int×Int×Int×Int) (cndO (decide (t1≤t0))
 (some (inr false))
 (zAA (F254 (list,t0)) fun y =>
 cndO (decide (y<0))
 (some (inr false))
 (cndO (!decide (t1=(m5.length:Int)))
 (zAA (F254 (list,t1)) fun y1 =>
 cndO (decide (y1<0))
 (some (inr false))
 (zAA (F254 (list,t2)) fun y2 =>
 cndO (decide (y2<0))
 (some (inr false))
 (some (inl ((c0,c1,c2,c3,c4,c5,c6),t0,t1,t2,t3)))))
 (zAA (F254 (list,t2)) fun y1 =>
 cndO (decide (y1<0))
 (some (inr false))
 (some (inl ((c0,c1,c2,c3,c4,c5,c6),t0,t1,t2,t3))))))) fun((o0,o1,o2,o3,o4,o5,o6),o01,o11,o21,o31) =>
 cndO (decide (o31=0))
 (some true)
 (zAA (F130 (o0,o31)) fun y =>
 some (!decide (y=[])))
def tb247:=insT 247 (mkE 247 true [] ti247 to246 F247 [.tmp 8] 54 []) tb246
theorem ok247:zTb tb247:=okI ok246 noPl tv247 func247 rfl call247
abbrev ti292:SPat:=⟨[(0,.agg (pl plC)),(1,.sl zBg)],[]⟩
abbrev zTq:SPat:=⟨[(1,.sl zBg),(2,.ptr 2 0),(5,.i .i64)],[.box 2 (pl plC)]⟩
def tv292:Nat→Option SPat:=fun k=>bif k==2 then some zTq else bif k==2000000 then some zCj else bif k==2000001 then some zTq else none
def tp292:Nat→List Nat×Plan:=fun id=>bif id==4 then([0,1,2,3,4],(.br 5 zn25 [] [6,7,8,9,10,11,12,13,14,15,16,17,18,19,20,21] (.br 22 zn26 [] [23,24,25,26,27,28,29,30,31,32,33,34,35,36,37,38,39,40,41] .fin .fin) .fin))else([],.fin)
def F292:(Cls)×List Knd→Option Bool:=fun((c0,c1,c2,c3,c4,c5,c6),list) =>
 bindE (zAG (fun(list1,i,o0,o1,o2,o3,o4,o5,o6) =>
 cndO (decide (i<(list1.length:Int)))
 (bindE (Y:=List Knd×Int×Cls) (grdO (decide (0≤i)) (atO list1 i.toNat fun x=>zAA (F107 (x.1,0,3)) fun y =>
 cndO (!y)
 (some (inr (inr (inr false))))
 (grdO (decide (0≤i)) (atO list1 i.toNat fun x1=>cndO (decide (x1.1=3))
 (grdO (decide (0≤i)) (atO list1 i.toNat fun x2=>zAA (F130 (o0,x2.2)) fun y1 =>
 cndO (decide (y1=[]))
 (some (inr (inr (inr false))))
 (grdO (decide (0≤i)) (atO list1 i.toNat fun x3=>cndO (!decide (x3.1=3))
 (grdO (decide (0≤i)) (atO list1 i.toNat fun x4=>cndO (!decide (x4.2=0))
 (some (inr (inr (inr false))))
 (some (inl (list1,i,o0,o1,o2,o3,o4,o5,o6)))))
 (some (inl (list1,i,o0,o1,o2,o3,o4,o5,o6)))))))
 (grdO (decide (0≤i)) (atO list1 i.toNat fun x2=>cndO (!decide (x2.1=3))
 (grdO (decide (0≤i)) (atO list1 i.toNat fun x3=>cndO (!decide (x3.2=0))
 (some (inr (inr (inr false))))
 (some (inl (list1,i,o0,o1,o2,o3,o4,o5,o6)))))
 (some (inl (list1,i,o0,o1,o2,o3,o4,o5,o6))))))))) fun(list2,i1,o01,o11,o21,o31,o41,o51,o61) =>
 some (inl (list2,wrap .i64 (i1+1),o01,o11,o21,o31,o41,o51,o61)))
 (some (inr (inl ())))) ((list,(0:Int),c0,c1,c2,c3,c4,c5,c6))) fun _ =>
 some (true)
def tb292:=insT 292 (mkE 292 true [] ti292 zCZ F292 [.tmp 4] 54 []) tb247
theorem ok292:zTb tb292:=okI ok247 tp292 tv292 func292 rfl call292
abbrev ti248:SPat:=⟨[(0,.agg (pl plC)),(1,.agg (pl plM)),(2,.sl tg89)],[]⟩
abbrev zTr:SPat:=⟨[(2,.sl tg89),(3,.ptr 3 0),(4,.ptr 4 0),(7,.i .i64)],[.box 3 (pl plC),.box 4 (pl plM)]⟩
def tv248:Nat→Option SPat:=fun k=>bif k==2 then some zTr else bif k==2000000 then some zCj else bif k==2000001 then some zTr else none
def tp248:Nat→List Nat×Plan:=fun id=>bif id==5 then([0,1,2],(.br 3 zn14 [] [4,5,6,7,8,9,10,11,12,13,14,15,16,17,18,19,20,21,22,23,24,25,26,27,28,29,30,31,32,33,34,35,36,37,38,39,40] (.br 41 [40,39,38,37,36,35,34,33,32,31,30,29,28,27,26,25,24,23,22,21,20,19,18,17,16,15,14,13,12,11,10,9,8,7,6,5,4,3,2,1,0] [] [42,43,44,45,46,47] (.br 48 [47,46,45,44,43,42,41,40,39,38,37,36,35,34,33,32,31,30,29,28,27,26,25,24,23,22,21,20,19,18,17,16,15,14,13,12,11,10,9,8,7,6,5,4,3,2,1,0] [] [49,50] .fin .fin) .fin) .fin))else([],.fin)
def F248:(Cls)×(Mth)×List Fld→Option Bool:=fun((app0,app1,app2,app3,app4,app5,app6),(v10,v11,v12,v13,v14,v15,v16,v17),v2) =>
 bindE (zAG (fun(v21,v7,(o0,o1,o2,o3,o4,o5,o6),o01,o11,o21,o31,o41,o51,o61,o7) =>
 cndO (decide (v7<(o7.length:Int)))
 (bindE (Y:=List Fld×Int×(Cls)×Mth) (grdO (decide (0≤v7)) (atO o7 v7.toNat fun x=>zAA (F254 (v21,x.1)) fun y =>
 cndO (decide (y<0))
 (some (inr (inr (inr false))))
 (cndO (decide (0<v7))
 (grdO (decide (0≤wrap .i64 (v7-1))) (atO o7 (Int.toNat (wrap .i64 (v7-1))) fun x1=>cndO (decide (x.1≤x1.1))
 (some (inr (inr (inr false))))
 (cndO (!decide ((x.2.1.length:Int)=o41))
 (some (inr (inr (inr false))))
 (cndO (decide (o31<(x.2.2.length:Int)))
 (some (inr (inr (inr false))))
 (zAA (F292 ((o0,o1,o2,o3,o4,o5,o6),x.2.1)) fun y1 =>
 cndO (!y1)
 (some (inr (inr (inr false))))
 (zAA (F292 ((o0,o1,o2,o3,o4,o5,o6),x.2.2)) fun y2 =>
 cndO (!y2)
 (some (inr (inr (inr false))))
 (some (inl (v21,v7,(o0,o1,o2,o3,o4,o5,o6),o01,o11,o21,o31,o41,o51,o61,o7)))))))))
 (cndO (!decide ((x.2.1.length:Int)=o41))
 (some (inr (inr (inr false))))
 (cndO (decide (o31<(x.2.2.length:Int)))
 (some (inr (inr (inr false))))
 (zAA (F292 ((o0,o1,o2,o3,o4,o5,o6),x.2.1)) fun y1 =>
 cndO (!y1)
 (some (inr (inr (inr false))))
 (zAA (F292 ((o0,o1,o2,o3,o4,o5,o6),x.2.2)) fun y2 =>
 cndO (!y2)
 (some (inr (inr (inr false))))
 (some (inl (v21,v7,(o0,o1,o2,o3,o4,o5,o6),o01,o11,o21,o31,o41,o51,o61,o7)))))))))) fun(v22,v71,(o02,o12,o22,o32,o42,o52,o62),o03,o13,o23,o33,o43,o53,o63,o71) =>
 some (inl (v22,wrap .i64 (v71+1),(o02,o12,o22,o32,o42,o52,o62),o03,o13,o23,o33,o43,o53,o63,o71)))
 (some (inr (inl ())))) ((v2,(0:Int),(app0,app1,app2,app3,app4,app5,app6),v10,v11,v12,v13,v14,v15,v16,v17))) fun _ =>
 some (true)
def tb248:=insT 248 (mkE 248 true [] ti248 zJu F248 [.tmp 6] 72 []) tb292
theorem ok248:zTb tb248:=okI ok292 tp248 tv248 func248 rfl call248
abbrev ts178_7:SPat:=⟨[(2,.ptr 2 0),(3,.ptr 3 0),(5,.own tg89 true),(7,.i .i64)],zo16⟩
abbrev ts178_12:SPat:=⟨[(2,.ptr 2 0),(3,.ptr 3 0),(5,.own tg89 true),(8,.i .i64)],zo16⟩
abbrev zBl:SPat:=⟨[(2,.ptr 2 0),(3,.ptr 3 0),(5,.own tg89 true)],zo16⟩
def tv178:Nat→Option SPat:=fun k=>bif k==7 then some ts178_7 else bif k==12 then some ts178_12 else bif k==1000006 then some zBl else bif k==2000000 then some zBl else bif k==2000002 then some zBl else none
def tp178:Nat→List Nat×Plan:=fun id=>bif id==4 then([0,1,2,3,4,5,6,7,8,9,10,11],(.br 12 [11,10,7,6,5,4,3,2,1,0] [8,9] [] (.br 13 zn10 [] [14,15] .fin .fin) .fin))else bif id==9 then(zn6,(.br 7 zn11 [] [8] .fin .fin))else bif id==14 then([0,1,2,3,4,5,6,7],(.br 8 zn34 [] [9] .fin .fin))else([],.fin)
def F178:(Cls)×Mth→Option Bool:=fun((app0,app1,app2,app3,app4,app5,app6),v10,v11,v12,v13,v14,v15,v16,v17) =>
 zAA (F108 (v10,8)) fun y =>
 cndO (y)
 (some true)
 (zAA (F193 v15) fun(y1,y2) =>
 bindE (Y:=List Fld×(Cls)×Mth) (cndO (!y2)
 (some (inr false))
 (cndO (decide (8<v13))
 (some (inr false))
 (zAA (F245 ((app0,app1,app2,app3,app4,app5,app6),v10,v11,v12,v13,v14,v15,v16,v17)) fun y3 =>
 seqU (seqU (grdO (decide (v14=v14)) (some ())) (some ())) (zAA (F107 (v14,y3,8)) fun y4 =>
 cndO (!y4)
 (some (inr false))
 (some (inl (y1,(app0,app1,app2,app3,app4,app5,app6),v10,v11,v12,v13,v14,v15,v16,v17))))))) fun(v5,(o0,o1,o2,o3,o4,o5,o6),o01,o11,o21,o31,o41,o51,o61,o7) =>
 bindE (Y:=List Fld×(Cls)×Mth) (zAG (fun(v51,v7,(o02,o12,o22,o32,o42,o52,o62),o03,o13,o23,o33,o43,o53,o63,o71) =>
 cndO (decide (v7<(v51.length:Int)))
 (grdO (decide (0≤v7)&&decide (v7<(v51.length:Int))) (atO v51 v7.toNat fun x=>zAA (F246 ((o02,o12,o22,o32,o42,o52,o62),(o03,o13,o23,o33,o43,o53,o63,o71),v51,x.1,x.2.1,x.2.2)) fun y3 =>
 cndO (!y3)
 (some (inr (inr false)))
 (some (inl (v51,wrap .i64 (v7+1),(o02,o12,o22,o32,o42,o52,o62),o03,o13,o23,o33,o43,o53,o63,o71)))))
 (some (inr (inl (v51,(o02,o12,o22,o32,o42,o52,o62),o03,o13,o23,o33,o43,o53,o63,o71))))) ((v5,(0:Int),(o0,o1,o2,o3,o4,o5,o6),o01,o11,o21,o31,o41,o51,o61,o7))) fun(v51,(o02,o12,o22,o32,o42,o52,o62),o03,o13,o23,o33,o43,o53,o63,o71) =>
 bindE (Y:=List Fld×(Cls)×Mth) (zAG (fun(v52,v8,(o04,o14,o24,o34,o44,o54,o64),o05,o15,o25,o35,o45,o55,o65,o72) =>
 cndO (decide (v8<(o65.length:Int)))
 (grdO (decide (0≤v8)) (atO o65 v8.toNat fun x=>zAA (F247 ((o04,o14,o24,o34,o44,o54,o64),(o05,o15,o25,o35,o45,o55,o65,o72),v52,x.1,x.2.1,x.2.2.1,x.2.2.2)) fun y3 =>
 cndO (!y3)
 (some (inr (inr false)))
 (some (inl (v52,wrap .i64 (v8+1),(o04,o14,o24,o34,o44,o54,o64),o05,o15,o25,o35,o45,o55,o65,o72)))))
 (some (inr (inl (v52,(o04,o14,o24,o34,o44,o54,o64),o05,o15,o25,o35,o45,o55,o65,o72))))) ((v51,(0:Int),(o02,o12,o22,o32,o42,o52,o62),o03,o13,o23,o33,o43,o53,o63,o71))) fun(v52,(o04,o14,o24,o34,o44,o54,o64),o05,o15,o25,o35,o45,o55,o65,o72) =>
 zAA (F248 ((o04,o14,o24,o34,o44,o54,o64),(o05,o15,o25,o35,o45,o55,o65,o72),v52)) fun y3 =>
 some y3)
def tb178:=insT 178 (mkE 178 true [] ti244 zCZ F178 [.tmp 4] 70 []) tb248
theorem ok178:zTb tb178:=okI ok248 tp178 tv178 func178 rfl call178
def tv88:Nat→Option SPat:=fun k=>bif k==10 then some zFt else bif k==2000000 then some zCj else none
def tp88:Nat→List Nat×Plan:=fun id=>bif id==12 then(zn1,(.br 6 [5,4,3,2,1,0] [] [7] .fin .fin))else([],.fin)
def F88:Cls→Option Int:=fun(c0,c1,c2,c3,c4,c5,c6) =>
 zAA (F15 c0) fun y =>
 cndO (!decide (y=0))
 (some ((2:Int)))
 (zAA (F175 (c0,c1,c2,c3,c4,c5,c6)) fun y1 =>
 cndO (!y1)
 (some ((3:Int)))
 (zAA (F176 (c0,c1,c2,c3,c4,c5,c6)) fun y2 =>
 cndO (!y2)
 (some ((4:Int)))
 (zAA (F177 (c0,c1,c2,c3,c4,c5,c6)) fun y3 =>
 cndO (!y3)
 (some ((5:Int)))
 (bindE (zAG (fun(i,o0,o1,o2,o3,o4,o5,o6) =>
 cndO (decide (i<(o6.length:Int)))
 (grdO (decide (0≤i)) (atO o6 i.toNat fun x=>zAA (F178 ((o0,o1,o2,o3,o4,o5,o6),x.1,x.2.1,x.2.2.1,x.2.2.2.1,x.2.2.2.2.1,x.2.2.2.2.2.1,x.2.2.2.2.2.2.1,x.2.2.2.2.2.2.2)) fun y4 =>
 cndO (!y4)
 (some (inr (inr (6:Int))))
 (some (inl (wrap .i64 (i+1),o0,o1,o2,o3,o4,o5,o6)))))
 (some (inr (inl ())))) (((0:Int),c0,c1,c2,c3,c4,c5,c6))) fun _ =>
 some ((0:Int))))))
def tb88:=insT 88 (mkE 88 true [] ti69 zIB F88 [.tmp 2] 32 []) tb178
theorem ok88:zTb tb88:=okI ok178 tp88 tv88 func88 rfl call88
abbrev zTu:SPat:=⟨[(2,.ptr 2 0),(4,.ptr 25 0),(5,.own .str true),(6,.i .i64)],[.box 2 (pl plD),.box 25 (pl plB)]⟩
abbrev zLn:SPat:=⟨[(0,.s),(2,.ptr 2 0)],[.box 2 (pl plD)]⟩
abbrev zGP:SPat:=⟨[(2,.ptr 2 0),(4,.ptr 25 0)],[.box 2 (pl plD),.box 25 (pl plB)]⟩
def tv218:Nat→Option SPat:=fun k=>bif k==6 then some zTu else bif k==1000003 then some zLn else bif k==1000008 then some zTu else bif k==1000011 then some zGP else bif k==2000000 then some zGP else none
def F218:List UInt8→Option (Bool×Cls):=fun app =>
 bindE (Y:=List UInt8×Cls) (cndO (decide (2500<(app.length:Int)))
 (some (inr (false,[],(0:Int),(0:Int),(0:Int),[],[],[])))
 (cndO (decide ((app.length:Int)=0))
 (some (inr (false,[],(0:Int),(0:Int),(0:Int),[],[],[])))
 (grdO (decide (0≤wrap .i64 ((app.length:Int)-1))) (atO app (Int.toNat (wrap .i64 ((app.length:Int)-1))) fun x=>cndO (!decide ((x.toNat:Int)=10))
 (some (inr (false,[],(0:Int),(0:Int),(0:Int),[],[],[])))
 (some (inl (app,[],(0:Int),(0:Int),(0:Int),[],[],[]))))))) fun(app1,o0,o1,o2,o3,o4,o5,o6) =>
 zAA (F278 (app1,10,(app1.length:Int))) fun y =>
 bindE (Y:=(Cls)×List Cst×Int×Int×Int×List Int×List Fld×List Mth×Bool) (zAG (fun(v5,v6,(o01,o11,o21,o31,o41,o51,o61),o02,o12,o22,o32,o42,o52,o62,o7) =>
 bindE (Y:=List (List UInt8)×Int×(Cls)×List Cst×Int×Int×Int×List Int×List Fld×List Mth×Bool) (cndO (decide (v6<wrap .i64 ((v5.length:Int)-1)))
 (cndO (!o7)
 (some (inl (v5,v6,(o01,o11,o21,o31,o41,o51,o61),o02,o12,o22,o32,o42,o52,o62,o7)))
 (some (inr (inr (inl ((o01,o11,o21,o31,o41,o51,o61),o02,o12,o22,o32,o42,o52,o62,o7))))))
 (some (inr (inr (inl ((o01,o11,o21,o31,o41,o51,o61),o02,o12,o22,o32,o42,o52,o62,o7)))))) fun(v51,v61,(o03,o13,o23,o33,o43,o53,o63),o04,o14,o24,o34,o44,o54,o64,o71) =>
 grdO (decide (0≤v61)&&decide (v61<(v51.length:Int))) (atO v51 v61.toNat fun x=>zAA (F279 (x,o04,o14,o24,o34,o44,o54,o64,o71)) fun(y1,y2,y3,y4,y5,y6,x1,x2) =>
 some (inl (v51,wrap .i64 (v61+1),(o03,o13,o23,o33,o43,o53,o63),y1,y2,y3,y4,y5,y6,x1,x2)))) ((y,(0:Int),(o0,o1,o2,o3,o4,o5,o6),[],(0:Int),(0:Int),(0:Int),[],[],[],false))) fun((o01,o11,o21,o31,o41,o51,o61),o02,o12,o22,o32,o42,o52,o62,o7) =>
 bindE (Y:=(Cls)×List Cst×Int×Int×Int×List Int×List Fld×List Mth×Bool) (cndO (o7)
 (some (inr (false,[],(0:Int),(0:Int),(0:Int),[],[],[])))
 (zAA (F22 (o02,o12,o22,o32,o42,o52,o62)) fun y1 =>
 cndO (decide (y1=[]))
 (some (inr (false,[],(0:Int),(0:Int),(0:Int),[],[],[])))
 (zAA (F88 (o02,o12,o22,o32,o42,o52,o62)) fun y2 =>
 cndO (!decide (y2=0))
 (some (inr (false,[],(0:Int),(0:Int),(0:Int),[],[],[])))
 (some (inl ((o01,o11,o21,o31,o41,o51,o61),o02,o12,o22,o32,o42,o52,o62,o7)))))) fun((o03,o13,o23,o33,o43,o53,o63),o04,o14,o24,o34,o44,o54,o64,o71) =>
 some ((true,o04,o14,o24,o34,o44,o54,o64))
def tb218:=insT 218 (mkE 218 true [] zCt to63 F218 [.cell 2 34,.tmp 3] 75 []) tb88
theorem ok218:zTb tb218:=okI ok88 noPl tv218 func218 rfl call218
def F139:List UInt8→Option (List UInt8):=fun s =>
 zAA (F218 s) fun(y,y1,y2,y3,y4,y5,x,x1) =>
 cndO (!y)
 (some ([(83:UInt8),84,79,87]))
 (zAA (F55 (y1,y2,y3,y4,y5,x,x1)) fun y6 =>
 some y6)
def tb139:=insT 139 (mkE 139 true [] zCt zEU F139 [.tmp 2] 14 []) tb218
theorem ok139:zTb tb139:=okI ok218 noPl noIv func139 rfl call139
abbrev ti138:SPat:=⟨[(0,.ptr 100000 0)],zo0⟩
abbrev to138:SPat:=⟨[(2,.ptr 2 0)],[.box 2 (pl [.s,.s]),.box 100000 (pl plR)]⟩
def F138:List UInt8×Int→Option ((List UInt8×List UInt8)×List UInt8×Int):=fun(o0,o1)=>let zb0:=[(99:UInt8),108,97,115,115,32,77,32];let zb1:=[(79:UInt8),98,106];zAA (F119 ([zb1,zb1,zb1,[(65:UInt8)]],o0,o1)) fun(y,y1,y2) =>
 grdO (decide ((8:Nat)+y.length≤9223372036854775807)) (grdO (decide (List.length (zb0++y)+3≤9223372036854775807)) (zAA (F217 ([(109:UInt8),97,105,110],y1,y2)) fun(y3,y4,y5) =>
 grdO (decide (List.length (zb0++y++[(32:UInt8),48,10])+y3.length≤9223372036854775807)) (zAA (F139 (zb0++y++[(32:UInt8),48,10]++y3)) fun y6 =>
 some ((([(77:UInt8)],y6),y4,y5)))))
def tb138:=insT 138 (mkE 138 false [(0,[])] ti138 to138 F138 [.cell 2 143] 13 [100000]) tb139
theorem ok138:zTb tb138:=okI ok139 noPl noIv func138 rfl call138
def F140:List UInt8×List UInt8×Int→Option (List UInt8×List UInt8×Int):=fun(v1,o0,o1)=>let zb0:=[(109:UInt8),101,116,104,111,100,32,110,101,120,116,32,40,41,76,65,59,32,48,32,50,32,49,10,32,32,114,101,102,108,111,97,100,32,48,10,32,32,103,101,116,32,65,32,110,32,76,65,59,10,32,32,103,105,118,101,114,101,102,10];let zb1:=[(109:UInt8),101,116,104,111,100,32,103,101,116,32,40,41,73,32,48,32,50,32,49,10,32,32,114,101,102,108,111,97,100,32,48,10,32,32,103,101,116,32,65,32,120,32,73,10,32,32,103,105,118,101,105,110,116,10];let zb2:=[(99:UInt8),108,97,115,115,32,65,32,79,98,106,32,48,10,102,105,101,108,100,32,120,32,73,32,48,10,102,105,101,108,100,32,110,32,76,65,59,32,48,10,102,105,101,108,100,32,115,32,73,32,49,10];let zb3:=[(99:UInt8),108,97,115,115,32,85,32,79,98,106,32,48,10,102,105,101,108,100,32,97,32,76,65,59,32,49,10,109,101,116,104,111,100,32,101,97,116,32,40,76,65,59];let zb4:=[(41:UInt8),73,32,49,32,50,32,49,10,32,32,114,101,102,108,111,97,100,32,48,10,32,32,103,101,116,32,65,32,120,32,73,10,32,32,103,105,118,101,105,110,116,10];let zb5:=[(109:UInt8),101,116,104,111,100,32,103,101,116,32,40,41,73,32,48,32,49,32,49,10,32,32,112,117,115,104,32,54,10,32,32,103,105,118,101,105,110,116,10];let zb6:=[(109:UInt8),101,116,104,111,100,32,109,107,32,40,41,76,65,59,32,49,32,49,32,48,10,32,32,110,101,119,32,65,10,32,32,103,105,118,101,114,101,102,10];let zb7:=[(109:UInt8),101,116,104,111,100,32,116,97,107,101,32,40,76,65,59,41,73,32,48,32,50,32,50,10,32,32,114,101,102,108,111,97,100,32,49,10,32,32];let zb8:=[(109:UInt8),101,116,104,111,100,32,109,97,107,101,32,40,41,76,65,59,32,49,32,49,32,48,10,32,32,110,101,119,32];let zb9:=[(99:UInt8),108,97,115,115,32,67,32,79,98,106,32,48,10,102,97,99,101,32,70,10];let zb10:=[(10:UInt8),102,105,101,108,100,32,121,32,73,32,48,10];let zb11:=[(99:UInt8),108,97,115,115,32,70,32,79,98,106,32];let zb12:=[(99:UInt8),108,97,115,115,32,66,32,65,32];cndO (decide (v1=[(65:UInt8)]))
 (zAA (F119 ([[],[],[(102:UInt8),105,101,108,100,32,122,32,73,32,48,10]],o0,o1)) fun(y,y1,y2) =>
 grdO (decide ((52:Nat)+y.length≤9223372036854775807)) (grdO (decide (List.length (zb2++y)+55≤9223372036854775807)) (grdO (decide (List.length (zb2++y++zb1)+60≤9223372036854775807)) (grdO (decide (List.length (zb2++y++zb1++zb0)+40≤9223372036854775807)) (zAA (F119 ([[],[(109:UInt8),101,116,104,111,100,32,104,105,100,32,40,41,86,32,50,32,48,32,49,10,32,32,103,105,118,101,10]],y1,y2)) fun(y3,y4,y5) =>
 grdO (decide (List.length (zb2++y++zb1++zb0++zb6)+y3.length≤9223372036854775807)) (zAA (F119 ([[],List.append [(109:UInt8),101,116,104,111,100,32,98,101,103,105,110,32,40,41,86,32,49,32,49,32,48,10,32,32,112,117,115,104,32,49,48,10,32,32,112] [(114:UInt8),105,110,116,10,32,32,112,117,115,104,32,51,10,32,32,112,117,116,97,108,108,32,65,32,115,32,73,10,32,32,103,105,118,101,10],[(109:UInt8),101,116,104,111,100,32,98,101,103,105,110,32,40,41,86,32,49,32,50,32,48,10,32,32,112,117,115,104,32,49,10,32,32,112,117,115,104,32,48,10,32,32,100,105,118,10,32,32,112,114,105,110,116,10,32,32,103,105,118,101,10]],y4,y5)) fun(y6,y7,y8) =>
 grdO (decide (List.length (zb2++y++zb1++zb0++zb6++y3)+y6.length≤9223372036854775807)) (some ((zb2++y++zb1++zb0++zb6++y3++y6,y7,y8)))))))))
 (cndO (decide (v1=[(66:UInt8)]))
 (zAA (F119 ([[(48:UInt8)],[(48:UInt8)],[(50:UInt8)]],o0,o1)) fun(y,y1,y2) =>
 grdO (decide ((10:Nat)+y.length≤9223372036854775807)) (grdO (decide (List.length (zb12++y)+13≤9223372036854775807)) (zAA (F119 ([[(109:UInt8),101,116,104,111,100,32,103,101,116,32,40,41,73,32,48,32,49,32,49,10,32,32,112,117,115,104,32,53,10,32,32,103,105,118,101,105,110,116,10],List.append [(109:UInt8),101,116,104,111,100,32,103,101,116,32,40,41,73,32,48,32,50,32,49,10,32,32,114,101,102,108,111,97,100,32,48,10,32,32,115,112,101,99] [(105:UInt8),97,108,32,65,32,103,101,116,32,40,41,73,10,32,32,112,117,115,104,32,49,10,32,32,97,100,100,10,32,32,103,105,118,101,105,110,116,10],[(109:UInt8),101,116,104,111,100,32,103,101,116,32,40,41,73,32,50,32,49,32,49,10,32,32,112,117,115,104,32,57,10,32,32,103,105,118,101,105,110,116,10],[(109:UInt8),101,116,104,111,100,32,110,101,120,116,32,40,41,76,65,59,32,48,32,49,32,49,10,32,32,110,101,119,32,66,10,32,32,103,105,118,101,114,101,102,10],[(109:UInt8),101,116,104,111,100,32,103,101,116,32,40,41,73,32,48,32,49,32,49,10,32,32,110,117,108,108,10,32,32,103,105,118,101,105,110,116,10],[(109:UInt8),101,116,104,111,100,32,98,101,103,105,110,32,40,41,86,32,49,32,49,32,48,10,32,32,112,117,115,104,32,50,48,10,32,32,112,114,105,110,116,10,32,32,103,105,118,101,10]],y1,y2)) fun(y3,y4,y5) =>
 grdO (decide (List.length (zb12++y++zb10)+y3.length≤9223372036854775807)) (some ((zb12++y++zb10++y3,y4,y5))))))
 (cndO (decide (v1=[(67:UInt8)]))
 (zAA (F119 ([[],zb5,zb5],o0,o1)) fun(y,y1,y2) =>
 grdO (decide ((21:Nat)+y.length≤9223372036854775807)) (grdO (decide (List.length (zb9++y)+39≤9223372036854775807)) (zAA (F119 ([[(118:UInt8),105,114,116,117,97,108,32,65,32,103,101,116,32,40,41,73],[(103:UInt8),101,116,32,65,32,120,32,73]],y1,y2)) fun(y3,y4,y5) =>
 grdO (decide (List.length (zb9++y++zb7)+y3.length≤9223372036854775807)) (grdO (decide (List.length (zb9++y++zb7++y3)+11≤9223372036854775807)) (some ((zb9++y++zb7++y3++[(10:UInt8),32,32,103,105,118,101,105,110,116,10],y4,y5)))))))
 (cndO (decide (v1=[(70:UInt8)]))
 (zAA (F119 ([[(53:UInt8)],[(53:UInt8)],[(53:UInt8)],[(52:UInt8)]],o0,o1)) fun(y,y1,y2) =>
 grdO (decide ((12:Nat)+y.length≤9223372036854775807)) (grdO (decide (List.length (zb11++y)+39≤9223372036854775807)) (some ((zb11++y++[(10:UInt8),109,101,116,104,111,100,32,103,101,116,32,40,41,73,32,56,10,109,101,116,104,111,100,32,116,97,107,101,32,40,76,65,59,41,73,32,56,10],y1,y2)))))
 (zAA (F119 ([[(65:UInt8)],[(65:UInt8)],[(66:UInt8)]],o0,o1)) fun(y,y1,y2) =>
 grdO (decide ((116:Nat)+y.length≤9223372036854775807)) (grdO (decide (List.length (List.append zb3 zb4++zb8++y)+11≤9223372036854775807)) (some ((List.append zb3 zb4++zb8++y++[(10:UInt8),32,32,103,105,118,101,114,101,102,10],y1,y2))))))))
def tb140:=insT 140 (mkE 140 false [(0,[])] ti217 to119 F140 [.tmp 4] 71 [100000]) tb138
theorem ok140:zTb tb140:=okI ok138 noPl noIv func140 rfl call140
abbrev to56:SPat:=⟨[(2,.ptr 2 0)],[.box 2 (pl plD),.box 100000 (pl plR)]⟩
abbrev zNf:SPat:=⟨[(2,.ptr 2 0),(4,.s)],[.box 2 (pl plD),.box 100000 (pl plR)]⟩
def tv56:Nat→Option SPat:=fun k=>bif k==1000006 then some zNf else none
def F56:List UInt8×Int→Option ((Cls)×List UInt8×Int):=fun(o0,o1) =>
 zAA (F119 ([[(65:UInt8)],[(66:UInt8)],[(67:UInt8)],[(70:UInt8)],[(85:UInt8)],[(77:UInt8)]],o0,o1)) fun(y,y1,y2) =>
 bindE (Y:=List UInt8×(Cls)×List UInt8×Int) (cndO (decide (y=[(77:UInt8)]))
 (zAA (F138 (y1,y2)) fun((y3,y4),y5,y6) =>
 some (inl (y4,([],(0:Int),(0:Int),(0:Int),[],[],[]),y5,y6)))
 (zAA (F140 (y,y1,y2)) fun(y3,y4,y5) =>
 zAA (F139 y3) fun y6 =>
 some (inl (y6,([],(0:Int),(0:Int),(0:Int),[],[],[]),y4,y5)))) fun(text_,(o01,o11,o2,o3,o4,o5,o6),o02,o12) =>
 zAA (F63 text_) fun(y3,y4,y5,y6,y7,y8,x,x1) =>
 some (((y4,y5,y6,y7,y8,x,x1),o02,o12))
def tb56:=insT 56 (mkE 56 false [(0,[])] ti138 to56 F56 [.cell 2 34] 25 [100000]) tb140
theorem ok56:zTb tb56:=okI ok140 noPl tv56 func56 rfl call56
abbrev zNh:SPat:=⟨[(0,.ptr 100000 0),(1,.s),(5,.i .i64),(12,.i .i64),(13,.b)],zo0⟩
abbrev zNg:SPat:=⟨[(1,.s)],zo0⟩
def tv54:Nat→Option SPat:=fun k=>bif k==1000005 then some zNh else bif k==2000000 then some zNg else none
def tp54:Nat→List Nat×Plan:=fun id=>bif id==6 then([0,1,2,3,9,10,11,12],(.br 4 [3] [0,1,2,9,10,11,12] [5] (.br 6 [5,4,3] [0,1,2,9,10,11,12] [7,8,13] (.br 14 zn20 [] [] .fin .fin) .fin) .fin))else([],.fin)
def F54:List UInt8×List UInt8×Int→Option (List UInt8×List UInt8×Int):=fun(s,o0,o1)=>zAA (F51 (wrap .i64 ((s.length:Int)+1),o0,o1)) fun(y,y1,y2)=>zAA (F51 (5,y1,y2)) fun(y3,y4,y5)=>bindE (Y:=List UInt8×List UInt8×Int) (bindE (Y:=List UInt8×Int×Int×Bool×List UInt8×Int) (cndO (decide (y3=0)) (some (inl (s,y,y3,true,y4,y5))) (some (inl (s,y,y3,decide (y3=1),y4,y5)))) fun(s1,k,v12,v13,o01,o11)=>cndO v13 (cndO (decide (k<(s1.length:Int))) (grdO (decide (0≤k)&&decide (k≤(s1.length:Int))) (grdO (decide (0≤wrap .i64 (k+1))&&decide (wrap .i64 (k+1)≤(s1.length:Int))&&decide ((s1.length:Int)≤(s1.length:Int))) (zAA (F51 (256,o01,o11)) fun(y6,y7,y8)=>let q1:=seqU (grdO (decide (s1=s1)) (some ())) (seqU (grdO (decide (k=k)) (some ())) (seqU (grdO (decide (0≤k)&&decide (k≤(s1.length:Int))) (grdO (decide (List.drop (0:Nat) (List.take k.toNat s1)=List.drop (0:Nat) (List.take k.toNat s1))) (some ()))) (seqU (grdO (decide (s1=s1)) (some ())) (seqU (grdO (decide (k=k)) (some ())) (seqU (grdO (decide (wrap .i64 (k+1)=wrap .i64 (k+1))) (some ())) (seqU (grdO (decide (0≤wrap .i64 (k+1))&&decide (wrap .i64 (k+1)≤(s1.length:Int))&&decide ((s1.length:Int)≤(s1.length:Int))) (grdO (decide (List.drop (Int.toNat (wrap .i64 (k+1))) (List.take (Int.toNat (s1.length:Int)) s1)=List.drop (Int.toNat (wrap .i64 (k+1))) (List.take (Int.toNat (s1.length:Int)) s1))) (some ()))) (some ())))))));seqU q1 (grdO (decide (0≤wrap .u8 y6)&&decide (wrap .u8 y6≤255)) (seqU q1 (grdO (decide (List.length (List.drop (0:Nat) (List.take k.toNat s1))+1≤9223372036854775807)) (grdO (decide (List.length (List.drop (0:Nat) (List.take k.toNat s1)++[UInt8.ofNat (Int.toNat (wrap .u8 y6))])+List.length (List.drop (Int.toNat (wrap .i64 (k+1))) (List.take (Int.toNat (s1.length:Int)) s1))≤9223372036854775807)) (some (inr (List.drop (0:Nat) (List.take k.toNat s1)++[UInt8.ofNat (Int.toNat (wrap .u8 y6))]++List.drop (Int.toNat (wrap .i64 (k+1))) (List.take (Int.toNat (s1.length:Int)) s1),y7,y8)))))))))) (some (inl (s1,o01,o11)))) (cndO (decide (v12=2)) (grdO (decide (0≤k)&&decide (k≤(s1.length:Int))) (some (inr (List.drop (0:Nat) (List.take k.toNat s1),o01,o11)))) (cndO (decide (v12=3)) (zAA (F51 (256,o01,o11)) fun(y6,y7,y8)=>grdO (decide (0≤wrap .u8 y6)&&decide (wrap .u8 y6≤255)) (grdO (decide (s1.length+1≤9223372036854775807)) (some (inr (s1++[UInt8.ofNat (Int.toNat (wrap .u8 y6))],y7,y8))))) (some (inl (s1,o01,o11)))))) fun(s1,o01,o11)=>some ((s1,o01,o11))
def tb54:=insT 54 (mkE 54 false [(0,[])] ti217 to119 F54 [.tmp 4] 49 [100000]) tb56
theorem ok54:zTb tb54:=okI ok56 tp54 tv54 func54 rfl call54
abbrev ti120:SPat:=⟨[(0,.ptr 100000 0),(1,.agg (pl zo17))],[.box 100000 (pl plR),.arr 100001 tg27 true,.arr 100002 (.int .i64) true,.arr 100003 tg89 true,.arr 100004 tg53 true]⟩
abbrev to120:SPat:=⟨[(4,.ptr 4 0)],[.box 4 (pl zo17),.box 100000 (pl plR),.arr 100001 tg27 true,.arr 100002 (.int .i64) true,.arr 100003 tg89 true,.arr 100004 tg53 true]⟩
abbrev zMC:SPat:=⟨[(0,.ptr 100000 0),(3,.ptr 3 0),(4,.ptr 4 0)],[.box 3 (pl zo17),.box 4 (pl plD),.box 100000 (pl plR),.arr 100001 tg27 true,.arr 100002 (.int .i64) true,.arr 100003 tg89 true,.arr 100004 tg53 true]⟩
abbrev zMB:SPat:=⟨[(3,.ptr 3 0),(4,.ptr 4 0)],[.box 3 (pl zo17),.box 4 (pl plD),.box 100000 (pl plR),.arr 100001 tg27 true,.arr 100002 (.int .i64) true,.arr 100003 tg89 true,.arr 100004 tg53 true]⟩
def tv120:Nat→Option SPat:=fun k=>bif k==1000003 then some zMC else bif k==2000000 then some zMB else none
def tp120:Nat→List Nat×Plan:=fun id=>bif id==3 then(zn1,(.br 6 [5,4,3,2] [0,1] [7] (.br 8 zn34 [] [] .fin .fin) .fin))else bif id==13 then([0,1,2,3,4,5,7,9],(.br 6 [5] [0,1,2,3,4,7,9] [] (.br 8 [7,6,5] [0,1,2,3,4,9] [] (.br 10 [9,8,7,6,5] [0,1,2,3,4] [11] (.br 12 [11,10,9,8,7,6,5] [0,1,2,3,4] [13] (.br 14 [13,12,11,10,9,8,7,6,5] [0,1,2,3,4] [] (.br 15 zn22 [0] [16,17] (.br 18 zn4 [] [] .fin .fin) .fin) .fin) .fin) .fin) .fin) .fin))else bif id==15 then([0,1,2,3,4,5,7,9,11],(.br 6 [5] [0,1,2,3,4,7,9,11] [] (.br 8 [7,6,5] [0,1,2,3,4,9,11] [] (.br 10 [9,8,7,6,5] [0,1,2,3,4,11] [] (.br 12 [11,10,9,8,7,6,5] [0,1,2,3,4] [13] (.br 14 [13,12,11,10,9,8,7,6,5] [0,1,2,3,4] [] (.br 15 zn22 [0] [16,17] (.br 18 zn4 [] [] .fin .fin) .fin) .fin) .fin) .fin) .fin) .fin))else([],.fin)
def F120:(Int×Int×Int)×(List UInt8×Int)×List Cst×List Int×List Fld×List Mth→Option ((Int×Int×Int)×(List UInt8×Int)×List Cst×List Int×List Fld×List Mth):=fun((v11,v12,v13),(o0,o1),l100001,l100002,l100003,l100004)=>bindE (Y:=(Int×Int×Int)×(Cls)×(List UInt8×Int)×List Cst×List Int×List Fld×List Mth) (cndO (decide ((l100004.length:Int)=0)) (some (inr ((v11,v12,v13),(o0,o1),l100001,l100002,l100003,l100004))) (zAA (F51 (3,o0,o1)) fun(y,y1,y2)=>cndO (decide (0<y)) (some (inr ((v11,v12,v13),(y1,y2),l100001,l100002,l100003,l100004))) (some (inl ((v11,v12,v13),([],(0:Int),(0:Int),(0:Int),[],[],[]),(y1,y2),l100001,l100002,l100003,l100004))))) fun((o11,o2,o3),(o01,o12,o21,o31,o4,o5,o6),(o02,o13),l1000011,l1000021,l1000031,l1000041)=>zAA (F51 ((l1000041.length:Int),o02,o13)) fun(y,y1,y2)=>grdO (decide (0≤y)&&decide (y<(l1000041.length:Int))) (zAA (F51 (7,y1,y2)) fun(y3,y4,y5)=>bindE (Y:=(Int×Int×Int)×(Cls)×(List UInt8×Int)×List Cst×List Int×List Fld×List Mth) (cndO (decide (y3=0)) (atO l1000041 y.toNat fun x=>zAA (F54 (x.2.2.2.2.2.1,y4,y5)) fun(y6,y7,y8)=>atO l1000041 y.toNat fun x1=>some (inl ((o11,o2,o3),(o01,o12,o21,o31,o4,o5,o6),(y7,y8),l1000011,l1000021,l1000031,List.set l1000041 y.toNat (x1.1,x1.2.1,x1.2.2.1,x1.2.2.2.1,x1.2.2.2.2.1,y6,x1.2.2.2.2.2.2.1,x1.2.2.2.2.2.2.2)))) (cndO (decide (y3=1)) (zAA (F105 ([(0:Int),1,8,9,(256:Int)],y4,y5)) fun(y6,y7,y8)=>atO l1000041 y.toNat fun x=>some (inl ((o11,o2,o3),(o01,o12,o21,o31,o4,o5,o6),(y7,y8),l1000011,l1000021,l1000031,List.set l1000041 y.toNat (x.1,x.2.1,x.2.2.1,y6,x.2.2.2.2.1,x.2.2.2.2.2.1,x.2.2.2.2.2.2.1,x.2.2.2.2.2.2.2)))) (cndO (decide (y3=2)) (zAA (F105 ([(0:Int),1,8,9,(256:Int)],y4,y5)) fun(y6,y7,y8)=>atO l1000041 y.toNat fun x=>some (inl ((o11,o2,o3),(o01,o12,o21,o31,o4,o5,o6),(y7,y8),l1000011,l1000021,l1000031,List.set l1000041 y.toNat (x.1,x.2.1,x.2.2.1,x.2.2.2.1,y6,x.2.2.2.2.2.1,x.2.2.2.2.2.2.1,x.2.2.2.2.2.2.2)))) (let q1:=seqU (grdO (Int.toNat y==Int.toNat y&&true) (some ())) (seqU (grdO (Int.toNat y==Int.toNat y&&true) (some ())) (seqU (grdO (Int.toNat y==Int.toNat y&&true) (some ())) (seqU (grdO (Int.toNat y==Int.toNat y&&true) (some ())) (seqU (grdO (decide (Int.toNat y=Int.toNat y)&&decide (Int.toNat y<l1000041.length)) (grdO (decide (Int.toNat y=Int.toNat y)&&decide (Int.toNat y<l1000041.length)) (grdO (decide (Int.toNat y=Int.toNat y)&&decide (Int.toNat y<l1000041.length)) (some ())))) (some ())))));cndO (decide (y3=3)) (atO l1000041 y.toNat fun x=>grdO (decide (Int.toNat y=Int.toNat y)&&decide (Int.toNat y<l1000041.length)) (grdO (decide (Int.toNat y=Int.toNat y)&&decide (Int.toNat y<l1000041.length)) (grdO (decide (Int.toNat y=Int.toNat y)&&decide (Int.toNat y<l1000041.length)) (zAA (F51 (8,y4,y5)) fun(y6,y7,y8)=>seqU q1 (zAA (F51 (5,y7,y8)) fun(y9,y10,y11)=>seqU q1 (zAA (F51 (3,y10,y11)) fun(y12,y13,y14)=>seqU q1 (seqU q1 (seqU q1 (grdO (decide (x.2.2.2.2.2.2.2.length+1≤9223372036854775807)&&decide ((x.2.2.2.2.2.2.2.length+1)*56≤140737488355328)) (seqU (seqU (grdO (Int.toNat y==Int.toNat y&&true) (some ())) (some ())) (grdO (decide (Int.toNat y=Int.toNat y)&&decide (Int.toNat y<l1000041.length)) (grdO (decide (Int.toNat y<l1000041.length)) (some (inl ((o11,o2,o3),(o01,o12,o21,o31,o4,o5,o6),(y13,y14),l1000011,l1000021,l1000031,List.set l1000041 y.toNat (x.1,x.2.1,x.2.2.1,x.2.2.2.1,x.2.2.2.2.1,x.2.2.2.2.2.1,x.2.2.2.2.2.2.1,x.2.2.2.2.2.2.2++[(y6,[(y9,y12)],[])])))))))))))))))) (cndO (decide (y3=4)) (atO l1000041 y.toNat fun x=>grdO (decide (Int.toNat y=Int.toNat y)&&decide (Int.toNat y<l1000041.length)) (grdO (decide (Int.toNat y=Int.toNat y)&&decide (Int.toNat y<l1000041.length)) (grdO (decide (Int.toNat y=Int.toNat y)&&decide (Int.toNat y<l1000041.length)) (zAA (F51 (4,y4,y5)) fun(y6,y7,y8)=>seqU q1 (zAA (F51 (6,y7,y8)) fun(y9,y10,y11)=>seqU q1 (zAA (F51 (6,y10,y11)) fun(y12,y13,y14)=>seqU q1 (zAA (F51 (3,y13,y14)) fun(y15,y16,y17)=>seqU q1 (seqU q1 (grdO (decide (x.2.2.2.2.2.2.1.length+1≤9223372036854775807)&&decide ((x.2.2.2.2.2.2.1.length+1)*32≤140737488355328)) (seqU (seqU (grdO (Int.toNat y==Int.toNat y&&true) (some ())) (some ())) (grdO (decide (Int.toNat y=Int.toNat y)&&decide (Int.toNat y<l1000041.length)) (grdO (decide (Int.toNat y<l1000041.length)) (some (inl ((o11,o2,o3),(o01,o12,o21,o31,o4,o5,o6),(y16,y17),l1000011,l1000021,l1000031,List.set l1000041 y.toNat (x.1,x.2.1,x.2.2.1,x.2.2.2.1,x.2.2.2.2.1,x.2.2.2.2.2.1,x.2.2.2.2.2.2.1++[(y6,y9,y12,y15)],x.2.2.2.2.2.2.2)))))))))))))))) (cndO (decide (y3=5)) (zAA (F51 (16,y4,y5)) fun(y6,y7,y8)=>atO l1000041 y.toNat fun x=>some (inl ((o11,o2,o3),(o01,o12,o21,o31,o4,o5,o6),(y7,y8),l1000011,l1000021,l1000031,List.set l1000041 y.toNat (y6,x.2.1,x.2.2.1,x.2.2.2.1,x.2.2.2.2.1,x.2.2.2.2.2.1,x.2.2.2.2.2.2.1,x.2.2.2.2.2.2.2)))) (zAA (F51 ((l1000011.length:Int),y4,y5)) fun(y6,y7,y8)=>atO l1000041 y.toNat fun x=>some (inl ((o11,o2,o3),(o01,o12,o21,o31,o4,o5,o6),(y7,y8),l1000011,l1000021,l1000031,List.set l1000041 y.toNat (x.1,x.2.1,wrap .i64 ((1:Int)+y6),x.2.2.2.1,x.2.2.2.2.1,x.2.2.2.2.2.1,x.2.2.2.2.2.2.1,x.2.2.2.2.2.2.2)))))))))) fun((o14,o22,o32),(o03,o15,o23,o33,o41,o51,o61),(o04,o16),l1000012,l1000022,l1000032,l1000042)=>some (((o14,o22,o32),(o04,o16),l1000012,l1000022,l1000032,l1000042)))
def tb120:=insT 120 (mkE 120 false [(0,[]),(1,[0]),(1,[4]),(1,[5]),(1,[6])] ti120 to120 F120 [.cell 4 34] 110 [100000,100001,100002,100003,100004]) tb54
theorem ok120:zTb tb120:=okI ok54 tp120 tv120 func120 rfl call120
abbrev zNj:SPat:=⟨[(0,.ptr 100000 0),(2,.ptr 2 0),(3,.ptr 3 0)],[.box 2 (pl plD),.box 3 (pl plD),.box 100000 (pl plR)]⟩
def tv50:Nat→Option SPat:=fun k=>bif k==2000000 then some zNj else none
def tp50:Nat→List Nat×Plan:=fun id=>bif id==7 then(zn12,(.br 11 [10,9,8,7,6,5,4] [0,1,2,3] [] (.br 12 [11,10,9,8,7,6,5,4,3] [0,1,2] [13,14] (.br 15 zn30 [] [] .fin .fin) .fin) .fin))else bif id==9 then([0,1,2,3],(.br 4 [3] [0,1,2] [5,6] (.br 7 zn11 [] [] .fin .fin) .fin))else bif id==11 then([0,1,2,3],(.br 4 [] [0,1,2,3] [] (.br 5 [4,3] [0,1,2] [6,7] (.br 8 zn34 [] [] .fin .fin) .fin) .fin))else bif id==17 then(zn6,(.br 7 [6,5,4,3] [0,1,2] [] (.br 8 [7,6,5,4,3,2] [0,1] [] (.br 9 zn31 [0,1] [] (.br 10 zn0 [] [11] (.br 12 zn8 [] [] .fin .fin) .fin) .fin) .fin) .fin))else bif id==19 then(zn35,(.br 3 [2] [0,1,4,7] [] (.br 5 [] zn35 [] (.br 6 [5,4,3,2] [0,1,7] [] (.br 8 [] zn35 [] (.br 9 zn31 [0,1] [10] (.br 11 zn32 [0,1] [] (.br 12 zn8 [] [13] (.br 14 zn20 [] [] .fin .fin) .fin) .fin) .fin) .fin) (.br 8 [] zn35 [] (.br 6 [5,4,3,2] [0,1,7] [] (.br 9 zn31 [0,1] [10] (.br 11 zn32 [0,1] [] (.br 12 zn8 [] [13] (.br 14 zn20 [] [] .fin .fin) .fin) .fin) .fin) .fin) .fin)) (.br 8 [] zn35 [] (.br 5 [] zn35 [] (.br 6 [5,4,3,2] [0,1,7] [] (.br 9 zn31 [0,1] [10] (.br 11 zn32 [0,1] [] (.br 12 zn8 [] [13] (.br 14 zn20 [] [] .fin .fin) .fin) .fin) .fin) .fin) .fin) .fin)) (.br 5 [] zn35 [] (.br 3 [2] [0,1,4,7] [] (.br 6 [5,4,3,2] [0,1,7] [] (.br 8 [] zn35 [] (.br 9 zn31 [0,1] [10] (.br 11 zn32 [0,1] [] (.br 12 zn8 [] [13] (.br 14 zn20 [] [] .fin .fin) .fin) .fin) .fin) .fin) (.br 8 [] zn35 [] (.br 6 [5,4,3,2] [0,1,7] [] (.br 9 zn31 [0,1] [10] (.br 11 zn32 [0,1] [] (.br 12 zn8 [] [13] (.br 14 zn20 [] [] .fin .fin) .fin) .fin) .fin) .fin) .fin)) (.br 8 [] zn35 [] (.br 3 [2] [0,1,4,7] [] (.br 6 [5,4,3,2] [0,1,7] [] (.br 9 zn31 [0,1] [10] (.br 11 zn32 [0,1] [] (.br 12 zn8 [] [13] (.br 14 zn20 [] [] .fin .fin) .fin) .fin) .fin) .fin) .fin) .fin)) (.br 8 [] zn35 [] (.br 3 [2] [0,1,4,7] [] (.br 5 [] zn35 [] (.br 6 [5,4,3,2] [0,1,7] [] (.br 9 zn31 [0,1] [10] (.br 11 zn32 [0,1] [] (.br 12 zn8 [] [13] (.br 14 zn20 [] [] .fin .fin) .fin) .fin) .fin) .fin) .fin) (.br 5 [] zn35 [] (.br 3 [2] [0,1,4,7] [] (.br 6 [5,4,3,2] [0,1,7] [] (.br 9 zn31 [0,1] [10] (.br 11 zn32 [0,1] [] (.br 12 zn8 [] [13] (.br 14 zn20 [] [] .fin .fin) .fin) .fin) .fin) .fin) .fin) .fin)) .fin))))else bif id==21 then([0,1,2,4,6,9,11],(.br 3 [2] [0,1,4,6,9,11] [] (.br 5 [4,3,2] [0,1,6,9,11] [] (.br 7 [] [0,1,2,4,6,9,11] [] (.br 8 [7,6,5,4,3,2] [0,1,9,11] [] (.br 10 [9,8,7,6,5,4,3,2] [0,1,11] [] (.br 12 [11,10,9,8,7,6,5,4,3,2] [0,1] [13] (.br 14 zn36 [0,1] [] (.br 15 zn30 [] [16] (.br 17 zn21 [] [] .fin .fin) .fin) .fin) .fin) .fin) .fin) .fin) (.br 7 [] [0,1,2,4,6,9,11] [] (.br 5 [4,3,2] [0,1,6,9,11] [] (.br 8 [7,6,5,4,3,2] [0,1,9,11] [] (.br 10 [9,8,7,6,5,4,3,2] [0,1,11] [] (.br 12 [11,10,9,8,7,6,5,4,3,2] [0,1] [13] (.br 14 zn36 [0,1] [] (.br 15 zn30 [] [16] (.br 17 zn21 [] [] .fin .fin) .fin) .fin) .fin) .fin) .fin) .fin) .fin)) (.br 7 [] [0,1,2,4,6,9,11] [] (.br 3 [2] [0,1,4,6,9,11] [] (.br 5 [4,3,2] [0,1,6,9,11] [] (.br 8 [7,6,5,4,3,2] [0,1,9,11] [] (.br 10 [9,8,7,6,5,4,3,2] [0,1,11] [] (.br 12 [11,10,9,8,7,6,5,4,3,2] [0,1] [13] (.br 14 zn36 [0,1] [] (.br 15 zn30 [] [16] (.br 17 zn21 [] [] .fin .fin) .fin) .fin) .fin) .fin) .fin) .fin) .fin) .fin)))else([],.fin)
def F50:List UInt8×Int→Option ((Cls)×List UInt8×Int):=fun(o0,o1)=>zAA (F56 (o0,o1)) fun((y,y1,y2,y3,y4,y5,x),x1,x2)=>cndO (decide ((y.length:Int)=0)) (some (((y,y1,y2,y3,y4,y5,x),x1,x2))) (zAA (F51 ((y.length:Int),x1,x2)) fun(y6,y7,y8)=>zAA (F51 (16,y7,y8)) fun(y9,y10,y11)=>bindE (Y:=(Cls)×(Cls)×List UInt8×Int) (cndO (decide (y9=0)) (seqU (seqU (grdO (decide (y6=y6)) (some ())) (some ())) (zAA (F105 ([(0:Int),(1:Int),(y.length:Int),wrap .i64 ((y.length:Int)+1),(65536:Int),(-1:Int)],y10,y11)) fun(y12,y13,y14)=>seqU (seqU (grdO (decide (y6=y6)) (some ())) (some ())) (grdO (decide (0≤y6)&&decide (y6<(y.length:Int))) (atO y y6.toNat fun x3=>some (inl (([],(0:Int),(0:Int),(0:Int),[],[],[]),(List.set y y6.toNat (x3.1,x3.2.1,y12,x3.2.2.2),y1,y2,y3,y4,y5,x),y13,y14)))))) (cndO (decide (y9=1)) (zAA (F51 (8,y10,y11)) fun(y12,y13,y14)=>seqU (seqU (grdO (decide (y6=y6)) (some ())) (some ())) (grdO (decide (0≤y6)&&decide (y6<(y.length:Int))) (atO y y6.toNat fun x3=>some (inl (([],(0:Int),(0:Int),(0:Int),[],[],[]),(List.set y y6.toNat (y12,x3.2.1,x3.2.2.1,x3.2.2.2),y1,y2,y3,y4,y5,x),y13,y14))))) (cndO (decide (y9=2)) (seqU (seqU (grdO (decide (y6=y6)) (some ())) (some ())) (zAA (F119 ([[],[(65:UInt8)],[(73:UInt8)],[(40:UInt8),41,86],[(49:UInt8)],[(76:UInt8),65,59]],y10,y11)) fun(y12,y13,y14)=>seqU (seqU (grdO (decide (y6=y6)) (some ())) (some ())) (grdO (decide (0≤y6)&&decide (y6<(y.length:Int))) (atO y y6.toNat fun x3=>some (inl (([],(0:Int),(0:Int),(0:Int),[],[],[]),(List.set y y6.toNat (x3.1,y12,x3.2.2.1,x3.2.2.2),y1,y2,y3,y4,y5,x),y13,y14)))))) (cndO (decide (y9=3)) (zAA (F51 (9,y10,y11)) fun(y12,y13,y14)=>some (inl (([],(0:Int),(0:Int),(0:Int),[],[],[]),(y,y12,y2,y3,y4,y5,x),y13,y14))) (cndO (decide (y9=4)) (zAA (F105 ([(0:Int),y2,1,(2:Int)],y10,y11)) fun(y12,y13,y14)=>some (inl (([],(0:Int),(0:Int),(0:Int),[],[],[]),(y,y1,y2,y12,y4,y5,x),y13,y14))) (cndO (decide (y9=5)) (zAA (F105 ([y2,y3,0,(1:Int)],y10,y11)) fun(y12,y13,y14)=>grdO (decide (y4.length+1≤9223372036854775807)&&decide ((y4.length+1)*8≤140737488355328)) (some (inl (([],(0:Int),(0:Int),(0:Int),[],[],[]),(y,y1,y2,y3,y4++[y12],y5,x),y13,y14)))) (cndO (decide (y9=6)) (let q1:=fun(y12:Int) (y13:List UInt8) (y14:Int)=>zAA (F105 ([(1:Int),2,(5:Int)],y13,y14)) fun(y15,y16,y17)=>zAA (F105 ([(1:Int),6,(8:Int)],y16,y17)) fun(y18,y19,y20)=>grdO (decide (y5.length+1≤9223372036854775807)&&decide ((y5.length+1)*24≤140737488355328)) (some (inl (([],(0:Int),(0:Int),(0:Int),[],[],[]),(y,y1,y2,y3,y4,y5++[(y12,y15,y18)],x),y19,y20)));zBV (zAA (F51 (5,y10,y11)) fun(y12,y13,y14)=>zBV (zBV (q1 y12 y13 y14) (q1 y12 y13 y14)) (q1 y12 y13 y14)) (zBV (zBV (zAA (F51 (5,y10,y11)) fun(y12,y13,y14)=>zBV (q1 y12 y13 y14) (q1 y12 y13 y14)) (zAA (F51 (5,y10,y11)) fun(y12,y13,y14)=>q1 y12 y13 y14)) (zBV (zAA (F51 (5,y10,y11)) fun(y12,y13,y14)=>q1 y12 y13 y14) (zAA (F51 (5,y10,y11)) fun(y12,y13,y14)=>q1 y12 y13 y14)))) (cndO (decide (y9=7)) (let q2:=fun(y12:Int) (y13:List UInt8) (y14:Int)=>zAA (F51 (20,y13,y14)) fun(y15,y16,y17)=>zAA (F119 ([[],[(32:UInt8)],[(0:UInt8)]],y16,y17)) fun(y18,y19,y20)=>zAA (F51 (10,y19,y20)) fun(y21,y22,y23)=>zAA (F51 (10,y22,y23)) fun(y24,y25,y26)=>grdO (decide (x.length+1≤9223372036854775807)&&decide ((x.length+1)*104≤140737488355328)) (some (inl (([],(0:Int),(0:Int),(0:Int),[],[],[]),(y,y1,y2,y3,y4,y5,x++[(y12,(1:Int),y15,y21,y24,y18,[],[])]),y25,y26)));zBV (zAA (F51 (17,y10,y11)) fun(y12,y13,y14)=>zBV (q2 y12 y13 y14) (q2 y12 y13 y14)) (zAA (F51 (17,y10,y11)) fun(y12,y13,y14)=>q2 y12 y13 y14)) (some (inl (([],(0:Int),(0:Int),(0:Int),[],[],[]),(y,y1,y2,y3,y4,y5,x),y10,y11))))))))))) fun((o01,o11,o2,o3,o4,o5,o6),(o02,o12,o21,o31,o41,o51,o61),o03,o13)=>zAA (F120 ((o12,o21,o31),(o03,o13),o02,o41,o51,o61)) fun((y12,y13,y14),(y15,y16),y17,x3,x4,x5)=>some (((y17,y12,y13,y14,x3,x4,x5),y15,y16)))
def tb50:=insT 50 (mkE 50 false [(0,[])] ti138 to56 F50 [.cell 2 34] 120 [100000]) tb120
theorem ok50:zTb tb50:=okI ok120 tp50 tv50 func50 rfl call50
abbrev to44:SPat:=⟨[(2,.ptr 2 0)],[.box 2 (pl plD)]⟩
def F44:List UInt8→Option Cls:=fun code =>
 zAA (F49 code) fun(y,y1) =>
 zAA (F50 (y,y1)) fun((y2,y3,y4,y5,y6,y7,x),x1,x2) =>
 some ((y2,y3,y4,y5,y6,y7,x))
def tb44:=insT 44 (mkE 44 true [] ti49 to44 F44 [.cell 2 34] 6 []) tb50
theorem ok44:zTb tb44:=okI ok50 noPl noIv func44 rfl call44
abbrev ts66_4:SPat:=⟨[(1,.ptr 1 0),(32,.sl tg27),(33,.i .i64),(34,.i .i64)],zo11⟩
abbrev zPd:SPat:=⟨[(44,.sl tg53),(45,.i .i64),(46,.i .i64)],[]⟩
abbrev zTj:SPat:=⟨[(44,.sl tg53),(45,.i .i64),(46,.i .i64),(67,.sl zDN),(68,.i .i64),(69,.i .i64)],[]⟩
abbrev zCE:SPat:=⟨[(1,.ptr 1 0)],zo11⟩
abbrev zNZ:SPat:=⟨[(6,.ptr 6 0),(44,.sl tg53),(45,.i .i64),(46,.i .i64)],[.box 6 (pl plM)]⟩
def tv66:Nat→Option SPat:=fun k=>bif k==4 then some ts66_4 else bif k==10 then some zPd else bif k==15 then some zTj else bif k==1000003 then some zCE else bif k==1000014 then some zNZ else bif k==2000000 then some zCE else bif k==2000002 then some zCj else bif k==2000003 then some zPd else bif k==2000004 then some zPd else bif k==2000005 then some zTj else none
def F66:Cls→Option Bool:=fun(app0,app1,app2,app3,app4,app5,app6) =>
 bindE (Y:=Cls) (cndO (decide (60<(app0.length:Int)))
 (some (inr false))
 (cndO (decide (3<(app4.length:Int)))
 (some (inr false))
 (cndO (decide (5<(app5.length:Int)))
 (some (inr false))
 (cndO (decide (6<(app6.length:Int)))
 (some (inr false))
 (some (inl (app0,app1,app2,app3,app4,app5,app6))))))) fun(o0,o1,o2,o3,o4,o5,o6) =>
 bindE (Y:=Cls) (zAG (fun(v32,v33,v34,o01,o11,o21,o31,o41,o51,o61) =>
 cndO (decide (v34<v33))
 (grdO (decide (0≤v34)) (atO v32 v34.toNat fun x=>cndO (decide (255<(x.2.1.length:Int)))
 (some (inr (inr false)))
 (some (inl (v32,v33,wrap .i64 (v34+1),o01,o11,o21,o31,o41,o51,o61)))))
 (some (inr (inl (o01,o11,o21,o31,o41,o51,o61))))) ((o0,(o0.length:Int),(0:Int),o0,o1,o2,o3,o4,o5,o6))) fun(o01,o11,o21,o31,o41,o51,o61) =>
 bindE (zAG (fun(v44,v45,v46) =>
 cndO (decide (v46<v45))
 (bindE (Y:=List Mth×Int×Int) (grdO (decide (0≤v46)) (atO v44 v46.toNat fun x=>bindE (Y:=List Mth×Int×Int×Mth) (cndO (decide (120<(x.2.2.2.2.2.1.length:Int)))
 (some (inr (inr (inr (inr false)))))
 (cndO (decide (3<(x.2.2.2.2.2.2.1.length:Int)))
 (some (inr (inr (inr (inr false)))))
 (cndO (decide (8<(x.2.2.2.2.2.2.2.length:Int)))
 (some (inr (inr (inr (inr false)))))
 (some (inl (v44,v45,v46,x.1,x.2.1,x.2.2.1,x.2.2.2.1,x.2.2.2.2.1,x.2.2.2.2.2.1,x.2.2.2.2.2.2.1,x.2.2.2.2.2.2.2)))))) fun(v441,v451,v461,o02,o12,o22,o32,o42,o52,o62,o7) =>
 bindE (Y:=List Mth×Int×Int) (zAG (fun(v442,v452,v462,v67,v68,v69) =>
 cndO (decide (v69<v68))
 (bindE (Y:=List Mth×Int×Int×List Frm×Int×Int) (grdO (decide (0≤v69)) (atO v67 v69.toNat fun x1=>cndO (decide (8<(x1.2.1.length:Int)))
 (some (inr (inr (inr (inr (inr (inr false)))))))
 (cndO (decide (8<(x1.2.2.length:Int)))
 (some (inr (inr (inr (inr (inr (inr false)))))))
 (some (inl (v442,v452,v462,v67,v68,v69)))))) fun(v443,v453,v463,v671,v681,v691) =>
 some (inl (v443,v453,v463,v671,v681,wrap .i64 (v691+1))))
 (some (inr (inl (v442,v452,v462))))) ((v441,v451,v461,o7,(o7.length:Int),(0:Int)))) fun(v442,v452,v462) =>
 some (inl (v442,v452,v462)))) fun(v441,v451,v461) =>
 some (inl (v441,v451,wrap .i64 (v461+1))))
 (some (inr (inl ())))) ((o61,(o61.length:Int),(0:Int)))) fun _ =>
 some (true)
def tb66:=insT 66 (mkE 66 true [] ti69 zDu F66 [.tmp 2] 85 []) tb44
theorem ok66:zTb tb66:=okI ok44 noPl tv66 func66 rfl call66
def F144:Int→Option (List UInt8):=fun n =>
 grdO (decide (0≤wrap .u8 n)&&decide (wrap .u8 n≤255)) (some ([UInt8.ofNat (Int.toNat (wrap .u8 n))]))
def tb144:=insT 144 (mkE 144 true [] zFv zEU F144 [.tmp 2] 7 []) tb66
theorem ok144:zTb tb144:=okI ok66 noPl noIv func144 rfl call144
def F145:Int→Option (List UInt8):=fun n =>
 zAA (F144 (Int.fdiv n 256)) fun y =>
 zAA (F144 n) fun y1 =>
 grdO (decide (y.length+y1.length≤9223372036854775807)) (some (y++y1))
def tb145:=insT 145 (mkE 145 true [] zFv zEU F145 [.tmp 2] 9 []) tb144
theorem ok145:zTb tb145:=okI ok144 noPl noIv func145 rfl call145
def F86:Int→Option Bool:=fun flags =>
 some (!decide (andI IntKind.i64 flags (8:Int)=0))
def tb86:=insT 86 (mkE 86 true [] zFv zDu F86 [.tmp 2] 6 []) tb145
theorem ok86:zTb tb86:=okI ok145 noPl noIv func86 rfl call86
abbrev zUC:SPat:=⟨[(3,.s),(9,.sl zBg),(10,.i .i64),(11,.i .i64)],[]⟩
def tv146:Nat→Option SPat:=fun k=>bif k==3 then some zUC else bif k==2000000 then some zBk else bif k==2000001 then some zUC else none
def F146:List Knd→Option (List UInt8):=fun list =>
 zAA (F144 (list.length:Int)) fun y =>
 bindE (Y:=List UInt8) (zAG (fun(out,v9,v10,v11) =>
 cndO (decide (v11<v10))
 (bindE (Y:=List UInt8×List Knd×Int×Int) (grdO (decide (0≤v11)) (atO v9 v11.toNat fun x=>zAA (F144 x.1) fun y1 =>
 grdO (decide (out.length+y1.length≤9223372036854775807)) (cndO (decide (x.1=3))
 (zAA (F145 x.2) fun y2 =>
 grdO (decide (List.length (out++y1)+y2.length≤9223372036854775807)) (some (inl (out++y1++y2,v9,v10,v11))))
 (some (inl (out++y1,v9,v10,v11)))))) fun(out1,v91,v101,v111) =>
 some (inl (out1,v91,v101,wrap .i64 (v111+1))))
 (some (inr (inl out)))) ((y,list,(list.length:Int),(0:Int)))) fun out =>
 some (out)
def tb146:=insT 146 (mkE 146 true [] ti216 zEU F146 [.tmp 2] 30 []) tb86
theorem ok146:zTb tb146:=okI ok86 noPl tv146 func146 rfl call146
abbrev ts67_3:SPat:=⟨[(1,.ptr 1 0),(3,.s),(22,.sl tg27),(23,.i .i64),(24,.i .i64)],zo11⟩
abbrev ts67_15:SPat:=⟨[(1,.ptr 1 0),(3,.s),(82,.sl (.int .i64)),(83,.i .i64),(84,.i .i64)],zo11⟩
abbrev ts67_21:SPat:=⟨[(1,.ptr 1 0),(3,.s),(100,.sl tg89),(101,.i .i64),(102,.i .i64)],zo11⟩
abbrev zPc:SPat:=⟨[(3,.s),(127,.sl tg53),(128,.i .i64),(129,.i .i64)],[]⟩
abbrev ts67_33:SPat:=⟨[(3,.s),(11,.ptr 11 0),(127,.sl tg53),(128,.i .i64),(129,.i .i64),(172,.sl zJv),(173,.i .i64),(174,.i .i64)],[.box 11 (pl plM)]⟩
abbrev ts67_39:SPat:=⟨[(3,.s),(127,.sl tg53),(128,.i .i64),(129,.i .i64),(203,.sl zDN),(204,.i .i64),(205,.i .i64)],[]⟩
abbrev zNY:SPat:=⟨[(3,.s),(11,.ptr 11 0),(127,.sl tg53),(128,.i .i64),(129,.i .i64)],[.box 11 (pl plM)]⟩
def tv67:Nat→Option SPat:=fun k=>bif k==3 then some ts67_3 else bif k==15 then some ts67_15 else bif k==21 then some ts67_21 else bif k==27 then some zPc else bif k==33 then some ts67_33 else bif k==39 then some ts67_39 else bif k==2000000 then some zBI else bif k==2000002 then some ts67_3 else bif k==2000003 then some zBI else bif k==2000005 then some zBI else bif k==2000007 then some zBk else bif k==2000008 then some zPc else bif k==2000009 then some zNY else bif k==2000011 then some zPc else none
def tp67:Nat→List Nat×Plan:=fun id=>bif id==9 then([0,1,2,3,5,6],(.br 4 [3,2,1] [0,5,6] [7,8] (.br 9 zn18 [] [] .fin .fin) .fin))else bif id==7 then([0,1,2,4,5],(.br 3 [2,1] [0,4,5] [] (.br 6 [5,4,3,2,1] [0] [7,8] (.br 9 zn18 [] [] .fin .fin) .fin) .fin))else bif id==13 then([0,1,2,4,5,8,9,12,13,14],(.br 3 [2,1] [0,4,5,8,9,12,13,14] [] (.br 6 [5,4,3,2,1] [0,8,9,12,13,14] [7] (.br 10 zn37 [0,12,13,14,7] [11] (.br 15 [14,13,12,10,9,8,6,5,4,3,2,1] [0,7,11] [16,17] (.br 18 zn4 [] [] .fin .fin) .fin) .fin) .fin) .fin))else bif id==23 then([0,1,2,4,5,8,9],(.br 3 [2,1] [0,4,5,8,9] [] (.br 6 [5,4,3,2,1] [0,8,9] [7] (.br 10 zn37 [0,7] [11,12] (.br 13 zn10 [] [] .fin .fin) .fin) .fin) .fin))else bif id==29 then([0,1,2,4,5,8,9],(.br 3 [2,1] [0,4,5,8,9] [] (.br 6 [5,4,3,2,1] [0,8,9] [7] (.br 10 zn37 [0,7] [11,12] (.br 13 zn10 [] [] .fin .fin) .fin) .fin) .fin))else bif id==31 then([0,1,2,4,5,8,9,10,13,14,16,17,18],(.br 3 [2,1] [0,4,5,8,9,10,13,14,16,17,18] [] (.br 6 [5,4,3,2,1] [0,8,9,10,13,14,16,17,18] [7] (.br 11 [10,9,8,6,5,4,3,2,1] [0,13,14,16,17,18,7] [12,15] (.br 19 [18,17,16,11,10,9,8,6,5,4,3,2,1] [0,13,14,7,12,15] [20,21] (.br 22 zn26 [] [] .fin .fin) .fin) .fin) .fin) .fin))else bif id==35 then([0,1,2,4,5,8,9,12,13],(.br 3 [2,1] [0,4,5,8,9,12,13] [] (.br 6 [5,4,3,2,1] [0,8,9,12,13] [7] (.br 10 zn37 [0,12,13,7] [11] (.br 14 [13,12,10,9,8,6,5,4,3,2,1] [0,7,11] [15,16] (.br 17 zn21 [] [] .fin .fin) .fin) .fin) .fin) .fin))else bif id==41 then([0,1,2,4,5,8,9],(.br 3 [2,1] [0,4,5,8,9] [] (.br 6 [5,4,3,2,1] [0,8,9] [7] (.br 10 zn37 [0,7] [11,12] (.br 13 zn10 [] [] .fin .fin) .fin) .fin) .fin))else([],.fin)
def F67:Cls→Option (List UInt8):=fun(app0,app1,app2,app3,app4,app5,app6)=>zAA (F144 (app0.length:Int)) fun y=>grdO (decide ((4:Nat)+y.length≤9223372036854775807)) (bindE (Y:=List UInt8×Cls) (zAG (fun(v3,v22,v23,v24,o0,o1,o2,o3,o4,o5,o6)=>cndO (decide (v24<v23)) (grdO (decide (0≤v24)) (atO v22 v24.toNat fun x=>zAA (F144 x.1) fun y1=>grdO (decide (v3.length+y1.length≤9223372036854775807)) (bindE (Y:=List UInt8×List Cst×Int×Int×Cls) (cndO (decide (x.1=1)) (zAA (F144 (x.2.1.length:Int)) fun y2=>seqU (seqU (grdO (decide (v3++y1=v3++y1)) (some ())) (seqU (grdO (decide (x.2.1=x.2.1)) (some ())) (some ()))) (grdO (decide (y2.length+x.2.1.length≤9223372036854775807)) (grdO (decide (List.length (v3++y1)+List.length (y2++x.2.1)≤9223372036854775807)) (some (inl (v3++y1++(y2++x.2.1),v22,v23,v24,o0,o1,o2,o3,o4,o5,o6)))))) (cndO (decide (x.1=2)) (zAA (F145 x.2.2.1) fun y2=>grdO (decide (List.length (v3++y1)+y2.length≤9223372036854775807)) (some (inl (v3++y1++y2,v22,v23,v24,o0,o1,o2,o3,o4,o5,o6)))) (zAA (F145 x.2.2.1) fun y2=>seqU (seqU (grdO (decide (v3++y1=v3++y1)) (some ())) (seqU (grdO (decide (x.2.2.2=x.2.2.2)) (some ())) (some ()))) (zAA (F145 x.2.2.2) fun y3=>seqU (seqU (grdO (decide (v3++y1=v3++y1)) (some ())) (some ())) (grdO (decide (y2.length+y3.length≤9223372036854775807)) (grdO (decide (List.length (v3++y1)+List.length (y2++y3)≤9223372036854775807)) (some (inl (v3++y1++(y2++y3),v22,v23,v24,o0,o1,o2,o3,o4,o5,o6))))))))) fun(v31,v221,v231,v241,o01,o11,o21,o31,o41,o51,o61)=>some (inl (v31,v221,v231,wrap .i64 (v241+1),o01,o11,o21,o31,o41,o51,o61))))) (some (inr (inl (v3,o0,o1,o2,o3,o4,o5,o6))))) (([(83:UInt8),84,79,87]++y,app0,(app0.length:Int),(0:Int),app0,app1,app2,app3,app4,app5,app6))) fun(v3,o0,o1,o2,o3,o4,o5,o6)=>zAA (F144 o1) fun y1=>seqU (seqU (grdO (decide (v3=v3)) (some ())) (seqU (grdO (decide (o2=o2)) (some ())) (seqU (grdO (decide (o3=o3)) (some ())) (seqU (grdO (decide (o4=o4)) (some ())) (seqU (grdO (decide ((o4.length:Int)=(o4.length:Int))) (some ())) (some ())))))) (zAA (F145 o2) fun y2=>seqU (seqU (grdO (decide (v3=v3)) (some ())) (seqU (grdO (decide (o3=o3)) (some ())) (seqU (grdO (decide (o4=o4)) (some ())) (seqU (grdO (decide ((o4.length:Int)=(o4.length:Int))) (some ())) (some ()))))) (grdO (decide (y1.length+y2.length≤9223372036854775807)) (zAA (F145 o3) fun y3=>seqU (seqU (grdO (decide (v3=v3)) (some ())) (seqU (grdO (decide (o4=o4)) (some ())) (seqU (grdO (decide ((o4.length:Int)=(o4.length:Int))) (some ())) (seqU (grdO (decide (y1.length+y2.length≤9223372036854775807)) (grdO (decide (y1++y2=y1++y2)) (some ()))) (some ()))))) (grdO (decide (List.length (y1++y2)+y3.length≤9223372036854775807)) (zAA (F144 (o4.length:Int)) fun y4=>seqU (seqU (grdO (decide (v3=v3)) (some ())) (seqU (grdO (decide (y1.length+y2.length≤9223372036854775807)) (grdO (decide (y1++y2=y1++y2)) (some ()))) (seqU (grdO (decide (List.length (y1++y2)+y3.length≤9223372036854775807)) (grdO (decide (y1++y2++y3=y1++y2++y3)) (some ()))) (some ())))) (grdO (decide (List.length (y1++y2++y3)+y4.length≤9223372036854775807)) (grdO (decide (v3.length+List.length (y1++y2++y3++y4)≤9223372036854775807)) (bindE (Y:=List UInt8×Cls) (zAG (fun(v31,v82,v83,v84,o01,o11,o21,o31,o41,o51,o61)=>cndO (decide (v84<v83)) (grdO (decide (0≤v84)) (atO v82 v84.toNat fun x=>zAA (F145 x) fun y5=>grdO (decide (v31.length+y5.length≤9223372036854775807)) (some (inl (v31++y5,v82,v83,wrap .i64 (v84+1),o01,o11,o21,o31,o41,o51,o61))))) (some (inr (inl (v31,o01,o11,o21,o31,o41,o51,o61))))) ((v3++(y1++y2++y3++y4),o4,(o4.length:Int),(0:Int),o0,o1,o2,o3,o4,o5,o6))) fun(v31,o01,o11,o21,o31,o41,o51,o61)=>zAA (F144 (o51.length:Int)) fun y5=>grdO (decide (v31.length+y5.length≤9223372036854775807)) (bindE (Y:=List UInt8×Cls) (zAG (fun(v32,v100,v101,v102,o02,o12,o22,o32,o42,o52,o62)=>cndO (decide (v102<v101)) (grdO (decide (0≤v102)) (atO v100 v102.toNat fun x=>zAA (F144 x.1) fun y6=>seqU (seqU (grdO (decide (v32=v32)) (some ())) (seqU (grdO (decide (x.2.1=x.2.1)) (some ())) (seqU (grdO (decide (x.2.2=x.2.2)) (some ())) (some ())))) (zAA (F145 x.2.1) fun y7=>seqU (seqU (grdO (decide (v32=v32)) (some ())) (seqU (grdO (decide (x.2.2=x.2.2)) (some ())) (some ()))) (grdO (decide (y6.length+y7.length≤9223372036854775807)) (zAA (F145 x.2.2) fun y8=>seqU (seqU (grdO (decide (v32=v32)) (some ())) (seqU (grdO (decide (y6.length+y7.length≤9223372036854775807)) (grdO (decide (y6++y7=y6++y7)) (some ()))) (some ()))) (grdO (decide (List.length (y6++y7)+y8.length≤9223372036854775807)) (grdO (decide (v32.length+List.length (y6++y7++y8)≤9223372036854775807)) (some (inl (v32++(y6++y7++y8),v100,v101,wrap .i64 (v102+1),o02,o12,o22,o32,o42,o52,o62)))))))))) (some (inr (inl (v32,o02,o12,o22,o32,o42,o52,o62))))) ((v31++y5,o51,(o51.length:Int),(0:Int),o01,o11,o21,o31,o41,o51,o61))) fun(v32,o02,o12,o22,o32,o42,o52,o62)=>zAA (F144 (o62.length:Int)) fun y6=>grdO (decide (v32.length+y6.length≤9223372036854775807)) (bindE (Y:=List UInt8) (zAG (fun(v33,v127,v128,v129)=>cndO (decide (v129<v128)) (bindE (Y:=List UInt8×List Mth×Int×Int) (grdO (decide (0≤v129)) (atO v127 v129.toNat fun x=>zAA (F144 x.1) fun y7=>seqU (seqU (grdO (decide (v33=v33)) (some ())) (seqU (grdO (decide (x.2.1=x.2.1)) (some ())) (seqU (grdO (decide (x.2.2.1=x.2.2.1)) (some ())) (some ())))) (zAA (F145 x.2.1) fun y8=>seqU (seqU (grdO (decide (v33=v33)) (some ())) (seqU (grdO (decide (x.2.2.1=x.2.2.1)) (some ())) (some ()))) (grdO (decide (y7.length+y8.length≤9223372036854775807)) (zAA (F145 x.2.2.1) fun y9=>seqU (seqU (grdO (decide (v33=v33)) (some ())) (seqU (grdO (decide (y7.length+y8.length≤9223372036854775807)) (grdO (decide (y7++y8=y7++y8)) (some ()))) (some ()))) (grdO (decide (List.length (y7++y8)+y9.length≤9223372036854775807)) (grdO (decide (v33.length+List.length (y7++y8++y9)≤9223372036854775807)) (zAA (F86 x.1) fun y10=>cndO y10 (some (inl (v33++(y7++y8++y9),v127,v128,v129))) (zAA (F144 x.2.2.2.1) fun y11=>let q2:=grdO (decide ((x.2.2.2.2.2.2.1.length:Int)=(x.2.2.2.2.2.2.1.length:Int))) (some ());let q1:=seqU (grdO (decide (x.2.2.2.2.2.1=x.2.2.2.2.2.1)) (some ())) (seqU (grdO (decide ((x.2.2.2.2.2.1.length:Int)=(x.2.2.2.2.2.1.length:Int))) (some ())) (seqU (grdO (decide (x.2.2.2.2.2.1=x.2.2.2.2.2.1)) (some ())) (seqU (grdO (decide (x.2.2.2.2.2.2.1=x.2.2.2.2.2.2.1)) (some ())) (seqU q2 (some ())))));seqU (seqU (grdO (decide (v33++(y7++y8++y9)=v33++(y7++y8++y9))) (some ())) (seqU (grdO (decide (x.2.2.2.2.1=x.2.2.2.2.1)) (some ())) q1)) (zAA (F144 x.2.2.2.2.1) fun y12=>seqU (seqU (grdO (decide (v33++(y7++y8++y9)=v33++(y7++y8++y9))) (some ())) q1) (grdO (decide (y11.length+y12.length≤9223372036854775807)) (zAA (F145 (x.2.2.2.2.2.1.length:Int)) fun y13=>seqU (seqU (grdO (decide (v33++(y7++y8++y9)=v33++(y7++y8++y9))) (some ())) (seqU (grdO (decide (x.2.2.2.2.2.1=x.2.2.2.2.2.1)) (some ())) (seqU (grdO (decide (x.2.2.2.2.2.2.1=x.2.2.2.2.2.2.1)) (some ())) (seqU q2 (seqU (grdO (decide (y11.length+y12.length≤9223372036854775807)) (grdO (decide (y11++y12=y11++y12)) (some ()))) (some ())))))) (grdO (decide (List.length (y11++y12)+y13.length≤9223372036854775807)) (grdO (decide (List.length (y11++y12++y13)+x.2.2.2.2.2.1.length≤9223372036854775807)) (zAA (F144 (x.2.2.2.2.2.2.1.length:Int)) fun y14=>seqU (seqU (grdO (decide (v33++(y7++y8++y9)=v33++(y7++y8++y9))) (some ())) (seqU (grdO (decide (x.2.2.2.2.2.1=x.2.2.2.2.2.1)) (some ())) (seqU (grdO (decide (y11.length+y12.length≤9223372036854775807)) (grdO (decide (y11++y12=y11++y12)) (some ()))) (seqU (grdO (decide (List.length (y11++y12)+y13.length≤9223372036854775807)) (grdO (decide (y11++y12++y13=y11++y12++y13)) (some ()))) (seqU (grdO (decide (List.length (y11++y12++y13)+x.2.2.2.2.2.1.length≤9223372036854775807)) (grdO (decide (y11++y12++y13++x.2.2.2.2.2.1=y11++y12++y13++x.2.2.2.2.2.1)) (some ()))) (some ())))))) (grdO (decide (List.length (y11++y12++y13++x.2.2.2.2.2.1)+y14.length≤9223372036854775807)) (grdO (decide (List.length (v33++(y7++y8++y9))+List.length (y11++y12++y13++x.2.2.2.2.2.1++y14)≤9223372036854775807)) (bindE (Y:=List UInt8×List Mth×Int×Int×Mth) (zAG (fun(v34,v1271,v1281,v1291,v172,v173,v174,o03,o13,o23,o33,o43,o53,o63,o7)=>cndO (decide (v174<v173)) (grdO (decide (0≤v174)) (atO v172 v174.toNat fun x1=>zAA (F145 x1.1) fun y15=>let q3:=seqU (grdO (decide (x1.2.2.1=x1.2.2.1)) (some ())) (seqU (grdO (decide (x1.2.2.2=x1.2.2.2)) (some ())) (some ()));seqU (seqU (grdO (decide (v34=v34)) (some ())) (seqU (grdO (decide (x1.2.1=x1.2.1)) (some ())) q3)) (zAA (F145 x1.2.1) fun y16=>seqU (seqU (grdO (decide (v34=v34)) (some ())) q3) (grdO (decide (y15.length+y16.length≤9223372036854775807)) (zAA (F145 x1.2.2.1) fun y17=>seqU (seqU (grdO (decide (v34=v34)) (some ())) (seqU (grdO (decide (x1.2.2.2=x1.2.2.2)) (some ())) (seqU (grdO (decide (y15.length+y16.length≤9223372036854775807)) (grdO (decide (y15++y16=y15++y16)) (some ()))) (some ())))) (grdO (decide (List.length (y15++y16)+y17.length≤9223372036854775807)) (zAA (F145 x1.2.2.2) fun y18=>seqU (seqU (grdO (decide (v34=v34)) (some ())) (seqU (grdO (decide (y15.length+y16.length≤9223372036854775807)) (grdO (decide (y15++y16=y15++y16)) (some ()))) (seqU (grdO (decide (List.length (y15++y16)+y17.length≤9223372036854775807)) (grdO (decide (y15++y16++y17=y15++y16++y17)) (some ()))) (some ())))) (grdO (decide (List.length (y15++y16++y17)+y18.length≤9223372036854775807)) (grdO (decide (v34.length+List.length (y15++y16++y17++y18)≤9223372036854775807)) (some (inl (v34++(y15++y16++y17++y18),v1271,v1281,v1291,v172,v173,wrap .i64 (v174+1),o03,o13,o23,o33,o43,o53,o63,o7)))))))))))) (some (inr (inl (v34,v1271,v1281,v1291,o03,o13,o23,o33,o43,o53,o63,o7))))) ((v33++(y7++y8++y9)++(y11++y12++y13++x.2.2.2.2.2.1++y14),v127,v128,v129,x.2.2.2.2.2.2.1,(x.2.2.2.2.2.2.1.length:Int),(0:Int),x.1,x.2.1,x.2.2.1,x.2.2.2.1,x.2.2.2.2.1,x.2.2.2.2.2.1,x.2.2.2.2.2.2.1,x.2.2.2.2.2.2.2))) fun(v34,v1271,v1281,v1291,o03,o13,o23,o33,o43,o53,o63,o7)=>zAA (F144 (o7.length:Int)) fun y15=>grdO (decide (v34.length+y15.length≤9223372036854775807)) (bindE (Y:=List UInt8×List Mth×Int×Int) (zAG (fun(v35,v1272,v1282,v1292,v203,v204,v205)=>cndO (decide (v205<v204)) (grdO (decide (0≤v205)) (atO v203 v205.toNat fun x1=>zAA (F145 x1.1) fun y16=>seqU (seqU (grdO (decide (v35=v35)) (some ())) (seqU (grdO (decide (x1.2.1=x1.2.1)) (some ())) (seqU (grdO (decide (x1.2.2=x1.2.2)) (some ())) (some ())))) (zAA (F146 x1.2.1) fun y17=>seqU (seqU (grdO (decide (v35=v35)) (some ())) (seqU (grdO (decide (x1.2.2=x1.2.2)) (some ())) (some ()))) (grdO (decide (y16.length+y17.length≤9223372036854775807)) (zAA (F146 x1.2.2) fun y18=>seqU (seqU (grdO (decide (v35=v35)) (some ())) (seqU (grdO (decide (y16.length+y17.length≤9223372036854775807)) (grdO (decide (y16++y17=y16++y17)) (some ()))) (some ()))) (grdO (decide (List.length (y16++y17)+y18.length≤9223372036854775807)) (grdO (decide (v35.length+List.length (y16++y17++y18)≤9223372036854775807)) (some (inl (v35++(y16++y17++y18),v1272,v1282,v1292,v203,v204,wrap .i64 (v205+1))))))))))) (some (inr (inl (v35,v1272,v1282,v1292))))) ((v34++y15,v1271,v1281,v1291,o7,(o7.length:Int),(0:Int)))) fun(v35,v1272,v1282,v1292)=>some (inl (v35,v1272,v1282,v1292))))))))))))))))))))) fun(v34,v1271,v1281,v1291)=>some (inl (v34,v1271,v1281,wrap .i64 (v1291+1)))) (some (inr (inl v33)))) ((v32++y6,o62,(o62.length:Int),(0:Int)))) fun v33=>some v33)))))))))))
def tb67:=insT 67 (mkE 67 true [] ti69 zEU F67 [.tmp 2] 225 []) tb146
theorem ok67:zTb tb67:=okI ok146 tp67 tv67 func67 rfl call67
abbrev ti57:SPat:=⟨[(0,.ptr 100000 0),(1,.i .i64)],[.box 100000 (pl zo18)]⟩
abbrev to57:SPat:=⟨[(4,.s)],[.box 100000 (pl zo18)]⟩
abbrev zNe:SPat:=⟨[(0,.ptr 100000 0),(1,.i .i64),(18,.b)],[.box 100000 (pl zo18)]⟩
def tv57:Nat→Option SPat:=fun k=>bif k==1000002 then some zNe else none
def F57:Int×List UInt8×Bool→Option (List UInt8×List UInt8×Bool):=fun(n,o0,o1) =>
 bindE (Y:=Int×Bool×List UInt8×Bool) (cndO (o1)
 (some (inl (n,true,o0,o1)))
 (some (inl (n,decide ((o0.length:Int)<n),o0,o1)))) fun(n1,v18,o01,o11) =>
 cndO (v18)
 (some (([],o01,true)))
 (grdO (decide (0≤n1)&&decide (n1≤(o01.length:Int))) (grdO (decide (0≤n1)&&decide (n1≤(o01.length:Int))&&decide ((o01.length:Int)≤(o01.length:Int))) (some ((List.drop (0:Nat) (List.take n1.toNat o01),List.drop n1.toNat (List.take (Int.toNat (o01.length:Int)) o01),o11)))))
def tb57:=insT 57 (mkE 57 false [(0,[])] ti57 to57 F57 [.tmp 4] 38 [100000]) tb67
theorem ok57:zTb tb57:=okI ok67 noPl tv57 func57 rfl call57
abbrev ti59:SPat:=⟨[(0,.ptr 100000 0)],[.box 100000 (pl zo18)]⟩
abbrev to59:SPat:=⟨[(2,.i .i64)],[.box 100000 (pl zo18)]⟩
def F59:List UInt8×Bool→Option (Int×List UInt8×Bool):=fun(o0,o1) =>
 zAA (F57 (1,o0,o1)) fun(y,y1,y2) =>
 cndO (y2)
 (some (((0:Int),y1,y2)))
 (atO y ((0:Nat)) fun x=>some ((wrap .i64 (x.toNat:Int),y1,y2)))
def tb59:=insT 59 (mkE 59 false [(0,[])] ti59 to59 F59 [.tmp 2] 13 [100000]) tb57
theorem ok59:zTb tb59:=okI ok57 noPl noIv func59 rfl call59
abbrev ti58:SPat:=⟨[(0,.ptr 100000 0),(1,.i .i64),(2,.i .i64)],[.box 100000 (pl zo18)]⟩
abbrev to58:SPat:=⟨[(6,.i .i64)],[.box 100000 (pl zo18)]⟩
def F58:Int×Int×List UInt8×Bool→Option (Int×List UInt8×Bool):=fun(n,most,o0,o1) =>
 cndO (decide (most<n))
 (some (((0:Int),o0,true)))
 (some ((n,o0,o1)))
def tb58:=insT 58 (mkE 58 false [(0,[])] ti58 to58 F58 [.tmp 6] 14 [100000]) tb59
theorem ok58:zTb tb58:=okI ok59 noPl noIv func58 rfl call58
def F61:List UInt8×Bool→Option (Int×List UInt8×Bool):=fun(o0,o1) =>
 zAA (F59 (o0,o1)) fun(y,y1,y2) =>
 zAA (F59 (y1,y2)) fun(y3,y4,y5) =>
 some ((wrap .i64 (wrap .i64 ((256:Int)*y)+y3),y4,y5))
def tb61:=insT 61 (mkE 61 false [(0,[])] ti59 to59 F61 [.tmp 2] 11 [100000]) tb58
theorem ok61:zTb tb61:=okI ok58 noPl noIv func61 rfl call61
abbrev to60:SPat:=⟨[(2,.ptr 2 0)],[.box 2 (pl zo4),.box 100000 (pl zo18)]⟩
abbrev zNd:SPat:=⟨[(0,.ptr 100000 0),(2,.ptr 2 0),(3,.ptr 3 0),(24,.b)],[.box 2 (pl zo4),.box 3 (pl zo4),.box 100000 (pl zo18)]⟩
abbrev zNc:SPat:=⟨[(2,.ptr 2 0),(3,.ptr 3 0)],[.box 2 (pl zo4),.box 3 (pl zo4),.box 100000 (pl zo18)]⟩
def tv60:Nat→Option SPat:=fun k=>bif k==1000012 then some zNd else bif k==2000000 then some zNc else none
def F60:List UInt8×Bool→Option ((Cst)×List UInt8×Bool):=fun(o0,o1) =>
 zAA (F59 (o0,o1)) fun(y,y1,y2) =>
 bindE (Y:=(Cst)×(Cst)×List UInt8×Bool) (cndO (decide (y=1))
 (zAA (F59 (y1,y2)) fun(y3,y4,y5) =>
 zAA (F57 (y3,y4,y5)) fun(y6,y7,y8) =>
 some (inl (((0:Int),[],(0:Int),(0:Int)),(y,y6,(0:Int),(0:Int)),y7,y8)))
 (cndO (decide (y=2))
 (zAA (F61 (y1,y2)) fun(y3,y4,y5) =>
 some (inl (((0:Int),[],(0:Int),(0:Int)),(y,[],y3,(0:Int)),y4,y5)))
 (bindE (Y:=Bool×(Cst)×(Cst)×List UInt8×Bool) (cndO (decide (y=3))
 (some (inl (true,((0:Int),[],(0:Int),(0:Int)),(y,[],(0:Int),(0:Int)),y1,y2)))
 (cndO (decide (y=4))
 (some (inl (true,((0:Int),[],(0:Int),(0:Int)),(y,[],(0:Int),(0:Int)),y1,y2)))
 (cndO (decide (y=5))
 (some (inl (true,((0:Int),[],(0:Int),(0:Int)),(y,[],(0:Int),(0:Int)),y1,y2)))
 (some (inl (decide (y=6),((0:Int),[],(0:Int),(0:Int)),(y,[],(0:Int),(0:Int)),y1,y2)))))) fun(v24,(o01,o11,o2,o3),(o02,o12,o21,o31),o03,o13) =>
 cndO (v24)
 (zAA (F61 (o03,o13)) fun(y3,y4,y5) =>
 zAA (F61 (y4,y5)) fun(y6,y7,y8) =>
 some (inl ((o01,o11,o2,o3),(o02,o12,y3,y6),y7,y8)))
 (some (inl ((o01,o11,o2,o3),(o02,o12,o21,o31),o03,true)))))) fun((o01,o11,o2,o3),(o02,o12,o21,o31),o03,o13) =>
 some (((o02,o12,o21,o31),o03,o13))
def tb60:=insT 60 (mkE 60 false [(0,[])] ti59 to60 F60 [.cell 2 27] 36 [100000]) tb61
theorem ok60:zTb tb60:=okI ok61 noPl tv60 func60 rfl call60
abbrev to141:SPat:=⟨[(2,.own zBg true)],[.box 100000 (pl zo18)]⟩
abbrev zPk:SPat:=⟨[(0,.ptr 100000 0),(3,.own zBg true),(4,.i .i64)],[.box 100000 (pl zo18)]⟩
abbrev zLz:SPat:=⟨[(3,.own zBg true)],[.box 100000 (pl zo18)]⟩
def tv141:Nat→Option SPat:=fun k=>bif k==3 then some zPk else bif k==1000005 then some zPk else bif k==2000000 then some zLz else bif k==2000001 then some zPk else none
def F141:List UInt8×Bool→Option (List Knd×List UInt8×Bool):=fun(o0,o1) =>
 zAA (F59 (o0,o1)) fun(y,y1,y2) =>
 zAA (F58 (y,8,y1,y2)) fun(y3,y4,y5) =>
 bindE (Y:=List Knd×List UInt8×Bool) (zAG (fun(out,n,o01,o11) =>
 bindE (Y:=List Knd×Int×List UInt8×Bool) (cndO (decide (0<n))
 (cndO (!o11)
 (some (inl (out,n,o01,o11)))
 (some (inr (inr (inl (out,o01,o11))))))
 (some (inr (inr (inl (out,o01,o11)))))) fun(out1,n1,o02,o12) =>
 bindE (Y:=List Knd×Int×List UInt8×Bool) (zAA (F59 (o02,o12)) fun(y6,y7,y8) =>
 zAA (F58 (y6,3,y7,y8)) fun(y9,y10,y11) =>
 cndO (decide (y9=3))
 (zAA (F61 (y10,y11)) fun(y12,y13,y14) =>
 grdO (decide (out1.length+1≤9223372036854775807)&&decide ((out1.length+1)*16≤140737488355328)) (some (inl (out1++[(y9,y12)],n1,y13,y14))))
 (grdO (decide (out1.length+1≤9223372036854775807)&&decide ((out1.length+1)*16≤140737488355328)) (some (inl (out1++[(y9,(0:Int))],n1,y10,y11))))) fun(out2,n2,o03,o13) =>
 some (inl (out2,wrap .i64 (n2-1),o03,o13))) (([],y3,y4,y5))) fun(out,o01,o11) =>
 some ((out,o01,o11))
def tb141:=insT 141 (mkE 141 false [(0,[])] ti59 to141 F141 [.tmp 2] 37 [100000]) tb60
theorem ok141:zTb tb141:=okI ok60 noPl tv141 func141 rfl call141
abbrev to62:SPat:=⟨[(2,.ptr 2 0)],[.box 2 (pl plN),.box 100000 (pl zo18)]⟩
abbrev zTl:SPat:=⟨[(0,.ptr 100000 0),(2,.ptr 2 0),(3,.ptr 3 0),(4,.i .i64)],[.box 2 (pl plN),.box 3 (pl plN),.box 100000 (pl zo18)]⟩
abbrev zTk:SPat:=⟨[(0,.ptr 100000 0),(2,.ptr 2 0),(3,.ptr 3 0),(6,.i .i64)],[.box 2 (pl plN),.box 3 (pl plN),.box 100000 (pl zo18)]⟩
abbrev zNb:SPat:=⟨[(0,.ptr 100000 0),(2,.ptr 2 0),(3,.ptr 3 0)],[.box 2 (pl plN),.box 3 (pl plN),.box 100000 (pl zo18)]⟩
abbrev zNa:SPat:=⟨[(2,.ptr 2 0),(3,.ptr 3 0)],[.box 2 (pl plN),.box 3 (pl plN),.box 100000 (pl zo18)]⟩
def tv62:Nat→Option SPat:=fun k=>bif k==10 then some zTl else bif k==18 then some zTk else bif k==1000012 then some zTl else bif k==1000020 then some zTk else bif k==2000000 then some zNb else bif k==2000002 then some zNa else none
def F62:List UInt8×Bool→Option ((Mth)×List UInt8×Bool):=fun(o0,o1) =>
 zAA (F59 (o0,o1)) fun(y,y1,y2) =>
 zAA (F61 (y1,y2)) fun(y3,y4,y5) =>
 zAA (F61 (y4,y5)) fun(y6,y7,y8) =>
 zAA (F86 y) fun y9 =>
 cndO (y9)
 (some (((y,y3,y6,(0:Int),(0:Int),[],[],[]),y7,y8)))
 (zAA (F59 (y7,y8)) fun(y10,y11,y12) =>
 zAA (F59 (y11,y12)) fun(y13,y14,y15) =>
 zAA (F61 (y14,y15)) fun(y16,y17,y18) =>
 zAA (F58 (y16,120,y17,y18)) fun(y19,y20,y21) =>
 zAA (F57 (y19,y20,y21)) fun(y22,y23,y24) =>
 zAA (F59 (y23,y24)) fun(y25,y26,y27) =>
 zAA (F58 (y25,3,y26,y27)) fun(y28,y29,y30) =>
 bindE (Y:=(Mth)×(Mth)×List UInt8×Bool) (zAG (fun(v4,(o01,o11,o2,o3,o4,o5,o6,o7),(o02,o12,o21,o31,o41,o51,o61,o71),o03,o13) =>
 bindE (Y:=Int×(Mth)×(Mth)×List UInt8×Bool) (cndO (decide (0<v4))
 (cndO (!o13)
 (some (inl (v4,(o01,o11,o2,o3,o4,o5,o6,o7),(o02,o12,o21,o31,o41,o51,o61,o71),o03,o13)))
 (some (inr (inr (inl ((o01,o11,o2,o3,o4,o5,o6,o7),(o02,o12,o21,o31,o41,o51,o61,o71),o03,o13))))))
 (some (inr (inr (inl ((o01,o11,o2,o3,o4,o5,o6,o7),(o02,o12,o21,o31,o41,o51,o61,o71),o03,o13)))))) fun(v41,(o04,o14,o22,o32,o42,o52,o62,o72),(o05,o15,o23,o33,o43,o53,o63,o73),o06,o16) =>
 zAA (F61 (o06,o16)) fun(y31,y32,y33) =>
 zAA (F61 (y32,y33)) fun(y34,y35,y36) =>
 zAA (F61 (y35,y36)) fun(y37,y38,y39) =>
 zAA (F61 (y38,y39)) fun(y40,y41,y42) =>
 grdO (decide (o63.length+1≤9223372036854775807)&&decide ((o63.length+1)*32≤140737488355328)) (some (inl (wrap .i64 (v41-1),(o04,o14,o22,o32,o42,o52,o62,o72),(o05,o15,o23,o33,o43,o53,o63++[(y31,y34,y37,y40)],o73),y41,y42)))) ((y28,((0:Int),(0:Int),(0:Int),(0:Int),(0:Int),[],[],[]),(y,y3,y6,y10,y13,y22,[],[]),y29,y30))) fun((o01,o11,o2,o3,o4,o5,o6,o7),(o02,o12,o21,o31,o41,o51,o61,o71),o03,o13) =>
 zAA (F59 (o03,o13)) fun(y31,y32,y33) =>
 zAA (F58 (y31,8,y32,y33)) fun(y34,y35,y36) =>
 bindE (Y:=(Mth)×(Mth)×List UInt8×Bool) (zAG (fun(v6,(o04,o14,o22,o32,o42,o52,o62,o72),(o05,o15,o23,o33,o43,o53,o63,o73),o06,o16) =>
 bindE (Y:=Int×(Mth)×(Mth)×List UInt8×Bool) (cndO (decide (0<v6))
 (cndO (!o16)
 (some (inl (v6,(o04,o14,o22,o32,o42,o52,o62,o72),(o05,o15,o23,o33,o43,o53,o63,o73),o06,o16)))
 (some (inr (inr (inl ((o04,o14,o22,o32,o42,o52,o62,o72),(o05,o15,o23,o33,o43,o53,o63,o73),o06,o16))))))
 (some (inr (inr (inl ((o04,o14,o22,o32,o42,o52,o62,o72),(o05,o15,o23,o33,o43,o53,o63,o73),o06,o16)))))) fun(v61,(o07,o17,o24,o34,o44,o54,o64,o74),(o08,o18,o25,o35,o45,o55,o65,o75),o09,o19) =>
 zAA (F61 (o09,o19)) fun(y37,y38,y39) =>
 zAA (F141 (y38,y39)) fun(y40,y41,y42) =>
 zAA (F141 (y41,y42)) fun(y43,y44,y45) =>
 grdO (decide (o75.length+1≤9223372036854775807)&&decide ((o75.length+1)*56≤140737488355328)) (some (inl (wrap .i64 (v61-1),(o07,o17,o24,o34,o44,o54,o64,o74),(o08,o18,o25,o35,o45,o55,o65,o75++[(y37,y40,y43)]),y44,y45)))) ((y34,(o01,o11,o2,o3,o4,o5,o6,o7),(o02,o12,o21,o31,o41,o51,o61,o71),y35,y36))) fun((o04,o14,o22,o32,o42,o52,o62,o72),(o05,o15,o23,o33,o43,o53,o63,o73),o06,o16) =>
 some (((o05,o15,o23,o33,o43,o53,o63,o73),o06,o16)))
def tb62:=insT 62 (mkE 62 false [(0,[])] ti59 to62 F62 [.cell 2 53] 98 [100000]) tb141
theorem ok62:zTb tb62:=okI ok141 noPl tv62 func62 rfl call62
abbrev ts17_8:SPat:=⟨[(2,.ptr 2 0),(4,.ptr 17 0),(5,.ptr 5 0),(6,.i .i64)],[.box 2 (pl plD),.box 5 (pl plD),.box 17 (pl zo18)]⟩
abbrev zUA:SPat:=⟨[(2,.ptr 2 0),(4,.ptr 17 0),(5,.ptr 5 0),(7,.i .i64)],[.box 2 (pl plD),.box 5 (pl plD),.box 17 (pl zo18)]⟩
abbrev zTz:SPat:=⟨[(2,.ptr 2 0),(4,.ptr 17 0),(5,.ptr 5 0),(8,.i .i64)],[.box 2 (pl plD),.box 5 (pl plD),.box 17 (pl zo18)]⟩
abbrev zTy:SPat:=⟨[(2,.ptr 2 0),(4,.ptr 17 0),(5,.ptr 5 0),(10,.i .i64)],[.box 2 (pl plD),.box 5 (pl plD),.box 17 (pl zo18)]⟩
abbrev zDg:SPat:=⟨[(2,.ptr 2 0),(4,.ptr 17 0),(5,.ptr 5 0)],[.box 2 (pl plD),.box 5 (pl plD),.box 17 (pl zo18)]⟩
def tv17:Nat→Option SPat:=fun k=>bif k==8 then some ts17_8 else bif k==15 then some zUA else bif k==19 then some zTz else bif k==26 then some zTy else bif k==1000010 then some ts17_8 else bif k==1000017 then some zUA else bif k==1000021 then some zTz else bif k==1000028 then some zTy else bif k==2000000 then some zDg else bif k==2000002 then some zDg else bif k==2000004 then some zDg else bif k==2000006 then some zDg else none
def tp17:Nat→List Nat×Plan:=fun id=>bif id==10 then([0,1,2],(.br 3 [2] [0,1] [] (.br 4 [3,2] [0,1] [] (.br 5 zn25 [] [6] (.br 7 zn11 [] [] .fin .fin) .fin) .fin) .fin))else bif id==17 then([0,1,2],(.br 3 [2] [0,1] [] (.br 4 [3,2] [0,1] [] (.br 5 zn25 [] [6] (.br 7 zn11 [] [] .fin .fin) .fin) .fin) .fin))else bif id==28 then([0,1,2],(.br 3 [2] [0,1] [] (.br 4 [3,2] [0,1] [] (.br 5 zn25 [] [6] (.br 7 zn11 [] [] .fin .fin) .fin) .fin) .fin))else([],.fin)
def F17:List UInt8→Option (Bool×Cls):=fun app =>
 cndO (decide (900<(app.length:Int)))
 (some ((false,[],(0:Int),(0:Int),(0:Int),[],[],[])))
 (zAA (F57 (4,app,false)) fun(y,y1,y2) =>
 cndO (!decide (y=[(83:UInt8),84,79,87]))
 (some ((false,[],(0:Int),(0:Int),(0:Int),[],[],[])))
 (zAA (F59 (y1,y2)) fun(y3,y4,y5) =>
 zAA (F58 (y3,60,y4,y5)) fun(y6,y7,y8) =>
 bindE (Y:=(Cls)×(Cls)×List UInt8×Bool) (zAG (fun(v6,(o0,o1,o2,o3,o4,o5,o6),(o01,o11,o21,o31,o41,o51,o61),o02,o12) =>
 bindE (Y:=Int×(Cls)×(Cls)×List UInt8×Bool) (cndO (decide (0<v6))
 (cndO (!o12)
 (some (inl (v6,(o0,o1,o2,o3,o4,o5,o6),(o01,o11,o21,o31,o41,o51,o61),o02,o12)))
 (some (inr (inr (inl ((o0,o1,o2,o3,o4,o5,o6),(o01,o11,o21,o31,o41,o51,o61),o02,o12))))))
 (some (inr (inr (inl ((o0,o1,o2,o3,o4,o5,o6),(o01,o11,o21,o31,o41,o51,o61),o02,o12)))))) fun(v61,(o03,o13,o22,o32,o42,o52,o62),(o04,o14,o23,o33,o43,o53,o63),o05,o15) =>
 zAA (F60 (o05,o15)) fun((y9,y10,y11,y12),y13,y14) =>
 grdO (decide (o04.length+1≤9223372036854775807)&&decide ((o04.length+1)*40≤140737488355328)) (some (inl (wrap .i64 (v61-1),(o03,o13,o22,o32,o42,o52,o62),(o04++[(y9,y10,y11,y12)],o14,o23,o33,o43,o53,o63),y13,y14)))) ((y6,([],(0:Int),(0:Int),(0:Int),[],[],[]),([],(0:Int),(0:Int),(0:Int),[],[],[]),y7,y8))) fun((o0,o1,o2,o3,o4,o5,o6),(o01,o11,o21,o31,o41,o51,o61),o02,o12) =>
 zAA (F59 (o02,o12)) fun(y9,y10,y11) =>
 zAA (F61 (y10,y11)) fun(y12,y13,y14) =>
 zAA (F61 (y13,y14)) fun(y15,y16,y17) =>
 zAA (F59 (y16,y17)) fun(y18,y19,y20) =>
 zAA (F58 (y18,3,y19,y20)) fun(y21,y22,y23) =>
 bindE (Y:=(Cls)×(Cls)×List UInt8×Bool) (zAG (fun(v7,(o03,o13,o22,o32,o42,o52,o62),(o04,o14,o23,o33,o43,o53,o63),o05,o15) =>
 bindE (Y:=Int×(Cls)×(Cls)×List UInt8×Bool) (cndO (decide (0<v7))
 (cndO (!o15)
 (some (inl (v7,(o03,o13,o22,o32,o42,o52,o62),(o04,o14,o23,o33,o43,o53,o63),o05,o15)))
 (some (inr (inr (inl ((o03,o13,o22,o32,o42,o52,o62),(o04,o14,o23,o33,o43,o53,o63),o05,o15))))))
 (some (inr (inr (inl ((o03,o13,o22,o32,o42,o52,o62),(o04,o14,o23,o33,o43,o53,o63),o05,o15)))))) fun(v71,(o06,o16,o24,o34,o44,o54,o64),(o07,o17,o25,o35,o45,o55,o65),o08,o18) =>
 zAA (F61 (o08,o18)) fun(y24,y25,y26) =>
 grdO (decide (o45.length+1≤9223372036854775807)&&decide ((o45.length+1)*8≤140737488355328)) (some (inl (wrap .i64 (v71-1),(o06,o16,o24,o34,o44,o54,o64),(o07,o17,o25,o35,o45++[y24],o55,o65),y25,y26)))) ((y21,(o0,o1,o2,o3,o4,o5,o6),(o01,y9,y12,y15,o41,o51,o61),y22,y23))) fun((o03,o13,o22,o32,o42,o52,o62),(o04,o14,o23,o33,o43,o53,o63),o05,o15) =>
 zAA (F59 (o05,o15)) fun(y24,y25,y26) =>
 zAA (F58 (y24,5,y25,y26)) fun(y27,y28,y29) =>
 bindE (Y:=(Cls)×(Cls)×List UInt8×Bool) (zAG (fun(v8,(o06,o16,o24,o34,o44,o54,o64),(o07,o17,o25,o35,o45,o55,o65),o08,o18) =>
 bindE (Y:=Int×(Cls)×(Cls)×List UInt8×Bool) (cndO (decide (0<v8))
 (cndO (!o18)
 (some (inl (v8,(o06,o16,o24,o34,o44,o54,o64),(o07,o17,o25,o35,o45,o55,o65),o08,o18)))
 (some (inr (inr (inl ((o06,o16,o24,o34,o44,o54,o64),(o07,o17,o25,o35,o45,o55,o65),o08,o18))))))
 (some (inr (inr (inl ((o06,o16,o24,o34,o44,o54,o64),(o07,o17,o25,o35,o45,o55,o65),o08,o18)))))) fun(v81,(o09,o19,o26,o36,o46,o56,o66),(o010,o110,o27,o37,o47,o57,o67),o011,o111) =>
 zAA (F59 (o011,o111)) fun(y30,y31,y32) =>
 zAA (F61 (y31,y32)) fun(y33,y34,y35) =>
 zAA (F61 (y34,y35)) fun(y36,y37,y38) =>
 grdO (decide (o57.length+1≤9223372036854775807)&&decide ((o57.length+1)*24≤140737488355328)) (some (inl (wrap .i64 (v81-1),(o09,o19,o26,o36,o46,o56,o66),(o010,o110,o27,o37,o47,o57++[(y30,y33,y36)],o67),y37,y38)))) ((y27,(o03,o13,o22,o32,o42,o52,o62),(o04,o14,o23,o33,o43,o53,o63),y28,y29))) fun((o06,o16,o24,o34,o44,o54,o64),(o07,o17,o25,o35,o45,o55,o65),o08,o18) =>
 zAA (F59 (o08,o18)) fun(y30,y31,y32) =>
 zAA (F58 (y30,6,y31,y32)) fun(y33,y34,y35) =>
 bindE (Y:=(Cls)×(Cls)×List UInt8×Bool) (zAG (fun(v10,(o09,o19,o26,o36,o46,o56,o66),(o010,o110,o27,o37,o47,o57,o67),o011,o111) =>
 bindE (Y:=Int×(Cls)×(Cls)×List UInt8×Bool) (cndO (decide (0<v10))
 (cndO (!o111)
 (some (inl (v10,(o09,o19,o26,o36,o46,o56,o66),(o010,o110,o27,o37,o47,o57,o67),o011,o111)))
 (some (inr (inr (inl ((o09,o19,o26,o36,o46,o56,o66),(o010,o110,o27,o37,o47,o57,o67),o011,o111))))))
 (some (inr (inr (inl ((o09,o19,o26,o36,o46,o56,o66),(o010,o110,o27,o37,o47,o57,o67),o011,o111)))))) fun(v101,(o012,o112,o28,o38,o48,o58,o68),(o013,o113,o29,o39,o49,o59,o69),o014,o114) =>
 zAA (F62 (o014,o114)) fun((y36,y37,y38,y39,y40,y41,x,x1),x2,x3) =>
 grdO (decide (o69.length+1≤9223372036854775807)&&decide ((o69.length+1)*104≤140737488355328)) (some (inl (wrap .i64 (v101-1),(o012,o112,o28,o38,o48,o58,o68),(o013,o113,o29,o39,o49,o59,o69++[(y36,y37,y38,y39,y40,y41,x,x1)]),x2,x3)))) ((y33,(o06,o16,o24,o34,o44,o54,o64),(o07,o17,o25,o35,o45,o55,o65),y34,y35))) fun((o09,o19,o26,o36,o46,o56,o66),(o010,o110,o27,o37,o47,o57,o67),o011,o111) =>
 cndO (o111)
 (some ((false,[],(0:Int),(0:Int),(0:Int),[],[],[])))
 (cndO (!decide (o011=[]))
 (some ((false,[],(0:Int),(0:Int),(0:Int),[],[],[])))
 (some ((true,o010,o110,o27,o37,o47,o57,o67))))))
def tb17:=insT 17 (mkE 17 true [] zCt to63 F17 [.cell 2 34,.tmp 3] 140 []) tb62
theorem ok17:zTb tb17:=okI ok62 tp17 tv17 func17 rfl call17
abbrev ts147_4:SPat:=⟨[(0,.sl tg27),(1,.sl tg27),(12,.i .i64),(13,.i .i64)],[]⟩
def tv147:Nat→Option SPat:=fun k=>bif k==4 then some ts147_4 else bif k==2000000 then some zCj else none
def tp147:Nat→List Nat×Plan:=fun id=>bif id==6 then(zn33,.fin)else([],.fin)
def F147:List Cst×List Cst→Option Bool:=fun(s1,s2) =>
 cndO (!decide ((s1.length:Int)=(s2.length:Int)))
 (some false)
 (bindE (zAG (fun(s11,s21,v12,v13) =>
 cndO (decide (v13<v12))
 (grdO (decide (0≤v13)) (atO s11 v13.toNat fun x=>grdO (decide (0≤v13)) (atO s21 v13.toNat fun x1=>cndO (!(decide (x.1=x1.1)&&(decide (x.2.1=x1.2.1)&&(decide (x.2.2.1=x1.2.2.1)&&(decide (x.2.2.2=x1.2.2.2)&&true)))))
 (some (inr (inr false)))
 (some (inl (s11,s21,v12,wrap .i64 (v13+1)))))))
 (some (inr (inl ())))) ((s1,s2,(s1.length:Int),(0:Int)))) fun _ =>
 some true)
def tb147:=insT 147 (mkE 147 true [] ti152 zCZ F147 [.tmp 4] 26 []) tb17
theorem ok147:zTb tb147:=okI ok17 tp147 tv147 func147 rfl call147
abbrev ti148:SPat:=⟨[(0,.sl (.int .i64)),(1,.sl (.int .i64))],[]⟩
abbrev ts148_4:SPat:=⟨[(0,.sl (.int .i64)),(1,.sl (.int .i64)),(12,.i .i64),(13,.i .i64)],[]⟩
def tv148:Nat→Option SPat:=fun k=>bif k==4 then some ts148_4 else bif k==2000000 then some zCj else none
def tp148:Nat→List Nat×Plan:=fun id=>bif id==6 then(zn33,.fin)else([],.fin)
def F148:List Int×List Int→Option Bool:=fun(s1,s2) =>
 cndO (!decide ((s1.length:Int)=(s2.length:Int)))
 (some false)
 (bindE (zAG (fun(s11,s21,v12,v13) =>
 cndO (decide (v13<v12))
 (grdO (decide (0≤v13)) (atO s11 v13.toNat fun x=>grdO (decide (0≤v13)) (atO s21 v13.toNat fun x1=>cndO (!decide (x=x1))
 (some (inr (inr false)))
 (some (inl (s11,s21,v12,wrap .i64 (v13+1)))))))
 (some (inr (inl ())))) ((s1,s2,(s1.length:Int),(0:Int)))) fun _ =>
 some true)
def tb148:=insT 148 (mkE 148 true [] ti148 zCZ F148 [.tmp 4] 26 []) tb147
theorem ok148:zTb tb148:=okI ok147 tp148 tv148 func148 rfl call148
abbrev ti149:SPat:=⟨[(0,.sl tg89),(1,.sl tg89)],[]⟩
abbrev ts149_4:SPat:=⟨[(0,.sl tg89),(1,.sl tg89),(12,.i .i64),(13,.i .i64)],[]⟩
def tv149:Nat→Option SPat:=fun k=>bif k==4 then some ts149_4 else bif k==2000000 then some zCj else none
def tp149:Nat→List Nat×Plan:=fun id=>bif id==6 then(zn33,.fin)else([],.fin)
def F149:List Fld×List Fld→Option Bool:=fun(s1,s2) =>
 cndO (!decide ((s1.length:Int)=(s2.length:Int)))
 (some false)
 (bindE (zAG (fun(s11,s21,v12,v13) =>
 cndO (decide (v13<v12))
 (grdO (decide (0≤v13)) (atO s11 v13.toNat fun x=>grdO (decide (0≤v13)) (atO s21 v13.toNat fun x1=>cndO (!(decide (x.1=x1.1)&&(decide (x.2.1=x1.2.1)&&(decide (x.2.2=x1.2.2)&&true))))
 (some (inr (inr false)))
 (some (inl (s11,s21,v12,wrap .i64 (v13+1)))))))
 (some (inr (inl ())))) ((s1,s2,(s1.length:Int),(0:Int)))) fun _ =>
 some true)
def tb149:=insT 149 (mkE 149 true [] ti149 zCZ F149 [.tmp 4] 26 []) tb148
theorem ok149:zTb tb149:=okI ok148 tp149 tv149 func149 rfl call149
abbrev ti224:SPat:=⟨[(0,.sl zJv),(1,.sl zJv)],[]⟩
abbrev ts224_4:SPat:=⟨[(0,.sl zJv),(1,.sl zJv),(12,.i .i64),(13,.i .i64)],[]⟩
def tv224:Nat→Option SPat:=fun k=>bif k==4 then some ts224_4 else bif k==2000000 then some zCj else none
def tp224:Nat→List Nat×Plan:=fun id=>bif id==6 then(zn33,.fin)else([],.fin)
def F224:List Trp×List Trp→Option Bool:=fun(s1,s2) =>
 cndO (!decide ((s1.length:Int)=(s2.length:Int)))
 (some false)
 (bindE (zAG (fun(s11,s21,v12,v13) =>
 cndO (decide (v13<v12))
 (grdO (decide (0≤v13)) (atO s11 v13.toNat fun x=>grdO (decide (0≤v13)) (atO s21 v13.toNat fun x1=>cndO (!(decide (x.1=x1.1)&&(decide (x.2.1=x1.2.1)&&(decide (x.2.2.1=x1.2.2.1)&&(decide (x.2.2.2=x1.2.2.2)&&true)))))
 (some (inr (inr false)))
 (some (inl (s11,s21,v12,wrap .i64 (v13+1)))))))
 (some (inr (inl ())))) ((s1,s2,(s1.length:Int),(0:Int)))) fun _ =>
 some true)
def tb224:=insT 224 (mkE 224 true [] ti224 zCZ F224 [.tmp 4] 26 []) tb149
theorem ok224:zTb tb224:=okI ok149 tp224 tv224 func224 rfl call224
abbrev ts227_4:SPat:=⟨[(0,.sl zBg),(1,.sl zBg),(12,.i .i64),(13,.i .i64)],[]⟩
def tv227:Nat→Option SPat:=fun k=>bif k==4 then some ts227_4 else bif k==2000000 then some zCj else none
def tp227:Nat→List Nat×Plan:=fun id=>bif id==6 then(zn33,.fin)else([],.fin)
def F227:List Knd×List Knd→Option Bool:=fun(s1,s2) =>
 cndO (!decide ((s1.length:Int)=(s2.length:Int)))
 (some false)
 (bindE (zAG (fun(s11,s21,v12,v13) =>
 cndO (decide (v13<v12))
 (grdO (decide (0≤v13)) (atO s11 v13.toNat fun x=>grdO (decide (0≤v13)) (atO s21 v13.toNat fun x1=>cndO (!(decide (x.1=x1.1)&&(decide (x.2=x1.2)&&true)))
 (some (inr (inr false)))
 (some (inl (s11,s21,v12,wrap .i64 (v13+1)))))))
 (some (inr (inl ())))) ((s1,s2,(s1.length:Int),(0:Int)))) fun _ =>
 some true)
def tb227:=insT 227 (mkE 227 true [] ti282 zCZ F227 [.tmp 4] 26 []) tb224
theorem ok227:zTb tb227:=okI ok224 tp227 tv227 func227 rfl call227
abbrev ti226:SPat:=⟨[(0,.agg (pl [.i .i64,.sl zBg,.sl zBg])),(1,.agg (pl [.i .i64,.sl zBg,.sl zBg]))],[]⟩
def F226:(Frm)×Frm→Option Bool:=fun((f0,f1,f2),g0,g1,g2) =>
 cndO (decide (f0=g0))
 (zAA (F227 (f1,g1)) fun y =>
 cndO (y)
 (zAA (F227 (f2,g2)) fun y1 =>
 some y1)
 (some false))
 (some false)
def tb226:=insT 226 (mkE 226 true [] ti226 zCZ F226 [.tmp 4] 24 []) tb227
theorem ok226:zTb tb226:=okI ok227 noPl noIv func226 rfl call226
abbrev ti227225:SPat:=⟨[(0,.sl zDN),(1,.sl zDN),(2,.fn 226 (pl []))],[]⟩
abbrev zSo:SPat:=⟨[(1,.sl zDN),(2,.fn 226 (pl [])),(15,.sl zDN),(16,.i .i64),(17,.i .i64)],[]⟩
def tv227225:Nat→Option SPat:=fun k=>bif k==4 then some zSo else bif k==2000000 then some zCj else none
def F227225:List Frm×List Frm→Option Bool:=fun(s1,s2) =>
 cndO (!decide ((s1.length:Int)=(s2.length:Int)))
 (some false)
 (bindE (zAG (fun(s21,v15,v16,v17) =>
 cndO (decide (v17<v16))
 (grdO (decide (0≤v17)) (atO v15 v17.toNat fun x=>grdO (decide (0≤v17)) (atO s21 v17.toNat fun x1=>zAA (F226 ((x.1,x.2.1,x.2.2),x1.1,x1.2.1,x1.2.2)) fun y =>
 cndO (!y)
 (some (inr (inr false)))
 (some (inl (s21,v15,v16,wrap .i64 (v17+1)))))))
 (some (inr (inl ())))) ((s2,s1,(s1.length:Int),(0:Int)))) fun _ =>
 some true)
def zRT:=insT 227225 (mkE 225 true [] ti227225 zJu F227225 [.tmp 6] 32 []) tb226
theorem ok227225:zTb zRT:=okI ok226 noPl tv227225 func225 rfl call225
def F151:(Mth)×Mth→Option Bool:=fun((a0,a1,a2,a3,a4,a5,a6,a7),b0,b1,b2,b3,b4,b5,b6,b7) =>
 cndO (decide (a0=b0))
 (cndO (decide (a1=b1))
 (cndO (decide (a2=b2))
 (cndO (decide (a3=b3))
 (cndO (decide (a4=b4))
 (cndO (decide (a5=b5))
 (zAA (F224 (a6,b6)) fun y =>
 cndO (y)
 (zAA (F227225 (a7,b7)) fun y1 =>
 some y1)
 (some false))
 (some false))
 (some false))
 (some false))
 (some false))
 (some false))
 (some false)
def tb151:=insT 151 (mkE 151 true [] ti153 zCZ F151 [.tmp 4] 59 []) zRT
theorem ok151:zTb tb151:=okI ok227225 noPl noIv func151 rfl call151
abbrev ti152150:SPat:=⟨[(0,.sl tg53),(1,.sl tg53),(2,.fn 151 (pl []))],[]⟩
abbrev zSs:SPat:=⟨[(1,.sl tg53),(2,.fn 151 (pl [])),(15,.sl tg53),(16,.i .i64),(17,.i .i64)],[]⟩
def tv152150:Nat→Option SPat:=fun k=>bif k==4 then some zSs else bif k==2000000 then some zCj else none
def F152150:List Mth×List Mth→Option Bool:=fun(s1,s2) =>
 cndO (!decide ((s1.length:Int)=(s2.length:Int)))
 (some false)
 (bindE (zAG (fun(s21,v15,v16,v17) =>
 cndO (decide (v17<v16))
 (grdO (decide (0≤v17)) (atO v15 v17.toNat fun x=>grdO (decide (0≤v17)) (atO s21 v17.toNat fun x1=>zAA (F151 ((x.1,x.2.1,x.2.2.1,x.2.2.2.1,x.2.2.2.2.1,x.2.2.2.2.2.1,x.2.2.2.2.2.2.1,x.2.2.2.2.2.2.2),x1.1,x1.2.1,x1.2.2.1,x1.2.2.2.1,x1.2.2.2.2.1,x1.2.2.2.2.2.1,x1.2.2.2.2.2.2.1,x1.2.2.2.2.2.2.2)) fun y =>
 cndO (!y)
 (some (inr (inr false)))
 (some (inl (s21,v15,v16,wrap .i64 (v17+1)))))))
 (some (inr (inl ())))) ((s2,s1,(s1.length:Int),(0:Int)))) fun _ =>
 some true)
def zRa:=insT 152150 (mkE 150 true [] ti152150 zJu F152150 [.tmp 6] 32 []) tb151
theorem ok152150:zTb zRa:=okI ok151 noPl tv152150 func150 rfl call150
def F68:(Cls)×Cls→Option Bool:=fun((a0,a1,a2,a3,a4,a5,a6),b0,b1,b2,b3,b4,b5,b6) =>
 zAA (F147 (a0,b0)) fun y =>
 cndO (y)
 (cndO (decide (a1=b1))
 (cndO (decide (a2=b2))
 (cndO (decide (a3=b3))
 (zAA (F148 (a4,b4)) fun y1 =>
 cndO (y1)
 (zAA (F149 (a5,b5)) fun y2 =>
 cndO (y2)
 (zAA (F152150 (a6,b6)) fun y3 =>
 some y3)
 (some false))
 (some false))
 (some false))
 (some false))
 (some false))
 (some false)
def tb68:=insT 68 (mkE 68 true [] ti70 zCZ F68 [.tmp 4] 52 []) zRa
theorem ok68:zTb tb68:=okI ok152150 noPl noIv func68 rfl call68
def F20:Cls→Option (List UInt8):=fun(c0,c1,c2,c3,c4,c5,c6) =>
 zAA (F66 (c0,c1,c2,c3,c4,c5,c6)) fun y =>
 cndO (!y)
 (some ([]))
 (zAA (F67 (c0,c1,c2,c3,c4,c5,c6)) fun y1 =>
 zAA (F17 y1) fun(y2,y3,y4,y5,y6,y7,x,x1) =>
 cndO (!y2)
 (some ([]))
 (zAA (F68 ((c0,c1,c2,c3,c4,c5,c6),y3,y4,y5,y6,y7,x,x1)) fun y8 =>
 cndO (!y8)
 (some ([]))
 (some y1)))
def tb20:=insT 20 (mkE 20 true [] ti69 zEU F20 [.tmp 2] 25 []) tb68
theorem ok20:zTb tb20:=okI ok68 noPl noIv func20 rfl call20
def F89:Int×Int×Int→Option Bool:=fun(n,low,high) =>
 cndO (decide (low≤n))
 (some (decide (n≤high)))
 (some false)
def tb89:=insT 89 (mkE 89 true [] ti107 zJu F89 [.tmp 6] 15 []) tb20
theorem ok89:zTb tb89:=okI ok20 noPl noIv func89 rfl call89
abbrev ts48_4:SPat:=⟨[(0,.s),(20,.i .i64),(21,.i .i64)],[]⟩
def tv48:Nat→Option SPat:=fun k=>bif k==4 then some ts48_4 else bif k==1000003 then some zCt else bif k==2000000 then some zCj else bif k==2000001 then some ts48_4 else none
def F48:List UInt8→Option Bool:=fun s =>
 bindE (Y:=List UInt8) (zAA (F89 ((s.length:Int),1,8)) fun y =>
 cndO (!y)
 (some (inr false))
 (atO s ((0:Nat)) fun x=>cndO (decide (48≤(x.toNat:Int)))
 (atO s ((0:Nat)) fun x1=>cndO (decide ((x1.toNat:Int)≤57))
 (some (inr false))
 (some (inl s)))
 (some (inl s)))) fun s1 =>
 bindE (zAG (fun(s2,v20,v21) =>
 cndO (decide (v21<v20))
 (bindE (Y:=List UInt8×Int×Int) (grdO (decide (0≤v21)) (atO s2 v21.toNat fun x=>cndO (decide (97≤(x.toNat:Int)))
 (cndO (decide ((x.toNat:Int)≤122))
 (some (inl (s2,v20,v21)))
 (cndO (decide (65≤(x.toNat:Int)))
 (cndO (decide ((x.toNat:Int)≤90))
 (some (inl (s2,v20,v21)))
 (cndO (decide (48≤(x.toNat:Int)))
 (cndO (!decide ((x.toNat:Int)≤57))
 (some (inr (inr (inr false))))
 (some (inl (s2,v20,v21))))
 (some (inr (inr (inr false))))))
 (cndO (decide (48≤(x.toNat:Int)))
 (cndO (!decide ((x.toNat:Int)≤57))
 (some (inr (inr (inr false))))
 (some (inl (s2,v20,v21))))
 (some (inr (inr (inr false)))))))
 (cndO (decide (65≤(x.toNat:Int)))
 (cndO (decide ((x.toNat:Int)≤90))
 (some (inl (s2,v20,v21)))
 (cndO (decide (48≤(x.toNat:Int)))
 (cndO (!decide ((x.toNat:Int)≤57))
 (some (inr (inr (inr false))))
 (some (inl (s2,v20,v21))))
 (some (inr (inr (inr false))))))
 (cndO (decide (48≤(x.toNat:Int)))
 (cndO (!decide ((x.toNat:Int)≤57))
 (some (inr (inr (inr false))))
 (some (inl (s2,v20,v21))))
 (some (inr (inr (inr false)))))))) fun(s3,v201,v211) =>
 some (inl (s3,v201,wrap .i64 (v211+1))))
 (some (inr (inl ())))) ((s1,(s1.length:Int),(0:Int)))) fun _ =>
 some (true)
def tb48:=insT 48 (mkE 48 true [] zCt zDu F48 [.tmp 2] 51 []) tb89
theorem ok48:zTb tb48:=okI ok89 noPl tv48 func48 rfl call48
abbrev zSx:SPat:=⟨[(0,.s),(1,.s)],[]⟩
def F293:List UInt8×List UInt8→Option Bool:=fun(s,prefix_) =>
 cndO (decide ((prefix_.length:Int)≤(s.length:Int)))
 (grdO (decide (0≤(prefix_.length:Int))&&decide ((prefix_.length:Int)≤(s.length:Int))) (some (decide (List.drop (0:Nat) (List.take (Int.toNat (prefix_.length:Int)) s)=prefix_))))
 (some false)
def tb293:=insT 293 (mkE 293 true [] zSx zCZ F293 [.tmp 4] 18 []) tb48
theorem ok293:zTb tb293:=okI ok48 noPl noIv func293 rfl call293
abbrev to259:SPat:=⟨[(4,.s),(5,.b)],[]⟩
def F259:List UInt8×List UInt8→Option (List UInt8×Bool):=fun(s,prefix_) =>
 zAA (F293 (s,prefix_)) fun y =>
 cndO (!y)
 (some ((s,false)))
 (grdO (decide (0≤(prefix_.length:Int))&&decide ((prefix_.length:Int)≤(s.length:Int))&&decide ((s.length:Int)≤(s.length:Int))) (some ((List.drop (Int.toNat (prefix_.length:Int)) (List.take (Int.toNat (s.length:Int)) s),true))))
def tb259:=insT 259 (mkE 259 true [] zSx to259 F259 [.tmp 4,.tmp 5] 15 []) tb293
theorem ok259:zTb tb259:=okI ok293 noPl noIv func259 rfl call259
def F204:List UInt8×List UInt8→Option (List UInt8×Bool):=fun(s,prefix_) =>
 zAA (F259 (s,prefix_)) fun(y,y1) =>
 some ((y,y1))
def tb204:=insT 204 (mkE 204 true [] zSx to259 F204 [.tmp 4,.tmp 5] 11 []) tb259
theorem ok204:zTb tb204:=okI ok259 noPl noIv func204 rfl call204
def F294:List UInt8×List UInt8→Option Bool:=fun(s,suffix) =>
 cndO (decide ((suffix.length:Int)≤(s.length:Int)))
 (grdO (decide (0≤wrap .i64 ((s.length:Int)-(suffix.length:Int)))&&decide (wrap .i64 ((s.length:Int)-(suffix.length:Int))≤(s.length:Int))&&decide ((s.length:Int)≤(s.length:Int))) (some (decide (List.drop (Int.toNat (wrap .i64 ((s.length:Int)-(suffix.length:Int)))) (List.take (Int.toNat (s.length:Int)) s)=suffix))))
 (some false)
def tb294:=insT 294 (mkE 294 true [] zSx zCZ F294 [.tmp 4] 21 []) tb204
theorem ok294:zTb tb294:=okI ok204 noPl noIv func294 rfl call294
def F260:List UInt8×List UInt8→Option (List UInt8×Bool):=fun(s,suffix) =>
 zAA (F294 (s,suffix)) fun y =>
 cndO (!y)
 (some ((s,false)))
 (grdO (decide (0≤wrap .i64 ((s.length:Int)-(suffix.length:Int)))&&decide (wrap .i64 ((s.length:Int)-(suffix.length:Int))≤(s.length:Int))) (some ((List.drop (0:Nat) (List.take (Int.toNat (wrap .i64 ((s.length:Int)-(suffix.length:Int)))) s),true))))
def tb260:=insT 260 (mkE 260 true [] zSx to259 F260 [.tmp 4,.tmp 5] 18 []) tb294
theorem ok260:zTb tb260:=okI ok294 noPl noIv func260 rfl call260
def F205:List UInt8×List UInt8→Option (List UInt8×Bool):=fun(s,suffix) =>
 zAA (F260 (s,suffix)) fun(y,y1) =>
 some ((y,y1))
def tb205:=insT 205 (mkE 205 true [] zSx to259 F205 [.tmp 4,.tmp 5] 11 []) tb260
theorem ok205:zTb tb205:=okI ok260 noPl noIv func205 rfl call205
abbrev to115:SPat:=⟨[(2,.s),(3,.b)],[]⟩
def F115:List UInt8→Option (List UInt8×Bool):=fun s =>
 zAA (F204 (s,[(76:UInt8)])) fun(y,y1) =>
 zAA (F205 (y,[(59:UInt8)])) fun(y2,y3) =>
 cndO (y1)
 (cndO (y3)
 (zAA (F48 y2) fun y4 =>
 some ((y2,y4)))
 (some ((y2,false))))
 (some ((y2,false)))
def tb115:=insT 115 (mkE 115 true [] zCt to115 F115 [.tmp 2,.tmp 3] 27 []) tb205
theorem ok115:zTb tb115:=okI ok205 noPl noIv func115 rfl call115
end Go.Proofs.YtdpapeledldifaaGreat
end
