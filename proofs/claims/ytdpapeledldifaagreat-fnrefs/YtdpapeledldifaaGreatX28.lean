/- Part 29 of the proof that the law FnRefs holds of every input; no condition. -/
import Derived.Test.YtdpapeledldifaaGreatX27
set_option autoImplicit true
set_option relaxedAutoImplicit true
set_option linter.all false
noncomputable section
namespace Go.Proofs.YtdpapeledldifaaGreat
open Go Go.AM Go.TM
open Go.Proofs.Tryz
open Sum (inl inr)
open Go.IntKind (wrap)
set_option maxRecDepth 100000
set_option maxHeartbeats 4000000
abbrev ti108:SPat:=⟨[(0,.i .i64),(1,.i .i64)],[]⟩
abbrev zCZ:SPat:=⟨[(4,.b)],[]⟩
def F108:Int×Int→Option Bool:=fun(flags,one_) =>
 grdO (!decide (one_=0)) (some (decide (Int.tmod (wrap .i64 (Int.tdiv flags one_)) (2:Int)=1)))
def tb108:=insT 108 (mkE 108 true [] ti108 zCZ F108 [.tmp 4] 10 []) zNx
theorem ok108:zTb tb108:=okI zVA noPl noIv func108 rfl call108
abbrev zLC:SPat:=⟨[(0,.ptr 100000 0),(1,.sl .str),(4,.ptr 4 0)],[.box 4 (pl plN),.box 100000 (pl plB)]⟩
abbrev zLB:SPat:=⟨[(0,.ptr 100000 0),(4,.ptr 4 0)],[.box 4 (pl plN),.box 100000 (pl plB)]⟩
def tv313:Nat→Option SPat:=fun k=>bif k==1000004 then some zLC else bif k==1000006 then some zLB else none
def tp313:Nat→List Nat×Plan:=fun id=>bif id==0 then(zn16,(.br 4 [3,2,1,0] zn17 [] (.br 9 zn18 zn19 [] (.br 14 zn20 [] [15] (.br 16 [] [0,1,2,3,5,6,7,8,10,11,12,13,15] [] (.br 17 zn21 [] [] .fin .fin) .fin) (.br 16 [] zn16 [] (.br 14 zn20 [] [15] (.br 17 zn21 [] [] .fin .fin) .fin) .fin)) (.br 16 [] zn16 [] (.br 9 zn18 zn19 [] (.br 14 zn20 [] [15] (.br 17 zn21 [] [] .fin .fin) .fin) .fin) .fin)) (.br 16 [] zn16 [] (.br 4 [3,2,1,0] zn17 [] (.br 9 zn18 zn19 [] (.br 14 zn20 [] [15] (.br 17 zn21 [] [] .fin .fin) .fin) .fin) .fin) .fin)))else bif id==6 then(zn6,(.br 7 [6] zn1 [] (.br 8 zn7 [0] [9,10,11] (.br 12 zn8 [] [] .fin .fin) .fin) .fin))else([],.fin)
def F313:List (List UInt8)×List Cst×Int×Int×Int×List Int×List Fld×List Mth×Bool→Option (List Cst×Int×Int×Int×List Int×List Fld×List Mth×Bool):=fun(w,o0,o1,o2,o3,o4,o5,o6,o7)=>atO w ((1:Nat)) fun x=>atO w ((2:Nat)) fun x1=>atO w ((3:Nat)) fun x2=>let q1:=fun(x10:List Mth) (x11:Bool) (x9:List Fld) (y:Int) (y12:Int) (y13:List Cst) (y14:Int) (y15:Int) (y16:Int) (y17:List Int) (y6:Int)=>bindE (Y:=List (List UInt8)×(Mth)×List Cst×Int×Int×Int×List Int×List Fld×List Mth×Bool) (cndO (decide ((w.length:Int)=6)) (atO w ((4:Nat)) fun x12=>zAA (F311 (x12,y13,y14,y15,y16,y17,x9,x10,x11)) fun(y18,y19,y20,y21,y22,y23,x13,x14,x15)=>atO w ((5:Nat)) fun x16=>zAA (F311 (x16,y19,y20,y21,y22,y23,x13,x14,x15)) fun(y24,y25,y26,y27,y28,y29,x17,x18,x19)=>some (inl (w,(y12,y,y6,y18,y24,[],[],[]),y25,y26,y27,y28,y29,x17,x18,x19))) (some (inl (w,(y12,y,y6,(0:Int),(0:Int),[],[],[]),y13,y14,y15,y16,y17,x9,x10,x11)))) fun(w1,(o01,o11,o21,o31,o41,o51,o61,o71),o02,o12,o22,o32,o42,o52,o62,o72)=>bindE (Y:=(Mth)×List Cst×Int×Int×Int×List Int×List Fld×List Mth×Bool) (zAA (F108 (o01,8)) fun y18=>cndO (!decide (decide ((w1.length:Int)=4)=y18)) (some (inl ((o01,o11,o21,o31,o41,o51,o61,o71),o02,o12,o22,o32,o42,o52,o62,true))) (some (inl ((o01,o11,o21,o31,o41,o51,o61,o71),o02,o12,o22,o32,o42,o52,o62,o72)))) fun((o03,o13,o23,o33,o43,o53,o63,o73),o04,o14,o24,o34,o44,o54,o64,o74)=>grdO (decide (o64.length+1≤9223372036854775807)&&decide ((o64.length+1)*104≤140737488355328)) (some ((o04,o14,o24,o34,o44,o54,o64++[(o03,o13,o23,o33,o43,o53,o63,o73)],o74)));let q2:=seqU (grdO (decide (w=w)) (some ())) (seqU (atO w ((2:Nat)) fun x6=>grdO (decide (x6=x1)&&true) (some ())) (seqU (grdO (decide (x1=x1)) (some ())) (seqU (grdO (decide (w=w)) (some ())) (seqU (atO w ((3:Nat)) fun x6=>grdO (decide (x6=x2)&&true) (some ())) (seqU (grdO (decide (x2=x2)) (some ())) (some ()))))));let q3:=fun(x3:List Fld) (x4:List Mth) (x5:Bool) (y:Int) (y1:List Cst) (y2:Int) (y3:Int) (y4:Int) (y5:List Int)=>zAA (F312 (x1,y1,y2,y3,y4,y5,x3,x4,x5)) fun(y6,y7,y8,y9,y10,y11,x6,x7,x8)=>seqU (seqU (grdO (decide (w=w)) (some ())) (seqU (atO w ((3:Nat)) fun x9=>grdO (decide (x9=x2)&&true) (some ())) (seqU (grdO (decide (x2=x2)) (some ())) (some ())))) (zAA (F311 (x2,y7,y8,y9,y10,y11,x6,x7,x8)) fun(y12,y13,y14,y15,y16,y17,x9,x10,x11)=>q1 x10 x11 x9 y y12 y13 y14 y15 y16 y17 y6);zBV (zAA (F312 (x,o0,o1,o2,o3,o4,o5,o6,o7)) fun(y,y1,y2,y3,y4,y5,x3,x4,x5)=>seqU q2 (zBV (zAA (F312 (x1,y1,y2,y3,y4,y5,x3,x4,x5)) fun(y6,y7,y8,y9,y10,y11,x6,x7,x8)=>seqU (seqU (grdO (decide (w=w)) (some ())) (seqU (atO w ((3:Nat)) fun x9=>grdO (decide (x9=x2)&&true) (some ())) (seqU (grdO (decide (x2=x2)) (some ())) (some ())))) (zBV (zAA (F311 (x2,y7,y8,y9,y10,y11,x6,x7,x8)) fun(y12,y13,y14,y15,y16,y17,x9,x10,x11)=>seqU (seqU (grdO (decide (w=w)) (some ())) (seqU (atO w ((1:Nat)) fun x12=>grdO (decide (x12=x)&&true) (some ())) (seqU (grdO (decide (x=x)) (some ())) (seqU (grdO (decide (w=w)) (some ())) (seqU (atO w ((2:Nat)) fun x12=>grdO (decide (x12=x1)&&true) (some ())) (seqU (grdO (decide (x1=x1)) (some ())) (seqU (grdO (decide (w=w)) (some ())) (seqU (atO w ((3:Nat)) fun x12=>grdO (decide (x12=x2)&&true) (some ())) (seqU (grdO (decide (x2=x2)) (some ())) (seqU (grdO (decide (y12=y12)&&(decide (y=y)&&(decide (y6=y6)&&true))) (some ())) (some ()))))))))))) (q1 x10 x11 x9 y y12 y13 y14 y15 y16 y17 y6)) (seqU (seqU (grdO (decide (w=w)) (some ())) (seqU (atO w ((1:Nat)) fun x9=>grdO (decide (x9=x)&&true) (some ())) (seqU (grdO (decide (x=x)) (some ())) (seqU (grdO (decide (w=w)) (some ())) (seqU (atO w ((2:Nat)) fun x9=>grdO (decide (x9=x1)&&true) (some ())) (seqU (grdO (decide (x1=x1)) (some ())) (seqU (grdO (decide (w=w)) (some ())) (seqU (atO w ((3:Nat)) fun x9=>grdO (decide (x9=x2)&&true) (some ())) (seqU (grdO (decide (x2=x2)) (some ())) (some ())))))))))) (zAA (F311 (x2,y7,y8,y9,y10,y11,x6,x7,x8)) fun(y12,y13,y14,y15,y16,y17,x9,x10,x11)=>q1 x10 x11 x9 y y12 y13 y14 y15 y16 y17 y6)))) (seqU (seqU (grdO (decide (w=w)) (some ())) (seqU (atO w ((1:Nat)) fun x6=>grdO (decide (x6=x)&&true) (some ())) (seqU (grdO (decide (x=x)) (some ())) q2))) (q3 x3 x4 x5 y y1 y2 y3 y4 y5)))) (seqU (seqU (grdO (decide (w=w)) (some ())) (seqU (atO w ((1:Nat)) fun x3=>grdO (decide (x3=x)&&true) (some ())) (seqU (grdO (decide (x=x)) (some ())) (seqU (grdO (decide (w=w)) (some ())) (seqU (atO w ((2:Nat)) fun x3=>grdO (decide (x3=x1)&&true) (some ())) (seqU (grdO (decide (x1=x1)) (some ())) (seqU (grdO (decide (w=w)) (some ())) (seqU (atO w ((3:Nat)) fun x3=>grdO (decide (x3=x2)&&true) (some ())) (seqU (grdO (decide (x2=x2)) (some ())) (some ())))))))))) (zAA (F312 (x,o0,o1,o2,o3,o4,o5,o6,o7)) fun(y,y1,y2,y3,y4,y5,x3,x4,x5)=>seqU q2 (q3 x3 x4 x5 y y1 y2 y3 y4 y5)))
def tb313:=insT 313 (mkE 313 false [(0,[])] ti309 zUI F313 [] 58 [100000]) tb108
theorem ok313:zTb tb313:=okI ok108 tp313 tv313 func313 rfl call313
abbrev zLA:SPat:=⟨[(0,.ptr 100000 0),(4,.ptr 4 0)],[.box 4 (pl zo9),.box 100000 (pl plB)]⟩
def tv314:Nat→Option SPat:=fun k=>bif k==1000003 then some zLA else none
def tp314:Nat→List Nat×Plan:=fun id=>bif id==0 then(zn16,(.br 4 [3,2,1,0] zn17 [] (.br 9 zn18 zn19 [] (.br 14 zn20 [] [15] (.br 16 [] [0,1,2,3,5,6,7,8,10,11,12,13,15] [] (.br 17 zn21 [] [] .fin .fin) .fin) (.br 16 [] zn16 [] (.br 14 zn20 [] [15] (.br 17 zn21 [] [] .fin .fin) .fin) .fin)) (.br 16 [] zn16 [] (.br 9 zn18 zn19 [] (.br 14 zn20 [] [15] (.br 17 zn21 [] [] .fin .fin) .fin) .fin) .fin)) (.br 16 [] zn16 [] (.br 4 [3,2,1,0] zn17 [] (.br 9 zn18 zn19 [] (.br 14 zn20 [] [15] (.br 17 zn21 [] [] .fin .fin) .fin) .fin) .fin) .fin)))else bif id==3 then([0,2,7],(.br 1 [0] [2,7] [] (.br 3 zn14 [7] zn15 (.br 8 [7] [0,2,4,5,6] [] (.br 9 zn18 [] [10,11] (.br 12 zn8 [] [] .fin .fin) .fin) .fin) (.br 8 [7] [0,2] [] (.br 3 zn14 [7] zn15 (.br 9 zn18 [] [10,11] (.br 12 zn8 [] [] .fin .fin) .fin) .fin) .fin)) (.br 8 [7] [0,2] [] (.br 1 [0] [2,7] [] (.br 3 zn14 [7] zn15 (.br 9 zn18 [] [10,11] (.br 12 zn8 [] [] .fin .fin) .fin) .fin) .fin) .fin)))else([],.fin)
def F314:List (List UInt8)×List Cst×Int×Int×Int×List Int×List Fld×List Mth×Bool→Option (List Cst×Int×Int×Int×List Int×List Fld×List Mth×Bool):=fun(w,o0,o1,o2,o3,o4,o5,o6,o7)=>atO w ((1:Nat)) fun x=>atO w ((2:Nat)) fun x1=>atO w ((3:Nat)) fun x2=>let q1:=fun(x10:List Mth) (x11:Bool) (x9:List Fld) (y:Int) (y12:Int) (y13:List Cst) (y14:Int) (y15:Int) (y16:Int) (y17:List Int) (y6:Int)=>bindE (Y:=(Int×Int×Int×Int)×List Cst×Int×Int×Int×List Int×List Fld×List Mth×Bool) (atO w ((4:Nat)) fun x12=>cndO (!decide (x12=[(45:UInt8)])) (atO w ((4:Nat)) fun x13=>zAA (F310 (x13,y13,y14,y15,y16,y17,x9,x10,x11)) fun(y18,y19,y20,y21,y22,y23,x14,x15,x16)=>some (inl ((y,y6,y12,y18),y19,y20,y21,y22,y23,x14,x15,x16))) (some (inl ((y,y6,y12,(0:Int)),y13,y14,y15,y16,y17,x9,x10,x11)))) fun((o01,o11,o21,o31),o02,o12,o22,o32,o41,o51,o61,o71)=>let q2:=fun(x15:List Fld) (x16:Bool) (x17:List Mth) (x18:Mth) (y18:Nat) (y24:Nat) (y25:List Cst) (y26:Int) (y27:Int) (y28:Int) (y29:List Int)=>grdO (decide (x18.2.2.2.2.2.2.1.length+1≤9223372036854775807)&&decide ((x18.2.2.2.2.2.2.1.length+1)*32≤140737488355328)) (grdO (decide (y18=y24)&&decide (y24<x17.length)) (grdO (decide (y24<x17.length)) (some ((y25,y26,y27,y28,y29,x15,List.set x17 y24 (x18.1,x18.2.1,x18.2.2.1,x18.2.2.2.1,x18.2.2.2.2.1,x18.2.2.2.2.2.1,x18.2.2.2.2.2.2.1++[(o01,o11,o21,o31)],x18.2.2.2.2.2.2.2),x16)))));let q4:=fun(x12:List Int) (x13:List Fld) (x14:Bool) (y18:Nat) (y19:List Mth) (y20:List Cst) (y21:Int) (y22:Int) (y23:Int)=>zAA (F7000315 ((y20,y21,y22,y23,x12,x13,x14),y19)) fun(y24,(y25,y26,y27,y28,y29,x15,x16),x17)=>seqU (seqU (grdO (decide (o01=o01)&&(decide (o11=o11)&&(decide (o21=o21)&&(decide (o31=o31)&&true)))) (some ())) (some ())) (atO x17 y24 fun x18=>grdO (decide (y24=y24)&&decide (y24<x17.length)) (grdO (decide (y24=y24)&&decide (y24<x17.length)) (grdO (decide (y24=y24)&&decide (y24<x17.length)) (q2 x15 x16 x17 x18 y18 y24 y25 y26 y27 y28 y29))));zBV (zAA (F315 (o02,o12,o22,o32,o41,o51,o61,o71)) fun(y18,y19,y20,y21,y22,y23,x12,x13,x14)=>seqU (seqU (grdO (decide (o01=o01)&&(decide (o11=o11)&&(decide (o21=o21)&&(decide (o31=o31)&&true)))) (some ())) (some ())) (zBV (zAA (F7000315 ((y20,y21,y22,y23,x12,x13,x14),y19)) fun(y24,(y25,y26,y27,y28,y29,x15,x16),x17)=>seqU (seqU (grdO (decide (o01=o01)&&(decide (o11=o11)&&(decide (o21=o21)&&(decide (o31=o31)&&true)))) (some ())) (some ())) (atO x17 y24 fun x18=>grdO (decide (y24=y24)&&decide (y24<x17.length)) (grdO (decide (y24=y24)&&decide (y24<x17.length)) (grdO (decide (y24=y24)&&decide (y24<x17.length)) (seqU (seqU (grdO (y24==y24&&true) (some ())) (seqU (grdO (y24==y24&&true) (some ())) (seqU (grdO (decide (y24=y24)&&decide (y24<x17.length)) (grdO (decide (y24=y24)&&decide (y24<x17.length)) (grdO (decide (y24=y24)&&decide (y24<x17.length)) (some ())))) (some ())))) (q2 x15 x16 x17 x18 y18 y24 y25 y26 y27 y28 y29)))))) (q4 x12 x13 x14 y18 y19 y20 y21 y22 y23))) (zAA (F315 (o02,o12,o22,o32,o41,o51,o61,o71)) fun(y18,y19,y20,y21,y22,y23,x12,x13,x14)=>seqU (seqU (grdO (decide (o01=o01)&&(decide (o11=o11)&&(decide (o21=o21)&&(decide (o31=o31)&&true)))) (some ())) (some ())) (q4 x12 x13 x14 y18 y19 y20 y21 y22 y23));let q3:=seqU (grdO (decide (w=w)) (some ())) (seqU (atO w ((2:Nat)) fun x6=>grdO (decide (x6=x1)&&true) (some ())) (seqU (grdO (decide (x1=x1)) (some ())) (seqU (grdO (decide (w=w)) (some ())) (seqU (atO w ((3:Nat)) fun x6=>grdO (decide (x6=x2)&&true) (some ())) (seqU (grdO (decide (x2=x2)) (some ())) (some ()))))));let q5:=fun(x3:List Fld) (x4:List Mth) (x5:Bool) (y:Int) (y1:List Cst) (y2:Int) (y3:Int) (y4:Int) (y5:List Int)=>zAA (F311 (x1,y1,y2,y3,y4,y5,x3,x4,x5)) fun(y6,y7,y8,y9,y10,y11,x6,x7,x8)=>seqU (seqU (grdO (decide (w=w)) (some ())) (seqU (atO w ((3:Nat)) fun x9=>grdO (decide (x9=x2)&&true) (some ())) (seqU (grdO (decide (x2=x2)) (some ())) (some ())))) (zAA (F311 (x2,y7,y8,y9,y10,y11,x6,x7,x8)) fun(y12,y13,y14,y15,y16,y17,x9,x10,x11)=>q1 x10 x11 x9 y y12 y13 y14 y15 y16 y17 y6);zBV (zAA (F311 (x,o0,o1,o2,o3,o4,o5,o6,o7)) fun(y,y1,y2,y3,y4,y5,x3,x4,x5)=>seqU q3 (zBV (zAA (F311 (x1,y1,y2,y3,y4,y5,x3,x4,x5)) fun(y6,y7,y8,y9,y10,y11,x6,x7,x8)=>seqU (seqU (grdO (decide (w=w)) (some ())) (seqU (atO w ((3:Nat)) fun x9=>grdO (decide (x9=x2)&&true) (some ())) (seqU (grdO (decide (x2=x2)) (some ())) (some ())))) (zBV (zAA (F311 (x2,y7,y8,y9,y10,y11,x6,x7,x8)) fun(y12,y13,y14,y15,y16,y17,x9,x10,x11)=>seqU (seqU (grdO (decide (w=w)) (some ())) (seqU (atO w ((1:Nat)) fun x12=>grdO (decide (x12=x)&&true) (some ())) (seqU (grdO (decide (x=x)) (some ())) (seqU (grdO (decide (w=w)) (some ())) (seqU (atO w ((2:Nat)) fun x12=>grdO (decide (x12=x1)&&true) (some ())) (seqU (grdO (decide (x1=x1)) (some ())) (seqU (grdO (decide (w=w)) (some ())) (seqU (atO w ((3:Nat)) fun x12=>grdO (decide (x12=x2)&&true) (some ())) (seqU (grdO (decide (x2=x2)) (some ())) (seqU (grdO (decide (y=y)&&(decide (y6=y6)&&(decide (y12=y12)&&true))) (some ())) (some ()))))))))))) (q1 x10 x11 x9 y y12 y13 y14 y15 y16 y17 y6)) (seqU (seqU (grdO (decide (w=w)) (some ())) (seqU (atO w ((1:Nat)) fun x9=>grdO (decide (x9=x)&&true) (some ())) (seqU (grdO (decide (x=x)) (some ())) (seqU (grdO (decide (w=w)) (some ())) (seqU (atO w ((2:Nat)) fun x9=>grdO (decide (x9=x1)&&true) (some ())) (seqU (grdO (decide (x1=x1)) (some ())) (seqU (grdO (decide (w=w)) (some ())) (seqU (atO w ((3:Nat)) fun x9=>grdO (decide (x9=x2)&&true) (some ())) (seqU (grdO (decide (x2=x2)) (some ())) (some ())))))))))) (zAA (F311 (x2,y7,y8,y9,y10,y11,x6,x7,x8)) fun(y12,y13,y14,y15,y16,y17,x9,x10,x11)=>q1 x10 x11 x9 y y12 y13 y14 y15 y16 y17 y6)))) (seqU (seqU (grdO (decide (w=w)) (some ())) (seqU (atO w ((1:Nat)) fun x6=>grdO (decide (x6=x)&&true) (some ())) (seqU (grdO (decide (x=x)) (some ())) q3))) (q5 x3 x4 x5 y y1 y2 y3 y4 y5)))) (seqU (seqU (grdO (decide (w=w)) (some ())) (seqU (atO w ((1:Nat)) fun x3=>grdO (decide (x3=x)&&true) (some ())) (seqU (grdO (decide (x=x)) (some ())) (seqU (grdO (decide (w=w)) (some ())) (seqU (atO w ((2:Nat)) fun x3=>grdO (decide (x3=x1)&&true) (some ())) (seqU (grdO (decide (x1=x1)) (some ())) (seqU (grdO (decide (w=w)) (some ())) (seqU (atO w ((3:Nat)) fun x3=>grdO (decide (x3=x2)&&true) (some ())) (seqU (grdO (decide (x2=x2)) (some ())) (some ())))))))))) (zAA (F311 (x,o0,o1,o2,o3,o4,o5,o6,o7)) fun(y,y1,y2,y3,y4,y5,x3,x4,x5)=>seqU q3 (q5 x3 x4 x5 y y1 y2 y3 y4 y5)))
def tb314:=insT 314 (mkE 314 false [(0,[])] ti309 zUI F314 [] 43 [100000]) tb313
theorem ok314:zTb tb314:=okI ok313 tp314 tv314 func314 rfl call314
abbrev zEV:SPat:=⟨[(0,.ptr 100000 0),(1,.s)],[.box 100000 (pl zo5),.opn 100001 tg53 (.all true) (pl zo10),.arr 100002 zDN true]⟩
abbrev zET:SPat:=⟨[(4,.i .i64)],[.box 100000 (pl zo5),.opn 100001 tg53 (.all true) (pl zo10),.arr 100002 zDN true]⟩
def F807000311:List UInt8×(List Cst×Int×Int×Int×List Int×List Fld×Bool)×(List Mth×Nat×Int×Int×Int×Int×Int×List UInt8×List Trp)×List Frm→Option (Int×(List Cst×Int×Int×Int×List Int×List Fld×Bool)×(List Mth×Nat×Int×Int×Int×Int×Int×List UInt8×List Trp)×List Frm):=fun(s,(o0,o1,o2,o3,o4,o5,o7),(l100001,i100001,r0,r1,r2,r3,r4,r5,r6),l100002) =>
 zAA (F327 s) fun y =>
 cndO (decide (y<0))
 (grdO (decide (i100001=i100001)&&decide (i100001<l100001.length)) (some (((0:Int),(o0,o1,o2,o3,o4,o5,true),(l100001,i100001,r0,r1,r2,r3,r4,r5,r6),l100002))))
 (grdO (decide (i100001=i100001)&&decide (i100001<l100001.length)) (some ((y,(o0,o1,o2,o3,o4,o5,o7),(l100001,i100001,r0,r1,r2,r3,r4,r5,r6),l100002))))
def zIj:=insT 807000311 (mkE 311 false [(0,[]),(0,[6]),(0,[6,7])] zEV zET F807000311 [.tmp 4] 14 [100000,100001,100002]) tb314
theorem zQQ:zTb zIj:=okI ok314 noPl noIv func311 rfl call311
abbrev ti212:SPat:=⟨[(0,.i .u8)],[]⟩
abbrev zDu:SPat:=⟨[(2,.b)],[]⟩
def F212:Int→Option Bool:=fun b =>
 cndO (decide (97≤b))
 (cndO (decide (b≤122))
 (some true)
 (cndO (decide (65≤b))
 (some (decide (b≤90)))
 (some false)))
 (cndO (decide (65≤b))
 (some (decide (b≤90)))
 (some false))
def tb212:=insT 212 (mkE 212 true [] ti212 zDu F212 [.tmp 2] 17 []) zIj
theorem ok212:zTb tb212:=okI zQQ noPl noIv func212 rfl call212
def tv127:Nat→Option SPat:=fun k=>bif k==2 then some zEQ else bif k==2000000 then some zCt else bif k==2000001 then some zEQ else none
def F127:List UInt8→Option Bool:=fun s =>
 bindE (Y:=List UInt8) (zAG (fun(s1,i) =>
 cndO (decide (i<(s1.length:Int)))
 (bindE (Y:=List UInt8×Int) (grdO (decide (0≤i)) (atO s1 i.toNat fun x=>zAA (F212 (x.toNat:Int)) fun y =>
 cndO (!y)
 (cndO (decide (i=0))
 (some (inr (inr (inr false))))
 (grdO (decide (0≤i)) (atO s1 i.toNat fun x1=>cndO (decide ((x1.toNat:Int)<48))
 (some (inr (inr (inr false))))
 (grdO (decide (0≤i)) (atO s1 i.toNat fun x2=>cndO (decide (57<(x2.toNat:Int)))
 (some (inr (inr (inr false))))
 (some (inl (s1,i))))))))
 (some (inl (s1,i))))) fun(s2,i1) =>
 some (inl (s2,wrap .i64 (i1+1))))
 (some (inr (inl s1)))) ((s,(0:Int)))) fun s1 =>
 zAA (F107 ((s1.length:Int),1,8)) fun y =>
 some (y)
def tb127:=insT 127 (mkE 127 true [] zCt zDu F127 [.tmp 2] 34 []) tb212
theorem ok127:zTb tb127:=okI ok212 noPl tv127 func127 rfl call127
abbrev ti213:SPat:=⟨[(0,.s),(1,.i .i64)],[]⟩
abbrev ts213_6:SPat:=⟨[(0,.s),(1,.i .i64),(5,.i .i64)],[]⟩
def tv213:Nat→Option SPat:=fun k=>bif k==6 then some ts213_6 else bif k==1000003 then some ti213 else bif k==1000005 then some ti213 else bif k==2000000 then some zCj else none
def F213:List UInt8×Int→Option Int:=fun(s,at_) =>
 bindE (Y:=List UInt8×Int) (cndO (decide (at_<(s.length:Int)))
 (grdO (decide (0≤at_)) (atO s at_.toNat fun x=>cndO (decide ((x.toNat:Int)=73))
 (some (inr (wrap .i64 (at_+1))))
 (some (inl (s,at_)))))
 (some (inl (s,at_)))) fun(s1,at_1) =>
 bindE (Y:=List UInt8×Int) (cndO (decide ((s1.length:Int)≤at_1))
 (some (inr (-1:Int)))
 (grdO (decide (0≤at_1)) (atO s1 at_1.toNat fun x=>cndO (!decide ((x.toNat:Int)=76))
 (some (inr (-1:Int)))
 (some (inl (s1,at_1)))))) fun(s2,at_2) =>
 bindE (zAG (fun(s3,at_3,i) =>
 cndO (decide (i<(s3.length:Int)))
 (grdO (decide (0≤i)) (atO s3 i.toNat fun x=>cndO (decide ((x.toNat:Int)=59))
 (grdO (decide (0≤wrap .i64 (at_3+1))&&decide (wrap .i64 (at_3+1)≤i)&&decide (i≤(s3.length:Int))) (zAA (F127 (List.drop (Int.toNat (wrap .i64 (at_3+1))) (List.take i.toNat s3))) fun y =>
 cndO (y)
 (some (inr (inr (wrap .i64 (i+1)))))
 (some (inr (inr (-1:Int))))))
 (some (inl (s3,at_3,wrap .i64 (i+1))))))
 (some (inr (inl ())))) ((s2,at_2,wrap .i64 (at_2+1)))) fun _ =>
 some ((-1:Int))
def tb213:=insT 213 (mkE 213 true [] ti213 zMH F213 [.tmp 4] 48 []) tb127
theorem ok213:zTb tb213:=okI ok127 noPl tv213 func213 rfl call213
def F128:List UInt8→Option Bool:=fun s =>
 cndO (decide (0<(s.length:Int)))
 (zAA (F213 (s,0)) fun y =>
 some (decide (y=(s.length:Int))))
 (some false)
def tb128:=insT 128 (mkE 128 true [] zCt zDu F128 [.tmp 2] 13 []) tb213
theorem ok128:zTb tb128:=okI ok213 noPl noIv func128 rfl call128
abbrev zPs:SPat:=⟨[(0,.ptr 100000 0),(1,.agg (pl zo4))],[.box 100000 (pl zo5),.opn 100001 tg53 (.all true) (pl zo10),.arr 100002 zDN true]⟩
abbrev zKt:SPat:=⟨[(0,.ptr 100000 0),(3,.ptr 3 0),(5,.i .i64)],[.box 3 (pl zo4),.box 100000 (pl zo5),.opn 100001 tg53 (.all true) (pl zo10),.arr 100002 zDN true]⟩
abbrev zFr:SPat:=⟨[(0,.ptr 100000 0),(3,.ptr 3 0)],[.box 3 (pl zo4),.box 100000 (pl zo5),.opn 100001 tg53 (.all true) (pl zo10),.arr 100002 zDN true]⟩
def zPa:Nat→Option SPat:=fun k=>bif k==2 then some zKt else bif k==2000000 then some zFr else none
def zPn:Nat→List Nat×Plan:=fun id=>bif id==4 then(zn5,.fin)else bif id==6 then(zn6,(.br 7 [6] zn1 [] (.br 8 zn7 [0] [9,10,11] (.br 12 zn8 [] [] .fin .fin) .fin) .fin))else([],.fin)
def F807000326:(Cst)×(List Cst×Int×Int×Int×List Int×List Fld×Bool)×(List Mth×Nat×Int×Int×Int×Int×Int×List UInt8×List Trp)×List Frm→Option (Int×(List Cst×Int×Int×Int×List Int×List Fld×Bool)×(List Mth×Nat×Int×Int×Int×Int×Int×List UInt8×List Trp)×List Frm):=fun((c0,c1,c2,c3),(o0,o1,o2,o3,o4,o5,o7),(l100001,i100001,r0,r1,r2,r3,r4,r5,r6),l100002) =>
 bindE (Y:=(Cst)×(List Cst×Int×Int×Int×List Int×List Fld×Bool)×(List Mth×Nat×Int×Int×Int×Int×Int×List UInt8×List Trp)×List Frm) (grdO (decide (i100001=i100001)&&decide (i100001<l100001.length)) (zAG (fun(i,(o01,o11,o21,o31),(o02,o12,o22,o32,o41,o51,o71),(l1000011,i1000011,r01,r11,r21,r31,r41,r51,r61),l1000021) =>
 cndO (decide (i<(o02.length:Int)))
 (grdO (decide (0≤i)&&decide (i<(o02.length:Int))) (atO o02 i.toNat fun x=>cndO (decide (x.1=o01)&&(decide (x.2.1=o11)&&(decide (x.2.2.1=o21)&&(decide (x.2.2.2=o31)&&true))))
 (mapR (mapR (grdO (decide (i1000011=i1000011)&&decide (i1000011<l1000011.length)) (some ((wrap .i64 (i+1),(o02,o12,o22,o32,o41,o51,o71),(l1000011,i1000011,r01,r11,r21,r31,r41,r51,r61),l1000021))))))
 (grdO (decide (i1000011=i1000011)&&decide (i1000011<l1000011.length)) (some (inl (wrap .i64 (i+1),(o01,o11,o21,o31),(o02,o12,o22,o32,o41,o51,o71),(l1000011,i1000011,r01,r11,r21,r31,r41,r51,r61),l1000021))))))
 (mapR (grdO (decide (i1000011=i1000011)&&decide (i1000011<l1000011.length)) (some (inl ((o01,o11,o21,o31),(o02,o12,o22,o32,o41,o51,o71),(l1000011,i1000011,r01,r11,r21,r31,r41,r51,r61),l1000021)))))) (((0:Int),(c0,c1,c2,c3),(o0,o1,o2,o3,o4,o5,o7),(l100001,i100001,r0,r1,r2,r3,r4,r5,r6),l100002)))) fun((o01,o11,o21,o31),(o02,o12,o22,o32,o41,o51,o71),(l1000011,i1000011,r01,r11,r21,r31,r41,r51,r61),l1000021) =>
 grdO (decide (o02.length+1≤9223372036854775807)&&decide ((o02.length+1)*40≤140737488355328)) (grdO (decide (i1000011=i1000011)&&decide (i1000011<l1000011.length)) (some (((↑(List.length (o02++[(o01,o11,o21,o31)])):Int),(o02++[(o01,o11,o21,o31)],o12,o22,o32,o41,o51,o71),(l1000011,i1000011,r01,r11,r21,r31,r41,r51,r61),l1000021))))
def zIg:=insT 807000326 (mkE 326 false [(0,[]),(0,[6]),(0,[6,7])] zPs zET F807000326 [.tmp 4] 46 [100000,100001,100002]) tb128
theorem zQN:zTb zIg:=okI ok128 zPn zPa func326 rfl call326
def F807000312:List UInt8×(List Cst×Int×Int×Int×List Int×List Fld×Bool)×(List Mth×Nat×Int×Int×Int×Int×Int×List UInt8×List Trp)×List Frm→Option (Int×(List Cst×Int×Int×Int×List Int×List Fld×Bool)×(List Mth×Nat×Int×Int×Int×Int×Int×List UInt8×List Trp)×List Frm):=fun(s,(o0,o1,o2,o3,o4,o5,o7),(l100001,i100001,r0,r1,r2,r3,r4,r5,r6),l100002) =>
 cndO (decide (60<(s.length:Int)))
 (grdO (decide (i100001=i100001)&&decide (i100001<l100001.length)) (some (((0:Int),(o0,o1,o2,o3,o4,o5,true),(l100001,i100001,r0,r1,r2,r3,r4,r5,r6),l100002))))
 (zAA (F807000326 (((1:Int),s,(0:Int),(0:Int)),(o0,o1,o2,o3,o4,o5,o7),(l100001,i100001,r0,r1,r2,r3,r4,r5,r6),l100002)) fun(y,(y1,y2,y3,y4,y5,x,x1),(x2,x3,x4,x5,x6,x7,x8,x9,x10),x11) =>
 grdO (decide (x3=x3)&&decide (x3<x2.length)) (some ((y,(y1,y2,y3,y4,y5,x,x1),(x2,x3,x4,x5,x6,x7,x8,x9,x10),x11))))
def zIi:=insT 807000312 (mkE 312 false [(0,[]),(0,[6]),(0,[6,7])] zEV zET F807000312 [.tmp 4] 15 [100000,100001,100002]) zIg
theorem zQP:zTb zIi:=okI zQN noPl noIv func312 rfl call312
def F807000310:List UInt8×(List Cst×Int×Int×Int×List Int×List Fld×Bool)×(List Mth×Nat×Int×Int×Int×Int×Int×List UInt8×List Trp)×List Frm→Option (Int×(List Cst×Int×Int×Int×List Int×List Fld×Bool)×(List Mth×Nat×Int×Int×Int×Int×Int×List UInt8×List Trp)×List Frm):=fun(s,(o0,o1,o2,o3,o4,o5,o7),(l100001,i100001,r0,r1,r2,r3,r4,r5,r6),l100002) =>
 zAA (F807000312 (s,(o0,o1,o2,o3,o4,o5,o7),(l100001,i100001,r0,r1,r2,r3,r4,r5,r6),l100002)) fun(y,(y1,y2,y3,y4,y5,x,x1),(x2,x3,x4,x5,x6,x7,x8,x9,x10),x11) =>
 zAA (F807000326 (((2:Int),[],y,(0:Int)),(y1,y2,y3,y4,y5,x,x1),(x2,x3,x4,x5,x6,x7,x8,x9,x10),x11)) fun(y6,(y7,y8,y9,y10,y11,x12,x13),(x14,x15,x16,x17,x18,x19,x20,x21,x22),x23) =>
 grdO (decide (x15=x15)&&decide (x15<x14.length)) (some ((y6,(y7,y8,y9,y10,y11,x12,x13),(x14,x15,x16,x17,x18,x19,x20,x21,x22),x23)))
def zIk:=insT 807000310 (mkE 310 false [(0,[]),(0,[6]),(0,[6,7])] zEV zET F807000310 [.tmp 4] 11 [100000,100001,100002]) zIi
theorem zQR:zTb zIk:=okI zQP noPl noIv func310 rfl call310
abbrev zPq:SPat:=⟨[(4,.own zBg true)],[.box 100000 (pl zo5),.opn 100001 tg53 (.all true) (pl zo10),.arr 100002 zDN true]⟩
abbrev zGN:SPat:=⟨[(0,.ptr 100000 0),(5,.own zBg true),(6,.own .str true),(7,.i .i64)],[.box 100000 (pl zo5),.opn 100001 tg53 (.all true) (pl zo10),.arr 100002 zDN true]⟩
abbrev zFs:SPat:=⟨[(5,.own zBg true)],[.box 100000 (pl zo5),.opn 100001 tg53 (.all true) (pl zo10),.arr 100002 zDN true]⟩
def zPb:Nat→Option SPat:=fun k=>bif k==6 then some zGN else bif k==2000000 then some zFs else bif k==2000002 then some zGN else none
def zPo:Nat→List Nat×Plan:=fun id=>bif id==16 then(zn9,(.br 13 [12,11,10,9,8,7,6,5,4,3,2,1] [0] [14] (.br 15 zn22 [0] [] (.br 16 zn2 [] [] (.br 17 zn21 [] [] .fin .fin) .fin) .fin) .fin))else([],.fin)
def F807000316:List UInt8×(List Cst×Int×Int×Int×List Int×List Fld×Bool)×(List Mth×Nat×Int×Int×Int×Int×Int×List UInt8×List Trp)×List Frm→Option (List Knd×(List Cst×Int×Int×Int×List Int×List Fld×Bool)×(List Mth×Nat×Int×Int×Int×Int×Int×List UInt8×List Trp)×List Frm):=fun(v1,(o0,o1,o2,o3,o4,o5,o7),(l100001,i100001,r0,r1,r2,r3,r4,r5,r6),l100002) =>
 cndO (decide (v1=[(46:UInt8)]))
 (grdO (decide (i100001=i100001)&&decide (i100001<l100001.length)) (some (([],(o0,o1,o2,o3,o4,o5,o7),(l100001,i100001,r0,r1,r2,r3,r4,r5,r6),l100002))))
 (zAA (F278 (v1,44,8)) fun y =>
 bindE (Y:=List Knd×(List Cst×Int×Int×Int×List Int×List Fld×Bool)×(List Mth×Nat×Int×Int×Int×Int×Int×List UInt8×List Trp)×List Frm) (grdO (decide (i100001=i100001)&&decide (i100001<l100001.length)) (zAG (fun(v5,v6,v7,(o01,o11,o21,o31,o41,o51,o71),(l1000011,i1000011,r01,r11,r21,r31,r41,r51,r61),l1000021) =>
 cndO (decide (v7<(v6.length:Int)))
 (bindE (Y:=List Knd×List (List UInt8)×Int×(List Cst×Int×Int×Int×List Int×List Fld×Bool)×(List Mth×Nat×Int×Int×Int×Int×Int×List UInt8×List Trp)×List Frm) (grdO (decide (0≤v7)&&decide (v7<(v6.length:Int))) (atO v6 v7.toNat fun x=>cndO (decide (x=[(73:UInt8)]))
 (grdO (decide (v5.length+1≤9223372036854775807)&&decide ((v5.length+1)*16≤140737488355328)) (grdO (decide (i1000011=i1000011)&&decide (i1000011<l1000011.length)) (some (inl (v5++[((1:Int),(0:Int))],v6,v7,(o01,o11,o21,o31,o41,o51,o71),(l1000011,i1000011,r01,r11,r21,r31,r41,r51,r61),l1000021)))))
 (grdO (decide (0≤v7)&&decide (v7<(v6.length:Int))) (atO v6 v7.toNat fun x1=>cndO (decide (x1=[(78:UInt8)]))
 (grdO (decide (v5.length+1≤9223372036854775807)&&decide ((v5.length+1)*16≤140737488355328)) (grdO (decide (i1000011=i1000011)&&decide (i1000011<l1000011.length)) (some (inl (v5++[((2:Int),(0:Int))],v6,v7,(o01,o11,o21,o31,o41,o51,o71),(l1000011,i1000011,r01,r11,r21,r31,r41,r51,r61),l1000021)))))
 (grdO (decide (0≤v7)&&decide (v7<(v6.length:Int))) (atO v6 v7.toNat fun x2=>cndO (decide (x2=[(45:UInt8)]))
 (grdO (decide (v5.length+1≤9223372036854775807)&&decide ((v5.length+1)*16≤140737488355328)) (grdO (decide (i1000011=i1000011)&&decide (i1000011<l1000011.length)) (some (inl (v5++[((0:Int),(0:Int))],v6,v7,(o01,o11,o21,o31,o41,o51,o71),(l1000011,i1000011,r01,r11,r21,r31,r41,r51,r61),l1000021)))))
 (grdO (decide (0≤v7)&&decide (v7<(v6.length:Int))) (atO v6 v7.toNat fun x3=>zAA (F128 x3) fun y1 =>
 cndO (y1)
 (grdO (decide (0≤v7)&&decide (v7<(v6.length:Int))) (atO v6 v7.toNat fun x4=>grdO (decide (0≤v7)&&decide (v7<(v6.length:Int))) (atO v6 v7.toNat fun x5=>grdO (decide (1≤wrap .i64 ((x5.length:Int)-1))&&decide (wrap .i64 ((x5.length:Int)-1)≤(x4.length:Int))) (zAA (F807000310 (List.drop (1:Nat) (List.take (Int.toNat (wrap .i64 ((x5.length:Int)-1))) x4),(o01,o11,o21,o31,o41,o51,o71),(l1000011,i1000011,r01,r11,r21,r31,r41,r51,r61),l1000021)) fun(y2,(y3,y4,y5,y6,y7,x6,x7),(x8,x9,x10,x11,x12,x13,x14,x15,x16),x17) =>
 grdO (decide (v5.length+1≤9223372036854775807)&&decide ((v5.length+1)*16≤140737488355328)) (grdO (decide (x9=x9)&&decide (x9<x8.length)) (some (inl (v5++[((3:Int),y2)],v6,v7,(y3,y4,y5,y6,y7,x6,x7),(x8,x9,x10,x11,x12,x13,x14,x15,x16),x17))))))))
 (grdO (decide (i1000011=i1000011)&&decide (i1000011<l1000011.length)) (some (inl (v5,v6,v7,(o01,o11,o21,o31,o41,o51,true),(l1000011,i1000011,r01,r11,r21,r31,r41,r51,r61),l1000021)))))))))))) fun(v51,v61,v71,(o02,o12,o22,o32,o42,o52,o72),(l1000012,i1000012,r02,r12,r22,r32,r42,r52,r62),l1000022) =>
 grdO (decide (i1000012=i1000012)&&decide (i1000012<l1000012.length)) (some (inl (v51,v61,wrap .i64 (v71+1),(o02,o12,o22,o32,o42,o52,o72),(l1000012,i1000012,r02,r12,r22,r32,r42,r52,r62),l1000022))))
 (mapR (grdO (decide (i1000011=i1000011)&&decide (i1000011<l1000011.length)) (some (inl (v5,(o01,o11,o21,o31,o41,o51,o71),(l1000011,i1000011,r01,r11,r21,r31,r41,r51,r61),l1000021)))))) (([],y,(0:Int),(o0,o1,o2,o3,o4,o5,o7),(l100001,i100001,r0,r1,r2,r3,r4,r5,r6),l100002)))) fun(v5,(o01,o11,o21,o31,o41,o51,o71),(l1000011,i1000011,r01,r11,r21,r31,r41,r51,r61),l1000021) =>
 grdO (decide (i1000011=i1000011)&&decide (i1000011<l1000011.length)) (some ((v5,(o01,o11,o21,o31,o41,o51,o71),(l1000011,i1000011,r01,r11,r21,r31,r41,r51,r61),l1000021))))
def zIh:=insT 807000316 (mkE 316 false [(0,[]),(0,[6]),(0,[6,7])] zEV zPq F807000316 [.tmp 4] 77 [100000,100001,100002]) zIk
theorem zQO:zTb zIh:=okI zQR zPo zPb func316 rfl call316
abbrev zLb:SPat:=⟨[(0,.ptr 100000 0),(1,.s),(13,.b)],zo3⟩
abbrev zLa:SPat:=⟨[(0,.ptr 100000 0),(4,.own .str true),(5,.b)],zo3⟩
abbrev zLZ:SPat:=⟨[(0,.ptr 100000 0),(4,.own .str true),(5,.b),(31,.b)],zo3⟩
abbrev zLY:SPat:=⟨[(0,.ptr 100000 0),(4,.own .str true),(5,.b),(76,.b)],zo3⟩
abbrev zLX:SPat:=⟨[(0,.ptr 100000 0),(4,.own .str true),(5,.b),(102,.b)],zo3⟩
abbrev zLW:SPat:=⟨[(0,.ptr 100000 0),(4,.own .str true),(5,.b),(139,.b)],zo3⟩
abbrev zLV:SPat:=⟨[(0,.ptr 100000 0),(4,.own .str true),(5,.b),(157,.b)],zo3⟩
abbrev zLU:SPat:=⟨[(0,.ptr 100000 0),(4,.own .str true),(173,.b)],zo3⟩
def tv279:Nat→Option SPat:=fun k=>bif k==1000001 then some zLb else bif k==1000005 then some zLa else bif k==1000006 then some zLZ else bif k==1000010 then some zLY else bif k==1000012 then some zLX else bif k==1000014 then some zLW else bif k==1000016 then some zLV else bif k==1000018 then some zLU else bif k==2000000 then some zUI else none
def tp279:Nat→List Nat×Plan:=fun id=>bif id==10 then(zn5,(.br 10 [9,8,7,6] zn1 [] (.br 11 [10,9,8,7,6] zn1 [] (.br 12 [11,10,9,8,7,6,5,4,3,2,1] [0] [13,14,15] (.br 16 zn2 [] [] .fin .fin) .fin) .fin) .fin))else bif id==12 then([0,1,2,3,4,5,6,7,8,9,11,12,13,14,16,17,18,19],(.br 10 [9,8,7,6] [0,1,2,3,4,5,11,12,13,14,16,17,18,19] [] (.br 15 [14,13,12,11,10,9,8,7,6] [0,1,2,3,4,5,16,17,18,19] [] (.br 20 [19,18,17,16,15,14,13,12,11,10,9,8,7,6] zn1 [21] (.br 22 [21,20,19,18,17,16,15,14,13,12,11,10,9,8,7,6] zn1 [] (.br 23 [22,21,20,19,18,17,16,15,14,13,12,11,10,9,8,7,6,5,4,3,2,1] [0] [24,25,26] (.br 27 zn23 [] [] .fin .fin) .fin) .fin) .fin) .fin) .fin))else bif id==18 then([0,2,7,8,9,10,12,13,14,15,17,18,19,20],(.br 1 [0] [2,7,8,9,10,12,13,14,15,17,18,19,20] [] (.br 3 zn14 [7,8,9,10,12,13,14,15,17,18,19,20] zn15 (.br 11 [10,9,8,7,3,2,1,0] [12,13,14,15,17,18,19,20,4,5,6] [] (.br 16 [15,14,13,12,11,10,9,8,7,3,2,1,0] [17,18,19,20,4,5,6] [] (.br 21 [20,19,18,17,16,15,14,13,12,11,10,9,8,7,3,2,1,0] zn15 [22] (.br 23 [22,21,20,19,18,17,16,15,14,13,12,11,10,9,8,7,3,2,1,0] zn15 [] (.br 24 zn24 [] [25,26] (.br 27 zn23 [] [] .fin .fin) .fin) .fin) .fin) .fin) .fin) .fin) .fin))else([],.fin)
def F279:List UInt8×List Cst×Int×Int×Int×List Int×List Fld×List Mth×Bool→Option (List Cst×Int×Int×Int×List Int×List Fld×List Mth×Bool):=fun(v1,o0,o1,o2,o3,o4,o5,o6,o7)=>bindE (Y:=List UInt8×Bool×List Cst×Int×Int×Int×List Int×List Fld×List Mth×Bool) (cndO (decide (2<(v1.length:Int))) (grdO (decide (2≤(v1.length:Int))) (some (inl (v1,decide (List.drop (0:Nat) (List.take (2:Nat) v1)=[(32:UInt8),32]),o0,o1,o2,o3,o4,o5,o6,o7)))) (some (inl (v1,false,o0,o1,o2,o3,o4,o5,o6,o7)))) fun(v11,v13,o01,o11,o21,o31,o41,o51,o61,o71)=>cndO v13 (grdO (decide (2≤(v11.length:Int))&&decide ((v11.length:Int)≤(v11.length:Int))) (zAA (F278 (List.drop (2:Nat) (List.take (Int.toNat (v11.length:Int)) v11),(32:Int),(4:Int))) fun y=>zAA (F309 (y,o01,o11,o21,o31,o41,o51,o61,o71)) fun(y1,y2,y3,y4,y5,y6,x,x1)=>some ((y1,y2,y3,y4,y5,y6,x,x1)))) (zAA (F278 (v11,32,6)) fun y=>bindE (Y:=List (List UInt8)×Bool×List Cst×Int×Int×Int×List Int×List Fld×List Mth×Bool) (some (inl (y,decide (0<(o61.length:Int)),o01,o11,o21,o31,o41,o51,o61,o71))) fun(v4,v5,o02,o12,o22,o32,o42,o52,o62,o72)=>bindE (Y:=List Cst×Int×Int×Int×List Int×List Fld×List Mth×Bool) (bindE (Y:=List (List UInt8)×Bool×Bool×List Cst×Int×Int×Int×List Int×List Fld×List Mth×Bool) (grdO (decide (0<(v4.length:Int))) (atO v4 (nat_lit 0) fun x=>cndO (decide (x=[(99:UInt8),108,97,115,115])) (cndO (decide ((v4.length:Int)=4)) (some (inl (v4,v5,decide (o22=0),o02,o12,o22,o32,o42,o52,o62,o72))) (some (inl (v4,v5,false,o02,o12,o22,o32,o42,o52,o62,o72)))) (some (inl (v4,v5,false,o02,o12,o22,o32,o42,o52,o62,o72))))) fun(v41,v51,v31,o03,o13,o23,o33,o43,o53,o63,o73)=>cndO v31 (grdO (decide (1<(v41.length:Int))) (atO v41 (nat_lit 1) fun x=>zAA (F310 (x,o03,o13,o23,o33,o43,o53,o63,o73)) fun(y1,y2,y3,y4,y5,y6,x1,x2,x3)=>grdO (decide (2<(v41.length:Int))) (atO v41 (nat_lit 2) fun x4=>zAA (F310 (x4,y2,y3,y1,y5,y6,x1,x2,x3)) fun(y7,y8,y9,y10,y11,y12,x5,x6,x7)=>grdO (decide (3<(v41.length:Int))) (atO v41 (nat_lit 3) fun x8=>zAA (F311 (x8,y8,y9,y10,y7,y12,x5,x6,x7)) fun(y13,y14,y15,y16,y17,y18,x9,x10,x11)=>some (inl (y14,y13,y16,y17,y18,x9,x10,x11)))))) (bindE (Y:=List (List UInt8)×Bool×Bool×List Cst×Int×Int×Int×List Int×List Fld×List Mth×Bool) (grdO (decide (0<(v41.length:Int))) (atO v41 (nat_lit 0) fun x=>cndO (decide (x=[(102:UInt8),97,99,101])) (some (inl (v41,v51,decide ((v41.length:Int)=2),o03,o13,o23,o33,o43,o53,o63,o73))) (some (inl (v41,v51,false,o03,o13,o23,o33,o43,o53,o63,o73))))) fun(v42,v52,v76,o04,o14,o24,o34,o44,o54,o64,o74)=>cndO v76 (grdO (decide (1<(v42.length:Int))) (atO v42 (nat_lit 1) fun x=>zAA (F5000310 (x,(o04,o14,o24,o34,o54,o64,o74),o44)) fun(y1,(y2,y3,y4,y5,y6,x1,x2),x3)=>grdO (decide (x3.length+1≤9223372036854775807)&&decide ((x3.length+1)*8≤140737488355328)) (some (inl (y2,y3,y4,y5,x3++[y1],y6,x1,x2))))) (bindE (Y:=List (List UInt8)×Bool×Bool×List Cst×Int×Int×Int×List Int×List Fld×List Mth×Bool) (grdO (decide (0<(v42.length:Int))) (atO v42 (nat_lit 0) fun x=>cndO (decide (x=[(102:UInt8),105,101,108,100])) (some (inl (v42,v52,decide ((v42.length:Int)=4),o04,o14,o24,o34,o44,o54,o64,o74))) (some (inl (v42,v52,false,o04,o14,o24,o34,o44,o54,o64,o74))))) fun(v43,v53,v102,o05,o15,o25,o35,o45,o55,o65,o75)=>cndO v102 (grdO (decide (1<(v43.length:Int))) (atO v43 (nat_lit 1) fun x=>grdO (decide (2<(v43.length:Int))) (atO v43 (nat_lit 2) fun x1=>grdO (decide (3<(v43.length:Int))) (atO v43 (nat_lit 3) fun x2=>zAA (F6000312 (x,(o05,o15,o25,o35,o45,o65,o75),o55)) fun(y1,(y2,y3,y4,y5,y6,x3,x4),x5)=>seqU (seqU (grdO (decide (2<(v43.length:Int))) (some ())) (seqU (atO v43 (nat_lit 2) fun x6=>grdO (decide (x6=x1)) (some ())) (seqU (grdO (decide (3<(v43.length:Int))) (some ())) (seqU (atO v43 (nat_lit 3) fun x6=>grdO (decide (x6=x2)) (some ())) (some ()))))) (zAA (F6000312 (x1,(y2,y3,y4,y5,y6,x3,x4),x5)) fun(y7,(y8,y9,y10,y11,y12,x6,x7),x8)=>seqU (seqU (grdO (decide (3<(v43.length:Int))) (some ())) (seqU (atO v43 (nat_lit 3) fun x9=>grdO (decide (x9=x2)) (some ())) (some ()))) (zAA (F6000311 (x2,(y8,y9,y10,y11,y12,x6,x7),x8)) fun(y13,(y14,y15,y16,y17,y18,x9,x10),x11)=>grdO (decide (x11.length+1≤9223372036854775807)&&decide ((x11.length+1)*24≤140737488355328)) (some (inl (y14,y15,y16,y17,y18,x11++[(y13,y1,y7)],x9,x10))))))))) (bindE (Y:=List (List UInt8)×Bool×Bool×List Cst×Int×Int×Int×List Int×List Fld×List Mth×Bool) (grdO (decide (0<(v43.length:Int))) (atO v43 (nat_lit 0) fun x=>cndO (decide (x=[(109:UInt8),101,116,104,111,100])) (cndO (decide ((v43.length:Int)=4)) (some (inl (v43,v53,true,o05,o15,o25,o35,o45,o55,o65,o75))) (some (inl (v43,v53,decide ((v43.length:Int)=6),o05,o15,o25,o35,o45,o55,o65,o75)))) (some (inl (v43,v53,false,o05,o15,o25,o35,o45,o55,o65,o75))))) fun(v44,v54,v139,o06,o16,o26,o36,o46,o56,o66,o76)=>cndO v139 (zAA (F313 (v44,o06,o16,o26,o36,o46,o56,o66,o76)) fun(y1,y2,y3,y4,y5,y6,x,x1)=>some (inl (y1,y2,y3,y4,y5,y6,x,x1))) (bindE (Y:=List (List UInt8)×Bool×Bool×List Cst×Int×Int×Int×List Int×List Fld×List Mth×Bool) (grdO (decide (0<(v44.length:Int))) (atO v44 (nat_lit 0) fun x=>cndO (decide (x=[(116:UInt8),114,97,112])) (cndO (decide ((v44.length:Int)=5)) (some (inl (v44,v54,v54,o06,o16,o26,o36,o46,o56,o66,o76))) (some (inl (v44,v54,false,o06,o16,o26,o36,o46,o56,o66,o76)))) (some (inl (v44,v54,false,o06,o16,o26,o36,o46,o56,o66,o76))))) fun(v45,v55,v157,o07,o17,o27,o37,o47,o57,o67,o77)=>cndO v157 (zAA (F314 (v45,o07,o17,o27,o37,o47,o57,o67,o77)) fun(y1,y2,y3,y4,y5,y6,x,x1)=>some (inl (y1,y2,y3,y4,y5,y6,x,x1))) (bindE (Y:=List (List UInt8)×Bool×List Cst×Int×Int×Int×List Int×List Fld×List Mth×Bool) (grdO (decide (0<(v45.length:Int))) (atO v45 (nat_lit 0) fun x=>cndO (decide (x=[(102:UInt8),114,97,109,101])) (cndO (decide ((v45.length:Int)=4)) (some (inl (v45,v55,o07,o17,o27,o37,o47,o57,o67,o77))) (some (inl (v45,false,o07,o17,o27,o37,o47,o57,o67,o77)))) (some (inl (v45,false,o07,o17,o27,o37,o47,o57,o67,o77))))) fun(v46,v173,o08,o18,o28,o38,o48,o58,o68,o78)=>cndO v173 (grdO (decide (1<(v46.length:Int))) (atO v46 (nat_lit 1) fun x=>grdO (decide (2<(v46.length:Int))) (atO v46 (nat_lit 2) fun x1=>grdO (decide (3<(v46.length:Int))) (atO v46 (nat_lit 3) fun x2=>zAA (F315 (o08,o18,o28,o38,o48,o58,o68,o78)) fun(y1,y2,y3,y4,y5,y6,x3,x4,x5)=>seqU (seqU (grdO (decide (1<(v46.length:Int))) (some ())) (seqU (atO v46 (nat_lit 1) fun x6=>grdO (decide (x6=x)) (some ())) (seqU (grdO (decide (2<(v46.length:Int))) (some ())) (seqU (atO v46 (nat_lit 2) fun x6=>grdO (decide (x6=x1)) (some ())) (seqU (grdO (decide (3<(v46.length:Int))) (some ())) (seqU (atO v46 (nat_lit 3) fun x6=>grdO (decide (x6=x2)) (some ())) (some ()))))))) (zAA (F7000315 ((y3,y4,y5,y6,x3,x4,x5),y2)) fun(y7,(y8,y9,y10,y11,y12,x6,x7),x8)=>seqU (seqU (grdO (decide (1<(v46.length:Int))) (some ())) (seqU (atO v46 (nat_lit 1) fun x9=>grdO (decide (x9=x)) (some ())) (seqU (grdO (decide (2<(v46.length:Int))) (some ())) (seqU (atO v46 (nat_lit 2) fun x9=>grdO (decide (x9=x1)) (some ())) (seqU (grdO (decide (3<(v46.length:Int))) (some ())) (seqU (atO v46 (nat_lit 3) fun x9=>grdO (decide (x9=x2)) (some ())) (some ()))))))) (atO x8 y7 fun x9=>grdO (decide (y7=y7)&&decide (y7<x8.length)) (grdO (decide (y7=y7)&&decide (y7<x8.length)) (grdO (decide (y7=y7)&&decide (y7<x8.length)) (zAA (F807000311 (x,(y8,y9,y10,y11,y12,x6,x7),(x8,y7,x9.1,x9.2.1,x9.2.2.1,x9.2.2.2.1,x9.2.2.2.2.1,x9.2.2.2.2.2.1,x9.2.2.2.2.2.2.1),x9.2.2.2.2.2.2.2)) fun(y13,(y14,y15,y16,y17,y18,x10,x11),(x12,x13,x14,x15,x16,x17,x18,x19,x20),x21)=>seqU (seqU (grdO (decide (2<(v46.length:Int))) (some ())) (seqU (atO v46 (nat_lit 2) fun x22=>grdO (decide (x22=x1)) (some ())) (seqU (grdO (decide (3<(v46.length:Int))) (some ())) (seqU (atO v46 (nat_lit 3) fun x22=>grdO (decide (x22=x2)) (some ())) (seqU (grdO (y7==y7&&true) (some ())) (seqU (grdO (y7==y7&&true) (some ())) (seqU (grdO (decide (y7=x13)&&decide (x13<x12.length)) (grdO (decide (y7=x13)&&decide (x13<x12.length)) (grdO (decide (y7=x13)&&decide (x13<x12.length)) (some ())))) (some ())))))))) (zAA (F807000316 (x1,(y14,y15,y16,y17,y18,x10,x11),(x12,x13,x14,x15,x16,x17,x18,x19,x20),x21)) fun(y19,(y20,y21,y22,y23,y24,x22,x23),(x24,x25,x26,x27,x28,x29,x30,x31,x32),x33)=>seqU (seqU (grdO (decide (3<(v46.length:Int))) (some ())) (seqU (atO v46 (nat_lit 3) fun x34=>grdO (decide (x34=x2)) (some ())) (seqU (grdO (y7==y7&&true) (some ())) (seqU (grdO (y7==y7&&true) (some ())) (seqU (grdO (decide (y7=x25)&&decide (x25<x24.length)) (grdO (decide (y7=x25)&&decide (x25<x24.length)) (grdO (decide (y7=x25)&&decide (x25<x24.length)) (some ())))) (some ())))))) (zAA (F807000316 (x2,(y20,y21,y22,y23,y24,x22,x23),(x24,x25,x26,x27,x28,x29,x30,x31,x32),x33)) fun(y25,(y26,y27,y28,y29,y30,x34,x35),(x36,x37,x38,x39,x40,x41,x42,x43,x44),x45)=>let q1:=seqU (grdO (y7==y7&&true) (some ())) (seqU (grdO (y7==y7&&true) (some ())) (seqU (grdO (decide (y7=x37)&&decide (x37<x36.length)) (grdO (decide (y7=x37)&&decide (x37<x36.length)) (grdO (decide (y7=x37)&&decide (x37<x36.length)) (some ())))) (some ())));seqU q1 (seqU q1 (grdO (decide (x45.length+1≤9223372036854775807)&&decide ((x45.length+1)*56≤140737488355328)) (grdO (decide (y1=x37)&&decide (x37<x36.length)) (grdO (decide (x37<x36.length)) (some (inl (y26,y27,y28,y29,y30,x34,List.set x36 x37 (x38,x39,x40,x41,x42,x43,x44,x45++[(y13,y19,y25)]),x35)))))))))))))))))) (some (inl (o08,o18,o28,o38,o48,o58,o68,true))))))))) fun(o03,o13,o23,o33,o43,o53,o63,o73)=>some ((o03,o13,o23,o33,o43,o53,o63,o73)))
def tb279:=insT 279 (mkE 279 false [(0,[])] ti312 zUI F279 [] 213 [100000]) zIh
theorem ok279:zTb tb279:=okI zQO tp279 tv279 func279 rfl call279
abbrev ti69:SPat:=⟨[(0,.agg (pl plC))],[]⟩
def F69:Cls→Option Bool:=fun(c0,c1,c2,c3,c4,c5,c6) =>
 cndO (decide ((c0.length:Int)≤60))
 (cndO (decide ((c4.length:Int)≤3))
 (cndO (decide ((c5.length:Int)≤5))
 (some (decide ((c6.length:Int)≤6)))
 (some false))
 (some false))
 (some false)
def tb69:=insT 69 (mkE 69 true [] ti69 zDu F69 [.tmp 2] 25 []) tb279
theorem ok69:zTb tb69:=okI ok279 noPl noIv func69 rfl call69
abbrev ti135:SPat:=⟨[(0,.agg (pl zo4))],[]⟩
def tp135:Nat→List Nat×Plan:=fun id=>bif id==3 then([0,1,3,4,5,8,9],(.br 2 [1,0] [3,4,5,8,9] [] (.br 6 [5,4,3,2,1,0] [8,9] [7,10] (.br 11 zn13 [] [] .fin .fin) .fin) .fin))else bif id==5 then([0,1,3,4],(.br 2 [1,0] [3,4] [] (.br 5 zn25 [] [6] (.br 7 zn11 [] [] .fin .fin) .fin) .fin))else bif id==6 then([0,1,3,4,7,8],(.br 2 [1,0] [3,4,7,8] [] (.br 5 zn25 [7,8] [6] (.br 9 [8,7,5,4,3,2,1,0] [6] [10] (.br 11 zn13 [] [] .fin .fin) .fin) .fin) .fin))else([],.fin)
def F135:Cst→Option (List UInt8):=fun(c0,c1,c2,c3) =>
 cndO (decide (c0=1))
 (zAA (F134 c0) fun y =>
 seqU (seqU (grdO (decide (c1=c1)) (some ())) (seqU (grdO (decide ((c1.length:Int)=(c1.length:Int))) (some ())) (seqU (grdO (decide (c1=c1)) (some ())) (some ())))) (zAA (F134 (c1.length:Int)) fun y1 =>
 seqU (seqU (grdO (decide (c1=c1)) (some ())) (some ())) (grdO (decide (y.length+y1.length≤9223372036854775807)) (grdO (decide (List.length (y++y1)+c1.length≤9223372036854775807)) (some (y++y1++c1))))))
 (cndO (decide (c0=2))
 (zAA (F134 c0) fun y =>
 seqU (seqU (grdO (decide (c2=c2)) (some ())) (some ())) (zAA (F136 c2) fun y1 =>
 grdO (decide (y.length+y1.length≤9223372036854775807)) (some (y++y1))))
 (zAA (F134 c0) fun y =>
 seqU (seqU (grdO (decide (c2=c2)) (some ())) (seqU (grdO (decide (c3=c3)) (some ())) (some ()))) (zAA (F136 c2) fun y1 =>
 seqU (seqU (grdO (decide (c3=c3)) (some ())) (some ())) (grdO (decide (y.length+y1.length≤9223372036854775807)) (zAA (F136 c3) fun y2 =>
 seqU (seqU (grdO (decide (y.length+y1.length≤9223372036854775807)) (grdO (decide (y++y1=y++y1)) (some ()))) (some ())) (grdO (decide (List.length (y++y1)+y2.length≤9223372036854775807)) (some (y++y1++y2))))))))
def tb135:=insT 135 (mkE 135 true [] ti135 zEU F135 [.tmp 2] 38 []) tb69
theorem ok135:zTb tb135:=okI ok69 tp135 noIv func135 rfl call135
abbrev ti216:SPat:=⟨[(0,.sl zBg)],[]⟩
abbrev zTv:SPat:=⟨[(0,.sl zBg),(3,.s),(4,.i .i64)],[]⟩
def tv216:Nat→Option SPat:=fun k=>bif k==3 then some zTv else bif k==2000000 then some zBk else bif k==2000001 then some zTv else none
def F216:List Knd→Option (List UInt8):=fun list =>
 zAA (F134 (list.length:Int)) fun y =>
 bindE (Y:=List UInt8) (zAG (fun(list1,out,i) =>
 cndO (decide (i<(list1.length:Int)))
 (bindE (Y:=List Knd×List UInt8×Int) (grdO (decide (0≤i)) (atO list1 i.toNat fun x=>zAA (F134 x.1) fun y1 =>
 grdO (decide (out.length+y1.length≤9223372036854775807)) (grdO (decide (0≤i)) (atO list1 i.toNat fun x1=>cndO (decide (x1.1=3))
 (grdO (decide (0≤i)) (atO list1 i.toNat fun x2=>zAA (F136 x2.2) fun y2 =>
 grdO (decide (List.length (out++y1)+y2.length≤9223372036854775807)) (some (inl (list1,out++y1++y2,i)))))
 (some (inl (list1,out++y1,i))))))) fun(list2,out1,i1) =>
 some (inl (list2,out1,wrap .i64 (i1+1))))
 (some (inr (inl out)))) ((list,y,(0:Int)))) fun out =>
 some (out)
def tb216:=insT 216 (mkE 216 true [] ti216 zEU F216 [.tmp 2] 37 []) tb135
theorem ok216:zTb tb216:=okI ok135 noPl tv216 func216 rfl call216
abbrev ti137:SPat:=⟨[(0,.agg (pl plM))],[]⟩
abbrev ts137_6:SPat:=⟨[(1,.ptr 1 0),(3,.s),(4,.i .i64)],[.box 1 (pl plM)]⟩
abbrev ts137_12:SPat:=⟨[(1,.ptr 1 0),(3,.s),(6,.i .i64)],[.box 1 (pl plM)]⟩
abbrev zMA:SPat:=⟨[(1,.ptr 1 0),(3,.s)],[.box 1 (pl plM)]⟩
def tv137:Nat→Option SPat:=fun k=>bif k==6 then some ts137_6 else bif k==12 then some ts137_12 else bif k==2000000 then some zMA else bif k==2000002 then some zBk else none
def tp137:Nat→List Nat×Plan:=fun id=>bif id==1 then([0,1,3,4,7,8],(.br 2 [1,0] [3,4,7,8] [] (.br 5 zn25 [7,8] [6] (.br 9 [8,7,5,4,3,2,1,0] [6] [10] (.br 11 zn13 [] [] .fin .fin) .fin) .fin) .fin))else bif id==4 then([0,1,2,5,6,9,10,11,14,15,17,18,19],(.br 3 [2,1] [0,5,6,9,10,11,14,15,17,18,19] [4] (.br 7 [6,5,3,2,1] [0,9,10,11,14,15,17,18,19,4] [8] (.br 12 [11,10,9,7,6,5,3,2,1] [0,14,15,17,18,19,4,8] [13,16] (.br 20 [19,18,17,12,11,10,9,7,6,5,3,2,1] [0,14,15,4,8,13,16] [21] (.br 22 zn26 [] [] .fin .fin) .fin) .fin) .fin) .fin))else bif id==9 then([0,1,2,5,6,9,10,13,14],(.br 3 [2,1] [0,5,6,9,10,13,14] [4] (.br 7 [6,5,3,2,1] [0,9,10,13,14,4] [8] (.br 11 [10,9,7,6,5,3,2,1] [0,13,14,4,8] [12] (.br 15 [14,13,11,10,9,7,6,5,3,2,1] [0,4,8,12] [16] (.br 17 zn21 [] [] .fin .fin) .fin) .fin) .fin) .fin))else bif id==14 then(zn27,(.br 7 [6,5,4,3,2,1] [0,9,10,11,12,13,14,17,18,19,20,21,22] [8] (.br 15 [14,13,12,11,10,9,7,6,5,4,3,2,1] [0,17,18,19,20,21,22,8] [16] (.br 23 zn28 [0,8,16] [24] (.br 25 zn29 [] [] .fin .fin) .fin) .fin) .fin))else([],.fin)
def F137:Mth→Option (List UInt8):=fun(app0,app1,app2,app3,app4,app5,app6,app7)=>zAA (F134 app0) fun y=>seqU (seqU (grdO (decide (app1=app1)) (some ())) (seqU (grdO (decide (app2=app2)) (some ())) (some ()))) (zAA (F136 app1) fun y1=>seqU (seqU (grdO (decide (app2=app2)) (some ())) (some ())) (grdO (decide (y.length+y1.length≤9223372036854775807)) (zAA (F136 app2) fun y2=>seqU (seqU (grdO (decide (y.length+y1.length≤9223372036854775807)) (grdO (decide (y++y1=y++y1)) (some ()))) (some ())) (grdO (decide (List.length (y++y1)+y2.length≤9223372036854775807)) (cndO (decide (wrap .i64 (Int.tdiv (Int.tmod app0 (16:Int)) (8:Int))=1)) (some (y++y1++y2)) (zAA (F134 app3) fun y3=>seqU (seqU (grdO (decide (y++y1++y2=y++y1++y2)) (some ())) (seqU (grdO (decide (app4=app4)) (some ())) (seqU (grdO (decide (app5=app5)) (some ())) (seqU (grdO (decide ((app5.length:Int)=(app5.length:Int))) (some ())) (seqU (grdO (decide (app5=app5)) (some ())) (seqU (grdO (decide (app6=app6)) (some ())) (seqU (grdO (decide ((app6.length:Int)=(app6.length:Int))) (some ())) (some ())))))))) (grdO (decide (List.length (y++y1++y2)+y3.length≤9223372036854775807)) (zAA (F134 app4) fun y4=>seqU (seqU (grdO (decide (y++y1++y2=y++y1++y2)) (some ())) (seqU (grdO (decide (app5=app5)) (some ())) (seqU (grdO (decide ((app5.length:Int)=(app5.length:Int))) (some ())) (seqU (grdO (decide (app5=app5)) (some ())) (seqU (grdO (decide (app6=app6)) (some ())) (seqU (grdO (decide ((app6.length:Int)=(app6.length:Int))) (some ())) (seqU (grdO (decide (List.length (y++y1++y2)+y3.length≤9223372036854775807)) (grdO (decide (y++y1++y2++y3=y++y1++y2++y3)) (some ()))) (some ())))))))) (grdO (decide (List.length (y++y1++y2++y3)+y4.length≤9223372036854775807)) (zAA (F136 (app5.length:Int)) fun y5=>seqU (seqU (grdO (decide (y++y1++y2=y++y1++y2)) (some ())) (seqU (grdO (decide (app5=app5)) (some ())) (seqU (grdO (decide (app6=app6)) (some ())) (seqU (grdO (decide ((app6.length:Int)=(app6.length:Int))) (some ())) (seqU (grdO (decide (List.length (y++y1++y2)+y3.length≤9223372036854775807)) (grdO (decide (y++y1++y2++y3=y++y1++y2++y3)) (some ()))) (seqU (grdO (decide (List.length (y++y1++y2++y3)+y4.length≤9223372036854775807)) (grdO (decide (y++y1++y2++y3++y4=y++y1++y2++y3++y4)) (some ()))) (some ()))))))) (grdO (decide (List.length (y++y1++y2++y3++y4)+y5.length≤9223372036854775807)) (grdO (decide (List.length (y++y1++y2++y3++y4++y5)+app5.length≤9223372036854775807)) (zAA (F134 (app6.length:Int)) fun y6=>seqU (seqU (grdO (decide (y++y1++y2=y++y1++y2)) (some ())) (seqU (grdO (decide (app5=app5)) (some ())) (seqU (grdO (decide (List.length (y++y1++y2)+y3.length≤9223372036854775807)) (grdO (decide (y++y1++y2++y3=y++y1++y2++y3)) (some ()))) (seqU (grdO (decide (List.length (y++y1++y2++y3)+y4.length≤9223372036854775807)) (grdO (decide (y++y1++y2++y3++y4=y++y1++y2++y3++y4)) (some ()))) (seqU (grdO (decide (List.length (y++y1++y2++y3++y4)+y5.length≤9223372036854775807)) (grdO (decide (y++y1++y2++y3++y4++y5=y++y1++y2++y3++y4++y5)) (some ()))) (seqU (grdO (decide (List.length (y++y1++y2++y3++y4++y5)+app5.length≤9223372036854775807)) (grdO (decide (y++y1++y2++y3++y4++y5++app5=y++y1++y2++y3++y4++y5++app5)) (some ()))) (some ()))))))) (grdO (decide (List.length (y++y1++y2++y3++y4++y5++app5)+y6.length≤9223372036854775807)) (bindE (Y:=List UInt8×Mth) (zAG (fun(v3,v4,o0,o1,o2,o3,o4,o5,o6,o7)=>cndO (decide (v4<(o6.length:Int))) (grdO (decide (0≤v4)) (atO o6 v4.toNat fun x=>zAA (F136 x.1) fun y7=>seqU (seqU (grdO (decide (v3=v3)) (some ())) (seqU (grdO (decide (x.2.1=x.2.1)) (some ())) (seqU (grdO (decide (x.2.2.1=x.2.2.1)) (some ())) (seqU (grdO (decide (x.2.2.2=x.2.2.2)) (some ())) (some ()))))) (grdO (decide (v3.length+y7.length≤9223372036854775807)) (zAA (F136 x.2.1) fun y8=>seqU (seqU (grdO (decide (v3=v3)) (some ())) (seqU (grdO (decide (x.2.2.1=x.2.2.1)) (some ())) (seqU (grdO (decide (x.2.2.2=x.2.2.2)) (some ())) (seqU (grdO (decide (v3.length+y7.length≤9223372036854775807)) (grdO (decide (v3++y7=v3++y7)) (some ()))) (some ()))))) (grdO (decide (List.length (v3++y7)+y8.length≤9223372036854775807)) (zAA (F136 x.2.2.1) fun y9=>seqU (seqU (grdO (decide (v3=v3)) (some ())) (seqU (grdO (decide (x.2.2.2=x.2.2.2)) (some ())) (seqU (grdO (decide (v3.length+y7.length≤9223372036854775807)) (grdO (decide (v3++y7=v3++y7)) (some ()))) (seqU (grdO (decide (List.length (v3++y7)+y8.length≤9223372036854775807)) (grdO (decide (v3++y7++y8=v3++y7++y8)) (some ()))) (some ()))))) (grdO (decide (List.length (v3++y7++y8)+y9.length≤9223372036854775807)) (zAA (F136 x.2.2.2) fun y10=>seqU (seqU (grdO (decide (v3=v3)) (some ())) (seqU (grdO (decide (v3.length+y7.length≤9223372036854775807)) (grdO (decide (v3++y7=v3++y7)) (some ()))) (seqU (grdO (decide (List.length (v3++y7)+y8.length≤9223372036854775807)) (grdO (decide (v3++y7++y8=v3++y7++y8)) (some ()))) (seqU (grdO (decide (List.length (v3++y7++y8)+y9.length≤9223372036854775807)) (grdO (decide (v3++y7++y8++y9=v3++y7++y8++y9)) (some ()))) (some ()))))) (grdO (decide (List.length (v3++y7++y8++y9)+y10.length≤9223372036854775807)) (some (inl (v3++y7++y8++y9++y10,wrap .i64 (v4+1),o0,o1,o2,o3,o4,o5,o6,o7)))))))))))) (some (inr (inl (v3,o0,o1,o2,o3,o4,o5,o6,o7))))) ((y++y1++y2++y3++y4++y5++app5++y6,(0:Int),app0,app1,app2,app3,app4,app5,app6,app7))) fun(v3,o0,o1,o2,o3,o4,o5,o6,o7)=>zAA (F134 (o7.length:Int)) fun y7=>grdO (decide (v3.length+y7.length≤9223372036854775807)) (bindE (Y:=List UInt8) (zAG (fun(v31,v6,o01,o11,o21,o31,o41,o51,o61,o71)=>cndO (decide (v6<(o71.length:Int))) (grdO (decide (0≤v6)) (atO o71 v6.toNat fun x=>grdO (decide (0≤v6)) (atO o71 v6.toNat fun x1=>grdO (decide (0≤v6)) (atO o71 v6.toNat fun x2=>zAA (F136 x.1) fun y8=>let q1:=grdO (decide (0≤v6)) (atO o71 v6.toNat fun x3=>grdO (decide (x3.1=x2.1)&&(decide (x3.2.1=x2.2.1)&&(decide (x3.2.2=x2.2.2)&&true))) (some ()));seqU (seqU (grdO (decide (v31=v31)) (some ())) (seqU (grdO (decide (o71=o71)) (some ())) (seqU (grdO (decide (v6=v6)) (some ())) (seqU (grdO (decide (0≤v6)) (atO o71 v6.toNat fun x3=>grdO (decide (x3.1=x1.1)&&(decide (x3.2.1=x1.2.1)&&(decide (x3.2.2=x1.2.2)&&true))) (some ()))) (seqU (grdO (decide (x1.2.1=x1.2.1)&&(decide (x1.2.2=x1.2.2)&&true)) (some ())) (seqU (grdO (decide (x1.2.1=x1.2.1)) (some ())) (seqU (grdO (decide (o71=o71)) (some ())) (seqU (grdO (decide (v6=v6)) (some ())) (seqU q1 (seqU (grdO (decide (x2.2.2=x2.2.2)&&true) (some ())) (seqU (grdO (decide (x2.2.2=x2.2.2)) (some ())) (some ())))))))))))) (grdO (decide (v31.length+y8.length≤9223372036854775807)) (zAA (F216 x1.2.1) fun y9=>seqU (seqU (grdO (decide (v31=v31)) (some ())) (seqU (grdO (decide (o71=o71)) (some ())) (seqU (grdO (decide (v6=v6)) (some ())) (seqU q1 (seqU (grdO (decide (x2.2.2=x2.2.2)&&true) (some ())) (seqU (grdO (decide (x2.2.2=x2.2.2)) (some ())) (seqU (grdO (decide (v31.length+y8.length≤9223372036854775807)) (grdO (decide (v31++y8=v31++y8)) (some ()))) (some ())))))))) (grdO (decide (List.length (v31++y8)+y9.length≤9223372036854775807)) (zAA (F216 x2.2.2) fun y10=>seqU (seqU (grdO (decide (v31=v31)) (some ())) (seqU (grdO (decide (v31.length+y8.length≤9223372036854775807)) (grdO (decide (v31++y8=v31++y8)) (some ()))) (seqU (grdO (decide (List.length (v31++y8)+y9.length≤9223372036854775807)) (grdO (decide (v31++y8++y9=v31++y8++y9)) (some ()))) (some ())))) (grdO (decide (List.length (v31++y8++y9)+y10.length≤9223372036854775807)) (some (inl (v31++y8++y9++y10,wrap .i64 (v6+1),o01,o11,o21,o31,o41,o51,o61,o71)))))))))))) (some (inr (inl v31)))) ((v3++y7,(0:Int),o0,o1,o2,o3,o4,o5,o6,o7))) fun v31=>some v31))))))))))))))))
def tb137:=insT 137 (mkE 137 true [] ti137 zEU F137 [.tmp 2] 114 []) tb216
theorem ok137:zTb tb137:=okI ok216 tp137 tv137 func137 rfl call137
abbrev zRC:SPat:=⟨[(1,.ptr 1 0),(3,.s),(4,.i .i64)],zo11⟩
abbrev ts55_8:SPat:=⟨[(1,.ptr 1 0),(3,.s),(5,.i .i64)],zo11⟩
abbrev ts55_13:SPat:=⟨[(1,.ptr 1 0),(3,.s),(6,.i .i64)],zo11⟩
abbrev ts55_18:SPat:=⟨[(1,.ptr 1 0),(3,.s),(7,.i .i64)],zo11⟩
abbrev zBI:SPat:=⟨[(1,.ptr 1 0),(3,.s)],zo11⟩
def tv55:Nat→Option SPat:=fun k=>bif k==3 then some zRC else bif k==8 then some ts55_8 else bif k==13 then some ts55_13 else bif k==18 then some ts55_18 else bif k==2000000 then some zBI else bif k==2000002 then some zBI else bif k==2000004 then some zBI else bif k==2000006 then some zBk else none
def tp55:Nat→List Nat×Plan:=fun id=>bif id==6 then([0,1,2,5,6,9,10,13,14,15],(.br 3 [2,1] [0,5,6,9,10,13,14,15] [4] (.br 7 [6,5,3,2,1] [0,9,10,13,14,15,4] [8] (.br 11 [10,9,7,6,5,3,2,1] [0,13,14,15,4,8] [12] (.br 16 [15,14,13,11,10,9,7,6,5,3,2,1] [0,4,8,12] [17] (.br 18 zn4 [] [] .fin .fin) .fin) .fin) .fin) .fin))else bif id==15 then(zn27,(.br 7 [6,5,4,3,2,1] [0,9,10,11,12,13,14,17,18,19,20,21,22] [8] (.br 15 [14,13,12,11,10,9,7,6,5,4,3,2,1] [0,17,18,19,20,21,22,8] [16] (.br 23 zn28 [0,8,16] [24] (.br 25 zn29 [] [] .fin .fin) .fin) .fin) .fin))else([],.fin)
def F55:Cls→Option (List UInt8):=fun(app0,app1,app2,app3,app4,app5,app6)=>zAA (F134 (app0.length:Int)) fun y=>grdO (decide ((4:Nat)+y.length≤9223372036854775807)) (bindE (Y:=List UInt8×Cls) (zAG (fun(v3,v4,o0,o1,o2,o3,o4,o5,o6)=>cndO (decide (v4<(o0.length:Int))) (grdO (decide (0≤v4)) (atO o0 v4.toNat fun x=>zAA (F135 (x.1,x.2.1,x.2.2.1,x.2.2.2)) fun y1=>grdO (decide (v3.length+y1.length≤9223372036854775807)) (some (inl (v3++y1,wrap .i64 (v4+1),o0,o1,o2,o3,o4,o5,o6))))) (some (inr (inl (v3,o0,o1,o2,o3,o4,o5,o6))))) (([(83:UInt8),84,79,87]++y,(0:Int),app0,app1,app2,app3,app4,app5,app6))) fun(v3,o0,o1,o2,o3,o4,o5,o6)=>zAA (F134 o1) fun y1=>seqU (seqU (grdO (decide (v3=v3)) (some ())) (seqU (grdO (decide (o2=o2)) (some ())) (seqU (grdO (decide (o3=o3)) (some ())) (seqU (grdO (decide (o4=o4)) (some ())) (seqU (grdO (decide ((o4.length:Int)=(o4.length:Int))) (some ())) (some ())))))) (grdO (decide (v3.length+y1.length≤9223372036854775807)) (zAA (F136 o2) fun y2=>seqU (seqU (grdO (decide (v3=v3)) (some ())) (seqU (grdO (decide (o3=o3)) (some ())) (seqU (grdO (decide (o4=o4)) (some ())) (seqU (grdO (decide ((o4.length:Int)=(o4.length:Int))) (some ())) (seqU (grdO (decide (v3.length+y1.length≤9223372036854775807)) (grdO (decide (v3++y1=v3++y1)) (some ()))) (some ())))))) (grdO (decide (List.length (v3++y1)+y2.length≤9223372036854775807)) (zAA (F136 o3) fun y3=>seqU (seqU (grdO (decide (v3=v3)) (some ())) (seqU (grdO (decide (o4=o4)) (some ())) (seqU (grdO (decide ((o4.length:Int)=(o4.length:Int))) (some ())) (seqU (grdO (decide (v3.length+y1.length≤9223372036854775807)) (grdO (decide (v3++y1=v3++y1)) (some ()))) (seqU (grdO (decide (List.length (v3++y1)+y2.length≤9223372036854775807)) (grdO (decide (v3++y1++y2=v3++y1++y2)) (some ()))) (some ())))))) (grdO (decide (List.length (v3++y1++y2)+y3.length≤9223372036854775807)) (zAA (F134 (o4.length:Int)) fun y4=>seqU (seqU (grdO (decide (v3=v3)) (some ())) (seqU (grdO (decide (v3.length+y1.length≤9223372036854775807)) (grdO (decide (v3++y1=v3++y1)) (some ()))) (seqU (grdO (decide (List.length (v3++y1)+y2.length≤9223372036854775807)) (grdO (decide (v3++y1++y2=v3++y1++y2)) (some ()))) (seqU (grdO (decide (List.length (v3++y1++y2)+y3.length≤9223372036854775807)) (grdO (decide (v3++y1++y2++y3=v3++y1++y2++y3)) (some ()))) (some ()))))) (grdO (decide (List.length (v3++y1++y2++y3)+y4.length≤9223372036854775807)) (bindE (Y:=List UInt8×Cls) (zAG (fun(v31,v5,o01,o11,o21,o31,o41,o51,o61)=>cndO (decide (v5<(o41.length:Int))) (grdO (decide (0≤v5)) (atO o41 v5.toNat fun x=>zAA (F136 x) fun y5=>grdO (decide (v31.length+y5.length≤9223372036854775807)) (some (inl (v31++y5,wrap .i64 (v5+1),o01,o11,o21,o31,o41,o51,o61))))) (some (inr (inl (v31,o01,o11,o21,o31,o41,o51,o61))))) ((v3++y1++y2++y3++y4,(0:Int),o0,o1,o2,o3,o4,o5,o6))) fun(v31,o01,o11,o21,o31,o41,o51,o61)=>zAA (F134 (o51.length:Int)) fun y5=>grdO (decide (v31.length+y5.length≤9223372036854775807)) (bindE (Y:=List UInt8×Cls) (zAG (fun(v32,v6,o02,o12,o22,o32,o42,o52,o62)=>cndO (decide (v6<(o52.length:Int))) (grdO (decide (0≤v6)) (atO o52 v6.toNat fun x=>grdO (decide (0≤v6)) (atO o52 v6.toNat fun x1=>grdO (decide (0≤v6)) (atO o52 v6.toNat fun x2=>zAA (F134 x.1) fun y6=>let q1:=grdO (decide (0≤v6)) (atO o52 v6.toNat fun x3=>grdO (decide (x3.1=x2.1)&&(decide (x3.2.1=x2.2.1)&&(decide (x3.2.2=x2.2.2)&&true))) (some ()));seqU (seqU (grdO (decide (v32=v32)) (some ())) (seqU (grdO (decide (o52=o52)) (some ())) (seqU (grdO (decide (v6=v6)) (some ())) (seqU (grdO (decide (0≤v6)) (atO o52 v6.toNat fun x3=>grdO (decide (x3.1=x1.1)&&(decide (x3.2.1=x1.2.1)&&(decide (x3.2.2=x1.2.2)&&true))) (some ()))) (seqU (grdO (decide (x1.2.1=x1.2.1)&&(decide (x1.2.2=x1.2.2)&&true)) (some ())) (seqU (grdO (decide (x1.2.1=x1.2.1)) (some ())) (seqU (grdO (decide (o52=o52)) (some ())) (seqU (grdO (decide (v6=v6)) (some ())) (seqU q1 (seqU (grdO (decide (x2.2.2=x2.2.2)&&true) (some ())) (seqU (grdO (decide (x2.2.2=x2.2.2)) (some ())) (some ())))))))))))) (grdO (decide (v32.length+y6.length≤9223372036854775807)) (zAA (F136 x1.2.1) fun y7=>seqU (seqU (grdO (decide (v32=v32)) (some ())) (seqU (grdO (decide (o52=o52)) (some ())) (seqU (grdO (decide (v6=v6)) (some ())) (seqU q1 (seqU (grdO (decide (x2.2.2=x2.2.2)&&true) (some ())) (seqU (grdO (decide (x2.2.2=x2.2.2)) (some ())) (seqU (grdO (decide (v32.length+y6.length≤9223372036854775807)) (grdO (decide (v32++y6=v32++y6)) (some ()))) (some ())))))))) (grdO (decide (List.length (v32++y6)+y7.length≤9223372036854775807)) (zAA (F136 x2.2.2) fun y8=>seqU (seqU (grdO (decide (v32=v32)) (some ())) (seqU (grdO (decide (v32.length+y6.length≤9223372036854775807)) (grdO (decide (v32++y6=v32++y6)) (some ()))) (seqU (grdO (decide (List.length (v32++y6)+y7.length≤9223372036854775807)) (grdO (decide (v32++y6++y7=v32++y6++y7)) (some ()))) (some ())))) (grdO (decide (List.length (v32++y6++y7)+y8.length≤9223372036854775807)) (some (inl (v32++y6++y7++y8,wrap .i64 (v6+1),o02,o12,o22,o32,o42,o52,o62)))))))))))) (some (inr (inl (v32,o02,o12,o22,o32,o42,o52,o62))))) ((v31++y5,(0:Int),o01,o11,o21,o31,o41,o51,o61))) fun(v32,o02,o12,o22,o32,o42,o52,o62)=>zAA (F134 (o62.length:Int)) fun y6=>grdO (decide (v32.length+y6.length≤9223372036854775807)) (bindE (Y:=List UInt8) (zAG (fun(v33,v7,o03,o13,o23,o33,o43,o53,o63)=>cndO (decide (v7<(o63.length:Int))) (grdO (decide (0≤v7)) (atO o63 v7.toNat fun x=>zAA (F137 (x.1,x.2.1,x.2.2.1,x.2.2.2.1,x.2.2.2.2.1,x.2.2.2.2.2.1,x.2.2.2.2.2.2.1,x.2.2.2.2.2.2.2)) fun y7=>grdO (decide (v33.length+y7.length≤9223372036854775807)) (some (inl (v33++y7,wrap .i64 (v7+1),o03,o13,o23,o33,o43,o53,o63))))) (some (inr (inl v33)))) ((v32++y6,(0:Int),o02,o12,o22,o32,o42,o52,o62))) fun v33=>some v33)))))))))))
def tb55:=insT 55 (mkE 55 true [] ti69 zEU F55 [.tmp 2] 121 []) tb137
theorem ok55:zTb tb55:=okI ok137 tp55 tv55 func55 rfl call55
abbrev ti219:SPat:=⟨[(0,.ptr 100000 0),(1,.i .i64)],zo12⟩
abbrev to219:SPat:=⟨[(4,.s)],zo12⟩
abbrev zLm:SPat:=⟨[(0,.ptr 100000 0),(1,.i .i64),(22,.b)],zo12⟩
def tv219:Nat→Option SPat:=fun k=>bif k==1000002 then some zLm else none
def tp219:Nat→List Nat×Plan:=fun id=>bif id==1 then([0,1,2,3,4,5,6,7,8,9,10,11,12,13,14,15,16,17],.fin)else bif id==5 then([0,1,2,3,4,5,6,7,8,9,10,11,12,13,14],(.br 15 zn30 [] [] .fin .fin))else([],.fin)
def F219:Int×List UInt8×Int×Bool→Option (List UInt8×List UInt8×Int×Bool):=fun(n,o0,o1,o2) =>
 bindE (Y:=Int×Bool×List UInt8×Int×Bool) (cndO (o2)
 (some (inl (n,true,o0,o1,o2)))
 (some (inl (n,decide ((o0.length:Int)<wrap .i64 (o1+n)),o0,o1,o2)))) fun(n1,v22,o01,o11,o21) =>
 cndO (v22)
 (some (([],o01,o11,true)))
 (grdO (decide (0≤wrap .i64 (wrap .i64 (o11+n1)-n1))&&decide (wrap .i64 (wrap .i64 (o11+n1)-n1)≤wrap .i64 (o11+n1))&&decide (wrap .i64 (o11+n1)≤(o01.length:Int))) (some ((List.drop (Int.toNat (wrap .i64 (wrap .i64 (o11+n1)-n1))) (List.take (Int.toNat (wrap .i64 (o11+n1))) o01),o01,wrap .i64 (o11+n1),o21))))
def tb219:=insT 219 (mkE 219 false [(0,[])] ti219 to219 F219 [.tmp 4] 50 [100000]) tb55
theorem ok219:zTb tb219:=okI ok55 tp219 tv219 func219 rfl call219
abbrev zPu:SPat:=⟨[(0,.ptr 100000 0)],zo12⟩
abbrev to221:SPat:=⟨[(2,.i .i64)],zo12⟩
abbrev zLj:SPat:=⟨[(0,.ptr 100000 0),(18,.b)],zo12⟩
def tv221:Nat→Option SPat:=fun k=>bif k==1000002 then some zLj else none
def tp221:Nat→List Nat×Plan:=fun id=>bif id==1 then([0,1,2,3,4,5,6,7,8,9,10,11,12,13,14,15],.fin)else bif id==5 then(zn12,(.br 11 zn13 [] [] .fin .fin))else([],.fin)
def F221:List UInt8×Int×Bool→Option (Int×List UInt8×Int×Bool):=fun(o0,o1,o2) =>
 bindE (Y:=Bool×List UInt8×Int×Bool) (cndO (o2)
 (some (inl (true,o0,o1,o2)))
 (some (inl (decide ((o0.length:Int)≤o1),o0,o1,o2)))) fun(v18,o01,o11,o21) =>
 cndO (v18)
 (some (((0:Int),o01,o11,true)))
 (grdO (decide (0≤wrap .i64 (wrap .i64 (o11+1)-1))) (atO o01 (Int.toNat (wrap .i64 (wrap .i64 (o11+1)-1))) fun x=>some ((wrap .i64 (x.toNat:Int),o01,wrap .i64 (o11+1),o21))))
def tb221:=insT 221 (mkE 221 false [(0,[])] zPu to221 F221 [.tmp 2] 41 [100000]) tb219
theorem ok221:zTb tb221:=okI ok219 tp221 tv221 func221 rfl call221
def F222:List UInt8×Int×Bool→Option (Int×List UInt8×Int×Bool):=fun(o0,o1,o2) =>
 zAA (F221 (o0,o1,o2)) fun(y,y1,y2,y3) =>
 zAA (F221 (y1,y2,y3)) fun(y4,y5,y6,y7) =>
 some ((wrap .i64 (wrap .i64 (y*256)+y4),y5,y6,y7))
def tb222:=insT 222 (mkE 222 false [(0,[])] zPu to221 F222 [.tmp 2] 13 [100000]) tb221
theorem ok222:zTb tb222:=okI ok221 noPl noIv func222 rfl call222
abbrev to280:SPat:=⟨[(2,.ptr 2 0)],[.box 2 (pl zo4),.box 100000 (pl plS)]⟩
abbrev zLT:SPat:=⟨[(0,.ptr 100000 0),(2,.ptr 2 0),(3,.ptr 3 0),(24,.b)],[.box 2 (pl zo4),.box 3 (pl zo4),.box 100000 (pl plS)]⟩
abbrev zLS:SPat:=⟨[(2,.ptr 2 0),(3,.ptr 3 0)],[.box 2 (pl zo4),.box 3 (pl zo4),.box 100000 (pl plS)]⟩
def tv280:Nat→Option SPat:=fun k=>bif k==1000012 then some zLT else bif k==2000000 then some zLS else none
def F280:List UInt8×Int×Bool→Option ((Cst)×List UInt8×Int×Bool):=fun(o0,o1,o2) =>
 zAA (F221 (o0,o1,o2)) fun(y,y1,y2,y3) =>
 bindE (Y:=(Cst)×(Cst)×List UInt8×Int×Bool) (cndO (decide (y=1))
 (zAA (F221 (y1,y2,y3)) fun(y4,y5,y6,y7) =>
 zAA (F219 (y4,y5,y6,y7)) fun(y8,y9,y10,y11) =>
 some (inl (((0:Int),[],(0:Int),(0:Int)),(y,y8,(0:Int),(0:Int)),y9,y10,y11)))
 (cndO (decide (y=2))
 (zAA (F222 (y1,y2,y3)) fun(y4,y5,y6,y7) =>
 some (inl (((0:Int),[],(0:Int),(0:Int)),(y,[],y4,(0:Int)),y5,y6,y7)))
 (bindE (Y:=Bool×(Cst)×(Cst)×List UInt8×Int×Bool) (cndO (decide (y=3))
 (some (inl (true,((0:Int),[],(0:Int),(0:Int)),(y,[],(0:Int),(0:Int)),y1,y2,y3)))
 (cndO (decide (y=4))
 (some (inl (true,((0:Int),[],(0:Int),(0:Int)),(y,[],(0:Int),(0:Int)),y1,y2,y3)))
 (cndO (decide (y=5))
 (some (inl (true,((0:Int),[],(0:Int),(0:Int)),(y,[],(0:Int),(0:Int)),y1,y2,y3)))
 (some (inl (decide (y=6),((0:Int),[],(0:Int),(0:Int)),(y,[],(0:Int),(0:Int)),y1,y2,y3)))))) fun(v24,(o01,o11,o21,o3),(o02,o12,o22,o31),o03,o13,o23) =>
 cndO (v24)
 (zAA (F222 (o03,o13,o23)) fun(y4,y5,y6,y7) =>
 zAA (F222 (y5,y6,y7)) fun(y8,y9,y10,y11) =>
 some (inl ((o01,o11,o21,o3),(o02,o12,y4,y8),y9,y10,y11)))
 (some (inl ((o01,o11,o21,o3),(o02,o12,o22,o31),o03,o13,true)))))) fun((o01,o11,o21,o3),(o02,o12,o22,o31),o03,o13,o23) =>
 some (((o02,o12,o22,o31),o03,o13,o23))
def tb280:=insT 280 (mkE 280 false [(0,[])] zPu to280 F280 [.cell 2 27] 36 [100000]) tb222
theorem ok280:zTb tb280:=okI ok222 noPl tv280 func280 rfl call280
abbrev to220:SPat:=⟨[(2,.own tg27 true)],zo12⟩
abbrev zTt:SPat:=⟨[(0,.ptr 100000 0),(3,.own tg27 true),(4,.i .i64),(5,.i .i64)],zo12⟩
abbrev zLl:SPat:=⟨[(0,.ptr 100000 0),(3,.own tg27 true),(4,.i .i64)],zo12⟩
abbrev zLk:SPat:=⟨[(3,.own tg27 true)],zo12⟩
def tv220:Nat→Option SPat:=fun k=>bif k==6 then some zTt else bif k==1000005 then some zLl else bif k==1000008 then some zTt else bif k==2000000 then some zLk else none
def F220:List UInt8×Int×Bool→Option (List Cst×List UInt8×Int×Bool):=fun(o0,o1,o2) =>
 zAA (F221 (o0,o1,o2)) fun(y,y1,y2,y3) =>
 bindE (Y:=List Cst×Int×List UInt8×Int×Bool) (cndO (decide (60<y))
 (some (inl ([],y,y1,y2,true)))
 (some (inl ([],y,y1,y2,y3)))) fun(out,n,o01,o11,o21) =>
 bindE (Y:=List Cst×List UInt8×Int×Bool) (zAG (fun(out1,n1,i,o02,o12,o22) =>
 bindE (Y:=List Cst×Int×Int×List UInt8×Int×Bool) (cndO (decide (i<n1))
 (cndO (!o22)
 (some (inl (out1,n1,i,o02,o12,o22)))
 (some (inr (inr (inl (out1,o02,o12,o22))))))
 (some (inr (inr (inl (out1,o02,o12,o22)))))) fun(out2,n2,i1,o03,o13,o23) =>
 zAA (F280 (o03,o13,o23)) fun((y4,y5,y6,y7),y8,y9,x) =>
 grdO (decide (out2.length+1≤9223372036854775807)&&decide ((out2.length+1)*40≤140737488355328)) (some (inl (out2++[(y4,y5,y6,y7)],n2,wrap .i64 (i1+1),y8,y9,x)))) ((out,n,(0:Int),o01,o11,o21))) fun(out1,o02,o12,o22) =>
 some ((out1,o02,o12,o22))
def tb220:=insT 220 (mkE 220 false [(0,[])] zPu to220 F220 [.tmp 2] 32 [100000]) tb280
theorem ok220:zTb tb220:=okI ok280 noPl tv220 func220 rfl call220
abbrev to317:SPat:=⟨[(2,.own zBg true)],zo12⟩
abbrev zPg:SPat:=⟨[(0,.ptr 100000 0),(3,.own zBg true),(4,.i .i64),(5,.i .i64)],zo12⟩
abbrev zKz:SPat:=⟨[(0,.ptr 100000 0),(3,.own zBg true),(4,.i .i64)],zo12⟩
abbrev zKy:SPat:=⟨[(0,.ptr 100000 0),(3,.own zBg true),(4,.i .i64),(5,.i .i64),(6,.ptr 6 0)],[.box 6 (pl [.i .i64,.i .i64]),.box 100000 (pl plS)]⟩
abbrev zKx:SPat:=⟨[(3,.own zBg true)],zo12⟩
def tv317:Nat→Option SPat:=fun k=>bif k==6 then some zPg else bif k==1000005 then some zKz else bif k==1000008 then some zPg else bif k==1000011 then some zKy else bif k==2000000 then some zKx else bif k==2000001 then some zPg else none
def F317:List UInt8×Int×Bool→Option (List Knd×List UInt8×Int×Bool):=fun(o0,o1,o2) =>
 zAA (F221 (o0,o1,o2)) fun(y,y1,y2,y3) =>
 bindE (Y:=List Knd×Int×List UInt8×Int×Bool) (cndO (decide (8<y))
 (some (inl ([],y,y1,y2,true)))
 (some (inl ([],y,y1,y2,y3)))) fun(out,n,o01,o11,o21) =>
 bindE (Y:=List Knd×List UInt8×Int×Bool) (zAG (fun(out1,n1,i,o02,o12,o22) =>
 bindE (Y:=List Knd×Int×Int×List UInt8×Int×Bool) (cndO (decide (i<n1))
 (cndO (!o22)
 (some (inl (out1,n1,i,o02,o12,o22)))
 (some (inr (inr (inl (out1,o02,o12,o22))))))
 (some (inr (inr (inl (out1,o02,o12,o22)))))) fun(out2,n2,i1,o03,o13,o23) =>
 bindE (Y:=List Knd×Int×Int×List UInt8×Int×Bool) (zAA (F221 (o03,o13,o23)) fun(y4,y5,y6,y7) =>
 bindE (Y:=List Knd×Int×Int×(Int×Int)×List UInt8×Int×Bool) (cndO (decide (y4=3))
 (zAA (F222 (y5,y6,y7)) fun(y8,y9,y10,y11) =>
 some (inl (out2,n2,i1,(y4,y8),y9,y10,y11)))
 (some (inl (out2,n2,i1,(y4,(0:Int)),y5,y6,y7)))) fun(out3,n3,i2,(o04,o14),o05,o15,o24) =>
 cndO (decide (3<o04))
 (grdO (decide (out3.length+1≤9223372036854775807)&&decide ((out3.length+1)*16≤140737488355328)) (some (inl (out3++[(o04,o14)],n3,i2,o05,o15,true))))
 (grdO (decide (out3.length+1≤9223372036854775807)&&decide ((out3.length+1)*16≤140737488355328)) (some (inl (out3++[(o04,o14)],n3,i2,o05,o15,o24))))) fun(out3,n3,i2,o04,o14,o24) =>
 some (inl (out3,n3,wrap .i64 (i2+1),o04,o14,o24))) ((out,n,(0:Int),o01,o11,o21))) fun(out1,o02,o12,o22) =>
 some ((out1,o02,o12,o22))
def tb317:=insT 317 (mkE 317 false [(0,[])] zPu to317 F317 [.tmp 2] 47 [100000]) tb220
theorem ok317:zTb tb317:=okI ok220 noPl tv317 func317 rfl call317
abbrev ti281:SPat:=⟨[(0,.ptr 100000 0),(1,.agg (pl [.i .i64,.i .i64,.i .i64,.i .i64,.i .i64,.s,.nil,.nil]))],zo12⟩
abbrev to281:SPat:=⟨[(4,.ptr 4 0)],[.box 4 (pl plN),.box 100000 (pl plS)]⟩
abbrev zRE:SPat:=⟨[(0,.ptr 100000 0),(3,.ptr 3 0),(4,.ptr 4 0),(6,.i .i64),(7,.i .i64)],zo13⟩
abbrev zRD:SPat:=⟨[(0,.ptr 100000 0),(3,.ptr 3 0),(4,.ptr 4 0),(6,.i .i64),(8,.i .i64)],zo13⟩
abbrev zLR:SPat:=⟨[(0,.ptr 100000 0),(3,.ptr 3 0),(4,.ptr 4 0),(5,.i .i64)],zo13⟩
abbrev zGO:SPat:=⟨[(0,.ptr 100000 0),(3,.ptr 3 0),(4,.ptr 4 0),(6,.i .i64)],zo13⟩
abbrev zLQ:SPat:=⟨[(0,.ptr 100000 0),(3,.ptr 3 0),(4,.ptr 4 0)],zo13⟩
abbrev zLP:SPat:=⟨[(3,.ptr 3 0),(4,.ptr 4 0)],zo13⟩
def tv281:Nat→Option SPat:=fun k=>bif k==11 then some zRE else bif k==18 then some zRD else bif k==1000006 then some zLR else bif k==1000010 then some zGO else bif k==1000013 then some zRE else bif k==1000017 then some zGO else bif k==1000020 then some zRD else bif k==2000000 then some zLQ else bif k==2000002 then some zLP else none
def tp281:Nat→List Nat×Plan:=fun id=>bif id==13 then([0,1,2,4,6,8],(.br 3 [2] [0,1,4,6,8] [] (.br 5 [4,3,2] [0,1,6,8] [] (.br 7 [6,5,4,3,2] [0,1,8] [] (.br 9 zn31 [0,1] [10] (.br 11 zn32 [0,1] [] (.br 12 zn8 [] [13] (.br 14 zn20 [] [] .fin .fin) .fin) .fin) .fin) .fin) .fin) .fin))else bif id==20 then([0,1,2,4,6],(.br 3 [2] [0,1,4,6] [] (.br 5 [4,3,2] [0,1,6] [] (.br 7 [6,5,4,3,2] [0,1] [8] (.br 9 zn31 [0,1] [] (.br 10 zn0 [] [11] (.br 12 zn8 [] [] .fin .fin) .fin) .fin) .fin) .fin) .fin))else([],.fin)
def F281:(Int×Int×Int×Int×Int×List UInt8)×List UInt8×Int×Bool→Option ((Mth)×List UInt8×Int×Bool):=fun((v10,v11,v12,v13,v14,v15),v16,v17,o0) =>
 zAA (F221 (v16,v17,o0)) fun(y,y1,y2,y3) =>
 zAA (F221 (y1,y2,y3)) fun(y4,y5,y6,y7) =>
 zAA (F222 (y5,y6,y7)) fun(y8,y9,y10,y11) =>
 bindE (Y:=Int×(Mth)×(Mth)×List UInt8×Int×Bool) (cndO (decide (120<y8))
 (some (inl (y8,(v10,v11,v12,y,y4,v15,[],[]),((0:Int),(0:Int),(0:Int),(0:Int),(0:Int),[],[],[]),y9,y10,true)))
 (some (inl (y8,(v10,v11,v12,y,y4,v15,[],[]),((0:Int),(0:Int),(0:Int),(0:Int),(0:Int),[],[],[]),y9,y10,y11)))) fun(v5,(o01,o1,o2,o3,o4,o5,o6,o7),(o02,o11,o21,o31,o41,o51,o61,o71),o03,o12,o22) =>
 zAA (F219 (v5,o03,o12,o22)) fun(y12,y13,y14,y15) =>
 zAA (F221 (y13,y14,y15)) fun(y16,y17,y18,y19) =>
 bindE (Y:=Int×(Mth)×(Mth)×List UInt8×Int×Bool) (cndO (decide (3<y16))
 (some (inl (y16,(o01,o1,o2,o3,o4,y12,o6,o7),(o02,o11,o21,o31,o41,o51,o61,o71),y17,y18,true)))
 (some (inl (y16,(o01,o1,o2,o3,o4,y12,o6,o7),(o02,o11,o21,o31,o41,o51,o61,o71),y17,y18,y19)))) fun(v6,(o04,o13,o23,o32,o42,o52,o62,o72),(o05,o14,o24,o33,o43,o53,o63,o73),o06,o15,o25) =>
 bindE (Y:=(Mth)×(Mth)×List UInt8×Int×Bool) (zAG (fun(v61,v7,(o07,o16,o26,o34,o44,o54,o64,o74),(o08,o17,o27,o35,o45,o55,o65,o75),o09,o18,o28) =>
 bindE (Y:=Int×Int×(Mth)×(Mth)×List UInt8×Int×Bool) (cndO (decide (v7<v61))
 (cndO (!o28)
 (some (inl (v61,v7,(o07,o16,o26,o34,o44,o54,o64,o74),(o08,o17,o27,o35,o45,o55,o65,o75),o09,o18,o28)))
 (some (inr (inr (inl ((o07,o16,o26,o34,o44,o54,o64,o74),(o08,o17,o27,o35,o45,o55,o65,o75),o09,o18,o28))))))
 (some (inr (inr (inl ((o07,o16,o26,o34,o44,o54,o64,o74),(o08,o17,o27,o35,o45,o55,o65,o75),o09,o18,o28)))))) fun(v62,v71,(o010,o19,o29,o36,o46,o56,o66,o76),(o011,o110,o210,o37,o47,o57,o67,o77),o012,o111,o211) =>
 zAA (F222 (o012,o111,o211)) fun(y20,y21,y22,y23) =>
 zAA (F222 (y21,y22,y23)) fun(y24,y25,y26,y27) =>
 zAA (F222 (y25,y26,y27)) fun(y28,y29,y30,y31) =>
 zAA (F222 (y29,y30,y31)) fun(y32,y33,y34,y35) =>
 grdO (decide (o66.length+1≤9223372036854775807)&&decide ((o66.length+1)*32≤140737488355328)) (some (inl (v62,wrap .i64 (v71+1),(o010,o19,o29,o36,o46,o56,o66++[(y20,y24,y28,y32)],o76),(o011,o110,o210,o37,o47,o57,o67,o77),y33,y34,y35)))) ((v6,(0:Int),(o04,o13,o23,o32,o42,o52,o62,o72),(o05,o14,o24,o33,o43,o53,o63,o73),o06,o15,o25))) fun((o07,o16,o26,o34,o44,o54,o64,o74),(o08,o17,o27,o35,o45,o55,o65,o75),o09,o18,o28) =>
 zAA (F221 (o09,o18,o28)) fun(y20,y21,y22,y23) =>
 bindE (Y:=Int×(Mth)×(Mth)×List UInt8×Int×Bool) (cndO (decide (8<y20))
 (some (inl (y20,(o07,o16,o26,o34,o44,o54,o64,o74),(o08,o17,o27,o35,o45,o55,o65,o75),y21,y22,true)))
 (some (inl (y20,(o07,o16,o26,o34,o44,o54,o64,o74),(o08,o17,o27,o35,o45,o55,o65,o75),y21,y22,y23)))) fun(v61,(o010,o19,o29,o36,o46,o56,o66,o76),(o011,o110,o210,o37,o47,o57,o67,o77),o012,o111,o211) =>
 bindE (Y:=(Mth)×(Mth)×List UInt8×Int×Bool) (zAG (fun(v62,v8,(o013,o112,o212,o38,o48,o58,o68,o78),(o014,o113,o213,o39,o49,o59,o69,o79),o015,o114,o214) =>
 bindE (Y:=Int×Int×(Mth)×(Mth)×List UInt8×Int×Bool) (cndO (decide (v8<v62))
 (cndO (!o214)
 (some (inl (v62,v8,(o013,o112,o212,o38,o48,o58,o68,o78),(o014,o113,o213,o39,o49,o59,o69,o79),o015,o114,o214)))
 (some (inr (inr (inl ((o013,o112,o212,o38,o48,o58,o68,o78),(o014,o113,o213,o39,o49,o59,o69,o79),o015,o114,o214))))))
 (some (inr (inr (inl ((o013,o112,o212,o38,o48,o58,o68,o78),(o014,o113,o213,o39,o49,o59,o69,o79),o015,o114,o214)))))) fun(v63,v81,(o016,o115,o215,o310,o410,o510,o610,o710),(o017,o116,o216,o311,o411,o511,o611,o711),o018,o117,o217) =>
 zAA (F222 (o018,o117,o217)) fun(y24,y25,y26,y27) =>
 zAA (F317 (y25,y26,y27)) fun(y28,y29,y30,y31) =>
 zAA (F317 (y29,y30,y31)) fun(y32,y33,y34,y35) =>
 grdO (decide (o710.length+1≤9223372036854775807)&&decide ((o710.length+1)*56≤140737488355328)) (some (inl (v63,wrap .i64 (v81+1),(o016,o115,o215,o310,o410,o510,o610,o710++[(y24,y28,y32)]),(o017,o116,o216,o311,o411,o511,o611,o711),y33,y34,y35)))) ((v61,(0:Int),(o010,o19,o29,o36,o46,o56,o66,o76),(o011,o110,o210,o37,o47,o57,o67,o77),o012,o111,o211))) fun((o013,o112,o212,o38,o48,o58,o68,o78),(o014,o113,o213,o39,o49,o59,o69,o79),o015,o114,o214) =>
 some (((o013,o112,o212,o38,o48,o58,o68,o78),o015,o114,o214))
def tb281:=insT 281 (mkE 281 false [(0,[])] ti281 to281 F281 [.cell 4 53] 91 [100000]) tb317
theorem ok281:zTb tb281:=okI ok317 tp281 tv281 func281 rfl call281
abbrev to223:SPat:=⟨[(2,.ptr 2 0)],[.box 2 (pl plN),.box 100000 (pl plS)]⟩
def F223:List UInt8×Int×Bool→Option ((Mth)×List UInt8×Int×Bool):=fun(o0,o1,o2) =>
 zAA (F221 (o0,o1,o2)) fun(y,y1,y2,y3) =>
 zAA (F222 (y1,y2,y3)) fun(y4,y5,y6,y7) =>
 zAA (F222 (y5,y6,y7)) fun(y8,y9,y10,y11) =>
 cndO (decide (wrap .i64 (Int.tdiv (Int.tmod y (16:Int)) (8:Int))=1))
 (some (((y,y4,y8,(0:Int),(0:Int),[],[],[]),y9,y10,y11)))
 (zAA (F281 ((y,y4,y8,(0:Int),(0:Int),[]),y9,y10,y11)) fun((y12,y13,y14,y15,y16,y17,x,x1),x2,x3,x4) =>
 some (((y12,y13,y14,y15,y16,y17,x,x1),x2,x3,x4)))
def tb223:=insT 223 (mkE 223 false [(0,[])] zPu to223 F223 [.cell 2 53] 20 [100000]) tb281
theorem ok223:zTb tb223:=okI ok281 noPl noIv func223 rfl call223
abbrev to142:SPat:=⟨[(2,.ptr 2 0)],[.box 2 (pl plD),.box 100000 (pl plS)]⟩
abbrev zRH:SPat:=⟨[(0,.ptr 100000 0),(2,.ptr 2 0),(3,.ptr 3 0),(4,.i .i64),(5,.i .i64)],zo14⟩
abbrev zRG:SPat:=⟨[(0,.ptr 100000 0),(2,.ptr 2 0),(3,.ptr 3 0),(4,.i .i64),(6,.i .i64)],zo14⟩
abbrev zRF:SPat:=⟨[(0,.ptr 100000 0),(2,.ptr 2 0),(3,.ptr 3 0),(4,.i .i64),(7,.i .i64)],zo14⟩
abbrev zES:SPat:=⟨[(0,.ptr 100000 0),(2,.ptr 2 0),(3,.ptr 3 0)],zo14⟩
abbrev zER:SPat:=⟨[(0,.ptr 100000 0),(2,.ptr 2 0),(3,.ptr 3 0),(4,.i .i64)],zo14⟩
abbrev zLy:SPat:=⟨[(2,.ptr 2 0),(3,.ptr 3 0)],zo14⟩
def tv142:Nat→Option SPat:=fun k=>bif k==12 then some zRH else bif k==19 then some zRG else bif k==26 then some zRF else bif k==1000004 then some zES else bif k==1000011 then some zER else bif k==1000014 then some zRH else bif k==1000018 then some zER else bif k==1000021 then some zRG else bif k==1000025 then some zER else bif k==1000028 then some zRF else bif k==2000000 then some zES else bif k==2000002 then some zES else bif k==2000004 then some zLy else none
def tp142:Nat→List Nat×Plan:=fun id=>bif id==14 then([0,1,2],(.br 3 [2] [0,1] [] (.br 4 [3,2] [0,1] [] (.br 5 zn25 [] [6] (.br 7 zn11 [] [] .fin .fin) .fin) .fin) .fin))else bif id==21 then([0,1,2,4,6],(.br 3 [2] [0,1,4,6] [] (.br 5 [4,3,2] [0,1,6] [] (.br 7 [6,5,4,3,2] [0,1] [8] (.br 9 zn31 [0,1] [] (.br 10 zn0 [] [11] (.br 12 zn8 [] [] .fin .fin) .fin) .fin) .fin) .fin) .fin))else bif id==28 then([0,1,2],(.br 3 [2] [0,1] [] (.br 4 [3,2] [0,1] [] (.br 5 zn25 [] [6] (.br 7 zn11 [] [] .fin .fin) .fin) .fin) .fin))else([],.fin)
def F142:List UInt8×Int×Bool→Option ((Cls)×List UInt8×Int×Bool):=fun(o0,o1,o2) =>
 bindE (Y:=(Cls)×(Cls)×List UInt8×Int×Bool) (zAA (F219 (4,o0,o1,o2)) fun(y,y1,y2,y3) =>
 cndO (!decide (y=[(83:UInt8),84,79,87]))
 (some (inl (([],(0:Int),(0:Int),(0:Int),[],[],[]),([],(0:Int),(0:Int),(0:Int),[],[],[]),y1,y2,true)))
 (some (inl (([],(0:Int),(0:Int),(0:Int),[],[],[]),([],(0:Int),(0:Int),(0:Int),[],[],[]),y1,y2,y3)))) fun((o01,o11,o21,o3,o4,o5,o6),(o02,o12,o22,o31,o41,o51,o61),o03,o13,o23) =>
 zAA (F220 (o03,o13,o23)) fun(y,y1,y2,y3) =>
 zAA (F221 (y1,y2,y3)) fun(y4,y5,y6,y7) =>
 zAA (F222 (y5,y6,y7)) fun(y8,y9,y10,y11) =>
 zAA (F222 (y9,y10,y11)) fun(y12,y13,y14,y15) =>
 zAA (F221 (y13,y14,y15)) fun(y16,y17,y18,y19) =>
 bindE (Y:=Int×(Cls)×(Cls)×List UInt8×Int×Bool) (cndO (decide (3<y16))
 (some (inl (y16,(o01,o11,o21,o3,o4,o5,o6),(y,y4,y8,y12,o41,o51,o61),y17,y18,true)))
 (some (inl (y16,(o01,o11,o21,o3,o4,o5,o6),(y,y4,y8,y12,o41,o51,o61),y17,y18,y19)))) fun(v4,(o04,o14,o24,o32,o42,o52,o62),(o05,o15,o25,o33,o43,o53,o63),o06,o16,o26) =>
 bindE (Y:=(Cls)×(Cls)×List UInt8×Int×Bool) (zAG (fun(v41,v5,(o07,o17,o27,o34,o44,o54,o64),(o08,o18,o28,o35,o45,o55,o65),o09,o19,o29) =>
 bindE (Y:=Int×Int×(Cls)×(Cls)×List UInt8×Int×Bool) (cndO (decide (v5<v41))
 (cndO (!o29)
 (some (inl (v41,v5,(o07,o17,o27,o34,o44,o54,o64),(o08,o18,o28,o35,o45,o55,o65),o09,o19,o29)))
 (some (inr (inr (inl ((o07,o17,o27,o34,o44,o54,o64),(o08,o18,o28,o35,o45,o55,o65),o09,o19,o29))))))
 (some (inr (inr (inl ((o07,o17,o27,o34,o44,o54,o64),(o08,o18,o28,o35,o45,o55,o65),o09,o19,o29)))))) fun(v42,v51,(o010,o110,o210,o36,o46,o56,o66),(o011,o111,o211,o37,o47,o57,o67),o012,o112,o212) =>
 zAA (F222 (o012,o112,o212)) fun(y20,y21,y22,y23) =>
 grdO (decide (o47.length+1≤9223372036854775807)&&decide ((o47.length+1)*8≤140737488355328)) (some (inl (v42,wrap .i64 (v51+1),(o010,o110,o210,o36,o46,o56,o66),(o011,o111,o211,o37,o47++[y20],o57,o67),y21,y22,y23)))) ((v4,(0:Int),(o04,o14,o24,o32,o42,o52,o62),(o05,o15,o25,o33,o43,o53,o63),o06,o16,o26))) fun((o07,o17,o27,o34,o44,o54,o64),(o08,o18,o28,o35,o45,o55,o65),o09,o19,o29) =>
 zAA (F221 (o09,o19,o29)) fun(y20,y21,y22,y23) =>
 bindE (Y:=Int×(Cls)×(Cls)×List UInt8×Int×Bool) (cndO (decide (5<y20))
 (some (inl (y20,(o07,o17,o27,o34,o44,o54,o64),(o08,o18,o28,o35,o45,o55,o65),y21,y22,true)))
 (some (inl (y20,(o07,o17,o27,o34,o44,o54,o64),(o08,o18,o28,o35,o45,o55,o65),y21,y22,y23)))) fun(v41,(o010,o110,o210,o36,o46,o56,o66),(o011,o111,o211,o37,o47,o57,o67),o012,o112,o212) =>
 bindE (Y:=(Cls)×(Cls)×List UInt8×Int×Bool) (zAG (fun(v42,v6,(o013,o113,o213,o38,o48,o58,o68),(o014,o114,o214,o39,o49,o59,o69),o015,o115,o215) =>
 bindE (Y:=Int×Int×(Cls)×(Cls)×List UInt8×Int×Bool) (cndO (decide (v6<v42))
 (cndO (!o215)
 (some (inl (v42,v6,(o013,o113,o213,o38,o48,o58,o68),(o014,o114,o214,o39,o49,o59,o69),o015,o115,o215)))
 (some (inr (inr (inl ((o013,o113,o213,o38,o48,o58,o68),(o014,o114,o214,o39,o49,o59,o69),o015,o115,o215))))))
 (some (inr (inr (inl ((o013,o113,o213,o38,o48,o58,o68),(o014,o114,o214,o39,o49,o59,o69),o015,o115,o215)))))) fun(v43,v61,(o016,o116,o216,o310,o410,o510,o610),(o017,o117,o217,o311,o411,o511,o611),o018,o118,o218) =>
 zAA (F221 (o018,o118,o218)) fun(y24,y25,y26,y27) =>
 zAA (F222 (y25,y26,y27)) fun(y28,y29,y30,y31) =>
 zAA (F222 (y29,y30,y31)) fun(y32,y33,y34,y35) =>
 grdO (decide (o511.length+1≤9223372036854775807)&&decide ((o511.length+1)*24≤140737488355328)) (some (inl (v43,wrap .i64 (v61+1),(o016,o116,o216,o310,o410,o510,o610),(o017,o117,o217,o311,o411,o511++[(y24,y28,y32)],o611),y33,y34,y35)))) ((v41,(0:Int),(o010,o110,o210,o36,o46,o56,o66),(o011,o111,o211,o37,o47,o57,o67),o012,o112,o212))) fun((o013,o113,o213,o38,o48,o58,o68),(o014,o114,o214,o39,o49,o59,o69),o015,o115,o215) =>
 zAA (F221 (o015,o115,o215)) fun(y24,y25,y26,y27) =>
 bindE (Y:=Int×(Cls)×(Cls)×List UInt8×Int×Bool) (cndO (decide (6<y24))
 (some (inl (y24,(o013,o113,o213,o38,o48,o58,o68),(o014,o114,o214,o39,o49,o59,o69),y25,y26,true)))
 (some (inl (y24,(o013,o113,o213,o38,o48,o58,o68),(o014,o114,o214,o39,o49,o59,o69),y25,y26,y27)))) fun(v42,(o016,o116,o216,o310,o410,o510,o610),(o017,o117,o217,o311,o411,o511,o611),o018,o118,o218) =>
 bindE (Y:=(Cls)×(Cls)×List UInt8×Int×Bool) (zAG (fun(v43,v7,(o019,o119,o219,o312,o412,o512,o612),(o020,o120,o220,o313,o413,o513,o613),o021,o121,o221) =>
 bindE (Y:=Int×Int×(Cls)×(Cls)×List UInt8×Int×Bool) (cndO (decide (v7<v43))
 (cndO (!o221)
 (some (inl (v43,v7,(o019,o119,o219,o312,o412,o512,o612),(o020,o120,o220,o313,o413,o513,o613),o021,o121,o221)))
 (some (inr (inr (inl ((o019,o119,o219,o312,o412,o512,o612),(o020,o120,o220,o313,o413,o513,o613),o021,o121,o221))))))
 (some (inr (inr (inl ((o019,o119,o219,o312,o412,o512,o612),(o020,o120,o220,o313,o413,o513,o613),o021,o121,o221)))))) fun(v44,v71,(o022,o122,o222,o314,o414,o514,o614),(o023,o123,o223,o315,o415,o515,o615),o024,o124,o224) =>
 zAA (F223 (o024,o124,o224)) fun((y28,y29,y30,y31,y32,y33,x,x1),x2,x3,x4) =>
 grdO (decide (o615.length+1≤9223372036854775807)&&decide ((o615.length+1)*104≤140737488355328)) (some (inl (v44,wrap .i64 (v71+1),(o022,o122,o222,o314,o414,o514,o614),(o023,o123,o223,o315,o415,o515,o615++[(y28,y29,y30,y31,y32,y33,x,x1)]),x2,x3,x4)))) ((v42,(0:Int),(o016,o116,o216,o310,o410,o510,o610),(o017,o117,o217,o311,o411,o511,o611),o018,o118,o218))) fun((o019,o119,o219,o312,o412,o512,o612),(o020,o120,o220,o313,o413,o513,o613),o021,o121,o221) =>
 some (((o020,o120,o220,o313,o413,o513,o613),o021,o121,o221))
def tb142:=insT 142 (mkE 142 false [(0,[])] zPu to142 F142 [.cell 2 34] 111 [100000]) tb223
theorem ok142:zTb tb142:=okI ok223 tp142 tv142 func142 rfl call142
abbrev to63:SPat:=⟨[(2,.ptr 2 0),(3,.b)],[.box 2 (pl plD)]⟩
def F63:List UInt8→Option (Bool×Cls):=fun s =>
 cndO (decide (900<(s.length:Int)))
 (some ((false,[],(0:Int),(0:Int),(0:Int),[],[],[])))
 (zAA (F142 (s,0,false)) fun((y,y1,y2,y3,y4,y5,x),x1,x2,x3) =>
 cndO (x3)
 (some ((false,[],(0:Int),(0:Int),(0:Int),[],[],[])))
 (cndO (!decide (x2=(s.length:Int)))
 (some ((false,[],(0:Int),(0:Int),(0:Int),[],[],[])))
 (zAA (F55 (y,y1,y2,y3,y4,y5,x)) fun y6 =>
 cndO (!decide (y6=s))
 (some ((false,[],(0:Int),(0:Int),(0:Int),[],[],[])))
 (some ((true,y,y1,y2,y3,y4,y5,x))))))
def tb63:=insT 63 (mkE 63 true [] zCt to63 F63 [.cell 2 34,.tmp 3] 36 []) tb142
theorem ok63:zTb tb63:=okI ok142 noPl noIv func63 rfl call63
abbrev ti152:SPat:=⟨[(0,.sl tg27),(1,.sl tg27)],[]⟩
abbrev ts152_4:SPat:=⟨[(0,.sl tg27),(1,.sl tg27),(5,.i .i64)],[]⟩
def tv152:Nat→Option SPat:=fun k=>bif k==4 then some ts152_4 else bif k==2000000 then some zCj else none
def tp152:Nat→List Nat×Plan:=fun id=>bif id==6 then(zn33,.fin)else([],.fin)
def F152:List Cst×List Cst→Option Bool:=fun(a,b) =>
 cndO (!decide ((a.length:Int)=(b.length:Int)))
 (some false)
 (bindE (zAG (fun(a1,b1,i) =>
 cndO (decide (i<(a1.length:Int)))
 (grdO (decide (0≤i)) (atO a1 i.toNat fun x=>grdO (decide (0≤i)) (atO b1 i.toNat fun x1=>cndO (!(decide (x.1=x1.1)&&(decide (x.2.1=x1.2.1)&&(decide (x.2.2.1=x1.2.2.1)&&(decide (x.2.2.2=x1.2.2.2)&&true)))))
 (some (inr (inr false)))
 (some (inl (a1,b1,wrap .i64 (i+1)))))))
 (some (inr (inl ())))) ((a,b,(0:Int)))) fun _ =>
 some true)
def tb152:=insT 152 (mkE 152 true [] ti152 zCZ F152 [.tmp 4] 26 []) tb63
theorem ok152:zTb tb152:=okI ok63 tp152 tv152 func152 rfl call152
abbrev ti282:SPat:=⟨[(0,.sl zBg),(1,.sl zBg)],[]⟩
abbrev ts282_4:SPat:=⟨[(0,.sl zBg),(1,.sl zBg),(5,.i .i64)],[]⟩
def tv282:Nat→Option SPat:=fun k=>bif k==4 then some ts282_4 else bif k==2000000 then some zCj else none
def tp282:Nat→List Nat×Plan:=fun id=>bif id==6 then(zn33,.fin)else([],.fin)
def F282:List Knd×List Knd→Option Bool:=fun(a,b) =>
 cndO (!decide ((a.length:Int)=(b.length:Int)))
 (some false)
 (bindE (zAG (fun(a1,b1,i) =>
 cndO (decide (i<(a1.length:Int)))
 (grdO (decide (0≤i)) (atO a1 i.toNat fun x=>grdO (decide (0≤i)) (atO b1 i.toNat fun x1=>cndO (!(decide (x.1=x1.1)&&(decide (x.2=x1.2)&&true)))
 (some (inr (inr false)))
 (some (inl (a1,b1,wrap .i64 (i+1)))))))
 (some (inr (inl ())))) ((a,b,(0:Int)))) fun _ =>
 some true)
def tb282:=insT 282 (mkE 282 true [] ti282 zCZ F282 [.tmp 4] 26 []) tb152
theorem ok282:zTb tb282:=okI ok152 tp282 tv282 func282 rfl call282
abbrev ti228:SPat:=⟨[(0,.sl zDN),(1,.sl zDN)],[]⟩
abbrev zTs:SPat:=⟨[(0,.sl zDN),(1,.sl zDN),(5,.i .i64)],[]⟩
def tv228:Nat→Option SPat:=fun k=>bif k==4 then some zTs else bif k==2000000 then some zCj else bif k==2000001 then some zTs else none
def tp228:Nat→List Nat×Plan:=fun id=>bif id==6 then([0,1,2,3,4,5,6,7,8,9,10,11,12,13,14,15,16,17,18,19,20,21],(.br 22 zn26 [] [23,24,25,26,27,28,29,30,31,32,33,34,35] (.br 36 [35,34,33,32,31,30,29,28,27,26,25,24,23,22,21,20,19,18,17,16,15,14,13,12,11,10,9,8,7,6,5,4,3,2,1,0] [] [37,38] .fin .fin) .fin))else([],.fin)
def F228:List Frm×List Frm→Option Bool:=fun(a,b) =>
 cndO (!decide ((a.length:Int)=(b.length:Int)))
 (some false)
 (bindE (zAG (fun(a1,b1,i) =>
 cndO (decide (i<(a1.length:Int)))
 (bindE (Y:=List Frm×List Frm×Int) (grdO (decide (0≤i)) (atO a1 i.toNat fun x=>grdO (decide (0≤i)) (atO b1 i.toNat fun x1=>cndO (!decide (x.1=x1.1))
 (some (inr (inr (inr false))))
 (grdO (decide (0≤i)) (atO a1 i.toNat fun x2=>grdO (decide (0≤i)) (atO b1 i.toNat fun x3=>zAA (F282 (x2.2.1,x3.2.1)) fun y =>
 cndO (!y)
 (some (inr (inr (inr false))))
 (grdO (decide (0≤i)) (atO a1 i.toNat fun x4=>grdO (decide (0≤i)) (atO b1 i.toNat fun x5=>zAA (F282 (x4.2.2,x5.2.2)) fun y1 =>
 cndO (!y1)
 (some (inr (inr (inr false))))
 (some (inl (a1,b1,i)))))))))))) fun(a2,b2,i1) =>
 some (inl (a2,b2,wrap .i64 (i1+1))))
 (some (inr (inl ())))) ((a,b,(0:Int)))) fun _ =>
 some true)
def tb228:=insT 228 (mkE 228 true [] ti228 zCZ F228 [.tmp 4] 56 []) tb282
theorem ok228:zTb tb228:=okI ok282 tp228 tv228 func228 rfl call228
abbrev ti153:SPat:=⟨[(0,.agg (pl plM)),(1,.agg (pl plM))],[]⟩
abbrev ts153_4:SPat:=⟨[(2,.ptr 2 0),(3,.ptr 3 0),(5,.i .i64)],[.box 2 (pl plM),.box 3 (pl plM)]⟩
abbrev zGU:SPat:=⟨[(2,.ptr 2 0),(3,.ptr 3 0)],[.box 2 (pl plM),.box 3 (pl plM)]⟩
def tv153:Nat→Option SPat:=fun k=>bif k==4 then some ts153_4 else bif k==1000003 then some zGU else bif k==2000000 then some zGU else none
def tp153:Nat→List Nat×Plan:=fun id=>bif id==6 then(zn12,.fin)else([],.fin)
def F153:(Mth)×Mth→Option Bool:=fun((app0,app1,app2,app3,app4,app5,app6,app7),v10,v11,v12,v13,v14,v15,v16,v17) =>
 bindE (Y:=(Mth)×Mth) (cndO (!decide (app0=v10))
 (some (inr false))
 (cndO (!decide (app1=v11))
 (some (inr false))
 (cndO (!decide (app2=v12))
 (some (inr false))
 (cndO (!decide (app3=v13))
 (some (inr false))
 (cndO (!decide (app4=v14))
 (some (inr false))
 (cndO (!decide (app5=v15))
 (some (inr false))
 (cndO (!decide ((app6.length:Int)=(v16.length:Int)))
 (some (inr false))
 (some (inl ((app0,app1,app2,app3,app4,app5,app6,app7),v10,v11,v12,v13,v14,v15,v16,v17)))))))))) fun((o0,o1,o2,o3,o4,o5,o6,o7),o01,o11,o21,o31,o41,o51,o61,o71) =>
 bindE (Y:=(Mth)×Mth) (zAG (fun(v5,(o02,o12,o22,o32,o42,o52,o62,o72),o03,o13,o23,o33,o43,o53,o63,o73) =>
 cndO (decide (v5<(o62.length:Int)))
 (grdO (decide (0≤v5)) (atO o62 v5.toNat fun x=>grdO (decide (0≤v5)) (atO o63 v5.toNat fun x1=>cndO (!(decide (x.1=x1.1)&&(decide (x.2.1=x1.2.1)&&(decide (x.2.2.1=x1.2.2.1)&&(decide (x.2.2.2=x1.2.2.2)&&true)))))
 (some (inr (inr false)))
 (some (inl (wrap .i64 (v5+1),(o02,o12,o22,o32,o42,o52,o62,o72),o03,o13,o23,o33,o43,o53,o63,o73))))))
 (some (inr (inl ((o02,o12,o22,o32,o42,o52,o62,o72),o03,o13,o23,o33,o43,o53,o63,o73))))) (((0:Int),(o0,o1,o2,o3,o4,o5,o6,o7),o01,o11,o21,o31,o41,o51,o61,o71))) fun((o02,o12,o22,o32,o42,o52,o62,o72),o03,o13,o23,o33,o43,o53,o63,o73) =>
 zAA (F228 (o72,o73)) fun y =>
 some (y)
def tb153:=insT 153 (mkE 153 true [] ti153 zCZ F153 [.tmp 4] 78 []) tb228
theorem ok153:zTb tb153:=okI ok228 tp153 tv153 func153 rfl call153
abbrev ti70:SPat:=⟨[(0,.agg (pl plC)),(1,.agg (pl plC))],[]⟩
abbrev ts70_4:SPat:=⟨[(2,.ptr 2 0),(3,.ptr 3 0),(5,.i .i64)],zo15⟩
abbrev ts70_9:SPat:=⟨[(2,.ptr 2 0),(3,.ptr 3 0),(6,.i .i64)],zo15⟩
abbrev ts70_14:SPat:=⟨[(2,.ptr 2 0),(3,.ptr 3 0),(7,.i .i64)],zo15⟩
abbrev zEy:SPat:=⟨[(2,.ptr 2 0),(3,.ptr 3 0)],zo15⟩
def tv70:Nat→Option SPat:=fun k=>bif k==4 then some ts70_4 else bif k==9 then some ts70_9 else bif k==14 then some ts70_14 else bif k==1000003 then some zEy else bif k==2000000 then some zEy else bif k==2000002 then some zEy else bif k==2000004 then some zCj else none
def tp70:Nat→List Nat×Plan:=fun id=>bif id==6 then(zn12,.fin)else bif id==11 then(zn12,.fin)else bif id==16 then(zn5,(.br 10 zn0 [] [11] .fin .fin))else([],.fin)
def F70:(Cls)×Cls→Option Bool:=fun((app0,app1,app2,app3,app4,app5,app6),v10,v11,v12,v13,v14,v15,v16) =>
 bindE (Y:=(Cls)×Cls) (zAA (F152 (app0,v10)) fun y =>
 cndO (!y)
 (some (inr false))
 (cndO (!decide (app1=v11))
 (some (inr false))
 (cndO (!decide (app2=v12))
 (some (inr false))
 (cndO (!decide (app3=v13))
 (some (inr false))
 (cndO (!decide ((app4.length:Int)=(v14.length:Int)))
 (some (inr false))
 (cndO (!decide ((app5.length:Int)=(v15.length:Int)))
 (some (inr false))
 (cndO (!decide ((app6.length:Int)=(v16.length:Int)))
 (some (inr false))
 (some (inl ((app0,app1,app2,app3,app4,app5,app6),v10,v11,v12,v13,v14,v15,v16)))))))))) fun((o0,o1,o2,o3,o4,o5,o6),o01,o11,o21,o31,o41,o51,o61) =>
 bindE (Y:=(Cls)×Cls) (zAG (fun(v5,(o02,o12,o22,o32,o42,o52,o62),o03,o13,o23,o33,o43,o53,o63) =>
 cndO (decide (v5<(o42.length:Int)))
 (grdO (decide (0≤v5)) (atO o42 v5.toNat fun x=>grdO (decide (0≤v5)) (atO o43 v5.toNat fun x1=>cndO (!decide (x=x1))
 (some (inr (inr false)))
 (some (inl (wrap .i64 (v5+1),(o02,o12,o22,o32,o42,o52,o62),o03,o13,o23,o33,o43,o53,o63))))))
 (some (inr (inl ((o02,o12,o22,o32,o42,o52,o62),o03,o13,o23,o33,o43,o53,o63))))) (((0:Int),(o0,o1,o2,o3,o4,o5,o6),o01,o11,o21,o31,o41,o51,o61))) fun((o02,o12,o22,o32,o42,o52,o62),o03,o13,o23,o33,o43,o53,o63) =>
 bindE (Y:=(Cls)×Cls) (zAG (fun(v6,(o04,o14,o24,o34,o44,o54,o64),o05,o15,o25,o35,o45,o55,o65) =>
 cndO (decide (v6<(o54.length:Int)))
 (grdO (decide (0≤v6)) (atO o54 v6.toNat fun x=>grdO (decide (0≤v6)) (atO o55 v6.toNat fun x1=>cndO (!(decide (x.1=x1.1)&&(decide (x.2.1=x1.2.1)&&(decide (x.2.2=x1.2.2)&&true))))
 (some (inr (inr false)))
 (some (inl (wrap .i64 (v6+1),(o04,o14,o24,o34,o44,o54,o64),o05,o15,o25,o35,o45,o55,o65))))))
 (some (inr (inl ((o04,o14,o24,o34,o44,o54,o64),o05,o15,o25,o35,o45,o55,o65))))) (((0:Int),(o02,o12,o22,o32,o42,o52,o62),o03,o13,o23,o33,o43,o53,o63))) fun((o04,o14,o24,o34,o44,o54,o64),o05,o15,o25,o35,o45,o55,o65) =>
 bindE (zAG (fun(v7,(o06,o16,o26,o36,o46,o56,o66),o07,o17,o27,o37,o47,o57,o67) =>
 cndO (decide (v7<(o66.length:Int)))
 (grdO (decide (0≤v7)) (atO o66 v7.toNat fun x=>grdO (decide (0≤v7)) (atO o67 v7.toNat fun x1=>zAA (F153 ((x.1,x.2.1,x.2.2.1,x.2.2.2.1,x.2.2.2.2.1,x.2.2.2.2.2.1,x.2.2.2.2.2.2.1,x.2.2.2.2.2.2.2),x1.1,x1.2.1,x1.2.2.1,x1.2.2.2.1,x1.2.2.2.2.1,x1.2.2.2.2.2.1,x1.2.2.2.2.2.2.1,x1.2.2.2.2.2.2.2)) fun y =>
 cndO (!y)
 (some (inr (inr false)))
 (some (inl (wrap .i64 (v7+1),(o06,o16,o26,o36,o46,o56,o66),o07,o17,o27,o37,o47,o57,o67))))))
 (some (inr (inl ())))) (((0:Int),(o04,o14,o24,o34,o44,o54,o64),o05,o15,o25,o35,o45,o55,o65))) fun _ =>
 some (true)
def tb70:=insT 70 (mkE 70 true [] ti70 zCZ F70 [.tmp 4] 117 []) tb153
theorem ok70:zTb tb70:=okI ok153 tp70 tv70 func70 rfl call70
def F22:Cls→Option (List UInt8):=fun(c0,c1,c2,c3,c4,c5,c6) =>
 zAA (F69 (c0,c1,c2,c3,c4,c5,c6)) fun y =>
 cndO (!y)
 (some ([]))
 (zAA (F55 (c0,c1,c2,c3,c4,c5,c6)) fun y1 =>
 zAA (F63 y1) fun(y2,y3,y4,y5,y6,y7,x,x1) =>
 cndO (!y2)
 (some ([]))
 (zAA (F70 ((y3,y4,y5,y6,y7,x,x1),c0,c1,c2,c3,c4,c5,c6)) fun y8 =>
 cndO (!y8)
 (some ([]))
 (some y1)))
def tb22:=insT 22 (mkE 22 true [] ti69 zEU F22 [.tmp 2] 25 []) tb70
theorem ok22:zTb tb22:=okI ok70 noPl noIv func22 rfl call22
abbrev to214:SPat:=⟨[(2,.own .str true),(3,.s),(4,.b)],[]⟩
abbrev zPi:SPat:=⟨[(0,.s),(5,.own .str true),(6,.i .i64)],[]⟩
abbrev zLr:SPat:=⟨[(0,.s),(5,.own .str true)],[]⟩
abbrev zLq:SPat:=⟨[(0,.s),(5,.own .str true),(6,.i .i64),(7,.i .i64)],[]⟩
def tv214:Nat→Option SPat:=fun k=>bif k==5 then some zPi else bif k==1000004 then some zLr else bif k==1000006 then some zPi else bif k==1000009 then some zLq else bif k==2000000 then some zPi else none
def F214:List UInt8→Option (List (List UInt8)×List UInt8×Bool):=fun s =>
 bindE (Y:=List UInt8×List (List UInt8)) (cndO (decide ((s.length:Int)=0))
 (some (inr ([],[],false)))
 (atO s ((0:Nat)) fun x=>cndO (!decide ((x.toNat:Int)=40))
 (some (inr ([],[],false)))
 (some (inl (s,[]))))) fun(s1,out) =>
 bindE (Y:=List UInt8×List (List UInt8)×Int) (zAG (fun(s2,out1,at_) =>
 bindE (Y:=List UInt8×List (List UInt8)×Int) (cndO (decide (at_<(s2.length:Int)))
 (grdO (decide (0≤at_)) (atO s2 at_.toNat fun x=>cndO (!decide ((x.toNat:Int)=41))
 (some (inl (s2,out1,at_)))
 (some (inr (inr (inl (s2,out1,at_)))))))
 (some (inr (inr (inl (s2,out1,at_)))))) fun(s3,out2,at_1) =>
 zAA (F213 (s3,at_1)) fun y =>
 bindE (Y:=List UInt8×List (List UInt8)×Int×Int) (cndO (decide (y<0))
 (some (inr (inr (inr ([],[],false)))))
 (cndO (decide (4≤(out2.length:Int)))
 (some (inr (inr (inr ([],[],false)))))
 (some (inl (s3,out2,at_1,y))))) fun(s4,out3,at_2,end_) =>
 grdO (decide (0≤at_2)&&decide (at_2≤end_)&&decide (end_≤(s4.length:Int))) (grdO (decide (out3.length+1≤9223372036854775807)&&decide ((out3.length+1)*16≤140737488355328)) (some (inl (s4,out3++[List.drop at_2.toNat (List.take end_.toNat s4)],end_))))) ((s1,out,(1:Int)))) fun(s2,out1,at_) =>
 cndO (decide ((s2.length:Int)≤at_))
 (some (([],[],false)))
 (grdO (decide (0≤wrap .i64 (at_+1))&&decide (wrap .i64 (at_+1)≤(s2.length:Int))&&decide ((s2.length:Int)≤(s2.length:Int))) (cndO (!decide (List.drop (Int.toNat (wrap .i64 (at_+1))) (List.take (Int.toNat (s2.length:Int)) s2)=[(86:UInt8)]))
 (zAA (F128 (List.drop (Int.toNat (wrap .i64 (at_+1))) (List.take (Int.toNat (s2.length:Int)) s2))) fun y =>
 cndO (!y)
 (some (([],[],false)))
 (some ((out1,List.drop (Int.toNat (wrap .i64 (at_+1))) (List.take (Int.toNat (s2.length:Int)) s2),true))))
 (some ((out1,List.drop (Int.toNat (wrap .i64 (at_+1))) (List.take (Int.toNat (s2.length:Int)) s2),true)))))
def tb214:=insT 214 (mkE 214 true [] zCt to214 F214 [.tmp 2,.tmp 3,.tmp 4] 63 []) tb22
theorem ok214:zTb tb214:=okI ok22 noPl tv214 func214 rfl call214
def F129:List UInt8→Option Bool:=fun s =>
 zAA (F214 s) fun(y,y1,y2) =>
 some (y2)
def tb129:=insT 129 (mkE 129 true [] zCt zDu F129 [.tmp 2] 13 []) tb214
theorem ok129:zTb tb129:=okI ok214 noPl noIv func129 rfl call129
abbrev zPv:SPat:=⟨[(0,.sl tg27),(1,.i .i64)],[]⟩
abbrev to215:SPat:=⟨[(4,.ptr 4 0)],[.box 4 (pl zo4)]⟩
def F215:List Cst×Int→Option Cst:=fun(pool,i) =>
 zAA (F107 (i,1,(pool.length:Int))) fun y =>
 cndO (y)
 (grdO (decide (0≤wrap .i64 (i-1))) (atO pool (Int.toNat (wrap .i64 (i-1))) fun x=>some ((x.1,x.2.1,x.2.2.1,x.2.2.2))))
 (some (((0:Int),[],(0:Int),(0:Int))))
def tb215:=insT 215 (mkE 215 true [] zPv to215 F215 [.cell 4 27] 15 []) tb129
theorem ok215:zTb tb215:=okI ok129 noPl noIv func215 rfl call215
abbrev to130:SPat:=⟨[(4,.s)],[]⟩
def F130:List Cst×Int→Option (List UInt8):=fun(pool,i) =>
 zAA (F215 (pool,i)) fun(y,y1,y2,y3) =>
 zAA (F215 (pool,y2)) fun(y4,y5,y6,y7) =>
 cndO (!decide (y=2))
 (some ([]))
 (cndO (!decide (y4=1))
 (some ([]))
 (zAA (F127 y5) fun y8 =>
 cndO (!y8)
 (some ([]))
 (some y5)))
def tb130:=insT 130 (mkE 130 true [] zPv to130 F130 [.tmp 4] 30 []) tb215
theorem ok130:zTb tb130:=okI ok215 noPl noIv func130 rfl call130
def F131:List Cst×Int→Option (List UInt8):=fun(pool,i) =>
 zAA (F215 (pool,i)) fun(y,y1,y2,y3) =>
 cndO (!decide (y=1))
 (some ([]))
 (some y1)
def tb131:=insT 131 (mkE 131 true [] zPv to130 F131 [.tmp 4] 14 []) tb130
theorem ok131:zTb tb131:=okI ok130 noPl noIv func131 rfl call131
abbrev to132:SPat:=⟨[(4,.s),(5,.s),(6,.s)],[]⟩
def tp132:Nat→List Nat×Plan:=fun id=>bif id==3 then([0,1,2,4,5,6,8,9,10],(.br 3 zn14 [4,5,6,8,9,10] [] (.br 7 zn11 [8,9,10] [] (.br 11 zn13 [] [] (.br 12 zn8 [] [] (.br 13 zn10 [] [] (.br 14 zn20 [] [] .fin .fin) .fin) .fin) .fin) .fin) .fin))else([],.fin)
def F132:List Cst×Int→Option (List UInt8×List UInt8×List UInt8):=fun(pool,i) =>
 zAA (F215 (pool,i)) fun(y,y1,y2,y3) =>
 zAA (F215 (pool,y3)) fun(y4,y5,y6,y7) =>
 zAA (F130 (pool,y2)) fun y8 =>
 seqU (seqU (grdO (decide (pool=pool)) (some ())) (seqU (grdO (decide (y6=y6)) (some ())) (seqU (grdO (decide (pool=pool)) (some ())) (seqU (grdO (decide (y7=y7)) (some ())) (some ()))))) (zAA (F131 (pool,y6)) fun y9 =>
 seqU (seqU (grdO (decide (pool=pool)) (some ())) (seqU (grdO (decide (y7=y7)) (some ())) (some ()))) (zAA (F131 (pool,y7)) fun y10 =>
 some ((y8,y9,y10))))
def tb132:=insT 132 (mkE 132 true [] zPv to132 F132 [.tmp 4,.tmp 5,.tmp 6] 28 []) tb131
theorem ok132:zTb tb132:=okI ok131 tp132 noIv func132 rfl call132
end Go.Proofs.YtdpapeledldifaaGreat
end
