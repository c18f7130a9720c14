/- Part 28 of the proof that the law FnCheck holds of every input; no condition. -/
import Derived.Test.YtdpapeledldifaaGreatX26
set_option autoImplicit true
set_option relaxedAutoImplicit true
set_option linter.all false
noncomputable section
namespace Go.Proofs.YtdpapeledldifaaGreat
open Go Go.AM Go.TM
open Go.Proofs.Tryz
open Sum (inl inr)
set_option maxRecDepth 100000
set_option maxHeartbeats 4000000
abbrev ti108:SPat:=⟨[(0,.i .i64),(1,.i .i64)],[]⟩
abbrev to108:SPat:=⟨[(4,.b)],[]⟩
def F108:Int×Int→Option (Bool):=fun (flags,one_) =>
 grdO (!decide (one_=0)) (some (decide (Int.tmod (IntKind.wrap .i64 (Int.tdiv flags one_)) (2:Int)=1)))
def tb108:=insT 108 (mkE 108 true [] ti108 to108 F108 [.tmp 4] 10 []) zOt
theorem ok108:TbOk Tryz.prog tb108:=okI zVD noPl noIv func108 rfl call108
abbrev ti313:SPat:=⟨[(0,.ptr 100000 0),(1,.sl .str)],[.box 100000 (pl plB)]⟩
abbrev to313:SPat:=⟨[],[.box 100000 (pl plB)]⟩
abbrev zJm:SPat:=⟨[(0,.ptr 100000 0),(1,.sl .str),(4,.ptr 4 0)],[.box 4 (pl plN),.box 100000 (pl plB)]⟩
abbrev zJl:SPat:=⟨[(0,.ptr 100000 0),(4,.ptr 4 0)],[.box 4 (pl plN),.box 100000 (pl plB)]⟩
def tv313:Nat→Option SPat:=fun k=>bif k == 1000004 then some zJm else bif k == 1000006 then some zJl else none
def tp313:Nat→List Nat×Plan:=fun id=>bif id == 0 then ([0,1,2,3,5,6,7,8,10,11,12,13],(.br 4 [3,2,1,0] [5,6,7,8,10,11,12,13] [] (.br 9 [8,7,6,5,4,3,2,1,0] [10,11,12,13] [] (.br 14 [13,12,11,10,9,8,7,6,5,4,3,2,1,0] [] [15] (.br 16 [] [0,1,2,3,5,6,7,8,10,11,12,13,15] [] (.br 17 [16,15,14,13,12,11,10,9,8,7,6,5,4,3,2,1,0] [] [] .fin .fin) .fin) (.br 16 [] [0,1,2,3,5,6,7,8,10,11,12,13] [] (.br 14 [13,12,11,10,9,8,7,6,5,4,3,2,1,0] [] [15] (.br 17 [16,15,14,13,12,11,10,9,8,7,6,5,4,3,2,1,0] [] [] .fin .fin) .fin) .fin)) (.br 16 [] [0,1,2,3,5,6,7,8,10,11,12,13] [] (.br 9 [8,7,6,5,4,3,2,1,0] [10,11,12,13] [] (.br 14 [13,12,11,10,9,8,7,6,5,4,3,2,1,0] [] [15] (.br 17 [16,15,14,13,12,11,10,9,8,7,6,5,4,3,2,1,0] [] [] .fin .fin) .fin) .fin) .fin)) (.br 16 [] [0,1,2,3,5,6,7,8,10,11,12,13] [] (.br 4 [3,2,1,0] [5,6,7,8,10,11,12,13] [] (.br 9 [8,7,6,5,4,3,2,1,0] [10,11,12,13] [] (.br 14 [13,12,11,10,9,8,7,6,5,4,3,2,1,0] [] [15] (.br 17 [16,15,14,13,12,11,10,9,8,7,6,5,4,3,2,1,0] [] [] .fin .fin) .fin) .fin) .fin) .fin))) else bif id == 6 then ([0,1,2,3,4,5,6],(.br 7 [6] [0,1,2,3,4,5] [] (.br 8 [7,6,5,4,3,2,1] [0] [9,10,11] (.br 12 [11,10,9,8,7,6,5,4,3,2,1,0] [] [] .fin .fin) .fin) .fin)) else ([],.fin)
def F313:List (List UInt8)×List Cst×Int×Int×Int×List Int×List (Int×Int×Int)×List Mth×Bool→Option (List Cst×Int×Int×Int×List Int×List (Int×Int×Int)×List Mth×Bool):=fun (w,o0,o1,o2,o3,o4,o5,o6,o7)=>atO (w) ((1:Nat)) fun x=>atO (w) ((2:Nat)) fun x1=>atO (w) ((3:Nat)) fun x2=>let q1:=fun (x10:List Mth) (x11:Bool) (x9:List (Int×Int×Int)) (y:Int) (y12:Int) (y13:List Cst) (y14:Int) (y15:Int) (y16:Int) (y17:List Int) (y6:Int)=>bindE (Y:=List (List UInt8)×(Mth)×List Cst×Int×Int×Int×List Int×List (Int×Int×Int)×List Mth×Bool) (cndO (decide ((w.length:Int)=6)) (atO (w) ((4:Nat)) fun x12=>zAA (F311 (x12,y13,y14,y15,y16,y17,x9,x10,x11)) fun (y18,y19,y20,y21,y22,y23,x13,x14,x15)=>atO (w) ((5:Nat)) fun x16=>zAA (F311 (x16,y19,y20,y21,y22,y23,x13,x14,x15)) fun (y24,y25,y26,y27,y28,y29,x17,x18,x19)=>some (inl (w,(y12,y,y6,y18,y24,[],[],[]),y25,y26,y27,y28,y29,x17,x18,x19))) (some (inl (w,(y12,y,y6,(0:Int),(0:Int),[],[],[]),y13,y14,y15,y16,y17,x9,x10,x11)))) fun (w1,(o01,o11,o21,o31,o41,o51,o61,o71),o02,o12,o22,o32,o42,o52,o62,o72)=>bindE (Y:=(Mth)×List Cst×Int×Int×Int×List Int×List (Int×Int×Int)×List Mth×Bool) (zAA (F108 (o01,(8:Int))) fun y18=>cndO (!decide (decide ((w1.length:Int)=4)=y18)) (some (inl ((o01,o11,o21,o31,o41,o51,o61,o71),o02,o12,o22,o32,o42,o52,o62,true))) (some (inl ((o01,o11,o21,o31,o41,o51,o61,o71),o02,o12,o22,o32,o42,o52,o62,o72)))) fun ((o03,o13,o23,o33,o43,o53,o63,o73),o04,o14,o24,o34,o44,o54,o64,o74)=>grdO (decide (List.length o64+1≤9223372036854775807) && decide ((List.length o64+1)*104≤140737488355328)) (some ((o04,o14,o24,o34,o44,o54,o64++[(o03,o13,o23,o33,o43,o53,o63,o73)],o74)));let q2:=seqU (grdO (decide (w=w)) (some ())) (seqU (atO (w) ((2:Nat)) fun x6=>grdO (decide (x6=x1) && true) (some ())) (seqU (grdO (decide (x1=x1)) (some ())) (seqU (grdO (decide (w=w)) (some ())) (seqU (atO (w) ((3:Nat)) fun x6=>grdO (decide (x6=x2) && true) (some ())) (seqU (grdO (decide (x2=x2)) (some ())) (some ()))))));let q3:=fun (x3:List (Int×Int×Int)) (x4:List Mth) (x5:Bool) (y:Int) (y1:List Cst) (y2:Int) (y3:Int) (y4:Int) (y5:List Int)=>zAA (F312 (x1,y1,y2,y3,y4,y5,x3,x4,x5)) fun (y6,y7,y8,y9,y10,y11,x6,x7,x8)=>seqU (seqU (grdO (decide (w=w)) (some ())) (seqU (atO (w) ((3:Nat)) fun x9=>grdO (decide (x9=x2) && true) (some ())) (seqU (grdO (decide (x2=x2)) (some ())) (some ())))) (zAA (F311 (x2,y7,y8,y9,y10,y11,x6,x7,x8)) fun (y12,y13,y14,y15,y16,y17,x9,x10,x11)=>q1 x10 x11 x9 y y12 y13 y14 y15 y16 y17 y6);zBU (zAA (F312 (x,o0,o1,o2,o3,o4,o5,o6,o7)) fun (y,y1,y2,y3,y4,y5,x3,x4,x5)=>seqU (q2) (zBU (zAA (F312 (x1,y1,y2,y3,y4,y5,x3,x4,x5)) fun (y6,y7,y8,y9,y10,y11,x6,x7,x8)=>seqU (seqU (grdO (decide (w=w)) (some ())) (seqU (atO (w) ((3:Nat)) fun x9=>grdO (decide (x9=x2) && true) (some ())) (seqU (grdO (decide (x2=x2)) (some ())) (some ())))) (zBU (zAA (F311 (x2,y7,y8,y9,y10,y11,x6,x7,x8)) fun (y12,y13,y14,y15,y16,y17,x9,x10,x11)=>seqU (seqU (grdO (decide (w=w)) (some ())) (seqU (atO (w) ((1:Nat)) fun x12=>grdO (decide (x12=x) && true) (some ())) (seqU (grdO (decide (x=x)) (some ())) (seqU (grdO (decide (w=w)) (some ())) (seqU (atO (w) ((2:Nat)) fun x12=>grdO (decide (x12=x1) && true) (some ())) (seqU (grdO (decide (x1=x1)) (some ())) (seqU (grdO (decide (w=w)) (some ())) (seqU (atO (w) ((3:Nat)) fun x12=>grdO (decide (x12=x2) && true) (some ())) (seqU (grdO (decide (x2=x2)) (some ())) (seqU (grdO (decide (y12=y12) && (decide (y=y) && (decide (y6=y6) && true))) (some ())) (some ()))))))))))) (q1 x10 x11 x9 y y12 y13 y14 y15 y16 y17 y6)) (seqU (seqU (grdO (decide (w=w)) (some ())) (seqU (atO (w) ((1:Nat)) fun x9=>grdO (decide (x9=x) && true) (some ())) (seqU (grdO (decide (x=x)) (some ())) (seqU (grdO (decide (w=w)) (some ())) (seqU (atO (w) ((2:Nat)) fun x9=>grdO (decide (x9=x1) && true) (some ())) (seqU (grdO (decide (x1=x1)) (some ())) (seqU (grdO (decide (w=w)) (some ())) (seqU (atO (w) ((3:Nat)) fun x9=>grdO (decide (x9=x2) && true) (some ())) (seqU (grdO (decide (x2=x2)) (some ())) (some ())))))))))) (zAA (F311 (x2,y7,y8,y9,y10,y11,x6,x7,x8)) fun (y12,y13,y14,y15,y16,y17,x9,x10,x11)=>q1 x10 x11 x9 y y12 y13 y14 y15 y16 y17 y6)))) (seqU (seqU (grdO (decide (w=w)) (some ())) (seqU (atO (w) ((1:Nat)) fun x6=>grdO (decide (x6=x) && true) (some ())) (seqU (grdO (decide (x=x)) (some ())) (q2)))) (q3 x3 x4 x5 y y1 y2 y3 y4 y5)))) (seqU (seqU (grdO (decide (w=w)) (some ())) (seqU (atO (w) ((1:Nat)) fun x3=>grdO (decide (x3=x) && true) (some ())) (seqU (grdO (decide (x=x)) (some ())) (seqU (grdO (decide (w=w)) (some ())) (seqU (atO (w) ((2:Nat)) fun x3=>grdO (decide (x3=x1) && true) (some ())) (seqU (grdO (decide (x1=x1)) (some ())) (seqU (grdO (decide (w=w)) (some ())) (seqU (atO (w) ((3:Nat)) fun x3=>grdO (decide (x3=x2) && true) (some ())) (seqU (grdO (decide (x2=x2)) (some ())) (some ())))))))))) (zAA (F312 (x,o0,o1,o2,o3,o4,o5,o6,o7)) fun (y,y1,y2,y3,y4,y5,x3,x4,x5)=>seqU (q2) (q3 x3 x4 x5 y y1 y2 y3 y4 y5)))
def tb313:=insT 313 (mkE 313 false [(0,[])] ti313 to313 F313 [] 58 [100000]) tb108
theorem ok313:TbOk Tryz.prog tb313:=okI ok108 tp313 tv313 func313 rfl call313
abbrev ti314:SPat:=⟨[(0,.ptr 100000 0),(1,.sl .str)],[.box 100000 (pl plB)]⟩
abbrev to314:SPat:=⟨[],[.box 100000 (pl plB)]⟩
abbrev zJk:SPat:=⟨[(0,.ptr 100000 0),(4,.ptr 4 0)],[.box 4 (pl [.i .i64,.i .i64,.i .i64,.i .i64]),.box 100000 (pl plB)]⟩
def tv314:Nat→Option SPat:=fun k=>bif k == 1000003 then some zJk else none
def tp314:Nat→List Nat×Plan:=fun id=>bif id == 0 then ([0,1,2,3,5,6,7,8,10,11,12,13],(.br 4 [3,2,1,0] [5,6,7,8,10,11,12,13] [] (.br 9 [8,7,6,5,4,3,2,1,0] [10,11,12,13] [] (.br 14 [13,12,11,10,9,8,7,6,5,4,3,2,1,0] [] [15] (.br 16 [] [0,1,2,3,5,6,7,8,10,11,12,13,15] [] (.br 17 [16,15,14,13,12,11,10,9,8,7,6,5,4,3,2,1,0] [] [] .fin .fin) .fin) (.br 16 [] [0,1,2,3,5,6,7,8,10,11,12,13] [] (.br 14 [13,12,11,10,9,8,7,6,5,4,3,2,1,0] [] [15] (.br 17 [16,15,14,13,12,11,10,9,8,7,6,5,4,3,2,1,0] [] [] .fin .fin) .fin) .fin)) (.br 16 [] [0,1,2,3,5,6,7,8,10,11,12,13] [] (.br 9 [8,7,6,5,4,3,2,1,0] [10,11,12,13] [] (.br 14 [13,12,11,10,9,8,7,6,5,4,3,2,1,0] [] [15] (.br 17 [16,15,14,13,12,11,10,9,8,7,6,5,4,3,2,1,0] [] [] .fin .fin) .fin) .fin) .fin)) (.br 16 [] [0,1,2,3,5,6,7,8,10,11,12,13] [] (.br 4 [3,2,1,0] [5,6,7,8,10,11,12,13] [] (.br 9 [8,7,6,5,4,3,2,1,0] [10,11,12,13] [] (.br 14 [13,12,11,10,9,8,7,6,5,4,3,2,1,0] [] [15] (.br 17 [16,15,14,13,12,11,10,9,8,7,6,5,4,3,2,1,0] [] [] .fin .fin) .fin) .fin) .fin) .fin))) else bif id == 3 then ([0,2,7],(.br 1 [0] [2,7] [] (.br 3 [2,1,0] [7] [4,5,6] (.br 8 [7] [0,2,4,5,6] [] (.br 9 [8,7,6,5,4,3,2,1,0] [] [10,11] (.br 12 [11,10,9,8,7,6,5,4,3,2,1,0] [] [] .fin .fin) .fin) .fin) (.br 8 [7] [0,2] [] (.br 3 [2,1,0] [7] [4,5,6] (.br 9 [8,7,6,5,4,3,2,1,0] [] [10,11] (.br 12 [11,10,9,8,7,6,5,4,3,2,1,0] [] [] .fin .fin) .fin) .fin) .fin)) (.br 8 [7] [0,2] [] (.br 1 [0] [2,7] [] (.br 3 [2,1,0] [7] [4,5,6] (.br 9 [8,7,6,5,4,3,2,1,0] [] [10,11] (.br 12 [11,10,9,8,7,6,5,4,3,2,1,0] [] [] .fin .fin) .fin) .fin) .fin) .fin))) else ([],.fin)
def F314:List (List UInt8)×List Cst×Int×Int×Int×List Int×List (Int×Int×Int)×List Mth×Bool→Option (List Cst×Int×Int×Int×List Int×List (Int×Int×Int)×List Mth×Bool):=fun (w,o0,o1,o2,o3,o4,o5,o6,o7)=>atO (w) ((1:Nat)) fun x=>atO (w) ((2:Nat)) fun x1=>atO (w) ((3:Nat)) fun x2=>let q1:=fun (x10:List Mth) (x11:Bool) (x9:List (Int×Int×Int)) (y:Int) (y12:Int) (y13:List Cst) (y14:Int) (y15:Int) (y16:Int) (y17:List Int) (y6:Int)=>bindE (Y:=(Int×Int×Int×Int)×List Cst×Int×Int×Int×List Int×List (Int×Int×Int)×List Mth×Bool) (atO (w) ((4:Nat)) fun x12=>cndO (!decide (x12=[(45:UInt8)])) (atO (w) ((4:Nat)) fun x13=>zAA (F310 (x13,y13,y14,y15,y16,y17,x9,x10,x11)) fun (y18,y19,y20,y21,y22,y23,x14,x15,x16)=>some (inl ((y,y6,y12,y18),y19,y20,y21,y22,y23,x14,x15,x16))) (some (inl ((y,y6,y12,(0:Int)),y13,y14,y15,y16,y17,x9,x10,x11)))) fun ((o01,o11,o21,o31),o02,o12,o22,o32,o41,o51,o61,o71)=>let q2:=fun (x15:List (Int×Int×Int)) (x16:Bool) (x17:List Mth) (x18:Mth) (y18:Nat) (y24:Nat) (y25:List Cst) (y26:Int) (y27:Int) (y28:Int) (y29:List Int)=>grdO (decide (List.length (x18.2.2.2.2.2.2.1)+1≤9223372036854775807) && decide ((List.length (x18.2.2.2.2.2.2.1)+1)*32≤140737488355328)) (grdO (decide (y18=y24) && decide (y24<List.length x17)) (grdO (decide (y24<List.length x17)) (some ((y25,y26,y27,y28,y29,x15,List.set x17 y24 (x18.1,x18.2.1,x18.2.2.1,x18.2.2.2.1,x18.2.2.2.2.1,x18.2.2.2.2.2.1,x18.2.2.2.2.2.2.1++[(o01,o11,o21,o31)],x18.2.2.2.2.2.2.2),x16)))));let q4:=fun (x12:List Int) (x13:List (Int×Int×Int)) (x14:Bool) (y18:Nat) (y19:List Mth) (y20:List Cst) (y21:Int) (y22:Int) (y23:Int)=>zAA (F7000315 ((y20,y21,y22,y23,x12,x13,x14),y19)) fun (y24,(y25,y26,y27,y28,y29,x15,x16),x17)=>seqU (seqU (grdO (decide (o01=o01) && (decide (o11=o11) && (decide (o21=o21) && (decide (o31=o31) && true)))) (some ())) (some ())) (atO (x17) (y24) fun x18=>grdO (decide (y24=y24) && decide (y24<List.length x17)) (grdO (decide (y24=y24) && decide (y24<List.length x17)) (grdO (decide (y24=y24) && decide (y24<List.length x17)) (q2 x15 x16 x17 x18 y18 y24 y25 y26 y27 y28 y29))));zBU (zAA (F315 (o02,o12,o22,o32,o41,o51,o61,o71)) fun (y18,y19,y20,y21,y22,y23,x12,x13,x14)=>seqU (seqU (grdO (decide (o01=o01) && (decide (o11=o11) && (decide (o21=o21) && (decide (o31=o31) && true)))) (some ())) (some ())) (zBU (zAA (F7000315 ((y20,y21,y22,y23,x12,x13,x14),y19)) fun (y24,(y25,y26,y27,y28,y29,x15,x16),x17)=>seqU (seqU (grdO (decide (o01=o01) && (decide (o11=o11) && (decide (o21=o21) && (decide (o31=o31) && true)))) (some ())) (some ())) (atO (x17) (y24) fun x18=>grdO (decide (y24=y24) && decide (y24<List.length x17)) (grdO (decide (y24=y24) && decide (y24<List.length x17)) (grdO (decide (y24=y24) && decide (y24<List.length x17)) (seqU (seqU (grdO (y24 == y24 && true) (some ())) (seqU (grdO (y24 == y24 && true) (some ())) (seqU (grdO (decide (y24=y24) && decide (y24<List.length x17)) (grdO (decide (y24=y24) && decide (y24<List.length x17)) (grdO (decide (y24=y24) && decide (y24<List.length x17)) (some ())))) (some ())))) (q2 x15 x16 x17 x18 y18 y24 y25 y26 y27 y28 y29)))))) (q4 x12 x13 x14 y18 y19 y20 y21 y22 y23))) (zAA (F315 (o02,o12,o22,o32,o41,o51,o61,o71)) fun (y18,y19,y20,y21,y22,y23,x12,x13,x14)=>seqU (seqU (grdO (decide (o01=o01) && (decide (o11=o11) && (decide (o21=o21) && (decide (o31=o31) && true)))) (some ())) (some ())) (q4 x12 x13 x14 y18 y19 y20 y21 y22 y23));let q3:=seqU (grdO (decide (w=w)) (some ())) (seqU (atO (w) ((2:Nat)) fun x6=>grdO (decide (x6=x1) && true) (some ())) (seqU (grdO (decide (x1=x1)) (some ())) (seqU (grdO (decide (w=w)) (some ())) (seqU (atO (w) ((3:Nat)) fun x6=>grdO (decide (x6=x2) && true) (some ())) (seqU (grdO (decide (x2=x2)) (some ())) (some ()))))));let q5:=fun (x3:List (Int×Int×Int)) (x4:List Mth) (x5:Bool) (y:Int) (y1:List Cst) (y2:Int) (y3:Int) (y4:Int) (y5:List Int)=>zAA (F311 (x1,y1,y2,y3,y4,y5,x3,x4,x5)) fun (y6,y7,y8,y9,y10,y11,x6,x7,x8)=>seqU (seqU (grdO (decide (w=w)) (some ())) (seqU (atO (w) ((3:Nat)) fun x9=>grdO (decide (x9=x2) && true) (some ())) (seqU (grdO (decide (x2=x2)) (some ())) (some ())))) (zAA (F311 (x2,y7,y8,y9,y10,y11,x6,x7,x8)) fun (y12,y13,y14,y15,y16,y17,x9,x10,x11)=>q1 x10 x11 x9 y y12 y13 y14 y15 y16 y17 y6);zBU (zAA (F311 (x,o0,o1,o2,o3,o4,o5,o6,o7)) fun (y,y1,y2,y3,y4,y5,x3,x4,x5)=>seqU (q3) (zBU (zAA (F311 (x1,y1,y2,y3,y4,y5,x3,x4,x5)) fun (y6,y7,y8,y9,y10,y11,x6,x7,x8)=>seqU (seqU (grdO (decide (w=w)) (some ())) (seqU (atO (w) ((3:Nat)) fun x9=>grdO (decide (x9=x2) && true) (some ())) (seqU (grdO (decide (x2=x2)) (some ())) (some ())))) (zBU (zAA (F311 (x2,y7,y8,y9,y10,y11,x6,x7,x8)) fun (y12,y13,y14,y15,y16,y17,x9,x10,x11)=>seqU (seqU (grdO (decide (w=w)) (some ())) (seqU (atO (w) ((1:Nat)) fun x12=>grdO (decide (x12=x) && true) (some ())) (seqU (grdO (decide (x=x)) (some ())) (seqU (grdO (decide (w=w)) (some ())) (seqU (atO (w) ((2:Nat)) fun x12=>grdO (decide (x12=x1) && true) (some ())) (seqU (grdO (decide (x1=x1)) (some ())) (seqU (grdO (decide (w=w)) (some ())) (seqU (atO (w) ((3:Nat)) fun x12=>grdO (decide (x12=x2) && true) (some ())) (seqU (grdO (decide (x2=x2)) (some ())) (seqU (grdO (decide (y=y) && (decide (y6=y6) && (decide (y12=y12) && true))) (some ())) (some ()))))))))))) (q1 x10 x11 x9 y y12 y13 y14 y15 y16 y17 y6)) (seqU (seqU (grdO (decide (w=w)) (some ())) (seqU (atO (w) ((1:Nat)) fun x9=>grdO (decide (x9=x) && true) (some ())) (seqU (grdO (decide (x=x)) (some ())) (seqU (grdO (decide (w=w)) (some ())) (seqU (atO (w) ((2:Nat)) fun x9=>grdO (decide (x9=x1) && true) (some ())) (seqU (grdO (decide (x1=x1)) (some ())) (seqU (grdO (decide (w=w)) (some ())) (seqU (atO (w) ((3:Nat)) fun x9=>grdO (decide (x9=x2) && true) (some ())) (seqU (grdO (decide (x2=x2)) (some ())) (some ())))))))))) (zAA (F311 (x2,y7,y8,y9,y10,y11,x6,x7,x8)) fun (y12,y13,y14,y15,y16,y17,x9,x10,x11)=>q1 x10 x11 x9 y y12 y13 y14 y15 y16 y17 y6)))) (seqU (seqU (grdO (decide (w=w)) (some ())) (seqU (atO (w) ((1:Nat)) fun x6=>grdO (decide (x6=x) && true) (some ())) (seqU (grdO (decide (x=x)) (some ())) (q3)))) (q5 x3 x4 x5 y y1 y2 y3 y4 y5)))) (seqU (seqU (grdO (decide (w=w)) (some ())) (seqU (atO (w) ((1:Nat)) fun x3=>grdO (decide (x3=x) && true) (some ())) (seqU (grdO (decide (x=x)) (some ())) (seqU (grdO (decide (w=w)) (some ())) (seqU (atO (w) ((2:Nat)) fun x3=>grdO (decide (x3=x1) && true) (some ())) (seqU (grdO (decide (x1=x1)) (some ())) (seqU (grdO (decide (w=w)) (some ())) (seqU (atO (w) ((3:Nat)) fun x3=>grdO (decide (x3=x2) && true) (some ())) (seqU (grdO (decide (x2=x2)) (some ())) (some ())))))))))) (zAA (F311 (x,o0,o1,o2,o3,o4,o5,o6,o7)) fun (y,y1,y2,y3,y4,y5,x3,x4,x5)=>seqU (q3) (q5 x3 x4 x5 y y1 y2 y3 y4 y5)))
def tb314:=insT 314 (mkE 314 false [(0,[])] ti314 to314 F314 [] 43 [100000]) tb313
theorem ok314:TbOk Tryz.prog tb314:=okI ok313 tp314 tv314 func314 rfl call314
abbrev zQo:SPat:=⟨[(0,.ptr 100000 0),(1,.s)],[.box 100000 (pl [.own tg27 true,.i .i64,.i .i64,.i .i64,.own (.int .i64) true,.own tg89 true,.ar 100001,.b]),.opn 100001 tg53 true (pl [.i .i64,.i .i64,.i .i64,.i .i64,.i .i64,.s,.own zCg true,.ar 100002]),.arr 100002 zBd true]⟩
abbrev zQi:SPat:=⟨[(4,.i .i64)],[.box 100000 (pl [.own tg27 true,.i .i64,.i .i64,.i .i64,.own (.int .i64) true,.own tg89 true,.ar 100001,.b]),.opn 100001 tg53 true (pl [.i .i64,.i .i64,.i .i64,.i .i64,.i .i64,.s,.own zCg true,.ar 100002]),.arr 100002 zBd true]⟩
def F807000311:List UInt8×(List Cst×Int×Int×Int×List Int×List (Int×Int×Int)×Bool)×(List Mth×Nat×Int×Int×Int×Int×Int×List UInt8×List (Int×Int×Int×Int))×List Frm→Option (Int×(List Cst×Int×Int×Int×List Int×List (Int×Int×Int)×Bool)×(List Mth×Nat×Int×Int×Int×Int×Int×List UInt8×List (Int×Int×Int×Int))×List Frm):=fun (s,(o0,o1,o2,o3,o4,o5,o7),(l100001,i100001,r0,r1,r2,r3,r4,r5,r6),l100002) =>
 zAA (F327 s) fun y =>
 cndO (decide (y<0))
 (some (((0:Int),(o0,o1,o2,o3,o4,o5,true),(l100001,i100001,r0,r1,r2,r3,r4,r5,r6),l100002)))
 (some ((y,(o0,o1,o2,o3,o4,o5,o7),(l100001,i100001,r0,r1,r2,r3,r4,r5,r6),l100002)))
def zHY:=insT 807000311 (mkE 311 false [(0,[]),(0,[6]),(0,[6,7])] zQo zQi F807000311 [.tmp 4] 14 [100000,100001,100002]) tb314
theorem zRM:TbOk Tryz.prog zHY:=okI ok314 noPl noIv func311 rfl call311
abbrev ti212:SPat:=⟨[(0,.i .u8)],[]⟩
abbrev to212:SPat:=⟨[(2,.b)],[]⟩
def F212:Int→Option (Bool):=fun b =>
 cndO (decide (97≤b))
 (cndO (decide (b≤122))
 (some (true))
 (cndO (decide (65≤b))
 (some (decide (b≤90)))
 (some (false))))
 (cndO (decide (65≤b))
 (some (decide (b≤90)))
 (some (false)))
def tb212:=insT 212 (mkE 212 true [] ti212 to212 F212 [.tmp 2] 17 []) zHY
theorem ok212:TbOk Tryz.prog tb212:=okI zRM noPl noIv func212 rfl call212
abbrev ti127:SPat:=⟨[(0,.s)],[]⟩
abbrev to127:SPat:=⟨[(2,.b)],[]⟩
abbrev ts127_2:SPat:=⟨[(0,.s),(3,.i .i64)],[]⟩
abbrev zMK:SPat:=⟨[(0,.s)],[]⟩
abbrev zMJ:SPat:=⟨[(0,.s),(3,.i .i64)],[]⟩
def tv127:Nat→Option SPat:=fun k=>bif k == 2 then some ts127_2 else bif k == 2000000 then some zMK else bif k == 2000001 then some zMJ else none
def F127:List UInt8→Option (Bool):=fun s =>
 bindE (Y:=List UInt8) (zAF (fun (s1,i) =>
 cndO (decide (i<(s1.length:Int)))
 (bindE (Y:=List UInt8×Int) (grdO (decide (0≤i)) (atO (s1) i.toNat fun x=>zAA (F212 (x.toNat:Int)) fun y =>
 cndO (!y)
 (cndO (decide (i=0))
 (some (inr (inr (inr false))))
 (grdO (decide (0≤i)) (atO (s1) i.toNat fun x1=>cndO (decide ((x1.toNat:Int)<48))
 (some (inr (inr (inr false))))
 (grdO (decide (0≤i)) (atO (s1) i.toNat fun x2=>cndO (decide (57<(x2.toNat:Int)))
 (some (inr (inr (inr false))))
 (some (inl (s1,i))))))))
 (some (inl (s1,i))))) fun (s2,i1) =>
 some (inl (s2,IntKind.wrap .i64 (i1+1))))
 (some (inr (inl s1)))) ((s,(0:Int)))) fun s1 =>
 zAA (F107 ((s1.length:Int),(1:Int),(8:Int))) fun y =>
 some (y)
def tb127:=insT 127 (mkE 127 true [] ti127 to127 F127 [.tmp 2] 34 []) tb212
theorem ok127:TbOk Tryz.prog tb127:=okI ok212 noPl tv127 func127 rfl call127
abbrev ti213:SPat:=⟨[(0,.s),(1,.i .i64)],[]⟩
abbrev to213:SPat:=⟨[(4,.i .i64)],[]⟩
abbrev ts213_6:SPat:=⟨[(0,.s),(1,.i .i64),(5,.i .i64)],[]⟩
abbrev zLK:SPat:=⟨[(0,.s),(1,.i .i64)],[]⟩
abbrev zLJ:SPat:=⟨[(0,.s),(1,.i .i64)],[]⟩
abbrev zLI:SPat:=⟨[],[]⟩
def tv213:Nat→Option SPat:=fun k=>bif k == 6 then some ts213_6 else bif k == 1000003 then some zLK else bif k == 1000005 then some zLJ else bif k == 2000000 then some zLI else none
def F213:List UInt8×Int→Option (Int):=fun (s,at_) =>
 bindE (Y:=List UInt8×Int) (cndO (decide (at_<(s.length:Int)))
 (grdO (decide (0≤at_)) (atO (s) at_.toNat fun x=>cndO (decide ((x.toNat:Int)=73))
 (some (inr (IntKind.wrap .i64 (at_+1))))
 (some (inl (s,at_)))))
 (some (inl (s,at_)))) fun (s1,at_1) =>
 bindE (Y:=List UInt8×Int) (cndO (decide ((s1.length:Int)≤at_1))
 (some (inr (-1:Int)))
 (grdO (decide (0≤at_1)) (atO (s1) at_1.toNat fun x=>cndO (!decide ((x.toNat:Int)=76))
 (some (inr (-1:Int)))
 (some (inl (s1,at_1)))))) fun (s2,at_2) =>
 bindE (zAF (fun (s3,at_3,i) =>
 cndO (decide (i<(s3.length:Int)))
 (grdO (decide (0≤i)) (atO (s3) i.toNat fun x=>cndO (decide ((x.toNat:Int)=59))
 (grdO (decide (0≤IntKind.wrap .i64 (at_3+1)) && decide (IntKind.wrap .i64 (at_3+1)≤i) && decide (i≤(s3.length:Int))) (zAA (F127 (List.drop (Int.toNat (IntKind.wrap .i64 (at_3+1))) (List.take i.toNat s3))) fun y =>
 cndO (y)
 (some (inr (inr (IntKind.wrap .i64 (i+1)))))
 (some (inr (inr (-1:Int))))))
 (some (inl (s3,at_3,IntKind.wrap .i64 (i+1))))))
 (some (inr (inl ())))) ((s2,at_2,IntKind.wrap .i64 (at_2+1)))) fun _ =>
 some ((-1:Int))
def tb213:=insT 213 (mkE 213 true [] ti213 to213 F213 [.tmp 4] 48 []) tb127
theorem ok213:TbOk Tryz.prog tb213:=okI ok127 noPl tv213 func213 rfl call213
abbrev ti128:SPat:=⟨[(0,.s)],[]⟩
abbrev to128:SPat:=⟨[(2,.b)],[]⟩
def F128:List UInt8→Option (Bool):=fun s =>
 cndO (decide (0<(s.length:Int)))
 (zAA (F213 (s,(0:Int))) fun y =>
 some (decide (y=(s.length:Int))))
 (some (false))
def tb128:=insT 128 (mkE 128 true [] ti128 to128 F128 [.tmp 2] 13 []) tb213
theorem ok128:TbOk Tryz.prog tb128:=okI ok213 noPl noIv func128 rfl call128
abbrev zQl:SPat:=⟨[(0,.ptr 100000 0),(1,.agg (pl [.i .i64,.s,.i .i64,.i .i64]))],[.box 100000 (pl [.own tg27 true,.i .i64,.i .i64,.i .i64,.own (.int .i64) true,.own tg89 true,.ar 100001,.b]),.opn 100001 tg53 true (pl [.i .i64,.i .i64,.i .i64,.i .i64,.i .i64,.s,.own zCg true,.ar 100002]),.arr 100002 zBd true]⟩
abbrev zQf:SPat:=⟨[(4,.i .i64)],[.box 100000 (pl [.own tg27 true,.i .i64,.i .i64,.i .i64,.own (.int .i64) true,.own tg89 true,.ar 100001,.b]),.opn 100001 tg53 true (pl [.i .i64,.i .i64,.i .i64,.i .i64,.i .i64,.s,.own zCg true,.ar 100002]),.arr 100002 zBd true]⟩
abbrev zJY:SPat:=⟨[(0,.ptr 100000 0),(3,.ptr 3 0),(5,.i .i64)],[.box 3 (pl [.i .i64,.s,.i .i64,.i .i64]),.box 100000 (pl [.own tg27 true,.i .i64,.i .i64,.i .i64,.own (.int .i64) true,.own tg89 true,.ar 100001,.b]),.opn 100001 tg53 true (pl [.i .i64,.i .i64,.i .i64,.i .i64,.i .i64,.s,.own zCg true,.ar 100002]),.arr 100002 zBd true]⟩
abbrev zFG:SPat:=⟨[(0,.ptr 100000 0),(3,.ptr 3 0)],[.box 3 (pl [.i .i64,.s,.i .i64,.i .i64]),.box 100000 (pl [.own tg27 true,.i .i64,.i .i64,.i .i64,.own (.int .i64) true,.own tg89 true,.ar 100001,.b]),.opn 100001 tg53 true (pl [.i .i64,.i .i64,.i .i64,.i .i64,.i .i64,.s,.own zCg true,.ar 100002]),.arr 100002 zBd true]⟩
def zQV:Nat→Option SPat:=fun k=>bif k == 2 then some zJY else bif k == 2000000 then some zFG else none
def zQd:Nat→List Nat×Plan:=fun id=>bif id == 4 then ([0,1,2,3,4,5,6,7,8,9],.fin) else bif id == 6 then ([0,1,2,3,4,5,6],(.br 7 [6] [0,1,2,3,4,5] [] (.br 8 [7,6,5,4,3,2,1] [0] [9,10,11] (.br 12 [11,10,9,8,7,6,5,4,3,2,1,0] [] [] .fin .fin) .fin) .fin)) else ([],.fin)
def F807000326:(Cst)×(List Cst×Int×Int×Int×List Int×List (Int×Int×Int)×Bool)×(List Mth×Nat×Int×Int×Int×Int×Int×List UInt8×List (Int×Int×Int×Int))×List Frm→Option (Int×(List Cst×Int×Int×Int×List Int×List (Int×Int×Int)×Bool)×(List Mth×Nat×Int×Int×Int×Int×Int×List UInt8×List (Int×Int×Int×Int))×List Frm):=fun ((c0,c1,c2,c3),(o0,o1,o2,o3,o4,o5,o7),(l100001,i100001,r0,r1,r2,r3,r4,r5,r6),l100002) =>
 bindE (Y:=(Cst)×(List Cst×Int×Int×Int×List Int×List (Int×Int×Int)×Bool)×(List Mth×Nat×Int×Int×Int×Int×Int×List UInt8×List (Int×Int×Int×Int))×List Frm) (zAF (fun (i,(o01,o11,o21,o31),(o02,o12,o22,o32,o41,o51,o71),(l1000011,i1000011,r01,r11,r21,r31,r41,r51,r61),l1000021) =>
 cndO (decide (i<(o02.length:Int)))
 (grdO (decide (0≤i) && decide (i<(o02.length:Int))) (atO (o02) i.toNat fun x=>cndO (decide (x.1=o01) && (decide (x.2.1=o11) && (decide (x.2.2.1=o21) && (decide (x.2.2.2=o31) && true))))
 (some (inr (inr (IntKind.wrap .i64 (i+1),(o02,o12,o22,o32,o41,o51,o71),(l1000011,i1000011,r01,r11,r21,r31,r41,r51,r61),l1000021))))
 (some (inl (IntKind.wrap .i64 (i+1),(o01,o11,o21,o31),(o02,o12,o22,o32,o41,o51,o71),(l1000011,i1000011,r01,r11,r21,r31,r41,r51,r61),l1000021)))))
 (some (inr (inl ((o01,o11,o21,o31),(o02,o12,o22,o32,o41,o51,o71),(l1000011,i1000011,r01,r11,r21,r31,r41,r51,r61),l1000021))))) (((0:Int),(c0,c1,c2,c3),(o0,o1,o2,o3,o4,o5,o7),(l100001,i100001,r0,r1,r2,r3,r4,r5,r6),l100002))) fun ((o01,o11,o21,o31),(o02,o12,o22,o32,o41,o51,o71),(l1000011,i1000011,r01,r11,r21,r31,r41,r51,r61),l1000021) =>
 grdO (decide (List.length o02+1≤9223372036854775807) && decide ((List.length o02+1)*40≤140737488355328)) (some (((↑(List.length (o02++[(o01,o11,o21,o31)])):Int),(o02++[(o01,o11,o21,o31)],o12,o22,o32,o41,o51,o71),(l1000011,i1000011,r01,r11,r21,r31,r41,r51,r61),l1000021)))
def zHV:=insT 807000326 (mkE 326 false [(0,[]),(0,[6]),(0,[6,7])] zQl zQf F807000326 [.tmp 4] 46 [100000,100001,100002]) tb128
theorem zRJ:TbOk Tryz.prog zHV:=okI ok128 zQd zQV func326 rfl call326
abbrev zQn:SPat:=⟨[(0,.ptr 100000 0),(1,.s)],[.box 100000 (pl [.own tg27 true,.i .i64,.i .i64,.i .i64,.own (.int .i64) true,.own tg89 true,.ar 100001,.b]),.opn 100001 tg53 true (pl [.i .i64,.i .i64,.i .i64,.i .i64,.i .i64,.s,.own zCg true,.ar 100002]),.arr 100002 zBd true]⟩
abbrev zQh:SPat:=⟨[(4,.i .i64)],[.box 100000 (pl [.own tg27 true,.i .i64,.i .i64,.i .i64,.own (.int .i64) true,.own tg89 true,.ar 100001,.b]),.opn 100001 tg53 true (pl [.i .i64,.i .i64,.i .i64,.i .i64,.i .i64,.s,.own zCg true,.ar 100002]),.arr 100002 zBd true]⟩
def F807000312:List UInt8×(List Cst×Int×Int×Int×List Int×List (Int×Int×Int)×Bool)×(List Mth×Nat×Int×Int×Int×Int×Int×List UInt8×List (Int×Int×Int×Int))×List Frm→Option (Int×(List Cst×Int×Int×Int×List Int×List (Int×Int×Int)×Bool)×(List Mth×Nat×Int×Int×Int×Int×Int×List UInt8×List (Int×Int×Int×Int))×List Frm):=fun (s,(o0,o1,o2,o3,o4,o5,o7),(l100001,i100001,r0,r1,r2,r3,r4,r5,r6),l100002) =>
 cndO (decide (60<(s.length:Int)))
 (some (((0:Int),(o0,o1,o2,o3,o4,o5,true),(l100001,i100001,r0,r1,r2,r3,r4,r5,r6),l100002)))
 (zAA (F807000326 (((1:Int),s,(0:Int),(0:Int)),(o0,o1,o2,o3,o4,o5,o7),(l100001,i100001,r0,r1,r2,r3,r4,r5,r6),l100002)) fun (y,(y1,y2,y3,y4,y5,x,x1),(x2,x3,x4,x5,x6,x7,x8,x9,x10),x11) =>
 some ((y,(y1,y2,y3,y4,y5,x,x1),(x2,x3,x4,x5,x6,x7,x8,x9,x10),x11)))
def zHX:=insT 807000312 (mkE 312 false [(0,[]),(0,[6]),(0,[6,7])] zQn zQh F807000312 [.tmp 4] 15 [100000,100001,100002]) zHV
theorem zRL:TbOk Tryz.prog zHX:=okI zRJ noPl noIv func312 rfl call312
abbrev zQp:SPat:=⟨[(0,.ptr 100000 0),(1,.s)],[.box 100000 (pl [.own tg27 true,.i .i64,.i .i64,.i .i64,.own (.int .i64) true,.own tg89 true,.ar 100001,.b]),.opn 100001 tg53 true (pl [.i .i64,.i .i64,.i .i64,.i .i64,.i .i64,.s,.own zCg true,.ar 100002]),.arr 100002 zBd true]⟩
abbrev zQj:SPat:=⟨[(4,.i .i64)],[.box 100000 (pl [.own tg27 true,.i .i64,.i .i64,.i .i64,.own (.int .i64) true,.own tg89 true,.ar 100001,.b]),.opn 100001 tg53 true (pl [.i .i64,.i .i64,.i .i64,.i .i64,.i .i64,.s,.own zCg true,.ar 100002]),.arr 100002 zBd true]⟩
def F807000310:List UInt8×(List Cst×Int×Int×Int×List Int×List (Int×Int×Int)×Bool)×(List Mth×Nat×Int×Int×Int×Int×Int×List UInt8×List (Int×Int×Int×Int))×List Frm→Option (Int×(List Cst×Int×Int×Int×List Int×List (Int×Int×Int)×Bool)×(List Mth×Nat×Int×Int×Int×Int×Int×List UInt8×List (Int×Int×Int×Int))×List Frm):=fun (s,(o0,o1,o2,o3,o4,o5,o7),(l100001,i100001,r0,r1,r2,r3,r4,r5,r6),l100002) =>
 zAA (F807000312 (s,(o0,o1,o2,o3,o4,o5,o7),(l100001,i100001,r0,r1,r2,r3,r4,r5,r6),l100002)) fun (y,(y1,y2,y3,y4,y5,x,x1),(x2,x3,x4,x5,x6,x7,x8,x9,x10),x11) =>
 zAA (F807000326 (((2:Int),[],y,(0:Int)),(y1,y2,y3,y4,y5,x,x1),(x2,x3,x4,x5,x6,x7,x8,x9,x10),x11)) fun (y6,(y7,y8,y9,y10,y11,x12,x13),(x14,x15,x16,x17,x18,x19,x20,x21,x22),x23) =>
 some ((y6,(y7,y8,y9,y10,y11,x12,x13),(x14,x15,x16,x17,x18,x19,x20,x21,x22),x23))
def zHZ:=insT 807000310 (mkE 310 false [(0,[]),(0,[6]),(0,[6,7])] zQp zQj F807000310 [.tmp 4] 11 [100000,100001,100002]) zHX
theorem zRN:TbOk Tryz.prog zHZ:=okI zRL noPl noIv func310 rfl call310
abbrev zQm:SPat:=⟨[(0,.ptr 100000 0),(1,.s)],[.box 100000 (pl [.own tg27 true,.i .i64,.i .i64,.i .i64,.own (.int .i64) true,.own tg89 true,.ar 100001,.b]),.opn 100001 tg53 true (pl [.i .i64,.i .i64,.i .i64,.i .i64,.i .i64,.s,.own zCg true,.ar 100002]),.arr 100002 zBd true]⟩
abbrev zQg:SPat:=⟨[(4,.own zBH true)],[.box 100000 (pl [.own tg27 true,.i .i64,.i .i64,.i .i64,.own (.int .i64) true,.own tg89 true,.ar 100001,.b]),.opn 100001 tg53 true (pl [.i .i64,.i .i64,.i .i64,.i .i64,.i .i64,.s,.own zCg true,.ar 100002]),.arr 100002 zBd true]⟩
abbrev zJZ:SPat:=⟨[(0,.ptr 100000 0),(5,.own zBH true),(6,.own .str true),(7,.i .i64)],[.box 100000 (pl [.own tg27 true,.i .i64,.i .i64,.i .i64,.own (.int .i64) true,.own tg89 true,.ar 100001,.b]),.opn 100001 tg53 true (pl [.i .i64,.i .i64,.i .i64,.i .i64,.i .i64,.s,.own zCg true,.ar 100002]),.arr 100002 zBd true]⟩
abbrev zFI:SPat:=⟨[(5,.own zBH true)],[.box 100000 (pl [.own tg27 true,.i .i64,.i .i64,.i .i64,.own (.int .i64) true,.own tg89 true,.ar 100001,.b]),.opn 100001 tg53 true (pl [.i .i64,.i .i64,.i .i64,.i .i64,.i .i64,.s,.own zCg true,.ar 100002]),.arr 100002 zBd true]⟩
abbrev zFH:SPat:=⟨[(0,.ptr 100000 0),(5,.own zBH true),(6,.own .str true),(7,.i .i64)],[.box 100000 (pl [.own tg27 true,.i .i64,.i .i64,.i .i64,.own (.int .i64) true,.own tg89 true,.ar 100001,.b]),.opn 100001 tg53 true (pl [.i .i64,.i .i64,.i .i64,.i .i64,.i .i64,.s,.own zCg true,.ar 100002]),.arr 100002 zBd true]⟩
def zQW:Nat→Option SPat:=fun k=>bif k == 6 then some zJZ else bif k == 2000000 then some zFI else bif k == 2000002 then some zFH else none
def zQe:Nat→List Nat×Plan:=fun id=>bif id == 16 then ([0,1,2,3,4,5,6,7,8,9,10,11,12],(.br 13 [12,11,10,9,8,7,6,5,4,3,2,1] [0] [14] (.br 15 [14,13,12,11,10,9,8,7,6,5,4,3,2,1] [0] [] (.br 16 [15,14,13,12,11,10,9,8,7,6,5,4,3,2,1,0] [] [] (.br 17 [16,15,14,13,12,11,10,9,8,7,6,5,4,3,2,1,0] [] [] .fin .fin) .fin) .fin) .fin)) else ([],.fin)
def F807000316:List UInt8×(List Cst×Int×Int×Int×List Int×List (Int×Int×Int)×Bool)×(List Mth×Nat×Int×Int×Int×Int×Int×List UInt8×List (Int×Int×Int×Int))×List Frm→Option (List (Int×Int)×(List Cst×Int×Int×Int×List Int×List (Int×Int×Int)×Bool)×(List Mth×Nat×Int×Int×Int×Int×Int×List UInt8×List (Int×Int×Int×Int))×List Frm):=fun (v1,(o0,o1,o2,o3,o4,o5,o7),(l100001,i100001,r0,r1,r2,r3,r4,r5,r6),l100002) =>
 cndO (decide (v1=[(46:UInt8)]))
 (some (([],(o0,o1,o2,o3,o4,o5,o7),(l100001,i100001,r0,r1,r2,r3,r4,r5,r6),l100002)))
 (zAA (F278 (v1,(44:Int),(8:Int))) fun y =>
 bindE (Y:=List (Int×Int)×(List Cst×Int×Int×Int×List Int×List (Int×Int×Int)×Bool)×(List Mth×Nat×Int×Int×Int×Int×Int×List UInt8×List (Int×Int×Int×Int))×List Frm) (zAF (fun (v5,v6,v7,(o01,o11,o21,o31,o41,o51,o71),(l1000011,i1000011,r01,r11,r21,r31,r41,r51,r61),l1000021) =>
 cndO (decide (v7<(v6.length:Int)))
 (bindE (Y:=List (Int×Int)×List (List UInt8)×Int×(List Cst×Int×Int×Int×List Int×List (Int×Int×Int)×Bool)×(List Mth×Nat×Int×Int×Int×Int×Int×List UInt8×List (Int×Int×Int×Int))×List Frm) (grdO (decide (0≤v7) && decide (v7<(v6.length:Int))) (atO (v6) v7.toNat fun x=>cndO (decide (x=[(73:UInt8)]))
 (grdO (decide (List.length v5+1≤9223372036854775807) && decide ((List.length v5+1)*16≤140737488355328)) (some (inl (v5++[((1:Int),(0:Int))],v6,v7,(o01,o11,o21,o31,o41,o51,o71),(l1000011,i1000011,r01,r11,r21,r31,r41,r51,r61),l1000021))))
 (grdO (decide (0≤v7) && decide (v7<(v6.length:Int))) (atO (v6) v7.toNat fun x1=>cndO (decide (x1=[(78:UInt8)]))
 (grdO (decide (List.length v5+1≤9223372036854775807) && decide ((List.length v5+1)*16≤140737488355328)) (some (inl (v5++[((2:Int),(0:Int))],v6,v7,(o01,o11,o21,o31,o41,o51,o71),(l1000011,i1000011,r01,r11,r21,r31,r41,r51,r61),l1000021))))
 (grdO (decide (0≤v7) && decide (v7<(v6.length:Int))) (atO (v6) v7.toNat fun x2=>cndO (decide (x2=[(45:UInt8)]))
 (grdO (decide (List.length v5+1≤9223372036854775807) && decide ((List.length v5+1)*16≤140737488355328)) (some (inl (v5++[((0:Int),(0:Int))],v6,v7,(o01,o11,o21,o31,o41,o51,o71),(l1000011,i1000011,r01,r11,r21,r31,r41,r51,r61),l1000021))))
 (grdO (decide (0≤v7) && decide (v7<(v6.length:Int))) (atO (v6) v7.toNat fun x3=>zAA (F128 x3) fun y1 =>
 cndO (y1)
 (grdO (decide (0≤v7) && decide (v7<(v6.length:Int))) (atO (v6) v7.toNat fun x4=>grdO (decide (0≤v7) && decide (v7<(v6.length:Int))) (atO (v6) v7.toNat fun x5=>grdO (decide (1≤IntKind.wrap .i64 ((x5.length:Int) - 1)) && decide (IntKind.wrap .i64 ((x5.length:Int) - 1)≤(x4.length:Int))) (zAA (F807000310 (List.drop (1:Nat) (List.take (Int.toNat (IntKind.wrap .i64 ((x5.length:Int) - 1))) x4),(o01,o11,o21,o31,o41,o51,o71),(l1000011,i1000011,r01,r11,r21,r31,r41,r51,r61),l1000021)) fun (y2,(y3,y4,y5,y6,y7,x6,x7),(x8,x9,x10,x11,x12,x13,x14,x15,x16),x17) =>
 grdO (decide (List.length v5+1≤9223372036854775807) && decide ((List.length v5+1)*16≤140737488355328)) (some (inl (v5++[((3:Int),y2)],v6,v7,(y3,y4,y5,y6,y7,x6,x7),(x8,x9,x10,x11,x12,x13,x14,x15,x16),x17)))))))
 (some (inl (v5,v6,v7,(o01,o11,o21,o31,o41,o51,true),(l1000011,i1000011,r01,r11,r21,r31,r41,r51,r61),l1000021))))))))))) fun (v51,v61,v71,(o02,o12,o22,o32,o42,o52,o72),(l1000012,i1000012,r02,r12,r22,r32,r42,r52,r62),l1000022) =>
 some (inl (v51,v61,IntKind.wrap .i64 (v71+1),(o02,o12,o22,o32,o42,o52,o72),(l1000012,i1000012,r02,r12,r22,r32,r42,r52,r62),l1000022)))
 (some (inr (inl (v5,(o01,o11,o21,o31,o41,o51,o71),(l1000011,i1000011,r01,r11,r21,r31,r41,r51,r61),l1000021))))) (([],y,(0:Int),(o0,o1,o2,o3,o4,o5,o7),(l100001,i100001,r0,r1,r2,r3,r4,r5,r6),l100002))) fun (v5,(o01,o11,o21,o31,o41,o51,o71),(l1000011,i1000011,r01,r11,r21,r31,r41,r51,r61),l1000021) =>
 some ((v5,(o01,o11,o21,o31,o41,o51,o71),(l1000011,i1000011,r01,r11,r21,r31,r41,r51,r61),l1000021)))
def zHW:=insT 807000316 (mkE 316 false [(0,[]),(0,[6]),(0,[6,7])] zQm zQg F807000316 [.tmp 4] 77 [100000,100001,100002]) zHZ
theorem zRK:TbOk Tryz.prog zHW:=okI zRN zQe zQW func316 rfl call316
abbrev ti279:SPat:=⟨[(0,.ptr 100000 0),(1,.s)],[.box 100000 (pl plB)]⟩
abbrev to279:SPat:=⟨[],[.box 100000 (pl plB)]⟩
abbrev zKW:SPat:=⟨[(0,.ptr 100000 0),(1,.s),(13,.b)],[.box 100000 (pl plB)]⟩
abbrev zKV:SPat:=⟨[(0,.ptr 100000 0),(4,.own .str true),(5,.b)],[.box 100000 (pl plB)]⟩
abbrev zKU:SPat:=⟨[(0,.ptr 100000 0),(4,.own .str true),(5,.b),(31,.b)],[.box 100000 (pl plB)]⟩
abbrev zKT:SPat:=⟨[(0,.ptr 100000 0),(4,.own .str true),(5,.b),(76,.b)],[.box 100000 (pl plB)]⟩
abbrev zKS:SPat:=⟨[(0,.ptr 100000 0),(4,.own .str true),(5,.b),(102,.b)],[.box 100000 (pl plB)]⟩
abbrev zKR:SPat:=⟨[(0,.ptr 100000 0),(4,.own .str true),(5,.b),(139,.b)],[.box 100000 (pl plB)]⟩
abbrev zKQ:SPat:=⟨[(0,.ptr 100000 0),(4,.own .str true),(5,.b),(157,.b)],[.box 100000 (pl plB)]⟩
abbrev zKP:SPat:=⟨[(0,.ptr 100000 0),(4,.own .str true),(173,.b)],[.box 100000 (pl plB)]⟩
abbrev zKO:SPat:=⟨[],[.box 100000 (pl plB)]⟩
def tv279:Nat→Option SPat:=fun k=>bif k == 1000001 then some zKW else bif k == 1000005 then some zKV else bif k == 1000006 then some zKU else bif k == 1000010 then some zKT else bif k == 1000012 then some zKS else bif k == 1000014 then some zKR else bif k == 1000016 then some zKQ else bif k == 1000018 then some zKP else bif k == 2000000 then some zKO else none
def tp279:Nat→List Nat×Plan:=fun id=>bif id == 10 then ([0,1,2,3,4,5,6,7,8,9],(.br 10 [9,8,7,6] [0,1,2,3,4,5] [] (.br 11 [10,9,8,7,6] [0,1,2,3,4,5] [] (.br 12 [11,10,9,8,7,6,5,4,3,2,1] [0] [13,14,15] (.br 16 [15,14,13,12,11,10,9,8,7,6,5,4,3,2,1,0] [] [] .fin .fin) .fin) .fin) .fin)) else bif id == 12 then ([0,1,2,3,4,5,6,7,8,9,11,12,13,14,16,17,18,19],(.br 10 [9,8,7,6] [0,1,2,3,4,5,11,12,13,14,16,17,18,19] [] (.br 15 [14,13,12,11,10,9,8,7,6] [0,1,2,3,4,5,16,17,18,19] [] (.br 20 [19,18,17,16,15,14,13,12,11,10,9,8,7,6] [0,1,2,3,4,5] [21] (.br 22 [21,20,19,18,17,16,15,14,13,12,11,10,9,8,7,6] [0,1,2,3,4,5] [] (.br 23 [22,21,20,19,18,17,16,15,14,13,12,11,10,9,8,7,6,5,4,3,2,1] [0] [24,25,26] (.br 27 [26,25,24,23,22,21,20,19,18,17,16,15,14,13,12,11,10,9,8,7,6,5,4,3,2,1,0] [] [] .fin .fin) .fin) .fin) .fin) .fin) .fin)) else bif id == 18 then ([0,2,7,8,9,10,12,13,14,15,17,18,19,20],(.br 1 [0] [2,7,8,9,10,12,13,14,15,17,18,19,20] [] (.br 3 [2,1,0] [7,8,9,10,12,13,14,15,17,18,19,20] [4,5,6] (.br 11 [10,9,8,7,3,2,1,0] [12,13,14,15,17,18,19,20,4,5,6] [] (.br 16 [15,14,13,12,11,10,9,8,7,3,2,1,0] [17,18,19,20,4,5,6] [] (.br 21 [20,19,18,17,16,15,14,13,12,11,10,9,8,7,3,2,1,0] [4,5,6] [22] (.br 23 [22,21,20,19,18,17,16,15,14,13,12,11,10,9,8,7,3,2,1,0] [4,5,6] [] (.br 24 [23,22,21,20,19,18,17,16,15,14,13,12,11,10,9,8,7,6,5,4,3,2,1,0] [] [25,26] (.br 27 [26,25,24,23,22,21,20,19,18,17,16,15,14,13,12,11,10,9,8,7,6,5,4,3,2,1,0] [] [] .fin .fin) .fin) .fin) .fin) .fin) .fin) .fin) .fin)) else ([],.fin)
def F279:List UInt8×List Cst×Int×Int×Int×List Int×List (Int×Int×Int)×List Mth×Bool→Option (List Cst×Int×Int×Int×List Int×List (Int×Int×Int)×List Mth×Bool):=fun (v1,o0,o1,o2,o3,o4,o5,o6,o7) =>
 bindE (Y:=List UInt8×Bool×List Cst×Int×Int×Int×List Int×List (Int×Int×Int)×List Mth×Bool) (cndO (decide (2<(v1.length:Int)))
 (grdO (decide (2≤(v1.length:Int))) (some (inl (v1,decide (List.drop (0:Nat) (List.take (2:Nat) v1)=[(32:UInt8),32]),o0,o1,o2,o3,o4,o5,o6,o7))))
 (some (inl (v1,false,o0,o1,o2,o3,o4,o5,o6,o7)))) fun (v11,v13,o01,o11,o21,o31,o41,o51,o61,o71) =>
 cndO (v13)
 (grdO (decide (2≤(v11.length:Int)) && decide ((v11.length:Int)≤(v11.length:Int))) (zAA (F278 (List.drop (2:Nat) (List.take (Int.toNat (v11.length:Int)) v11),(32:Int),(4:Int))) fun y =>
 zAA (F309 (y,o01,o11,o21,o31,o41,o51,o61,o71)) fun (y1,y2,y3,y4,y5,y6,x,x1) =>
 some ((y1,y2,y3,y4,y5,y6,x,x1))))
 (zAA (F278 (v11,(32:Int),(6:Int))) fun y =>
 bindE (Y:=List (List UInt8)×Bool×List Cst×Int×Int×Int×List Int×List (Int×Int×Int)×List Mth×Bool) (some (inl (y,decide (0<(o61.length:Int)),o01,o11,o21,o31,o41,o51,o61,o71))) fun (v4,v5,o02,o12,o22,o32,o42,o52,o62,o72) =>
 bindE (Y:=List Cst×Int×Int×Int×List Int×List (Int×Int×Int)×List Mth×Bool) (bindE (Y:=List (List UInt8)×Bool×Bool×List Cst×Int×Int×Int×List Int×List (Int×Int×Int)×List Mth×Bool) (grdO (decide (0<(v4.length:Int))) (atO (v4) (nat_lit 0) fun x=>cndO (decide (x=[(99:UInt8),108,97,115,115]))
 (cndO (decide ((v4.length:Int)=4))
 (some (inl (v4,v5,decide (o22=0),o02,o12,o22,o32,o42,o52,o62,o72)))
 (some (inl (v4,v5,false,o02,o12,o22,o32,o42,o52,o62,o72))))
 (some (inl (v4,v5,false,o02,o12,o22,o32,o42,o52,o62,o72))))) fun (v41,v51,v31,o03,o13,o23,o33,o43,o53,o63,o73) =>
 cndO (v31)
 (grdO (decide (1<(v41.length:Int))) (atO (v41) (nat_lit 1) fun x=>zAA (F310 (x,o03,o13,o23,o33,o43,o53,o63,o73)) fun (y1,y2,y3,y4,y5,y6,x1,x2,x3) =>
 grdO (decide (2<(v41.length:Int))) (atO (v41) (nat_lit 2) fun x4=>zAA (F310 (x4,y2,y3,y1,y5,y6,x1,x2,x3)) fun (y7,y8,y9,y10,y11,y12,x5,x6,x7) =>
 grdO (decide (3<(v41.length:Int))) (atO (v41) (nat_lit 3) fun x8=>zAA (F311 (x8,y8,y9,y10,y7,y12,x5,x6,x7)) fun (y13,y14,y15,y16,y17,y18,x9,x10,x11) =>
 some (inl (y14,y13,y16,y17,y18,x9,x10,x11))))))
 (bindE (Y:=List (List UInt8)×Bool×Bool×List Cst×Int×Int×Int×List Int×List (Int×Int×Int)×List Mth×Bool) (grdO (decide (0<(v41.length:Int))) (atO (v41) (nat_lit 0) fun x=>cndO (decide (x=[(102:UInt8),97,99,101]))
 (some (inl (v41,v51,decide ((v41.length:Int)=2),o03,o13,o23,o33,o43,o53,o63,o73)))
 (some (inl (v41,v51,false,o03,o13,o23,o33,o43,o53,o63,o73))))) fun (v42,v52,v76,o04,o14,o24,o34,o44,o54,o64,o74) =>
 cndO (v76)
 (grdO (decide (1<(v42.length:Int))) (atO (v42) (nat_lit 1) fun x=>zAA (F5000310 (x,(o04,o14,o24,o34,o54,o64,o74),o44)) fun (y1,(y2,y3,y4,y5,y6,x1,x2),x3) =>
 grdO (decide (List.length x3+1≤9223372036854775807) && decide ((List.length x3+1)*8≤140737488355328)) (some (inl (y2,y3,y4,y5,x3++[y1],y6,x1,x2)))))
 (bindE (Y:=List (List UInt8)×Bool×Bool×List Cst×Int×Int×Int×List Int×List (Int×Int×Int)×List Mth×Bool) (grdO (decide (0<(v42.length:Int))) (atO (v42) (nat_lit 0) fun x=>cndO (decide (x=[(102:UInt8),105,101,108,100]))
 (some (inl (v42,v52,decide ((v42.length:Int)=4),o04,o14,o24,o34,o44,o54,o64,o74)))
 (some (inl (v42,v52,false,o04,o14,o24,o34,o44,o54,o64,o74))))) fun (v43,v53,v102,o05,o15,o25,o35,o45,o55,o65,o75) =>
 cndO (v102)
 (grdO (decide (1<(v43.length:Int))) (atO (v43) (nat_lit 1) fun x=>grdO (decide (2<(v43.length:Int))) (atO (v43) (nat_lit 2) fun x1=>grdO (decide (3<(v43.length:Int))) (atO (v43) (nat_lit 3) fun x2=>zAA (F6000312 (x,(o05,o15,o25,o35,o45,o65,o75),o55)) fun (y1,(y2,y3,y4,y5,y6,x3,x4),x5) =>
 seqU (seqU (grdO (decide (2<(v43.length:Int))) (some ())) (seqU (atO (v43) (nat_lit 2) fun x6=>grdO (decide (x6=x1)) (some ())) (seqU (grdO (decide (3<(v43.length:Int))) (some ())) (seqU (atO (v43) (nat_lit 3) fun x6=>grdO (decide (x6=x2)) (some ())) (some ()))))) (zAA (F6000312 (x1,(y2,y3,y4,y5,y6,x3,x4),x5)) fun (y7,(y8,y9,y10,y11,y12,x6,x7),x8) =>
 seqU (seqU (grdO (decide (3<(v43.length:Int))) (some ())) (seqU (atO (v43) (nat_lit 3) fun x9=>grdO (decide (x9=x2)) (some ())) (some ()))) (zAA (F6000311 (x2,(y8,y9,y10,y11,y12,x6,x7),x8)) fun (y13,(y14,y15,y16,y17,y18,x9,x10),x11) =>
 grdO (decide (List.length x11+1≤9223372036854775807) && decide ((List.length x11+1)*24≤140737488355328)) (some (inl (y14,y15,y16,y17,y18,x11++[(y13,y1,y7)],x9,x10)))))))))
 (bindE (Y:=List (List UInt8)×Bool×Bool×List Cst×Int×Int×Int×List Int×List (Int×Int×Int)×List Mth×Bool) (grdO (decide (0<(v43.length:Int))) (atO (v43) (nat_lit 0) fun x=>cndO (decide (x=[(109:UInt8),101,116,104,111,100]))
 (cndO (decide ((v43.length:Int)=4))
 (some (inl (v43,v53,true,o05,o15,o25,o35,o45,o55,o65,o75)))
 (some (inl (v43,v53,decide ((v43.length:Int)=6),o05,o15,o25,o35,o45,o55,o65,o75))))
 (some (inl (v43,v53,false,o05,o15,o25,o35,o45,o55,o65,o75))))) fun (v44,v54,v139,o06,o16,o26,o36,o46,o56,o66,o76) =>
 cndO (v139)
 (zAA (F313 (v44,o06,o16,o26,o36,o46,o56,o66,o76)) fun (y1,y2,y3,y4,y5,y6,x,x1) =>
 some (inl (y1,y2,y3,y4,y5,y6,x,x1)))
 (bindE (Y:=List (List UInt8)×Bool×Bool×List Cst×Int×Int×Int×List Int×List (Int×Int×Int)×List Mth×Bool) (grdO (decide (0<(v44.length:Int))) (atO (v44) (nat_lit 0) fun x=>cndO (decide (x=[(116:UInt8),114,97,112]))
 (cndO (decide ((v44.length:Int)=5))
 (some (inl (v44,v54,v54,o06,o16,o26,o36,o46,o56,o66,o76)))
 (some (inl (v44,v54,false,o06,o16,o26,o36,o46,o56,o66,o76))))
 (some (inl (v44,v54,false,o06,o16,o26,o36,o46,o56,o66,o76))))) fun (v45,v55,v157,o07,o17,o27,o37,o47,o57,o67,o77) =>
 cndO (v157)
 (zAA (F314 (v45,o07,o17,o27,o37,o47,o57,o67,o77)) fun (y1,y2,y3,y4,y5,y6,x,x1) =>
 some (inl (y1,y2,y3,y4,y5,y6,x,x1)))
 (bindE (Y:=List (List UInt8)×Bool×List Cst×Int×Int×Int×List Int×List (Int×Int×Int)×List Mth×Bool) (grdO (decide (0<(v45.length:Int))) (atO (v45) (nat_lit 0) fun x=>cndO (decide (x=[(102:UInt8),114,97,109,101]))
 (cndO (decide ((v45.length:Int)=4))
 (some (inl (v45,v55,o07,o17,o27,o37,o47,o57,o67,o77)))
 (some (inl (v45,false,o07,o17,o27,o37,o47,o57,o67,o77))))
 (some (inl (v45,false,o07,o17,o27,o37,o47,o57,o67,o77))))) fun (v46,v173,o08,o18,o28,o38,o48,o58,o68,o78) =>
 cndO (v173)
 (grdO (decide (1<(v46.length:Int))) (atO (v46) (nat_lit 1) fun x=>grdO (decide (2<(v46.length:Int))) (atO (v46) (nat_lit 2) fun x1=>grdO (decide (3<(v46.length:Int))) (atO (v46) (nat_lit 3) fun x2=>zAA (F315 (o08,o18,o28,o38,o48,o58,o68,o78)) fun (y1,y2,y3,y4,y5,y6,x3,x4,x5) =>
 seqU (seqU (grdO (decide (1<(v46.length:Int))) (some ())) (seqU (atO (v46) (nat_lit 1) fun x6=>grdO (decide (x6=x)) (some ())) (seqU (grdO (decide (2<(v46.length:Int))) (some ())) (seqU (atO (v46) (nat_lit 2) fun x6=>grdO (decide (x6=x1)) (some ())) (seqU (grdO (decide (3<(v46.length:Int))) (some ())) (seqU (atO (v46) (nat_lit 3) fun x6=>grdO (decide (x6=x2)) (some ())) (some ()))))))) (zAA (F7000315 ((y3,y4,y5,y6,x3,x4,x5),y2)) fun (y7,(y8,y9,y10,y11,y12,x6,x7),x8) =>
 seqU (seqU (grdO (decide (1<(v46.length:Int))) (some ())) (seqU (atO (v46) (nat_lit 1) fun x9=>grdO (decide (x9=x)) (some ())) (seqU (grdO (decide (2<(v46.length:Int))) (some ())) (seqU (atO (v46) (nat_lit 2) fun x9=>grdO (decide (x9=x1)) (some ())) (seqU (grdO (decide (3<(v46.length:Int))) (some ())) (seqU (atO (v46) (nat_lit 3) fun x9=>grdO (decide (x9=x2)) (some ())) (some ()))))))) (atO (x8) (y7) fun x9=>grdO (decide (y7=y7) && decide (y7<List.length x8)) (grdO (decide (y7=y7) && decide (y7<List.length x8)) (grdO (decide (y7=y7) && decide (y7<List.length x8)) (zAA (F807000311 (x,(y8,y9,y10,y11,y12,x6,x7),(x8,y7,x9.1,x9.2.1,x9.2.2.1,x9.2.2.2.1,x9.2.2.2.2.1,x9.2.2.2.2.2.1,x9.2.2.2.2.2.2.1),x9.2.2.2.2.2.2.2)) fun (y13,(y14,y15,y16,y17,y18,x10,x11),(x12,x13,x14,x15,x16,x17,x18,x19,x20),x21) =>
 seqU (seqU (grdO (decide (2<(v46.length:Int))) (some ())) (seqU (atO (v46) (nat_lit 2) fun x22=>grdO (decide (x22=x1)) (some ())) (seqU (grdO (decide (3<(v46.length:Int))) (some ())) (seqU (atO (v46) (nat_lit 3) fun x22=>grdO (decide (x22=x2)) (some ())) (seqU (grdO (y7 == y7 && true) (some ())) (seqU (grdO (y7 == y7 && true) (some ())) (seqU (grdO (decide (y7=x13) && decide (x13<List.length x12)) (grdO (decide (y7=x13) && decide (x13<List.length x12)) (grdO (decide (y7=x13) && decide (x13<List.length x12)) (some ())))) (some ())))))))) (zAA (F807000316 (x1,(y14,y15,y16,y17,y18,x10,x11),(x12,x13,x14,x15,x16,x17,x18,x19,x20),x21)) fun (y19,(y20,y21,y22,y23,y24,x22,x23),(x24,x25,x26,x27,x28,x29,x30,x31,x32),x33) =>
 seqU (seqU (grdO (decide (3<(v46.length:Int))) (some ())) (seqU (atO (v46) (nat_lit 3) fun x34=>grdO (decide (x34=x2)) (some ())) (seqU (grdO (y7 == y7 && true) (some ())) (seqU (grdO (y7 == y7 && true) (some ())) (seqU (grdO (decide (y7=x25) && decide (x25<List.length x24)) (grdO (decide (y7=x25) && decide (x25<List.length x24)) (grdO (decide (y7=x25) && decide (x25<List.length x24)) (some ())))) (some ())))))) (zAA (F807000316 (x2,(y20,y21,y22,y23,y24,x22,x23),(x24,x25,x26,x27,x28,x29,x30,x31,x32),x33)) fun (y25,(y26,y27,y28,y29,y30,x34,x35),(x36,x37,x38,x39,x40,x41,x42,x43,x44),x45) =>
 seqU (seqU (grdO (y7 == y7 && true) (some ())) (seqU (grdO (y7 == y7 && true) (some ())) (seqU (grdO (decide (y7=x37) && decide (x37<List.length x36)) (grdO (decide (y7=x37) && decide (x37<List.length x36)) (grdO (decide (y7=x37) && decide (x37<List.length x36)) (some ())))) (some ())))) (seqU (seqU (grdO (y7 == y7 && true) (some ())) (seqU (grdO (y7 == y7 && true) (some ())) (seqU (grdO (decide (y7=x37) && decide (x37<List.length x36)) (grdO (decide (y7=x37) && decide (x37<List.length x36)) (grdO (decide (y7=x37) && decide (x37<List.length x36)) (some ())))) (some ())))) (grdO (decide (List.length x45+1≤9223372036854775807) && decide ((List.length x45+1)*56≤140737488355328)) (grdO (decide (y1=x37) && decide (x37<List.length x36)) (grdO (decide (x37<List.length x36)) (some (inl (y26,y27,y28,y29,y30,x34,List.set x36 x37 (x38,x39,x40,x41,x42,x43,x44,x45++[(y13,y19,y25)]),x35))))))))))))))))))
 (some (inl (o08,o18,o28,o38,o48,o58,o68,true))))))))) fun (o03,o13,o23,o33,o43,o53,o63,o73) =>
 some ((o03,o13,o23,o33,o43,o53,o63,o73)))
def tb279:=insT 279 (mkE 279 false [(0,[])] ti279 to279 F279 [] 213 [100000]) zHW
theorem ok279:TbOk Tryz.prog tb279:=okI zRK tp279 tv279 func279 rfl call279
abbrev ti69:SPat:=⟨[(0,.agg (pl plC))],[]⟩
abbrev to69:SPat:=⟨[(2,.b)],[]⟩
def F69:Cls→Option (Bool):=fun (c0,c1,c2,c3,c4,c5,c6) =>
 cndO (decide ((c0.length:Int)≤60))
 (cndO (decide ((c4.length:Int)≤3))
 (cndO (decide ((c5.length:Int)≤5))
 (some (decide ((c6.length:Int)≤6)))
 (some (false)))
 (some (false)))
 (some (false))
def tb69:=insT 69 (mkE 69 true [] ti69 to69 F69 [.tmp 2] 25 []) tb279
theorem ok69:TbOk Tryz.prog tb69:=okI ok279 noPl noIv func69 rfl call69
abbrev ti135:SPat:=⟨[(0,.agg (pl [.i .i64,.s,.i .i64,.i .i64]))],[]⟩
abbrev to135:SPat:=⟨[(2,.s)],[]⟩
def tp135:Nat→List Nat×Plan:=fun id=>bif id == 3 then ([0,1,3,4,5,8,9],(.br 2 [1,0] [3,4,5,8,9] [] (.br 6 [5,4,3,2,1,0] [8,9] [7,10] (.br 11 [10,9,8,7,6,5,4,3,2,1,0] [] [] .fin .fin) .fin) .fin)) else bif id == 5 then ([0,1,3,4],(.br 2 [1,0] [3,4] [] (.br 5 [4,3,2,1,0] [] [6] (.br 7 [6,5,4,3,2,1,0] [] [] .fin .fin) .fin) .fin)) else bif id == 6 then ([0,1,3,4,7,8],(.br 2 [1,0] [3,4,7,8] [] (.br 5 [4,3,2,1,0] [7,8] [6] (.br 9 [8,7,5,4,3,2,1,0] [6] [10] (.br 11 [10,9,8,7,6,5,4,3,2,1,0] [] [] .fin .fin) .fin) .fin) .fin)) else ([],.fin)
def F135:Cst→Option (List UInt8):=fun (c0,c1,c2,c3) =>
 cndO (decide (c0=1))
 (zAA (F134 c0) fun y =>
 seqU (seqU (grdO (decide (c1=c1)) (some ())) (seqU (grdO (decide ((c1.length:Int)=(c1.length:Int))) (some ())) (seqU (grdO (decide (c1=c1)) (some ())) (some ())))) (zAA (F134 (c1.length:Int)) fun y1 =>
 seqU (seqU (grdO (decide (c1=c1)) (some ())) (some ())) (grdO (decide (List.length y+List.length y1≤9223372036854775807)) (grdO (decide (List.length (y++y1)+List.length c1≤9223372036854775807)) (some (y++y1++c1))))))
 (cndO (decide (c0=2))
 (zAA (F134 c0) fun y =>
 seqU (seqU (grdO (decide (c2=c2)) (some ())) (some ())) (zAA (F136 c2) fun y1 =>
 grdO (decide (List.length y+List.length y1≤9223372036854775807)) (some (y++y1))))
 (zAA (F134 c0) fun y =>
 seqU (seqU (grdO (decide (c2=c2)) (some ())) (seqU (grdO (decide (c3=c3)) (some ())) (some ()))) (zAA (F136 c2) fun y1 =>
 seqU (seqU (grdO (decide (c3=c3)) (some ())) (some ())) (grdO (decide (List.length y+List.length y1≤9223372036854775807)) (zAA (F136 c3) fun y2 =>
 seqU (seqU (grdO (decide (List.length y+List.length y1≤9223372036854775807)) (grdO (decide (y++y1=y++y1)) (some ()))) (some ())) (grdO (decide (List.length (y++y1)+List.length y2≤9223372036854775807)) (some (y++y1++y2))))))))
def tb135:=insT 135 (mkE 135 true [] ti135 to135 F135 [.tmp 2] 38 []) tb69
theorem ok135:TbOk Tryz.prog tb135:=okI ok69 tp135 noIv func135 rfl call135
abbrev ti216:SPat:=⟨[(0,.sl zBH)],[]⟩
abbrev to216:SPat:=⟨[(2,.s)],[]⟩
abbrev ts216_3:SPat:=⟨[(0,.sl zBH),(3,.s),(4,.i .i64)],[]⟩
abbrev zLD:SPat:=⟨[(3,.s)],[]⟩
abbrev zLC:SPat:=⟨[(0,.sl zBH),(3,.s),(4,.i .i64)],[]⟩
def tv216:Nat→Option SPat:=fun k=>bif k == 3 then some ts216_3 else bif k == 2000000 then some zLD else bif k == 2000001 then some zLC else none
def F216:List (Int×Int)→Option (List UInt8):=fun list =>
 zAA (F134 (list.length:Int)) fun y =>
 bindE (Y:=List UInt8) (zAF (fun (list1,out,i) =>
 cndO (decide (i<(list1.length:Int)))
 (bindE (Y:=List (Int×Int)×List UInt8×Int) (grdO (decide (0≤i)) (atO (list1) i.toNat fun x=>zAA (F134 (x.1)) fun y1 =>
 grdO (decide (List.length out+List.length y1≤9223372036854775807)) (grdO (decide (0≤i)) (atO (list1) i.toNat fun x1=>cndO (decide (x1.1=3))
 (grdO (decide (0≤i)) (atO (list1) i.toNat fun x2=>zAA (F136 (x2.2)) fun y2 =>
 grdO (decide (List.length (out++y1)+List.length y2≤9223372036854775807)) (some (inl (list1,out++y1++y2,i)))))
 (some (inl (list1,out++y1,i))))))) fun (list2,out1,i1) =>
 some (inl (list2,out1,IntKind.wrap .i64 (i1+1))))
 (some (inr (inl out)))) ((list,y,(0:Int)))) fun out =>
 some (out)
def tb216:=insT 216 (mkE 216 true [] ti216 to216 F216 [.tmp 2] 37 []) tb135
theorem ok216:TbOk Tryz.prog tb216:=okI ok135 noPl tv216 func216 rfl call216
abbrev ti137:SPat:=⟨[(0,.agg (pl plM))],[]⟩
abbrev to137:SPat:=⟨[(2,.s)],[]⟩
abbrev ts137_6:SPat:=⟨[(1,.ptr 1 0),(3,.s),(4,.i .i64)],[.box 1 (pl plM)]⟩
abbrev ts137_12:SPat:=⟨[(1,.ptr 1 0),(3,.s),(6,.i .i64)],[.box 1 (pl plM)]⟩
abbrev zMI:SPat:=⟨[(1,.ptr 1 0),(3,.s)],[.box 1 (pl plM)]⟩
abbrev zMH:SPat:=⟨[(3,.s)],[]⟩
def tv137:Nat→Option SPat:=fun k=>bif k == 6 then some ts137_6 else bif k == 12 then some ts137_12 else bif k == 2000000 then some zMI else bif k == 2000002 then some zMH else none
def tp137:Nat→List Nat×Plan:=fun id=>bif id == 1 then ([0,1,3,4,7,8],(.br 2 [1,0] [3,4,7,8] [] (.br 5 [4,3,2,1,0] [7,8] [6] (.br 9 [8,7,5,4,3,2,1,0] [6] [10] (.br 11 [10,9,8,7,6,5,4,3,2,1,0] [] [] .fin .fin) .fin) .fin) .fin)) else bif id == 4 then ([0,1,2,5,6,9,10,11,14,15,17,18,19],(.br 3 [2,1] [0,5,6,9,10,11,14,15,17,18,19] [4] (.br 7 [6,5,3,2,1] [0,9,10,11,14,15,17,18,19,4] [8] (.br 12 [11,10,9,7,6,5,3,2,1] [0,14,15,17,18,19,4,8] [13,16] (.br 20 [19,18,17,12,11,10,9,7,6,5,3,2,1] [0,14,15,4,8,13,16] [21] (.br 22 [21,20,19,18,17,16,15,14,13,12,11,10,9,8,7,6,5,4,3,2,1,0] [] [] .fin .fin) .fin) .fin) .fin) .fin)) else bif id == 9 then ([0,1,2,5,6,9,10,13,14],(.br 3 [2,1] [0,5,6,9,10,13,14] [4] (.br 7 [6,5,3,2,1] [0,9,10,13,14,4] [8] (.br 11 [10,9,7,6,5,3,2,1] [0,13,14,4,8] [12] (.br 15 [14,13,11,10,9,7,6,5,3,2,1] [0,4,8,12] [16] (.br 17 [16,15,14,13,12,11,10,9,8,7,6,5,4,3,2,1,0] [] [] .fin .fin) .fin) .fin) .fin) .fin)) else bif id == 14 then ([0,1,2,3,4,5,6,9,10,11,12,13,14,17,18,19,20,21,22],(.br 7 [6,5,4,3,2,1] [0,9,10,11,12,13,14,17,18,19,20,21,22] [8] (.br 15 [14,13,12,11,10,9,7,6,5,4,3,2,1] [0,17,18,19,20,21,22,8] [16] (.br 23 [22,21,20,19,18,17,15,14,13,12,11,10,9,7,6,5,4,3,2,1] [0,8,16] [24] (.br 25 [24,23,22,21,20,19,18,17,16,15,14,13,12,11,10,9,8,7,6,5,4,3,2,1,0] [] [] .fin .fin) .fin) .fin) .fin)) else ([],.fin)
def F137:Mth→Option (List UInt8):=fun (app0,app1,app2,app3,app4,app5,app6,app7) =>
 zAA (F134 app0) fun y =>
 seqU (seqU (grdO (decide (app1=app1)) (some ())) (seqU (grdO (decide (app2=app2)) (some ())) (some ()))) (zAA (F136 app1) fun y1 =>
 seqU (seqU (grdO (decide (app2=app2)) (some ())) (some ())) (grdO (decide (List.length y+List.length y1≤9223372036854775807)) (zAA (F136 app2) fun y2 =>
 seqU (seqU (grdO (decide (List.length y+List.length y1≤9223372036854775807)) (grdO (decide (y++y1=y++y1)) (some ()))) (some ())) (grdO (decide (List.length (y++y1)+List.length y2≤9223372036854775807)) (cndO (decide (IntKind.wrap .i64 (Int.tdiv (Int.tmod app0 (16:Int)) (8:Int))=1))
 (some (y++y1++y2))
 (zAA (F134 app3) fun y3 =>
 seqU (seqU (grdO (decide (y++y1++y2=y++y1++y2)) (some ())) (seqU (grdO (decide (app4=app4)) (some ())) (seqU (grdO (decide (app5=app5)) (some ())) (seqU (grdO (decide ((app5.length:Int)=(app5.length:Int))) (some ())) (seqU (grdO (decide (app5=app5)) (some ())) (seqU (grdO (decide (app6=app6)) (some ())) (seqU (grdO (decide ((app6.length:Int)=(app6.length:Int))) (some ())) (some ())))))))) (grdO (decide (List.length (y++y1++y2)+List.length y3≤9223372036854775807)) (zAA (F134 app4) fun y4 =>
 seqU (seqU (grdO (decide (y++y1++y2=y++y1++y2)) (some ())) (seqU (grdO (decide (app5=app5)) (some ())) (seqU (grdO (decide ((app5.length:Int)=(app5.length:Int))) (some ())) (seqU (grdO (decide (app5=app5)) (some ())) (seqU (grdO (decide (app6=app6)) (some ())) (seqU (grdO (decide ((app6.length:Int)=(app6.length:Int))) (some ())) (seqU (grdO (decide (List.length (y++y1++y2)+List.length y3≤9223372036854775807)) (grdO (decide (y++y1++y2++y3=y++y1++y2++y3)) (some ()))) (some ())))))))) (grdO (decide (List.length (y++y1++y2++y3)+List.length y4≤9223372036854775807)) (zAA (F136 (app5.length:Int)) fun y5 =>
 seqU (seqU (grdO (decide (y++y1++y2=y++y1++y2)) (some ())) (seqU (grdO (decide (app5=app5)) (some ())) (seqU (grdO (decide (app6=app6)) (some ())) (seqU (grdO (decide ((app6.length:Int)=(app6.length:Int))) (some ())) (seqU (grdO (decide (List.length (y++y1++y2)+List.length y3≤9223372036854775807)) (grdO (decide (y++y1++y2++y3=y++y1++y2++y3)) (some ()))) (seqU (grdO (decide (List.length (y++y1++y2++y3)+List.length y4≤9223372036854775807)) (grdO (decide (y++y1++y2++y3++y4=y++y1++y2++y3++y4)) (some ()))) (some ()))))))) (grdO (decide (List.length (y++y1++y2++y3++y4)+List.length y5≤9223372036854775807)) (grdO (decide (List.length (y++y1++y2++y3++y4++y5)+List.length app5≤9223372036854775807)) (zAA (F134 (app6.length:Int)) fun y6 =>
 seqU (seqU (grdO (decide (y++y1++y2=y++y1++y2)) (some ())) (seqU (grdO (decide (app5=app5)) (some ())) (seqU (grdO (decide (List.length (y++y1++y2)+List.length y3≤9223372036854775807)) (grdO (decide (y++y1++y2++y3=y++y1++y2++y3)) (some ()))) (seqU (grdO (decide (List.length (y++y1++y2++y3)+List.length y4≤9223372036854775807)) (grdO (decide (y++y1++y2++y3++y4=y++y1++y2++y3++y4)) (some ()))) (seqU (grdO (decide (List.length (y++y1++y2++y3++y4)+List.length y5≤9223372036854775807)) (grdO (decide (y++y1++y2++y3++y4++y5=y++y1++y2++y3++y4++y5)) (some ()))) (seqU (grdO (decide (List.length (y++y1++y2++y3++y4++y5)+List.length app5≤9223372036854775807)) (grdO (decide (y++y1++y2++y3++y4++y5++app5=y++y1++y2++y3++y4++y5++app5)) (some ()))) (some ()))))))) (grdO (decide (List.length (y++y1++y2++y3++y4++y5++app5)+List.length y6≤9223372036854775807)) (bindE (Y:=List UInt8×Mth) (zAF (fun (v3,v4,o0,o1,o2,o3,o4,o5,o6,o7) =>
 cndO (decide (v4<(o6.length:Int)))
 (grdO (decide (0≤v4)) (atO (o6) v4.toNat fun x=>zAA (F136 (x.1)) fun y7 =>
 seqU (seqU (grdO (decide (v3=v3)) (some ())) (seqU (grdO (decide (x.2.1=x.2.1)) (some ())) (seqU (grdO (decide (x.2.2.1=x.2.2.1)) (some ())) (seqU (grdO (decide (x.2.2.2=x.2.2.2)) (some ())) (some ()))))) (grdO (decide (List.length v3+List.length y7≤9223372036854775807)) (zAA (F136 (x.2.1)) fun y8 =>
 seqU (seqU (grdO (decide (v3=v3)) (some ())) (seqU (grdO (decide (x.2.2.1=x.2.2.1)) (some ())) (seqU (grdO (decide (x.2.2.2=x.2.2.2)) (some ())) (seqU (grdO (decide (List.length v3+List.length y7≤9223372036854775807)) (grdO (decide (v3++y7=v3++y7)) (some ()))) (some ()))))) (grdO (decide (List.length (v3++y7)+List.length y8≤9223372036854775807)) (zAA (F136 (x.2.2.1)) fun y9 =>
 seqU (seqU (grdO (decide (v3=v3)) (some ())) (seqU (grdO (decide (x.2.2.2=x.2.2.2)) (some ())) (seqU (grdO (decide (List.length v3+List.length y7≤9223372036854775807)) (grdO (decide (v3++y7=v3++y7)) (some ()))) (seqU (grdO (decide (List.length (v3++y7)+List.length y8≤9223372036854775807)) (grdO (decide (v3++y7++y8=v3++y7++y8)) (some ()))) (some ()))))) (grdO (decide (List.length (v3++y7++y8)+List.length y9≤9223372036854775807)) (zAA (F136 (x.2.2.2)) fun y10 =>
 seqU (seqU (grdO (decide (v3=v3)) (some ())) (seqU (grdO (decide (List.length v3+List.length y7≤9223372036854775807)) (grdO (decide (v3++y7=v3++y7)) (some ()))) (seqU (grdO (decide (List.length (v3++y7)+List.length y8≤9223372036854775807)) (grdO (decide (v3++y7++y8=v3++y7++y8)) (some ()))) (seqU (grdO (decide (List.length (v3++y7++y8)+List.length y9≤9223372036854775807)) (grdO (decide (v3++y7++y8++y9=v3++y7++y8++y9)) (some ()))) (some ()))))) (grdO (decide (List.length (v3++y7++y8++y9)+List.length y10≤9223372036854775807)) (some (inl (v3++y7++y8++y9++y10,IntKind.wrap .i64 (v4+1),o0,o1,o2,o3,o4,o5,o6,o7))))))))))))
 (some (inr (inl (v3,o0,o1,o2,o3,o4,o5,o6,o7))))) ((y++y1++y2++y3++y4++y5++app5++y6,(0:Int),app0,app1,app2,app3,app4,app5,app6,app7))) fun (v3,o0,o1,o2,o3,o4,o5,o6,o7) =>
 zAA (F134 (o7.length:Int)) fun y7 =>
 grdO (decide (List.length v3+List.length y7≤9223372036854775807)) (bindE (Y:=List UInt8) (zAF (fun (v31,v6,o01,o11,o21,o31,o41,o51,o61,o71) =>
 cndO (decide (v6<(o71.length:Int)))
 (grdO (decide (0≤v6)) (atO (o71) v6.toNat fun x=>grdO (decide (0≤v6)) (atO (o71) v6.toNat fun x1=>grdO (decide (0≤v6)) (atO (o71) v6.toNat fun x2=>zAA (F136 (x.1)) fun y8 =>
 seqU (seqU (grdO (decide (v31=v31)) (some ())) (seqU (grdO (decide (o71=o71)) (some ())) (seqU (grdO (decide (v6=v6)) (some ())) (seqU (grdO (decide (0≤v6)) (atO (o71) v6.toNat fun x3=>grdO (decide (x3.1=x1.1) && (decide (x3.2.1=x1.2.1) && (decide (x3.2.2=x1.2.2) && true))) (some ()))) (seqU (grdO (decide (x1.2.1=x1.2.1) && (decide (x1.2.2=x1.2.2) && true)) (some ())) (seqU (grdO (decide (x1.2.1=x1.2.1)) (some ())) (seqU (grdO (decide (o71=o71)) (some ())) (seqU (grdO (decide (v6=v6)) (some ())) (seqU (grdO (decide (0≤v6)) (atO (o71) v6.toNat fun x3=>grdO (decide (x3.1=x2.1) && (decide (x3.2.1=x2.2.1) && (decide (x3.2.2=x2.2.2) && true))) (some ()))) (seqU (grdO (decide (x2.2.2=x2.2.2) && true) (some ())) (seqU (grdO (decide (x2.2.2=x2.2.2)) (some ())) (some ())))))))))))) (grdO (decide (List.length v31+List.length y8≤9223372036854775807)) (zAA (F216 (x1.2.1)) fun y9 =>
 seqU (seqU (grdO (decide (v31=v31)) (some ())) (seqU (grdO (decide (o71=o71)) (some ())) (seqU (grdO (decide (v6=v6)) (some ())) (seqU (grdO (decide (0≤v6)) (atO (o71) v6.toNat fun x3=>grdO (decide (x3.1=x2.1) && (decide (x3.2.1=x2.2.1) && (decide (x3.2.2=x2.2.2) && true))) (some ()))) (seqU (grdO (decide (x2.2.2=x2.2.2) && true) (some ())) (seqU (grdO (decide (x2.2.2=x2.2.2)) (some ())) (seqU (grdO (decide (List.length v31+List.length y8≤9223372036854775807)) (grdO (decide (v31++y8=v31++y8)) (some ()))) (some ())))))))) (grdO (decide (List.length (v31++y8)+List.length y9≤9223372036854775807)) (zAA (F216 (x2.2.2)) fun y10 =>
 seqU (seqU (grdO (decide (v31=v31)) (some ())) (seqU (grdO (decide (List.length v31+List.length y8≤9223372036854775807)) (grdO (decide (v31++y8=v31++y8)) (some ()))) (seqU (grdO (decide (List.length (v31++y8)+List.length y9≤9223372036854775807)) (grdO (decide (v31++y8++y9=v31++y8++y9)) (some ()))) (some ())))) (grdO (decide (List.length (v31++y8++y9)+List.length y10≤9223372036854775807)) (some (inl (v31++y8++y9++y10,IntKind.wrap .i64 (v6+1),o01,o11,o21,o31,o41,o51,o61,o71))))))))))))
 (some (inr (inl v31)))) ((v3++y7,(0:Int),o0,o1,o2,o3,o4,o5,o6,o7))) fun v31 =>
 some (v31)))))))))))))))))
def tb137:=insT 137 (mkE 137 true [] ti137 to137 F137 [.tmp 2] 114 []) tb216
theorem ok137:TbOk Tryz.prog tb137:=okI ok216 tp137 tv137 func137 rfl call137
abbrev ti55:SPat:=⟨[(0,.agg (pl plC))],[]⟩
abbrev to55:SPat:=⟨[(2,.s)],[]⟩
abbrev ts55_3:SPat:=⟨[(1,.ptr 1 0),(3,.s),(4,.i .i64)],[.box 1 (pl plC)]⟩
abbrev ts55_8:SPat:=⟨[(1,.ptr 1 0),(3,.s),(5,.i .i64)],[.box 1 (pl plC)]⟩
abbrev ts55_13:SPat:=⟨[(1,.ptr 1 0),(3,.s),(6,.i .i64)],[.box 1 (pl plC)]⟩
abbrev ts55_18:SPat:=⟨[(1,.ptr 1 0),(3,.s),(7,.i .i64)],[.box 1 (pl plC)]⟩
abbrev zOK:SPat:=⟨[(1,.ptr 1 0),(3,.s)],[.box 1 (pl plC)]⟩
abbrev zOJ:SPat:=⟨[(1,.ptr 1 0),(3,.s)],[.box 1 (pl plC)]⟩
abbrev zOI:SPat:=⟨[(1,.ptr 1 0),(3,.s)],[.box 1 (pl plC)]⟩
abbrev zOH:SPat:=⟨[(3,.s)],[]⟩
def tv55:Nat→Option SPat:=fun k=>bif k == 3 then some ts55_3 else bif k == 8 then some ts55_8 else bif k == 13 then some ts55_13 else bif k == 18 then some ts55_18 else bif k == 2000000 then some zOK else bif k == 2000002 then some zOJ else bif k == 2000004 then some zOI else bif k == 2000006 then some zOH else none
def tp55:Nat→List Nat×Plan:=fun id=>bif id == 6 then ([0,1,2,5,6,9,10,13,14,15],(.br 3 [2,1] [0,5,6,9,10,13,14,15] [4] (.br 7 [6,5,3,2,1] [0,9,10,13,14,15,4] [8] (.br 11 [10,9,7,6,5,3,2,1] [0,13,14,15,4,8] [12] (.br 16 [15,14,13,11,10,9,7,6,5,3,2,1] [0,4,8,12] [17] (.br 18 [17,16,15,14,13,12,11,10,9,8,7,6,5,4,3,2,1,0] [] [] .fin .fin) .fin) .fin) .fin) .fin)) else bif id == 15 then ([0,1,2,3,4,5,6,9,10,11,12,13,14,17,18,19,20,21,22],(.br 7 [6,5,4,3,2,1] [0,9,10,11,12,13,14,17,18,19,20,21,22] [8] (.br 15 [14,13,12,11,10,9,7,6,5,4,3,2,1] [0,17,18,19,20,21,22,8] [16] (.br 23 [22,21,20,19,18,17,15,14,13,12,11,10,9,7,6,5,4,3,2,1] [0,8,16] [24] (.br 25 [24,23,22,21,20,19,18,17,16,15,14,13,12,11,10,9,8,7,6,5,4,3,2,1,0] [] [] .fin .fin) .fin) .fin) .fin)) else ([],.fin)
def F55:Cls→Option (List UInt8):=fun (app0,app1,app2,app3,app4,app5,app6) =>
 zAA (F134 (app0.length:Int)) fun y =>
 grdO (decide ((4:Nat)+List.length y≤9223372036854775807)) (bindE (Y:=List UInt8×Cls) (zAF (fun (v3,v4,o0,o1,o2,o3,o4,o5,o6) =>
 cndO (decide (v4<(o0.length:Int)))
 (grdO (decide (0≤v4)) (atO (o0) v4.toNat fun x=>zAA (F135 (x.1,x.2.1,x.2.2.1,x.2.2.2)) fun y1 =>
 grdO (decide (List.length v3+List.length y1≤9223372036854775807)) (some (inl (v3++y1,IntKind.wrap .i64 (v4+1),o0,o1,o2,o3,o4,o5,o6)))))
 (some (inr (inl (v3,o0,o1,o2,o3,o4,o5,o6))))) (([(83:UInt8),84,79,87]++y,(0:Int),app0,app1,app2,app3,app4,app5,app6))) fun (v3,o0,o1,o2,o3,o4,o5,o6) =>
 zAA (F134 o1) fun y1 =>
 seqU (seqU (grdO (decide (v3=v3)) (some ())) (seqU (grdO (decide (o2=o2)) (some ())) (seqU (grdO (decide (o3=o3)) (some ())) (seqU (grdO (decide (o4=o4)) (some ())) (seqU (grdO (decide ((o4.length:Int)=(o4.length:Int))) (some ())) (some ())))))) (grdO (decide (List.length v3+List.length y1≤9223372036854775807)) (zAA (F136 o2) fun y2 =>
 seqU (seqU (grdO (decide (v3=v3)) (some ())) (seqU (grdO (decide (o3=o3)) (some ())) (seqU (grdO (decide (o4=o4)) (some ())) (seqU (grdO (decide ((o4.length:Int)=(o4.length:Int))) (some ())) (seqU (grdO (decide (List.length v3+List.length y1≤9223372036854775807)) (grdO (decide (v3++y1=v3++y1)) (some ()))) (some ())))))) (grdO (decide (List.length (v3++y1)+List.length y2≤9223372036854775807)) (zAA (F136 o3) fun y3 =>
 seqU (seqU (grdO (decide (v3=v3)) (some ())) (seqU (grdO (decide (o4=o4)) (some ())) (seqU (grdO (decide ((o4.length:Int)=(o4.length:Int))) (some ())) (seqU (grdO (decide (List.length v3+List.length y1≤9223372036854775807)) (grdO (decide (v3++y1=v3++y1)) (some ()))) (seqU (grdO (decide (List.length (v3++y1)+List.length y2≤9223372036854775807)) (grdO (decide (v3++y1++y2=v3++y1++y2)) (some ()))) (some ())))))) (grdO (decide (List.length (v3++y1++y2)+List.length y3≤9223372036854775807)) (zAA (F134 (o4.length:Int)) fun y4 =>
 seqU (seqU (grdO (decide (v3=v3)) (some ())) (seqU (grdO (decide (List.length v3+List.length y1≤9223372036854775807)) (grdO (decide (v3++y1=v3++y1)) (some ()))) (seqU (grdO (decide (List.length (v3++y1)+List.length y2≤9223372036854775807)) (grdO (decide (v3++y1++y2=v3++y1++y2)) (some ()))) (seqU (grdO (decide (List.length (v3++y1++y2)+List.length y3≤9223372036854775807)) (grdO (decide (v3++y1++y2++y3=v3++y1++y2++y3)) (some ()))) (some ()))))) (grdO (decide (List.length (v3++y1++y2++y3)+List.length y4≤9223372036854775807)) (bindE (Y:=List UInt8×Cls) (zAF (fun (v31,v5,o01,o11,o21,o31,o41,o51,o61) =>
 cndO (decide (v5<(o41.length:Int)))
 (grdO (decide (0≤v5)) (atO (o41) v5.toNat fun x=>zAA (F136 x) fun y5 =>
 grdO (decide (List.length v31+List.length y5≤9223372036854775807)) (some (inl (v31++y5,IntKind.wrap .i64 (v5+1),o01,o11,o21,o31,o41,o51,o61)))))
 (some (inr (inl (v31,o01,o11,o21,o31,o41,o51,o61))))) ((v3++y1++y2++y3++y4,(0:Int),o0,o1,o2,o3,o4,o5,o6))) fun (v31,o01,o11,o21,o31,o41,o51,o61) =>
 zAA (F134 (o51.length:Int)) fun y5 =>
 grdO (decide (List.length v31+List.length y5≤9223372036854775807)) (bindE (Y:=List UInt8×Cls) (zAF (fun (v32,v6,o02,o12,o22,o32,o42,o52,o62) =>
 cndO (decide (v6<(o52.length:Int)))
 (grdO (decide (0≤v6)) (atO (o52) v6.toNat fun x=>grdO (decide (0≤v6)) (atO (o52) v6.toNat fun x1=>grdO (decide (0≤v6)) (atO (o52) v6.toNat fun x2=>zAA (F134 (x.1)) fun y6 =>
 seqU (seqU (grdO (decide (v32=v32)) (some ())) (seqU (grdO (decide (o52=o52)) (some ())) (seqU (grdO (decide (v6=v6)) (some ())) (seqU (grdO (decide (0≤v6)) (atO (o52) v6.toNat fun x3=>grdO (decide (x3.1=x1.1) && (decide (x3.2.1=x1.2.1) && (decide (x3.2.2=x1.2.2) && true))) (some ()))) (seqU (grdO (decide (x1.2.1=x1.2.1) && (decide (x1.2.2=x1.2.2) && true)) (some ())) (seqU (grdO (decide (x1.2.1=x1.2.1)) (some ())) (seqU (grdO (decide (o52=o52)) (some ())) (seqU (grdO (decide (v6=v6)) (some ())) (seqU (grdO (decide (0≤v6)) (atO (o52) v6.toNat fun x3=>grdO (decide (x3.1=x2.1) && (decide (x3.2.1=x2.2.1) && (decide (x3.2.2=x2.2.2) && true))) (some ()))) (seqU (grdO (decide (x2.2.2=x2.2.2) && true) (some ())) (seqU (grdO (decide (x2.2.2=x2.2.2)) (some ())) (some ())))))))))))) (grdO (decide (List.length v32+List.length y6≤9223372036854775807)) (zAA (F136 (x1.2.1)) fun y7 =>
 seqU (seqU (grdO (decide (v32=v32)) (some ())) (seqU (grdO (decide (o52=o52)) (some ())) (seqU (grdO (decide (v6=v6)) (some ())) (seqU (grdO (decide (0≤v6)) (atO (o52) v6.toNat fun x3=>grdO (decide (x3.1=x2.1) && (decide (x3.2.1=x2.2.1) && (decide (x3.2.2=x2.2.2) && true))) (some ()))) (seqU (grdO (decide (x2.2.2=x2.2.2) && true) (some ())) (seqU (grdO (decide (x2.2.2=x2.2.2)) (some ())) (seqU (grdO (decide (List.length v32+List.length y6≤9223372036854775807)) (grdO (decide (v32++y6=v32++y6)) (some ()))) (some ())))))))) (grdO (decide (List.length (v32++y6)+List.length y7≤9223372036854775807)) (zAA (F136 (x2.2.2)) fun y8 =>
 seqU (seqU (grdO (decide (v32=v32)) (some ())) (seqU (grdO (decide (List.length v32+List.length y6≤9223372036854775807)) (grdO (decide (v32++y6=v32++y6)) (some ()))) (seqU (grdO (decide (List.length (v32++y6)+List.length y7≤9223372036854775807)) (grdO (decide (v32++y6++y7=v32++y6++y7)) (some ()))) (some ())))) (grdO (decide (List.length (v32++y6++y7)+List.length y8≤9223372036854775807)) (some (inl (v32++y6++y7++y8,IntKind.wrap .i64 (v6+1),o02,o12,o22,o32,o42,o52,o62))))))))))))
 (some (inr (inl (v32,o02,o12,o22,o32,o42,o52,o62))))) ((v31++y5,(0:Int),o01,o11,o21,o31,o41,o51,o61))) fun (v32,o02,o12,o22,o32,o42,o52,o62) =>
 zAA (F134 (o62.length:Int)) fun y6 =>
 grdO (decide (List.length v32+List.length y6≤9223372036854775807)) (bindE (Y:=List UInt8) (zAF (fun (v33,v7,o03,o13,o23,o33,o43,o53,o63) =>
 cndO (decide (v7<(o63.length:Int)))
 (grdO (decide (0≤v7)) (atO (o63) v7.toNat fun x=>zAA (F137 (x.1,x.2.1,x.2.2.1,x.2.2.2.1,x.2.2.2.2.1,x.2.2.2.2.2.1,x.2.2.2.2.2.2.1,x.2.2.2.2.2.2.2)) fun y7 =>
 grdO (decide (List.length v33+List.length y7≤9223372036854775807)) (some (inl (v33++y7,IntKind.wrap .i64 (v7+1),o03,o13,o23,o33,o43,o53,o63)))))
 (some (inr (inl v33)))) ((v32++y6,(0:Int),o02,o12,o22,o32,o42,o52,o62))) fun v33 =>
 some (v33))))))))))))
def tb55:=insT 55 (mkE 55 true [] ti55 to55 F55 [.tmp 2] 121 []) tb137
theorem ok55:TbOk Tryz.prog tb55:=okI ok137 tp55 tv55 func55 rfl call55
abbrev ti219:SPat:=⟨[(0,.ptr 100000 0),(1,.i .i64)],[.box 100000 (pl plS)]⟩
abbrev to219:SPat:=⟨[(4,.s)],[.box 100000 (pl plS)]⟩
abbrev zKt:SPat:=⟨[(0,.ptr 100000 0),(1,.i .i64),(22,.b)],[.box 100000 (pl plS)]⟩
def tv219:Nat→Option SPat:=fun k=>bif k == 1000002 then some zKt else none
def tp219:Nat→List Nat×Plan:=fun id=>bif id == 1 then ([0,1,2,3,4,5,6,7,8,9,10,11,12,13,14,15,16,17],.fin) else bif id == 5 then ([0,1,2,3,4,5,6,7,8,9,10,11,12,13,14],(.br 15 [14,13,12,11,10,9,8,7,6,5,4,3,2,1,0] [] [] .fin .fin)) else ([],.fin)
def F219:Int×List UInt8×Int×Bool→Option (List UInt8×List UInt8×Int×Bool):=fun (n,o0,o1,o2) =>
 bindE (Y:=Int×Bool×List UInt8×Int×Bool) (cndO (o2)
 (some (inl (n,true,o0,o1,o2)))
 (some (inl (n,decide ((o0.length:Int)<IntKind.wrap .i64 (o1+n)),o0,o1,o2)))) fun (n1,v22,o01,o11,o21) =>
 cndO (v22)
 (some (([],o01,o11,true)))
 (grdO (decide (0≤IntKind.wrap .i64 (IntKind.wrap .i64 (o11+n1) - n1)) && decide (IntKind.wrap .i64 (IntKind.wrap .i64 (o11+n1) - n1)≤IntKind.wrap .i64 (o11+n1)) && decide (IntKind.wrap .i64 (o11+n1)≤(o01.length:Int))) (some ((List.drop (Int.toNat (IntKind.wrap .i64 (IntKind.wrap .i64 (o11+n1) - n1))) (List.take (Int.toNat (IntKind.wrap .i64 (o11+n1))) o01),o01,IntKind.wrap .i64 (o11+n1),o21))))
def tb219:=insT 219 (mkE 219 false [(0,[])] ti219 to219 F219 [.tmp 4] 50 [100000]) tb55
theorem ok219:TbOk Tryz.prog tb219:=okI ok55 tp219 tv219 func219 rfl call219
abbrev ti221:SPat:=⟨[(0,.ptr 100000 0)],[.box 100000 (pl plS)]⟩
abbrev to221:SPat:=⟨[(2,.i .i64)],[.box 100000 (pl plS)]⟩
abbrev zKp:SPat:=⟨[(0,.ptr 100000 0),(18,.b)],[.box 100000 (pl plS)]⟩
def tv221:Nat→Option SPat:=fun k=>bif k == 1000002 then some zKp else none
def tp221:Nat→List Nat×Plan:=fun id=>bif id == 1 then ([0,1,2,3,4,5,6,7,8,9,10,11,12,13,14,15],.fin) else bif id == 5 then ([0,1,2,3,4,5,6,7,8,9,10],(.br 11 [10,9,8,7,6,5,4,3,2,1,0] [] [] .fin .fin)) else ([],.fin)
def F221:List UInt8×Int×Bool→Option (Int×List UInt8×Int×Bool):=fun (o0,o1,o2) =>
 bindE (Y:=Bool×List UInt8×Int×Bool) (cndO (o2)
 (some (inl (true,o0,o1,o2)))
 (some (inl (decide ((o0.length:Int)≤o1),o0,o1,o2)))) fun (v18,o01,o11,o21) =>
 cndO (v18)
 (some (((0:Int),o01,o11,true)))
 (grdO (decide (0≤IntKind.wrap .i64 (IntKind.wrap .i64 (o11+1) - 1))) (atO (o01) (Int.toNat (IntKind.wrap .i64 (IntKind.wrap .i64 (o11+1) - 1))) fun x=>some ((IntKind.wrap .i64 (x.toNat:Int),o01,IntKind.wrap .i64 (o11+1),o21))))
def tb221:=insT 221 (mkE 221 false [(0,[])] ti221 to221 F221 [.tmp 2] 41 [100000]) tb219
theorem ok221:TbOk Tryz.prog tb221:=okI ok219 tp221 tv221 func221 rfl call221
end Go.Proofs.YtdpapeledldifaaGreat
end
