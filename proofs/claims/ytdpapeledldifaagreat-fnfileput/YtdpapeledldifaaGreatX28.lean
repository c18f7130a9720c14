/- Part 29 of the proof that the law FnFilePut holds of every input; no condition. -/
import Derived.Test.YtdpapeledldifaaGreatX27
set_option autoImplicit true
set_option relaxedAutoImplicit true
set_option linter.all false
noncomputable section
namespace Go.Proofs.YtdpapeledldifaaGreat
open Go Go.AM Go.TM
set_option maxRecDepth 100000
set_option maxHeartbeats 4000000
abbrev ti108:SPat:=⟨[(0,.i .i64),(1,.i .i64)],[]⟩
abbrev to108:SPat:=⟨[(4,.b)],[]⟩
def F108:Int×Int→Option (Bool):=fun (flags,one_) =>
 grdO (!decide (one_=0)) (some (decide (Int.tmod (IntKind.wrap .i64 (Int.tdiv flags one_)) (2:Int)=1)))
theorem r108 x:funT T zHW noPl 10 noIv (zAD Tryz.f108) ti108 to108 x=F108 x:=by kernel_rfl
def te108:=mkE 108 true [] ti108 to108 F108 [.tmp 4] 10 []
def tb108:=insT 108 te108 zHW
theorem ok108:TbOk Tryz.prog tb108:=okI zTr noPl noIv Tryz.func108 rfl Tryz.results108 Tryz.ntmps108 (by kernel_rfl) (by kernel_rfl) Tryz.call108 r108
abbrev ti313:SPat:=⟨[(0,.ptr 100000 0),(1,.sl .str)],[.box 100000 (pl [.own tg27 true,.i .i64,.i .i64,.i .i64,.own (.int .i64) true,.own tg89 true,.own tg53 true,.b])]⟩
abbrev to313:SPat:=⟨[],[.box 100000 (pl [.own tg27 true,.i .i64,.i .i64,.i .i64,.own (.int .i64) true,.own tg89 true,.own tg53 true,.b])]⟩
abbrev zJi:SPat:=⟨[(0,.ptr 100000 0),(1,.sl .str),(4,.ptr 4 0)],[.box 4 (pl plN),.box 100000 (pl [.own tg27 true,.i .i64,.i .i64,.i .i64,.own (.int .i64) true,.own tg89 true,.own tg53 true,.b])]⟩
abbrev zJh:SPat:=⟨[(0,.ptr 100000 0),(4,.ptr 4 0)],[.box 4 (pl plN),.box 100000 (pl [.own tg27 true,.i .i64,.i .i64,.i .i64,.own (.int .i64) true,.own tg89 true,.own tg53 true,.b])]⟩
def tv313:Nat→Option SPat:=fun k=>bif k == 1000004 then some zJi else bif k == 1000006 then some zJh else none
def tp313:Nat→List Nat×Plan:=fun id=>bif id == 0 then ([0,1,2,3,5,6,7,8,10,11,12,13],(.br 4 [3,2,1,0] [5,6,7,8,10,11,12,13] [] (.br 9 [8,7,6,5,4,3,2,1,0] [10,11,12,13] [] (.br 14 [13,12,11,10,9,8,7,6,5,4,3,2,1,0] [] [15] (.br 16 [] [0,1,2,3,5,6,7,8,10,11,12,13,15] [] (.br 17 [16,15,14,13,12,11,10,9,8,7,6,5,4,3,2,1,0] [] [] .fin .fin) .fin) (.br 16 [] [0,1,2,3,5,6,7,8,10,11,12,13] [] (.br 14 [13,12,11,10,9,8,7,6,5,4,3,2,1,0] [] [15] (.br 17 [16,15,14,13,12,11,10,9,8,7,6,5,4,3,2,1,0] [] [] .fin .fin) .fin) .fin)) (.br 16 [] [0,1,2,3,5,6,7,8,10,11,12,13] [] (.br 9 [8,7,6,5,4,3,2,1,0] [10,11,12,13] [] (.br 14 [13,12,11,10,9,8,7,6,5,4,3,2,1,0] [] [15] (.br 17 [16,15,14,13,12,11,10,9,8,7,6,5,4,3,2,1,0] [] [] .fin .fin) .fin) .fin) .fin)) (.br 16 [] [0,1,2,3,5,6,7,8,10,11,12,13] [] (.br 4 [3,2,1,0] [5,6,7,8,10,11,12,13] [] (.br 9 [8,7,6,5,4,3,2,1,0] [10,11,12,13] [] (.br 14 [13,12,11,10,9,8,7,6,5,4,3,2,1,0] [] [15] (.br 17 [16,15,14,13,12,11,10,9,8,7,6,5,4,3,2,1,0] [] [] .fin .fin) .fin) .fin) .fin) .fin))) else bif id == 6 then ([0,1,2,3,4,5,6],(.br 7 [6] [0,1,2,3,4,5] [] (.br 8 [7,6,5,4,3,2,1] [0] [9,10,11] (.br 12 [11,10,9,8,7,6,5,4,3,2,1,0] [] [] .fin .fin) .fin) .fin)) else ([],.fin)
def F313:List (List UInt8)×List Cst×Int×Int×Int×List Int×List (Int×Int×Int)×List Mth×Bool→Option (List Cst×Int×Int×Int×List Int×List (Int×Int×Int)×List Mth×Bool):=fun (w,o0,o1,o2,o3,o4,o5,o6,o7) =>
 atO (w) ((1:Nat)) fun x=>atO (w) ((2:Nat)) fun x1=>atO (w) ((3:Nat)) fun x2=>zBP
  (zAA (F312 (x,o0,o1,o2,o3,o4,o5,o6,o7)) fun (y,y1,y2,y3,y4,y5,x3,x4,x5) =>
  seqU (seqU (grdO (decide (w=w)) (some ())) (seqU (atO (w) ((2:Nat)) fun x6=>grdO (decide (x6=x1) && true) (some ())) (seqU (grdO (decide (x1=x1)) (some ())) (seqU (grdO (decide (w=w)) (some ())) (seqU (atO (w) ((3:Nat)) fun x6=>grdO (decide (x6=x2) && true) (some ())) (seqU (grdO (decide (x2=x2)) (some ())) (some ()))))))) (zBP
   (zAA (F312 (x1,y1,y2,y3,y4,y5,x3,x4,x5)) fun (y6,y7,y8,y9,y10,y11,x6,x7,x8) =>
   seqU (seqU (grdO (decide (w=w)) (some ())) (seqU (atO (w) ((3:Nat)) fun x9=>grdO (decide (x9=x2) && true) (some ())) (seqU (grdO (decide (x2=x2)) (some ())) (some ())))) (zBP
    (zAA (F311 (x2,y7,y8,y9,y10,y11,x6,x7,x8)) fun (y12,y13,y14,y15,y16,y17,x9,x10,x11) =>
    seqU (seqU (grdO (decide (w=w)) (some ())) (seqU (atO (w) ((1:Nat)) fun x12=>grdO (decide (x12=x) && true) (some ())) (seqU (grdO (decide (x=x)) (some ())) (seqU (grdO (decide (w=w)) (some ())) (seqU (atO (w) ((2:Nat)) fun x12=>grdO (decide (x12=x1) && true) (some ())) (seqU (grdO (decide (x1=x1)) (some ())) (seqU (grdO (decide (w=w)) (some ())) (seqU (atO (w) ((3:Nat)) fun x12=>grdO (decide (x12=x2) && true) (some ())) (seqU (grdO (decide (x2=x2)) (some ())) (seqU (grdO (decide (y12=y12) && (decide (y=y) && (decide (y6=y6) && true))) (some ())) (some ()))))))))))) (bindE (Y:=List (List UInt8)×(Mth)×List Cst×Int×Int×Int×List Int×List (Int×Int×Int)×List Mth×Bool) (cndO (decide ((w.length:Int)=6))
      (atO (w) ((4:Nat)) fun x12=>zAA (F311 (x12,y13,y14,y15,y16,y17,x9,x10,x11)) fun (y18,y19,y20,y21,y22,y23,x13,x14,x15) =>
      atO (w) ((5:Nat)) fun x16=>zAA (F311 (x16,y19,y20,y21,y22,y23,x13,x14,x15)) fun (y24,y25,y26,y27,y28,y29,x17,x18,x19) =>
      some (Sum.inl (w,(y12,y,y6,y18,y24,[],[],[]),y25,y26,y27,y28,y29,x17,x18,x19)))
      (some (Sum.inl (w,(y12,y,y6,(0:Int),(0:Int),[],[],[]),y13,y14,y15,y16,y17,x9,x10,x11)))) fun (w1,(o01,o11,o21,o31,o41,o51,o61,o71),o02,o12,o22,o32,o42,o52,o62,o72) =>
    bindE (Y:=(Mth)×List Cst×Int×Int×Int×List Int×List (Int×Int×Int)×List Mth×Bool) (zAA (F108 (o01,(8:Int))) fun y18 =>
     cndO (!decide (decide ((w1.length:Int)=4)=y18))
      (some (Sum.inl ((o01,o11,o21,o31,o41,o51,o61,o71),o02,o12,o22,o32,o42,o52,o62,true)))
      (some (Sum.inl ((o01,o11,o21,o31,o41,o51,o61,o71),o02,o12,o22,o32,o42,o52,o62,o72)))) fun ((o03,o13,o23,o33,o43,o53,o63,o73),o04,o14,o24,o34,o44,o54,o64,o74) =>
    grdO (decide (List.length o64+1≤9223372036854775807) && decide ((List.length o64+1)*104≤140737488355328)) (some ((o04,o14,o24,o34,o44,o54,o64++[(o03,o13,o23,o33,o43,o53,o63,o73)],o74)))))
    (seqU (seqU (grdO (decide (w=w)) (some ())) (seqU (atO (w) ((1:Nat)) fun x9=>grdO (decide (x9=x) && true) (some ())) (seqU (grdO (decide (x=x)) (some ())) (seqU (grdO (decide (w=w)) (some ())) (seqU (atO (w) ((2:Nat)) fun x9=>grdO (decide (x9=x1) && true) (some ())) (seqU (grdO (decide (x1=x1)) (some ())) (seqU (grdO (decide (w=w)) (some ())) (seqU (atO (w) ((3:Nat)) fun x9=>grdO (decide (x9=x2) && true) (some ())) (seqU (grdO (decide (x2=x2)) (some ())) (some ())))))))))) (zAA (F311 (x2,y7,y8,y9,y10,y11,x6,x7,x8)) fun (y12,y13,y14,y15,y16,y17,x9,x10,x11) =>
    bindE (Y:=List (List UInt8)×(Mth)×List Cst×Int×Int×Int×List Int×List (Int×Int×Int)×List Mth×Bool) (cndO (decide ((w.length:Int)=6))
      (atO (w) ((4:Nat)) fun x12=>zAA (F311 (x12,y13,y14,y15,y16,y17,x9,x10,x11)) fun (y18,y19,y20,y21,y22,y23,x13,x14,x15) =>
      atO (w) ((5:Nat)) fun x16=>zAA (F311 (x16,y19,y20,y21,y22,y23,x13,x14,x15)) fun (y24,y25,y26,y27,y28,y29,x17,x18,x19) =>
      some (Sum.inl (w,(y12,y,y6,y18,y24,[],[],[]),y25,y26,y27,y28,y29,x17,x18,x19)))
      (some (Sum.inl (w,(y12,y,y6,(0:Int),(0:Int),[],[],[]),y13,y14,y15,y16,y17,x9,x10,x11)))) fun (w1,(o01,o11,o21,o31,o41,o51,o61,o71),o02,o12,o22,o32,o42,o52,o62,o72) =>
    bindE (Y:=(Mth)×List Cst×Int×Int×Int×List Int×List (Int×Int×Int)×List Mth×Bool) (zAA (F108 (o01,(8:Int))) fun y18 =>
     cndO (!decide (decide ((w1.length:Int)=4)=y18))
      (some (Sum.inl ((o01,o11,o21,o31,o41,o51,o61,o71),o02,o12,o22,o32,o42,o52,o62,true)))
      (some (Sum.inl ((o01,o11,o21,o31,o41,o51,o61,o71),o02,o12,o22,o32,o42,o52,o62,o72)))) fun ((o03,o13,o23,o33,o43,o53,o63,o73),o04,o14,o24,o34,o44,o54,o64,o74) =>
    grdO (decide (List.length o64+1≤9223372036854775807) && decide ((List.length o64+1)*104≤140737488355328)) (some ((o04,o14,o24,o34,o44,o54,o64++[(o03,o13,o23,o33,o43,o53,o63,o73)],o74)))))))
   (seqU (seqU (grdO (decide (w=w)) (some ())) (seqU (atO (w) ((1:Nat)) fun x6=>grdO (decide (x6=x) && true) (some ())) (seqU (grdO (decide (x=x)) (some ())) (seqU (grdO (decide (w=w)) (some ())) (seqU (atO (w) ((2:Nat)) fun x6=>grdO (decide (x6=x1) && true) (some ())) (seqU (grdO (decide (x1=x1)) (some ())) (seqU (grdO (decide (w=w)) (some ())) (seqU (atO (w) ((3:Nat)) fun x6=>grdO (decide (x6=x2) && true) (some ())) (seqU (grdO (decide (x2=x2)) (some ())) (some ())))))))))) (zAA (F312 (x1,y1,y2,y3,y4,y5,x3,x4,x5)) fun (y6,y7,y8,y9,y10,y11,x6,x7,x8) =>
   seqU (seqU (grdO (decide (w=w)) (some ())) (seqU (atO (w) ((3:Nat)) fun x9=>grdO (decide (x9=x2) && true) (some ())) (seqU (grdO (decide (x2=x2)) (some ())) (some ())))) (zAA (F311 (x2,y7,y8,y9,y10,y11,x6,x7,x8)) fun (y12,y13,y14,y15,y16,y17,x9,x10,x11) =>
   bindE (Y:=List (List UInt8)×(Mth)×List Cst×Int×Int×Int×List Int×List (Int×Int×Int)×List Mth×Bool) (cndO (decide ((w.length:Int)=6))
     (atO (w) ((4:Nat)) fun x12=>zAA (F311 (x12,y13,y14,y15,y16,y17,x9,x10,x11)) fun (y18,y19,y20,y21,y22,y23,x13,x14,x15) =>
     atO (w) ((5:Nat)) fun x16=>zAA (F311 (x16,y19,y20,y21,y22,y23,x13,x14,x15)) fun (y24,y25,y26,y27,y28,y29,x17,x18,x19) =>
     some (Sum.inl (w,(y12,y,y6,y18,y24,[],[],[]),y25,y26,y27,y28,y29,x17,x18,x19)))
     (some (Sum.inl (w,(y12,y,y6,(0:Int),(0:Int),[],[],[]),y13,y14,y15,y16,y17,x9,x10,x11)))) fun (w1,(o01,o11,o21,o31,o41,o51,o61,o71),o02,o12,o22,o32,o42,o52,o62,o72) =>
   bindE (Y:=(Mth)×List Cst×Int×Int×Int×List Int×List (Int×Int×Int)×List Mth×Bool) (zAA (F108 (o01,(8:Int))) fun y18 =>
    cndO (!decide (decide ((w1.length:Int)=4)=y18))
     (some (Sum.inl ((o01,o11,o21,o31,o41,o51,o61,o71),o02,o12,o22,o32,o42,o52,o62,true)))
     (some (Sum.inl ((o01,o11,o21,o31,o41,o51,o61,o71),o02,o12,o22,o32,o42,o52,o62,o72)))) fun ((o03,o13,o23,o33,o43,o53,o63,o73),o04,o14,o24,o34,o44,o54,o64,o74) =>
   grdO (decide (List.length o64+1≤9223372036854775807) && decide ((List.length o64+1)*104≤140737488355328)) (some ((o04,o14,o24,o34,o44,o54,o64++[(o03,o13,o23,o33,o43,o53,o63,o73)],o74))))))))
  (seqU (seqU (grdO (decide (w=w)) (some ())) (seqU (atO (w) ((1:Nat)) fun x3=>grdO (decide (x3=x) && true) (some ())) (seqU (grdO (decide (x=x)) (some ())) (seqU (grdO (decide (w=w)) (some ())) (seqU (atO (w) ((2:Nat)) fun x3=>grdO (decide (x3=x1) && true) (some ())) (seqU (grdO (decide (x1=x1)) (some ())) (seqU (grdO (decide (w=w)) (some ())) (seqU (atO (w) ((3:Nat)) fun x3=>grdO (decide (x3=x2) && true) (some ())) (seqU (grdO (decide (x2=x2)) (some ())) (some ())))))))))) (zAA (F312 (x,o0,o1,o2,o3,o4,o5,o6,o7)) fun (y,y1,y2,y3,y4,y5,x3,x4,x5) =>
  seqU (seqU (grdO (decide (w=w)) (some ())) (seqU (atO (w) ((2:Nat)) fun x6=>grdO (decide (x6=x1) && true) (some ())) (seqU (grdO (decide (x1=x1)) (some ())) (seqU (grdO (decide (w=w)) (some ())) (seqU (atO (w) ((3:Nat)) fun x6=>grdO (decide (x6=x2) && true) (some ())) (seqU (grdO (decide (x2=x2)) (some ())) (some ()))))))) (zAA (F312 (x1,y1,y2,y3,y4,y5,x3,x4,x5)) fun (y6,y7,y8,y9,y10,y11,x6,x7,x8) =>
  seqU (seqU (grdO (decide (w=w)) (some ())) (seqU (atO (w) ((3:Nat)) fun x9=>grdO (decide (x9=x2) && true) (some ())) (seqU (grdO (decide (x2=x2)) (some ())) (some ())))) (zAA (F311 (x2,y7,y8,y9,y10,y11,x6,x7,x8)) fun (y12,y13,y14,y15,y16,y17,x9,x10,x11) =>
  bindE (Y:=List (List UInt8)×(Mth)×List Cst×Int×Int×Int×List Int×List (Int×Int×Int)×List Mth×Bool) (cndO (decide ((w.length:Int)=6))
    (atO (w) ((4:Nat)) fun x12=>zAA (F311 (x12,y13,y14,y15,y16,y17,x9,x10,x11)) fun (y18,y19,y20,y21,y22,y23,x13,x14,x15) =>
    atO (w) ((5:Nat)) fun x16=>zAA (F311 (x16,y19,y20,y21,y22,y23,x13,x14,x15)) fun (y24,y25,y26,y27,y28,y29,x17,x18,x19) =>
    some (Sum.inl (w,(y12,y,y6,y18,y24,[],[],[]),y25,y26,y27,y28,y29,x17,x18,x19)))
    (some (Sum.inl (w,(y12,y,y6,(0:Int),(0:Int),[],[],[]),y13,y14,y15,y16,y17,x9,x10,x11)))) fun (w1,(o01,o11,o21,o31,o41,o51,o61,o71),o02,o12,o22,o32,o42,o52,o62,o72) =>
  bindE (Y:=(Mth)×List Cst×Int×Int×Int×List Int×List (Int×Int×Int)×List Mth×Bool) (zAA (F108 (o01,(8:Int))) fun y18 =>
   cndO (!decide (decide ((w1.length:Int)=4)=y18))
    (some (Sum.inl ((o01,o11,o21,o31,o41,o51,o61,o71),o02,o12,o22,o32,o42,o52,o62,true)))
    (some (Sum.inl ((o01,o11,o21,o31,o41,o51,o61,o71),o02,o12,o22,o32,o42,o52,o62,o72)))) fun ((o03,o13,o23,o33,o43,o53,o63,o73),o04,o14,o24,o34,o44,o54,o64,o74) =>
  grdO (decide (List.length o64+1≤9223372036854775807) && decide ((List.length o64+1)*104≤140737488355328)) (some ((o04,o14,o24,o34,o44,o54,o64++[(o03,o13,o23,o33,o43,o53,o63,o73)],o74)))))))
theorem r313 x:funT T tb108 tp313 58 tv313 (zAD Tryz.f313) ti313 to313 x=F313 x:=by kernel_rfl
def te313:=mkE 313 false [(0,[])] ti313 to313 F313 [] 58 [100000]
def tb313:=insT 313 te313 tb108
theorem ok313:TbOk Tryz.prog tb313:=okI ok108 tp313 tv313 Tryz.func313 rfl Tryz.results313 Tryz.ntmps313 (by kernel_rfl) (by kernel_rfl) Tryz.call313 r313
abbrev ti314:SPat:=⟨[(0,.ptr 100000 0),(1,.sl .str)],[.box 100000 (pl [.own tg27 true,.i .i64,.i .i64,.i .i64,.own (.int .i64) true,.own tg89 true,.own tg53 true,.b])]⟩
abbrev to314:SPat:=⟨[],[.box 100000 (pl [.own tg27 true,.i .i64,.i .i64,.i .i64,.own (.int .i64) true,.own tg89 true,.own tg53 true,.b])]⟩
abbrev zJg:SPat:=⟨[(0,.ptr 100000 0),(4,.ptr 4 0)],[.box 4 (pl [.i .i64,.i .i64,.i .i64,.i .i64]),.box 100000 (pl [.own tg27 true,.i .i64,.i .i64,.i .i64,.own (.int .i64) true,.own tg89 true,.own tg53 true,.b])]⟩
def tv314:Nat→Option SPat:=fun k=>bif k == 1000003 then some zJg else none
def tp314:Nat→List Nat×Plan:=fun id=>bif id == 0 then ([0,1,2,3,5,6,7,8,10,11,12,13],(.br 4 [3,2,1,0] [5,6,7,8,10,11,12,13] [] (.br 9 [8,7,6,5,4,3,2,1,0] [10,11,12,13] [] (.br 14 [13,12,11,10,9,8,7,6,5,4,3,2,1,0] [] [15] (.br 16 [] [0,1,2,3,5,6,7,8,10,11,12,13,15] [] (.br 17 [16,15,14,13,12,11,10,9,8,7,6,5,4,3,2,1,0] [] [] .fin .fin) .fin) (.br 16 [] [0,1,2,3,5,6,7,8,10,11,12,13] [] (.br 14 [13,12,11,10,9,8,7,6,5,4,3,2,1,0] [] [15] (.br 17 [16,15,14,13,12,11,10,9,8,7,6,5,4,3,2,1,0] [] [] .fin .fin) .fin) .fin)) (.br 16 [] [0,1,2,3,5,6,7,8,10,11,12,13] [] (.br 9 [8,7,6,5,4,3,2,1,0] [10,11,12,13] [] (.br 14 [13,12,11,10,9,8,7,6,5,4,3,2,1,0] [] [15] (.br 17 [16,15,14,13,12,11,10,9,8,7,6,5,4,3,2,1,0] [] [] .fin .fin) .fin) .fin) .fin)) (.br 16 [] [0,1,2,3,5,6,7,8,10,11,12,13] [] (.br 4 [3,2,1,0] [5,6,7,8,10,11,12,13] [] (.br 9 [8,7,6,5,4,3,2,1,0] [10,11,12,13] [] (.br 14 [13,12,11,10,9,8,7,6,5,4,3,2,1,0] [] [15] (.br 17 [16,15,14,13,12,11,10,9,8,7,6,5,4,3,2,1,0] [] [] .fin .fin) .fin) .fin) .fin) .fin))) else bif id == 3 then ([0,2,7],(.br 1 [0] [2,7] [] (.br 3 [2,1,0] [7] [4,5,6] (.br 8 [7] [0,2,4,5,6] [] (.br 9 [8,7,6,5,4,3,2,1,0] [] [10,11] (.br 12 [11,10,9,8,7,6,5,4,3,2,1,0] [] [] .fin .fin) .fin) .fin) (.br 8 [7] [0,2] [] (.br 3 [2,1,0] [7] [4,5,6] (.br 9 [8,7,6,5,4,3,2,1,0] [] [10,11] (.br 12 [11,10,9,8,7,6,5,4,3,2,1,0] [] [] .fin .fin) .fin) .fin) .fin)) (.br 8 [7] [0,2] [] (.br 1 [0] [2,7] [] (.br 3 [2,1,0] [7] [4,5,6] (.br 9 [8,7,6,5,4,3,2,1,0] [] [10,11] (.br 12 [11,10,9,8,7,6,5,4,3,2,1,0] [] [] .fin .fin) .fin) .fin) .fin) .fin))) else ([],.fin)
def F314:List (List UInt8)×List Cst×Int×Int×Int×List Int×List (Int×Int×Int)×List Mth×Bool→Option (List Cst×Int×Int×Int×List Int×List (Int×Int×Int)×List Mth×Bool):=fun (w,o0,o1,o2,o3,o4,o5,o6,o7) =>
 atO (w) ((1:Nat)) fun x=>atO (w) ((2:Nat)) fun x1=>atO (w) ((3:Nat)) fun x2=>zBP
  (zAA (F311 (x,o0,o1,o2,o3,o4,o5,o6,o7)) fun (y,y1,y2,y3,y4,y5,x3,x4,x5) =>
  seqU (seqU (grdO (decide (w=w)) (some ())) (seqU (atO (w) ((2:Nat)) fun x6=>grdO (decide (x6=x1) && true) (some ())) (seqU (grdO (decide (x1=x1)) (some ())) (seqU (grdO (decide (w=w)) (some ())) (seqU (atO (w) ((3:Nat)) fun x6=>grdO (decide (x6=x2) && true) (some ())) (seqU (grdO (decide (x2=x2)) (some ())) (some ()))))))) (zBP
   (zAA (F311 (x1,y1,y2,y3,y4,y5,x3,x4,x5)) fun (y6,y7,y8,y9,y10,y11,x6,x7,x8) =>
   seqU (seqU (grdO (decide (w=w)) (some ())) (seqU (atO (w) ((3:Nat)) fun x9=>grdO (decide (x9=x2) && true) (some ())) (seqU (grdO (decide (x2=x2)) (some ())) (some ())))) (zBP
    (zAA (F311 (x2,y7,y8,y9,y10,y11,x6,x7,x8)) fun (y12,y13,y14,y15,y16,y17,x9,x10,x11) =>
    seqU (seqU (grdO (decide (w=w)) (some ())) (seqU (atO (w) ((1:Nat)) fun x12=>grdO (decide (x12=x) && true) (some ())) (seqU (grdO (decide (x=x)) (some ())) (seqU (grdO (decide (w=w)) (some ())) (seqU (atO (w) ((2:Nat)) fun x12=>grdO (decide (x12=x1) && true) (some ())) (seqU (grdO (decide (x1=x1)) (some ())) (seqU (grdO (decide (w=w)) (some ())) (seqU (atO (w) ((3:Nat)) fun x12=>grdO (decide (x12=x2) && true) (some ())) (seqU (grdO (decide (x2=x2)) (some ())) (seqU (grdO (decide (y=y) && (decide (y6=y6) && (decide (y12=y12) && true))) (some ())) (some ()))))))))))) (bindE (Y:=(Int×Int×Int×Int)×List Cst×Int×Int×Int×List Int×List (Int×Int×Int)×List Mth×Bool) (atO (w) ((4:Nat)) fun x12=>cndO (!decide (x12=[(45:UInt8)]))
      (atO (w) ((4:Nat)) fun x13=>zAA (F310 (x13,y13,y14,y15,y16,y17,x9,x10,x11)) fun (y18,y19,y20,y21,y22,y23,x14,x15,x16) =>
      some (Sum.inl ((y,y6,y12,y18),y19,y20,y21,y22,y23,x14,x15,x16)))
      (some (Sum.inl ((y,y6,y12,(0:Int)),y13,y14,y15,y16,y17,x9,x10,x11)))) fun ((o01,o11,o21,o31),o02,o12,o22,o32,o41,o51,o61,o71) =>
    zBP
     (zAA (F315 (o02,o12,o22,o32,o41,o51,o61,o71)) fun (y18,y19,y20,y21,y22,y23,x12,x13,x14) =>
     seqU (seqU (grdO (decide (o01=o01) && (decide (o11=o11) && (decide (o21=o21) && (decide (o31=o31) && true)))) (some ())) (some ())) (zBP
      (zAA (F7000315 ((y20,y21,y22,y23,x12,x13,x14),y19)) fun (y24,(y25,y26,y27,y28,y29,x15,x16),x17) =>
      seqU (seqU (grdO (decide (o01=o01) && (decide (o11=o11) && (decide (o21=o21) && (decide (o31=o31) && true)))) (some ())) (some ())) (atO (x17) (y24) fun x18=>grdO (decide (y24=y24) && decide (y24<List.length x17)) (grdO (decide (y24=y24) && decide (y24<List.length x17)) (grdO (decide (y24=y24) && decide (y24<List.length x17)) (seqU (seqU (grdO (y24 == y24 && true) (some ())) (seqU (grdO (y24 == y24 && true) (some ())) (seqU (grdO (decide (y24=y24) && decide (y24<List.length x17)) (grdO (decide (y24=y24) && decide (y24<List.length x17)) (grdO (decide (y24=y24) && decide (y24<List.length x17)) (some ())))) (some ())))) (grdO (decide (List.length (x18.2.2.2.2.2.2.1)+1≤9223372036854775807) && decide ((List.length (x18.2.2.2.2.2.2.1)+1)*32≤140737488355328)) (grdO (decide (y18=y24) && decide (y24<List.length x17)) (grdO (decide (y24<List.length x17)) (some ((y25,y26,y27,y28,y29,x15,List.set x17 y24 (x18.1,x18.2.1,x18.2.2.1,x18.2.2.2.1,x18.2.2.2.2.1,x18.2.2.2.2.2.1,x18.2.2.2.2.2.2.1++[(o01,o11,o21,o31)],x18.2.2.2.2.2.2.2),x16)))))))))))
      (zAA (F7000315 ((y20,y21,y22,y23,x12,x13,x14),y19)) fun (y24,(y25,y26,y27,y28,y29,x15,x16),x17) =>
      seqU (seqU (grdO (decide (o01=o01) && (decide (o11=o11) && (decide (o21=o21) && (decide (o31=o31) && true)))) (some ())) (some ())) (atO (x17) (y24) fun x18=>grdO (decide (y24=y24) && decide (y24<List.length x17)) (grdO (decide (y24=y24) && decide (y24<List.length x17)) (grdO (decide (y24=y24) && decide (y24<List.length x17)) (grdO (decide (List.length (x18.2.2.2.2.2.2.1)+1≤9223372036854775807) && decide ((List.length (x18.2.2.2.2.2.2.1)+1)*32≤140737488355328)) (grdO (decide (y18=y24) && decide (y24<List.length x17)) (grdO (decide (y24<List.length x17)) (some ((y25,y26,y27,y28,y29,x15,List.set x17 y24 (x18.1,x18.2.1,x18.2.2.1,x18.2.2.2.1,x18.2.2.2.2.1,x18.2.2.2.2.2.1,x18.2.2.2.2.2.2.1++[(o01,o11,o21,o31)],x18.2.2.2.2.2.2.2),x16))))))))))))
     (zAA (F315 (o02,o12,o22,o32,o41,o51,o61,o71)) fun (y18,y19,y20,y21,y22,y23,x12,x13,x14) =>
     seqU (seqU (grdO (decide (o01=o01) && (decide (o11=o11) && (decide (o21=o21) && (decide (o31=o31) && true)))) (some ())) (some ())) (zAA (F7000315 ((y20,y21,y22,y23,x12,x13,x14),y19)) fun (y24,(y25,y26,y27,y28,y29,x15,x16),x17) =>
     seqU (seqU (grdO (decide (o01=o01) && (decide (o11=o11) && (decide (o21=o21) && (decide (o31=o31) && true)))) (some ())) (some ())) (atO (x17) (y24) fun x18=>grdO (decide (y24=y24) && decide (y24<List.length x17)) (grdO (decide (y24=y24) && decide (y24<List.length x17)) (grdO (decide (y24=y24) && decide (y24<List.length x17)) (grdO (decide (List.length (x18.2.2.2.2.2.2.1)+1≤9223372036854775807) && decide ((List.length (x18.2.2.2.2.2.2.1)+1)*32≤140737488355328)) (grdO (decide (y18=y24) && decide (y24<List.length x17)) (grdO (decide (y24<List.length x17)) (some ((y25,y26,y27,y28,y29,x15,List.set x17 y24 (x18.1,x18.2.1,x18.2.2.1,x18.2.2.2.1,x18.2.2.2.2.1,x18.2.2.2.2.2.1,x18.2.2.2.2.2.2.1++[(o01,o11,o21,o31)],x18.2.2.2.2.2.2.2),x16)))))))))))))
    (seqU (seqU (grdO (decide (w=w)) (some ())) (seqU (atO (w) ((1:Nat)) fun x9=>grdO (decide (x9=x) && true) (some ())) (seqU (grdO (decide (x=x)) (some ())) (seqU (grdO (decide (w=w)) (some ())) (seqU (atO (w) ((2:Nat)) fun x9=>grdO (decide (x9=x1) && true) (some ())) (seqU (grdO (decide (x1=x1)) (some ())) (seqU (grdO (decide (w=w)) (some ())) (seqU (atO (w) ((3:Nat)) fun x9=>grdO (decide (x9=x2) && true) (some ())) (seqU (grdO (decide (x2=x2)) (some ())) (some ())))))))))) (zAA (F311 (x2,y7,y8,y9,y10,y11,x6,x7,x8)) fun (y12,y13,y14,y15,y16,y17,x9,x10,x11) =>
    bindE (Y:=(Int×Int×Int×Int)×List Cst×Int×Int×Int×List Int×List (Int×Int×Int)×List Mth×Bool) (atO (w) ((4:Nat)) fun x12=>cndO (!decide (x12=[(45:UInt8)]))
      (atO (w) ((4:Nat)) fun x13=>zAA (F310 (x13,y13,y14,y15,y16,y17,x9,x10,x11)) fun (y18,y19,y20,y21,y22,y23,x14,x15,x16) =>
      some (Sum.inl ((y,y6,y12,y18),y19,y20,y21,y22,y23,x14,x15,x16)))
      (some (Sum.inl ((y,y6,y12,(0:Int)),y13,y14,y15,y16,y17,x9,x10,x11)))) fun ((o01,o11,o21,o31),o02,o12,o22,o32,o41,o51,o61,o71) =>
    zBP
     (zAA (F315 (o02,o12,o22,o32,o41,o51,o61,o71)) fun (y18,y19,y20,y21,y22,y23,x12,x13,x14) =>
     seqU (seqU (grdO (decide (o01=o01) && (decide (o11=o11) && (decide (o21=o21) && (decide (o31=o31) && true)))) (some ())) (some ())) (zBP
      (zAA (F7000315 ((y20,y21,y22,y23,x12,x13,x14),y19)) fun (y24,(y25,y26,y27,y28,y29,x15,x16),x17) =>
      seqU (seqU (grdO (decide (o01=o01) && (decide (o11=o11) && (decide (o21=o21) && (decide (o31=o31) && true)))) (some ())) (some ())) (atO (x17) (y24) fun x18=>grdO (decide (y24=y24) && decide (y24<List.length x17)) (grdO (decide (y24=y24) && decide (y24<List.length x17)) (grdO (decide (y24=y24) && decide (y24<List.length x17)) (seqU (seqU (grdO (y24 == y24 && true) (some ())) (seqU (grdO (y24 == y24 && true) (some ())) (seqU (grdO (decide (y24=y24) && decide (y24<List.length x17)) (grdO (decide (y24=y24) && decide (y24<List.length x17)) (grdO (decide (y24=y24) && decide (y24<List.length x17)) (some ())))) (some ())))) (grdO (decide (List.length (x18.2.2.2.2.2.2.1)+1≤9223372036854775807) && decide ((List.length (x18.2.2.2.2.2.2.1)+1)*32≤140737488355328)) (grdO (decide (y18=y24) && decide (y24<List.length x17)) (grdO (decide (y24<List.length x17)) (some ((y25,y26,y27,y28,y29,x15,List.set x17 y24 (x18.1,x18.2.1,x18.2.2.1,x18.2.2.2.1,x18.2.2.2.2.1,x18.2.2.2.2.2.1,x18.2.2.2.2.2.2.1++[(o01,o11,o21,o31)],x18.2.2.2.2.2.2.2),x16)))))))))))
      (zAA (F7000315 ((y20,y21,y22,y23,x12,x13,x14),y19)) fun (y24,(y25,y26,y27,y28,y29,x15,x16),x17) =>
      seqU (seqU (grdO (decide (o01=o01) && (decide (o11=o11) && (decide (o21=o21) && (decide (o31=o31) && true)))) (some ())) (some ())) (atO (x17) (y24) fun x18=>grdO (decide (y24=y24) && decide (y24<List.length x17)) (grdO (decide (y24=y24) && decide (y24<List.length x17)) (grdO (decide (y24=y24) && decide (y24<List.length x17)) (grdO (decide (List.length (x18.2.2.2.2.2.2.1)+1≤9223372036854775807) && decide ((List.length (x18.2.2.2.2.2.2.1)+1)*32≤140737488355328)) (grdO (decide (y18=y24) && decide (y24<List.length x17)) (grdO (decide (y24<List.length x17)) (some ((y25,y26,y27,y28,y29,x15,List.set x17 y24 (x18.1,x18.2.1,x18.2.2.1,x18.2.2.2.1,x18.2.2.2.2.1,x18.2.2.2.2.2.1,x18.2.2.2.2.2.2.1++[(o01,o11,o21,o31)],x18.2.2.2.2.2.2.2),x16))))))))))))
     (zAA (F315 (o02,o12,o22,o32,o41,o51,o61,o71)) fun (y18,y19,y20,y21,y22,y23,x12,x13,x14) =>
     seqU (seqU (grdO (decide (o01=o01) && (decide (o11=o11) && (decide (o21=o21) && (decide (o31=o31) && true)))) (some ())) (some ())) (zAA (F7000315 ((y20,y21,y22,y23,x12,x13,x14),y19)) fun (y24,(y25,y26,y27,y28,y29,x15,x16),x17) =>
     seqU (seqU (grdO (decide (o01=o01) && (decide (o11=o11) && (decide (o21=o21) && (decide (o31=o31) && true)))) (some ())) (some ())) (atO (x17) (y24) fun x18=>grdO (decide (y24=y24) && decide (y24<List.length x17)) (grdO (decide (y24=y24) && decide (y24<List.length x17)) (grdO (decide (y24=y24) && decide (y24<List.length x17)) (grdO (decide (List.length (x18.2.2.2.2.2.2.1)+1≤9223372036854775807) && decide ((List.length (x18.2.2.2.2.2.2.1)+1)*32≤140737488355328)) (grdO (decide (y18=y24) && decide (y24<List.length x17)) (grdO (decide (y24<List.length x17)) (some ((y25,y26,y27,y28,y29,x15,List.set x17 y24 (x18.1,x18.2.1,x18.2.2.1,x18.2.2.2.1,x18.2.2.2.2.1,x18.2.2.2.2.2.1,x18.2.2.2.2.2.2.1++[(o01,o11,o21,o31)],x18.2.2.2.2.2.2.2),x16)))))))))))))))
   (seqU (seqU (grdO (decide (w=w)) (some ())) (seqU (atO (w) ((1:Nat)) fun x6=>grdO (decide (x6=x) && true) (some ())) (seqU (grdO (decide (x=x)) (some ())) (seqU (grdO (decide (w=w)) (some ())) (seqU (atO (w) ((2:Nat)) fun x6=>grdO (decide (x6=x1) && true) (some ())) (seqU (grdO (decide (x1=x1)) (some ())) (seqU (grdO (decide (w=w)) (some ())) (seqU (atO (w) ((3:Nat)) fun x6=>grdO (decide (x6=x2) && true) (some ())) (seqU (grdO (decide (x2=x2)) (some ())) (some ())))))))))) (zAA (F311 (x1,y1,y2,y3,y4,y5,x3,x4,x5)) fun (y6,y7,y8,y9,y10,y11,x6,x7,x8) =>
   seqU (seqU (grdO (decide (w=w)) (some ())) (seqU (atO (w) ((3:Nat)) fun x9=>grdO (decide (x9=x2) && true) (some ())) (seqU (grdO (decide (x2=x2)) (some ())) (some ())))) (zAA (F311 (x2,y7,y8,y9,y10,y11,x6,x7,x8)) fun (y12,y13,y14,y15,y16,y17,x9,x10,x11) =>
   bindE (Y:=(Int×Int×Int×Int)×List Cst×Int×Int×Int×List Int×List (Int×Int×Int)×List Mth×Bool) (atO (w) ((4:Nat)) fun x12=>cndO (!decide (x12=[(45:UInt8)]))
     (atO (w) ((4:Nat)) fun x13=>zAA (F310 (x13,y13,y14,y15,y16,y17,x9,x10,x11)) fun (y18,y19,y20,y21,y22,y23,x14,x15,x16) =>
     some (Sum.inl ((y,y6,y12,y18),y19,y20,y21,y22,y23,x14,x15,x16)))
     (some (Sum.inl ((y,y6,y12,(0:Int)),y13,y14,y15,y16,y17,x9,x10,x11)))) fun ((o01,o11,o21,o31),o02,o12,o22,o32,o41,o51,o61,o71) =>
   zBP
    (zAA (F315 (o02,o12,o22,o32,o41,o51,o61,o71)) fun (y18,y19,y20,y21,y22,y23,x12,x13,x14) =>
    seqU (seqU (grdO (decide (o01=o01) && (decide (o11=o11) && (decide (o21=o21) && (decide (o31=o31) && true)))) (some ())) (some ())) (zBP
     (zAA (F7000315 ((y20,y21,y22,y23,x12,x13,x14),y19)) fun (y24,(y25,y26,y27,y28,y29,x15,x16),x17) =>
     seqU (seqU (grdO (decide (o01=o01) && (decide (o11=o11) && (decide (o21=o21) && (decide (o31=o31) && true)))) (some ())) (some ())) (atO (x17) (y24) fun x18=>grdO (decide (y24=y24) && decide (y24<List.length x17)) (grdO (decide (y24=y24) && decide (y24<List.length x17)) (grdO (decide (y24=y24) && decide (y24<List.length x17)) (seqU (seqU (grdO (y24 == y24 && true) (some ())) (seqU (grdO (y24 == y24 && true) (some ())) (seqU (grdO (decide (y24=y24) && decide (y24<List.length x17)) (grdO (decide (y24=y24) && decide (y24<List.length x17)) (grdO (decide (y24=y24) && decide (y24<List.length x17)) (some ())))) (some ())))) (grdO (decide (List.length (x18.2.2.2.2.2.2.1)+1≤9223372036854775807) && decide ((List.length (x18.2.2.2.2.2.2.1)+1)*32≤140737488355328)) (grdO (decide (y18=y24) && decide (y24<List.length x17)) (grdO (decide (y24<List.length x17)) (some ((y25,y26,y27,y28,y29,x15,List.set x17 y24 (x18.1,x18.2.1,x18.2.2.1,x18.2.2.2.1,x18.2.2.2.2.1,x18.2.2.2.2.2.1,x18.2.2.2.2.2.2.1++[(o01,o11,o21,o31)],x18.2.2.2.2.2.2.2),x16)))))))))))
     (zAA (F7000315 ((y20,y21,y22,y23,x12,x13,x14),y19)) fun (y24,(y25,y26,y27,y28,y29,x15,x16),x17) =>
     seqU (seqU (grdO (decide (o01=o01) && (decide (o11=o11) && (decide (o21=o21) && (decide (o31=o31) && true)))) (some ())) (some ())) (atO (x17) (y24) fun x18=>grdO (decide (y24=y24) && decide (y24<List.length x17)) (grdO (decide (y24=y24) && decide (y24<List.length x17)) (grdO (decide (y24=y24) && decide (y24<List.length x17)) (grdO (decide (List.length (x18.2.2.2.2.2.2.1)+1≤9223372036854775807) && decide ((List.length (x18.2.2.2.2.2.2.1)+1)*32≤140737488355328)) (grdO (decide (y18=y24) && decide (y24<List.length x17)) (grdO (decide (y24<List.length x17)) (some ((y25,y26,y27,y28,y29,x15,List.set x17 y24 (x18.1,x18.2.1,x18.2.2.1,x18.2.2.2.1,x18.2.2.2.2.1,x18.2.2.2.2.2.1,x18.2.2.2.2.2.2.1++[(o01,o11,o21,o31)],x18.2.2.2.2.2.2.2),x16))))))))))))
    (zAA (F315 (o02,o12,o22,o32,o41,o51,o61,o71)) fun (y18,y19,y20,y21,y22,y23,x12,x13,x14) =>
    seqU (seqU (grdO (decide (o01=o01) && (decide (o11=o11) && (decide (o21=o21) && (decide (o31=o31) && true)))) (some ())) (some ())) (zAA (F7000315 ((y20,y21,y22,y23,x12,x13,x14),y19)) fun (y24,(y25,y26,y27,y28,y29,x15,x16),x17) =>
    seqU (seqU (grdO (decide (o01=o01) && (decide (o11=o11) && (decide (o21=o21) && (decide (o31=o31) && true)))) (some ())) (some ())) (atO (x17) (y24) fun x18=>grdO (decide (y24=y24) && decide (y24<List.length x17)) (grdO (decide (y24=y24) && decide (y24<List.length x17)) (grdO (decide (y24=y24) && decide (y24<List.length x17)) (grdO (decide (List.length (x18.2.2.2.2.2.2.1)+1≤9223372036854775807) && decide ((List.length (x18.2.2.2.2.2.2.1)+1)*32≤140737488355328)) (grdO (decide (y18=y24) && decide (y24<List.length x17)) (grdO (decide (y24<List.length x17)) (some ((y25,y26,y27,y28,y29,x15,List.set x17 y24 (x18.1,x18.2.1,x18.2.2.1,x18.2.2.2.1,x18.2.2.2.2.1,x18.2.2.2.2.2.1,x18.2.2.2.2.2.2.1++[(o01,o11,o21,o31)],x18.2.2.2.2.2.2.2),x16))))))))))))))))
  (seqU (seqU (grdO (decide (w=w)) (some ())) (seqU (atO (w) ((1:Nat)) fun x3=>grdO (decide (x3=x) && true) (some ())) (seqU (grdO (decide (x=x)) (some ())) (seqU (grdO (decide (w=w)) (some ())) (seqU (atO (w) ((2:Nat)) fun x3=>grdO (decide (x3=x1) && true) (some ())) (seqU (grdO (decide (x1=x1)) (some ())) (seqU (grdO (decide (w=w)) (some ())) (seqU (atO (w) ((3:Nat)) fun x3=>grdO (decide (x3=x2) && true) (some ())) (seqU (grdO (decide (x2=x2)) (some ())) (some ())))))))))) (zAA (F311 (x,o0,o1,o2,o3,o4,o5,o6,o7)) fun (y,y1,y2,y3,y4,y5,x3,x4,x5) =>
  seqU (seqU (grdO (decide (w=w)) (some ())) (seqU (atO (w) ((2:Nat)) fun x6=>grdO (decide (x6=x1) && true) (some ())) (seqU (grdO (decide (x1=x1)) (some ())) (seqU (grdO (decide (w=w)) (some ())) (seqU (atO (w) ((3:Nat)) fun x6=>grdO (decide (x6=x2) && true) (some ())) (seqU (grdO (decide (x2=x2)) (some ())) (some ()))))))) (zAA (F311 (x1,y1,y2,y3,y4,y5,x3,x4,x5)) fun (y6,y7,y8,y9,y10,y11,x6,x7,x8) =>
  seqU (seqU (grdO (decide (w=w)) (some ())) (seqU (atO (w) ((3:Nat)) fun x9=>grdO (decide (x9=x2) && true) (some ())) (seqU (grdO (decide (x2=x2)) (some ())) (some ())))) (zAA (F311 (x2,y7,y8,y9,y10,y11,x6,x7,x8)) fun (y12,y13,y14,y15,y16,y17,x9,x10,x11) =>
  bindE (Y:=(Int×Int×Int×Int)×List Cst×Int×Int×Int×List Int×List (Int×Int×Int)×List Mth×Bool) (atO (w) ((4:Nat)) fun x12=>cndO (!decide (x12=[(45:UInt8)]))
    (atO (w) ((4:Nat)) fun x13=>zAA (F310 (x13,y13,y14,y15,y16,y17,x9,x10,x11)) fun (y18,y19,y20,y21,y22,y23,x14,x15,x16) =>
    some (Sum.inl ((y,y6,y12,y18),y19,y20,y21,y22,y23,x14,x15,x16)))
    (some (Sum.inl ((y,y6,y12,(0:Int)),y13,y14,y15,y16,y17,x9,x10,x11)))) fun ((o01,o11,o21,o31),o02,o12,o22,o32,o41,o51,o61,o71) =>
  zBP
   (zAA (F315 (o02,o12,o22,o32,o41,o51,o61,o71)) fun (y18,y19,y20,y21,y22,y23,x12,x13,x14) =>
   seqU (seqU (grdO (decide (o01=o01) && (decide (o11=o11) && (decide (o21=o21) && (decide (o31=o31) && true)))) (some ())) (some ())) (zBP
    (zAA (F7000315 ((y20,y21,y22,y23,x12,x13,x14),y19)) fun (y24,(y25,y26,y27,y28,y29,x15,x16),x17) =>
    seqU (seqU (grdO (decide (o01=o01) && (decide (o11=o11) && (decide (o21=o21) && (decide (o31=o31) && true)))) (some ())) (some ())) (atO (x17) (y24) fun x18=>grdO (decide (y24=y24) && decide (y24<List.length x17)) (grdO (decide (y24=y24) && decide (y24<List.length x17)) (grdO (decide (y24=y24) && decide (y24<List.length x17)) (seqU (seqU (grdO (y24 == y24 && true) (some ())) (seqU (grdO (y24 == y24 && true) (some ())) (seqU (grdO (decide (y24=y24) && decide (y24<List.length x17)) (grdO (decide (y24=y24) && decide (y24<List.length x17)) (grdO (decide (y24=y24) && decide (y24<List.length x17)) (some ())))) (some ())))) (grdO (decide (List.length (x18.2.2.2.2.2.2.1)+1≤9223372036854775807) && decide ((List.length (x18.2.2.2.2.2.2.1)+1)*32≤140737488355328)) (grdO (decide (y18=y24) && decide (y24<List.length x17)) (grdO (decide (y24<List.length x17)) (some ((y25,y26,y27,y28,y29,x15,List.set x17 y24 (x18.1,x18.2.1,x18.2.2.1,x18.2.2.2.1,x18.2.2.2.2.1,x18.2.2.2.2.2.1,x18.2.2.2.2.2.2.1++[(o01,o11,o21,o31)],x18.2.2.2.2.2.2.2),x16)))))))))))
    (zAA (F7000315 ((y20,y21,y22,y23,x12,x13,x14),y19)) fun (y24,(y25,y26,y27,y28,y29,x15,x16),x17) =>
    seqU (seqU (grdO (decide (o01=o01) && (decide (o11=o11) && (decide (o21=o21) && (decide (o31=o31) && true)))) (some ())) (some ())) (atO (x17) (y24) fun x18=>grdO (decide (y24=y24) && decide (y24<List.length x17)) (grdO (decide (y24=y24) && decide (y24<List.length x17)) (grdO (decide (y24=y24) && decide (y24<List.length x17)) (grdO (decide (List.length (x18.2.2.2.2.2.2.1)+1≤9223372036854775807) && decide ((List.length (x18.2.2.2.2.2.2.1)+1)*32≤140737488355328)) (grdO (decide (y18=y24) && decide (y24<List.length x17)) (grdO (decide (y24<List.length x17)) (some ((y25,y26,y27,y28,y29,x15,List.set x17 y24 (x18.1,x18.2.1,x18.2.2.1,x18.2.2.2.1,x18.2.2.2.2.1,x18.2.2.2.2.2.1,x18.2.2.2.2.2.2.1++[(o01,o11,o21,o31)],x18.2.2.2.2.2.2.2),x16))))))))))))
   (zAA (F315 (o02,o12,o22,o32,o41,o51,o61,o71)) fun (y18,y19,y20,y21,y22,y23,x12,x13,x14) =>
   seqU (seqU (grdO (decide (o01=o01) && (decide (o11=o11) && (decide (o21=o21) && (decide (o31=o31) && true)))) (some ())) (some ())) (zAA (F7000315 ((y20,y21,y22,y23,x12,x13,x14),y19)) fun (y24,(y25,y26,y27,y28,y29,x15,x16),x17) =>
   seqU (seqU (grdO (decide (o01=o01) && (decide (o11=o11) && (decide (o21=o21) && (decide (o31=o31) && true)))) (some ())) (some ())) (atO (x17) (y24) fun x18=>grdO (decide (y24=y24) && decide (y24<List.length x17)) (grdO (decide (y24=y24) && decide (y24<List.length x17)) (grdO (decide (y24=y24) && decide (y24<List.length x17)) (grdO (decide (List.length (x18.2.2.2.2.2.2.1)+1≤9223372036854775807) && decide ((List.length (x18.2.2.2.2.2.2.1)+1)*32≤140737488355328)) (grdO (decide (y18=y24) && decide (y24<List.length x17)) (grdO (decide (y24<List.length x17)) (some ((y25,y26,y27,y28,y29,x15,List.set x17 y24 (x18.1,x18.2.1,x18.2.2.1,x18.2.2.2.1,x18.2.2.2.2.1,x18.2.2.2.2.2.1,x18.2.2.2.2.2.2.1++[(o01,o11,o21,o31)],x18.2.2.2.2.2.2.2),x16)))))))))))))))
theorem r314 x:funT T tb313 tp314 43 tv314 (zAD Tryz.f314) ti314 to314 x=F314 x:=by kernel_rfl
def te314:=mkE 314 false [(0,[])] ti314 to314 F314 [] 43 [100000]
def tb314:=insT 314 te314 tb313
theorem ok314:TbOk Tryz.prog tb314:=okI ok313 tp314 tv314 Tryz.func314 rfl Tryz.results314 Tryz.ntmps314 (by kernel_rfl) (by kernel_rfl) Tryz.call314 r314
abbrev zHR:SPat:=⟨[(0,.ptr 100000 0),(1,.s)],[.box 100000 (pl [.own tg27 true,.i .i64,.i .i64,.i .i64,.own (.int .i64) true,.own tg89 true,.ar 100001,.b]),.opn 100001 tg53 true (pl [.i .i64,.i .i64,.i .i64,.i .i64,.i .i64,.s,.own zCq true,.ar 100002]),.arr 100002 zBb true]⟩
abbrev zHM:SPat:=⟨[(4,.i .i64)],[.box 100000 (pl [.own tg27 true,.i .i64,.i .i64,.i .i64,.own (.int .i64) true,.own tg89 true,.ar 100001,.b]),.opn 100001 tg53 true (pl [.i .i64,.i .i64,.i .i64,.i .i64,.i .i64,.s,.own zCq true,.ar 100002]),.arr 100002 zBb true]⟩
def F807000311:List UInt8×(List Cst×Int×Int×Int×List Int×List (Int×Int×Int)×Bool)×(List Mth×Nat×Int×Int×Int×Int×Int×List UInt8×List (Int×Int×Int×Int))×List Frm→Option (Int×(List Cst×Int×Int×Int×List Int×List (Int×Int×Int)×Bool)×(List Mth×Nat×Int×Int×Int×Int×Int×List UInt8×List (Int×Int×Int×Int))×List Frm):=fun (s,(o0,o1,o2,o3,o4,o5,o7),(l100001,i100001,r0,r1,r2,r3,r4,r5,r6),l100002) =>
 zAA (F327 s) fun y =>
 cndO (decide (y<0))
  (some (((0:Int),(o0,o1,o2,o3,o4,o5,true),(l100001,i100001,r0,r1,r2,r3,r4,r5,r6),l100002)))
  (some ((y,(o0,o1,o2,o3,o4,o5,o7),(l100001,i100001,r0,r1,r2,r3,r4,r5,r6),l100002)))
theorem zSe x:funT T tb314 noPl 14 noIv (zAD Tryz.f311) zHR zHM x=F807000311 x:=by kernel_rfl
def zQI:=mkE 311 false [(0,[]),(0,[6]),(0,[6,7])] zHR zHM F807000311 [.tmp 4] 14 [100000,100001,100002]
def zFF:=insT 807000311 zQI tb314
theorem zQf:TbOk Tryz.prog zFF:=okI ok314 noPl noIv Tryz.func311 rfl Tryz.results311 Tryz.ntmps311 (by kernel_rfl) (by kernel_rfl) Tryz.call311 zSe
abbrev ti212:SPat:=⟨[(0,.i .u8)],[]⟩
abbrev to212:SPat:=⟨[(2,.b)],[]⟩
def F212:Int→Option (Bool):=fun b =>
 cndO (decide (97≤b))
  (cndO (decide (b≤122))
   (some (true))
   (cndO (decide (65≤b))
    (some (decide (b≤90)))
    (some (false))))
  (cndO (decide (65≤b))
   (some (decide (b≤90)))
   (some (false)))
theorem r212 x:funT T zFF noPl 17 noIv (zAD Tryz.f212) ti212 to212 x=F212 x:=by kernel_rfl
def te212:=mkE 212 true [] ti212 to212 F212 [.tmp 2] 17 []
def tb212:=insT 212 te212 zFF
theorem ok212:TbOk Tryz.prog tb212:=okI zQf noPl noIv Tryz.func212 rfl Tryz.results212 Tryz.ntmps212 (by kernel_rfl) (by kernel_rfl) Tryz.call212 r212
abbrev ti127:SPat:=⟨[(0,.s)],[]⟩
abbrev to127:SPat:=⟨[(2,.b)],[]⟩
abbrev ts127_2:SPat:=⟨[(0,.s),(3,.i .i64)],[]⟩
abbrev zMC:SPat:=⟨[(0,.s)],[]⟩
abbrev zMB:SPat:=⟨[(0,.s),(3,.i .i64)],[]⟩
def tv127:Nat→Option SPat:=fun k=>bif k == 2 then some ts127_2 else bif k == 2000000 then some zMC else bif k == 2000001 then some zMB else none
def F127:List UInt8→Option (Bool):=fun s =>
 bindE (Y:=List UInt8) (zAF (fun (s1,i) =>
   cndO (decide (i<(s1.length:Int)))
    (bindE (Y:=List UInt8×Int) (grdO (decide (0≤i)) (atO (s1) i.toNat fun x=>zAA (F212 (x.toNat:Int)) fun y =>
     cndO (!y)
      (cndO (decide (i=0))
       (some (Sum.inr (Sum.inr (Sum.inr false))))
       (grdO (decide (0≤i)) (atO (s1) i.toNat fun x1=>cndO (decide ((x1.toNat:Int)<48))
        (some (Sum.inr (Sum.inr (Sum.inr false))))
        (grdO (decide (0≤i)) (atO (s1) i.toNat fun x2=>cndO (decide (57<(x2.toNat:Int)))
         (some (Sum.inr (Sum.inr (Sum.inr false))))
         (some (Sum.inl (s1,i))))))))
      (some (Sum.inl (s1,i))))) fun (s2,i1) =>
    some (Sum.inl (s2,IntKind.wrap .i64 (i1+1))))
    (some (Sum.inr (Sum.inl s1)))) ((s,(0:Int)))) fun s1 =>
 zAA (F107 ((s1.length:Int),(1:Int),(8:Int))) fun y =>
 some (y)
theorem r127 x:funT T tb212 noPl 34 tv127 (zAD Tryz.f127) ti127 to127 x=F127 x:=by kernel_rfl
def te127:=mkE 127 true [] ti127 to127 F127 [.tmp 2] 34 []
def tb127:=insT 127 te127 tb212
theorem ok127:TbOk Tryz.prog tb127:=okI ok212 noPl tv127 Tryz.func127 rfl Tryz.results127 Tryz.ntmps127 (by kernel_rfl) (by kernel_rfl) Tryz.call127 r127
abbrev ti213:SPat:=⟨[(0,.s),(1,.i .i64)],[]⟩
abbrev to213:SPat:=⟨[(4,.i .i64)],[]⟩
abbrev ts213_6:SPat:=⟨[(0,.s),(1,.i .i64),(5,.i .i64)],[]⟩
abbrev zLG:SPat:=⟨[(0,.s),(1,.i .i64)],[]⟩
abbrev zLF:SPat:=⟨[(0,.s),(1,.i .i64)],[]⟩
abbrev zLE:SPat:=⟨[],[]⟩
def tv213:Nat→Option SPat:=fun k=>bif k == 6 then some ts213_6 else bif k == 1000003 then some zLG else bif k == 1000005 then some zLF else bif k == 2000000 then some zLE else none
def F213:List UInt8×Int→Option (Int):=fun (s,at_) =>
 bindE (Y:=List UInt8×Int) (cndO (decide (at_<(s.length:Int)))
   (grdO (decide (0≤at_)) (atO (s) at_.toNat fun x=>cndO (decide ((x.toNat:Int)=73))
    (some (Sum.inr (IntKind.wrap .i64 (at_+1))))
    (some (Sum.inl (s,at_)))))
   (some (Sum.inl (s,at_)))) fun (s1,at_1) =>
 bindE (Y:=List UInt8×Int) (cndO (decide ((s1.length:Int)≤at_1))
   (some (Sum.inr (-1:Int)))
   (grdO (decide (0≤at_1)) (atO (s1) at_1.toNat fun x=>cndO (!decide ((x.toNat:Int)=76))
    (some (Sum.inr (-1:Int)))
    (some (Sum.inl (s1,at_1)))))) fun (s2,at_2) =>
 bindE (zAF (fun (s3,at_3,i) =>
   cndO (decide (i<(s3.length:Int)))
    (grdO (decide (0≤i)) (atO (s3) i.toNat fun x=>cndO (decide ((x.toNat:Int)=59))
     (grdO (decide (0≤IntKind.wrap .i64 (at_3+1)) && decide (IntKind.wrap .i64 (at_3+1)≤i) && decide (i≤(s3.length:Int))) (zAA (F127 (List.drop (Int.toNat (IntKind.wrap .i64 (at_3+1))) (List.take i.toNat s3))) fun y =>
     cndO (y)
      (some (Sum.inr (Sum.inr (IntKind.wrap .i64 (i+1)))))
      (some (Sum.inr (Sum.inr (-1:Int))))))
     (some (Sum.inl (s3,at_3,IntKind.wrap .i64 (i+1))))))
    (some (Sum.inr (Sum.inl ())))) ((s2,at_2,IntKind.wrap .i64 (at_2+1)))) fun _ =>
 some ((-1:Int))
theorem r213 x:funT T tb127 noPl 48 tv213 (zAD Tryz.f213) ti213 to213 x=F213 x:=by kernel_rfl
def te213:=mkE 213 true [] ti213 to213 F213 [.tmp 4] 48 []
def tb213:=insT 213 te213 tb127
theorem ok213:TbOk Tryz.prog tb213:=okI ok127 noPl tv213 Tryz.func213 rfl Tryz.results213 Tryz.ntmps213 (by kernel_rfl) (by kernel_rfl) Tryz.call213 r213
abbrev ti128:SPat:=⟨[(0,.s)],[]⟩
abbrev to128:SPat:=⟨[(2,.b)],[]⟩
def F128:List UInt8→Option (Bool):=fun s =>
 cndO (decide (0<(s.length:Int)))
  (zAA (F213 (s,(0:Int))) fun y =>
  some (decide (y=(s.length:Int))))
  (some (false))
theorem r128 x:funT T tb213 noPl 13 noIv (zAD Tryz.f128) ti128 to128 x=F128 x:=by kernel_rfl
def te128:=mkE 128 true [] ti128 to128 F128 [.tmp 2] 13 []
def tb128:=insT 128 te128 tb213
theorem ok128:TbOk Tryz.prog tb128:=okI ok213 noPl noIv Tryz.func128 rfl Tryz.results128 Tryz.ntmps128 (by kernel_rfl) (by kernel_rfl) Tryz.call128 r128
abbrev zHO:SPat:=⟨[(0,.ptr 100000 0),(1,.agg (pl [.i .i64,.s,.i .i64,.i .i64]))],[.box 100000 (pl [.own tg27 true,.i .i64,.i .i64,.i .i64,.own (.int .i64) true,.own tg89 true,.ar 100001,.b]),.opn 100001 tg53 true (pl [.i .i64,.i .i64,.i .i64,.i .i64,.i .i64,.s,.own zCq true,.ar 100002]),.arr 100002 zBb true]⟩
abbrev zHJ:SPat:=⟨[(4,.i .i64)],[.box 100000 (pl [.own tg27 true,.i .i64,.i .i64,.i .i64,.own (.int .i64) true,.own tg89 true,.ar 100001,.b]),.opn 100001 tg53 true (pl [.i .i64,.i .i64,.i .i64,.i .i64,.i .i64,.s,.own zCq true,.ar 100002]),.arr 100002 zBb true]⟩
abbrev zJV:SPat:=⟨[(0,.ptr 100000 0),(3,.ptr 3 0),(5,.i .i64)],[.box 3 (pl [.i .i64,.s,.i .i64,.i .i64]),.box 100000 (pl [.own tg27 true,.i .i64,.i .i64,.i .i64,.own (.int .i64) true,.own tg89 true,.ar 100001,.b]),.opn 100001 tg53 true (pl [.i .i64,.i .i64,.i .i64,.i .i64,.i .i64,.s,.own zCq true,.ar 100002]),.arr 100002 zBb true]⟩
abbrev zEy:SPat:=⟨[(0,.ptr 100000 0),(3,.ptr 3 0)],[.box 3 (pl [.i .i64,.s,.i .i64,.i .i64]),.box 100000 (pl [.own tg27 true,.i .i64,.i .i64,.i .i64,.own (.int .i64) true,.own tg89 true,.ar 100001,.b]),.opn 100001 tg53 true (pl [.i .i64,.i .i64,.i .i64,.i .i64,.i .i64,.s,.own zCq true,.ar 100002]),.arr 100002 zBb true]⟩
def zHE:Nat→Option SPat:=fun k=>bif k == 2 then some zJV else bif k == 2000000 then some zEy else none
def zHH:Nat→List Nat×Plan:=fun id=>bif id == 4 then ([0,1,2,3,4,5,6,7,8,9],.fin) else bif id == 6 then ([0,1,2,3,4,5,6],(.br 7 [6] [0,1,2,3,4,5] [] (.br 8 [7,6,5,4,3,2,1] [0] [9,10,11] (.br 12 [11,10,9,8,7,6,5,4,3,2,1,0] [] [] .fin .fin) .fin) .fin)) else ([],.fin)
def F807000326:(Cst)×(List Cst×Int×Int×Int×List Int×List (Int×Int×Int)×Bool)×(List Mth×Nat×Int×Int×Int×Int×Int×List UInt8×List (Int×Int×Int×Int))×List Frm→Option (Int×(List Cst×Int×Int×Int×List Int×List (Int×Int×Int)×Bool)×(List Mth×Nat×Int×Int×Int×Int×Int×List UInt8×List (Int×Int×Int×Int))×List Frm):=fun ((c0,c1,c2,c3),(o0,o1,o2,o3,o4,o5,o7),(l100001,i100001,r0,r1,r2,r3,r4,r5,r6),l100002) =>
 bindE (Y:=(Cst)×(List Cst×Int×Int×Int×List Int×List (Int×Int×Int)×Bool)×(List Mth×Nat×Int×Int×Int×Int×Int×List UInt8×List (Int×Int×Int×Int))×List Frm) (zAF (fun (i,(o01,o11,o21,o31),(o02,o12,o22,o32,o41,o51,o71),(l1000011,i1000011,r01,r11,r21,r31,r41,r51,r61),l1000021) =>
   cndO (decide (i<(o02.length:Int)))
    (grdO (decide (0≤i) && decide (i<(o02.length:Int))) (atO (o02) i.toNat fun x=>cndO (decide (x.1=o01) && (decide (x.2.1=o11) && (decide (x.2.2.1=o21) && (decide (x.2.2.2=o31) && true))))
     (some (Sum.inr (Sum.inr (IntKind.wrap .i64 (i+1),(o02,o12,o22,o32,o41,o51,o71),(l1000011,i1000011,r01,r11,r21,r31,r41,r51,r61),l1000021))))
     (some (Sum.inl (IntKind.wrap .i64 (i+1),(o01,o11,o21,o31),(o02,o12,o22,o32,o41,o51,o71),(l1000011,i1000011,r01,r11,r21,r31,r41,r51,r61),l1000021)))))
    (some (Sum.inr (Sum.inl ((o01,o11,o21,o31),(o02,o12,o22,o32,o41,o51,o71),(l1000011,i1000011,r01,r11,r21,r31,r41,r51,r61),l1000021))))) (((0:Int),(c0,c1,c2,c3),(o0,o1,o2,o3,o4,o5,o7),(l100001,i100001,r0,r1,r2,r3,r4,r5,r6),l100002))) fun ((o01,o11,o21,o31),(o02,o12,o22,o32,o41,o51,o71),(l1000011,i1000011,r01,r11,r21,r31,r41,r51,r61),l1000021) =>
 grdO (decide (List.length o02+1≤9223372036854775807) && decide ((List.length o02+1)*40≤140737488355328)) (some (((↑(List.length (o02++[(o01,o11,o21,o31)])):Int),(o02++[(o01,o11,o21,o31)],o12,o22,o32,o41,o51,o71),(l1000011,i1000011,r01,r11,r21,r31,r41,r51,r61),l1000021)))
theorem zSb x:funT T tb128 zHH 46 zHE (zAD Tryz.f326) zHO zHJ x=F807000326 x:=by kernel_rfl
def zQF:=mkE 326 false [(0,[]),(0,[6]),(0,[6,7])] zHO zHJ F807000326 [.tmp 4] 46 [100000,100001,100002]
def zFC:=insT 807000326 zQF tb128
theorem zQc:TbOk Tryz.prog zFC:=okI ok128 zHH zHE Tryz.func326 rfl Tryz.results326 Tryz.ntmps326 (by kernel_rfl) (by kernel_rfl) Tryz.call326 zSb
abbrev zHQ:SPat:=⟨[(0,.ptr 100000 0),(1,.s)],[.box 100000 (pl [.own tg27 true,.i .i64,.i .i64,.i .i64,.own (.int .i64) true,.own tg89 true,.ar 100001,.b]),.opn 100001 tg53 true (pl [.i .i64,.i .i64,.i .i64,.i .i64,.i .i64,.s,.own zCq true,.ar 100002]),.arr 100002 zBb true]⟩
abbrev zHL:SPat:=⟨[(4,.i .i64)],[.box 100000 (pl [.own tg27 true,.i .i64,.i .i64,.i .i64,.own (.int .i64) true,.own tg89 true,.ar 100001,.b]),.opn 100001 tg53 true (pl [.i .i64,.i .i64,.i .i64,.i .i64,.i .i64,.s,.own zCq true,.ar 100002]),.arr 100002 zBb true]⟩
def F807000312:List UInt8×(List Cst×Int×Int×Int×List Int×List (Int×Int×Int)×Bool)×(List Mth×Nat×Int×Int×Int×Int×Int×List UInt8×List (Int×Int×Int×Int))×List Frm→Option (Int×(List Cst×Int×Int×Int×List Int×List (Int×Int×Int)×Bool)×(List Mth×Nat×Int×Int×Int×Int×Int×List UInt8×List (Int×Int×Int×Int))×List Frm):=fun (s,(o0,o1,o2,o3,o4,o5,o7),(l100001,i100001,r0,r1,r2,r3,r4,r5,r6),l100002) =>
 cndO (decide (60<(s.length:Int)))
  (some (((0:Int),(o0,o1,o2,o3,o4,o5,true),(l100001,i100001,r0,r1,r2,r3,r4,r5,r6),l100002)))
  (zAA (F807000326 (((1:Int),s,(0:Int),(0:Int)),(o0,o1,o2,o3,o4,o5,o7),(l100001,i100001,r0,r1,r2,r3,r4,r5,r6),l100002)) fun (y,(y1,y2,y3,y4,y5,x,x1),(x2,x3,x4,x5,x6,x7,x8,x9,x10),x11) =>
  some ((y,(y1,y2,y3,y4,y5,x,x1),(x2,x3,x4,x5,x6,x7,x8,x9,x10),x11)))
theorem zSd x:funT T zFC noPl 15 noIv (zAD Tryz.f312) zHQ zHL x=F807000312 x:=by kernel_rfl
def zQH:=mkE 312 false [(0,[]),(0,[6]),(0,[6,7])] zHQ zHL F807000312 [.tmp 4] 15 [100000,100001,100002]
def zFE:=insT 807000312 zQH zFC
theorem zQe:TbOk Tryz.prog zFE:=okI zQc noPl noIv Tryz.func312 rfl Tryz.results312 Tryz.ntmps312 (by kernel_rfl) (by kernel_rfl) Tryz.call312 zSd
abbrev zHS:SPat:=⟨[(0,.ptr 100000 0),(1,.s)],[.box 100000 (pl [.own tg27 true,.i .i64,.i .i64,.i .i64,.own (.int .i64) true,.own tg89 true,.ar 100001,.b]),.opn 100001 tg53 true (pl [.i .i64,.i .i64,.i .i64,.i .i64,.i .i64,.s,.own zCq true,.ar 100002]),.arr 100002 zBb true]⟩
abbrev zHN:SPat:=⟨[(4,.i .i64)],[.box 100000 (pl [.own tg27 true,.i .i64,.i .i64,.i .i64,.own (.int .i64) true,.own tg89 true,.ar 100001,.b]),.opn 100001 tg53 true (pl [.i .i64,.i .i64,.i .i64,.i .i64,.i .i64,.s,.own zCq true,.ar 100002]),.arr 100002 zBb true]⟩
def F807000310:List UInt8×(List Cst×Int×Int×Int×List Int×List (Int×Int×Int)×Bool)×(List Mth×Nat×Int×Int×Int×Int×Int×List UInt8×List (Int×Int×Int×Int))×List Frm→Option (Int×(List Cst×Int×Int×Int×List Int×List (Int×Int×Int)×Bool)×(List Mth×Nat×Int×Int×Int×Int×Int×List UInt8×List (Int×Int×Int×Int))×List Frm):=fun (s,(o0,o1,o2,o3,o4,o5,o7),(l100001,i100001,r0,r1,r2,r3,r4,r5,r6),l100002) =>
 zAA (F807000312 (s,(o0,o1,o2,o3,o4,o5,o7),(l100001,i100001,r0,r1,r2,r3,r4,r5,r6),l100002)) fun (y,(y1,y2,y3,y4,y5,x,x1),(x2,x3,x4,x5,x6,x7,x8,x9,x10),x11) =>
 zAA (F807000326 (((2:Int),[],y,(0:Int)),(y1,y2,y3,y4,y5,x,x1),(x2,x3,x4,x5,x6,x7,x8,x9,x10),x11)) fun (y6,(y7,y8,y9,y10,y11,x12,x13),(x14,x15,x16,x17,x18,x19,x20,x21,x22),x23) =>
 some ((y6,(y7,y8,y9,y10,y11,x12,x13),(x14,x15,x16,x17,x18,x19,x20,x21,x22),x23))
theorem zSf x:funT T zFE noPl 11 noIv (zAD Tryz.f310) zHS zHN x=F807000310 x:=by kernel_rfl
def zQJ:=mkE 310 false [(0,[]),(0,[6]),(0,[6,7])] zHS zHN F807000310 [.tmp 4] 11 [100000,100001,100002]
def zFG:=insT 807000310 zQJ zFE
theorem zQg:TbOk Tryz.prog zFG:=okI zQe noPl noIv Tryz.func310 rfl Tryz.results310 Tryz.ntmps310 (by kernel_rfl) (by kernel_rfl) Tryz.call310 zSf
abbrev zHP:SPat:=⟨[(0,.ptr 100000 0),(1,.s)],[.box 100000 (pl [.own tg27 true,.i .i64,.i .i64,.i .i64,.own (.int .i64) true,.own tg89 true,.ar 100001,.b]),.opn 100001 tg53 true (pl [.i .i64,.i .i64,.i .i64,.i .i64,.i .i64,.s,.own zCq true,.ar 100002]),.arr 100002 zBb true]⟩
abbrev zHK:SPat:=⟨[(4,.own zBB true)],[.box 100000 (pl [.own tg27 true,.i .i64,.i .i64,.i .i64,.own (.int .i64) true,.own tg89 true,.ar 100001,.b]),.opn 100001 tg53 true (pl [.i .i64,.i .i64,.i .i64,.i .i64,.i .i64,.s,.own zCq true,.ar 100002]),.arr 100002 zBb true]⟩
abbrev zJW:SPat:=⟨[(0,.ptr 100000 0),(5,.own zBB true),(6,.own .str true),(7,.i .i64)],[.box 100000 (pl [.own tg27 true,.i .i64,.i .i64,.i .i64,.own (.int .i64) true,.own tg89 true,.ar 100001,.b]),.opn 100001 tg53 true (pl [.i .i64,.i .i64,.i .i64,.i .i64,.i .i64,.s,.own zCq true,.ar 100002]),.arr 100002 zBb true]⟩
abbrev zFA:SPat:=⟨[(5,.own zBB true)],[.box 100000 (pl [.own tg27 true,.i .i64,.i .i64,.i .i64,.own (.int .i64) true,.own tg89 true,.ar 100001,.b]),.opn 100001 tg53 true (pl [.i .i64,.i .i64,.i .i64,.i .i64,.i .i64,.s,.own zCq true,.ar 100002]),.arr 100002 zBb true]⟩
abbrev zEz:SPat:=⟨[(0,.ptr 100000 0),(5,.own zBB true),(6,.own .str true),(7,.i .i64)],[.box 100000 (pl [.own tg27 true,.i .i64,.i .i64,.i .i64,.own (.int .i64) true,.own tg89 true,.ar 100001,.b]),.opn 100001 tg53 true (pl [.i .i64,.i .i64,.i .i64,.i .i64,.i .i64,.s,.own zCq true,.ar 100002]),.arr 100002 zBb true]⟩
def zHF:Nat→Option SPat:=fun k=>bif k == 6 then some zJW else bif k == 2000000 then some zFA else bif k == 2000002 then some zEz else none
def zHI:Nat→List Nat×Plan:=fun id=>bif id == 16 then ([0,1,2,3,4,5,6,7,8,9,10,11,12],(.br 13 [12,11,10,9,8,7,6,5,4,3,2,1] [0] [14] (.br 15 [14,13,12,11,10,9,8,7,6,5,4,3,2,1] [0] [] (.br 16 [15,14,13,12,11,10,9,8,7,6,5,4,3,2,1,0] [] [] (.br 17 [16,15,14,13,12,11,10,9,8,7,6,5,4,3,2,1,0] [] [] .fin .fin) .fin) .fin) .fin)) else ([],.fin)
def F807000316:List UInt8×(List Cst×Int×Int×Int×List Int×List (Int×Int×Int)×Bool)×(List Mth×Nat×Int×Int×Int×Int×Int×List UInt8×List (Int×Int×Int×Int))×List Frm→Option (List (Int×Int)×(List Cst×Int×Int×Int×List Int×List (Int×Int×Int)×Bool)×(List Mth×Nat×Int×Int×Int×Int×Int×List UInt8×List (Int×Int×Int×Int))×List Frm):=fun (v1,(o0,o1,o2,o3,o4,o5,o7),(l100001,i100001,r0,r1,r2,r3,r4,r5,r6),l100002) =>
 cndO (decide (v1=[(46:UInt8)]))
  (some (([],(o0,o1,o2,o3,o4,o5,o7),(l100001,i100001,r0,r1,r2,r3,r4,r5,r6),l100002)))
  (zAA (F278 (v1,(44:Int),(8:Int))) fun y =>
  bindE (Y:=List (Int×Int)×(List Cst×Int×Int×Int×List Int×List (Int×Int×Int)×Bool)×(List Mth×Nat×Int×Int×Int×Int×Int×List UInt8×List (Int×Int×Int×Int))×List Frm) (zAF (fun (v5,v6,v7,(o01,o11,o21,o31,o41,o51,o71),(l1000011,i1000011,r01,r11,r21,r31,r41,r51,r61),l1000021) =>
    cndO (decide (v7<(v6.length:Int)))
     (bindE (Y:=List (Int×Int)×List (List UInt8)×Int×(List Cst×Int×Int×Int×List Int×List (Int×Int×Int)×Bool)×(List Mth×Nat×Int×Int×Int×Int×Int×List UInt8×List (Int×Int×Int×Int))×List Frm) (grdO (decide (0≤v7) && decide (v7<(v6.length:Int))) (atO (v6) v7.toNat fun x=>cndO (decide (x=[(73:UInt8)]))
       (grdO (decide (List.length v5+1≤9223372036854775807) && decide ((List.length v5+1)*16≤140737488355328)) (some (Sum.inl (v5++[((1:Int),(0:Int))],v6,v7,(o01,o11,o21,o31,o41,o51,o71),(l1000011,i1000011,r01,r11,r21,r31,r41,r51,r61),l1000021))))
       (grdO (decide (0≤v7) && decide (v7<(v6.length:Int))) (atO (v6) v7.toNat fun x1=>cndO (decide (x1=[(78:UInt8)]))
        (grdO (decide (List.length v5+1≤9223372036854775807) && decide ((List.length v5+1)*16≤140737488355328)) (some (Sum.inl (v5++[((2:Int),(0:Int))],v6,v7,(o01,o11,o21,o31,o41,o51,o71),(l1000011,i1000011,r01,r11,r21,r31,r41,r51,r61),l1000021))))
        (grdO (decide (0≤v7) && decide (v7<(v6.length:Int))) (atO (v6) v7.toNat fun x2=>cndO (decide (x2=[(45:UInt8)]))
         (grdO (decide (List.length v5+1≤9223372036854775807) && decide ((List.length v5+1)*16≤140737488355328)) (some (Sum.inl (v5++[((0:Int),(0:Int))],v6,v7,(o01,o11,o21,o31,o41,o51,o71),(l1000011,i1000011,r01,r11,r21,r31,r41,r51,r61),l1000021))))
         (grdO (decide (0≤v7) && decide (v7<(v6.length:Int))) (atO (v6) v7.toNat fun x3=>zAA (F128 x3) fun y1 =>
         cndO (y1)
          (grdO (decide (0≤v7) && decide (v7<(v6.length:Int))) (atO (v6) v7.toNat fun x4=>grdO (decide (0≤v7) && decide (v7<(v6.length:Int))) (atO (v6) v7.toNat fun x5=>grdO (decide (1≤IntKind.wrap .i64 ((x5.length:Int) - 1)) && decide (IntKind.wrap .i64 ((x5.length:Int) - 1)≤(x4.length:Int))) (zAA (F807000310 (List.drop (1:Nat) (List.take (Int.toNat (IntKind.wrap .i64 ((x5.length:Int) - 1))) x4),(o01,o11,o21,o31,o41,o51,o71),(l1000011,i1000011,r01,r11,r21,r31,r41,r51,r61),l1000021)) fun (y2,(y3,y4,y5,y6,y7,x6,x7),(x8,x9,x10,x11,x12,x13,x14,x15,x16),x17) =>
          grdO (decide (List.length v5+1≤9223372036854775807) && decide ((List.length v5+1)*16≤140737488355328)) (some (Sum.inl (v5++[((3:Int),y2)],v6,v7,(y3,y4,y5,y6,y7,x6,x7),(x8,x9,x10,x11,x12,x13,x14,x15,x16),x17)))))))
          (some (Sum.inl (v5,v6,v7,(o01,o11,o21,o31,o41,o51,true),(l1000011,i1000011,r01,r11,r21,r31,r41,r51,r61),l1000021))))))))))) fun (v51,v61,v71,(o02,o12,o22,o32,o42,o52,o72),(l1000012,i1000012,r02,r12,r22,r32,r42,r52,r62),l1000022) =>
     some (Sum.inl (v51,v61,IntKind.wrap .i64 (v71+1),(o02,o12,o22,o32,o42,o52,o72),(l1000012,i1000012,r02,r12,r22,r32,r42,r52,r62),l1000022)))
     (some (Sum.inr (Sum.inl (v5,(o01,o11,o21,o31,o41,o51,o71),(l1000011,i1000011,r01,r11,r21,r31,r41,r51,r61),l1000021))))) (([],y,(0:Int),(o0,o1,o2,o3,o4,o5,o7),(l100001,i100001,r0,r1,r2,r3,r4,r5,r6),l100002))) fun (v5,(o01,o11,o21,o31,o41,o51,o71),(l1000011,i1000011,r01,r11,r21,r31,r41,r51,r61),l1000021) =>
  some ((v5,(o01,o11,o21,o31,o41,o51,o71),(l1000011,i1000011,r01,r11,r21,r31,r41,r51,r61),l1000021)))
theorem zSc x:funT T zFG zHI 77 zHF (zAD Tryz.f316) zHP zHK x=F807000316 x:=by kernel_rfl
def zQG:=mkE 316 false [(0,[]),(0,[6]),(0,[6,7])] zHP zHK F807000316 [.tmp 4] 77 [100000,100001,100002]
def zFD:=insT 807000316 zQG zFG
theorem zQd:TbOk Tryz.prog zFD:=okI zQg zHI zHF Tryz.func316 rfl Tryz.results316 Tryz.ntmps316 (by kernel_rfl) (by kernel_rfl) Tryz.call316 zSc
abbrev ti279:SPat:=⟨[(0,.ptr 100000 0),(1,.s)],[.box 100000 (pl [.own tg27 true,.i .i64,.i .i64,.i .i64,.own (.int .i64) true,.own tg89 true,.own tg53 true,.b])]⟩
abbrev to279:SPat:=⟨[],[.box 100000 (pl [.own tg27 true,.i .i64,.i .i64,.i .i64,.own (.int .i64) true,.own tg89 true,.own tg53 true,.b])]⟩
abbrev zKS:SPat:=⟨[(0,.ptr 100000 0),(1,.s),(13,.b)],[.box 100000 (pl [.own tg27 true,.i .i64,.i .i64,.i .i64,.own (.int .i64) true,.own tg89 true,.own tg53 true,.b])]⟩
abbrev zKR:SPat:=⟨[(0,.ptr 100000 0),(4,.own .str true),(5,.b)],[.box 100000 (pl [.own tg27 true,.i .i64,.i .i64,.i .i64,.own (.int .i64) true,.own tg89 true,.own tg53 true,.b])]⟩
abbrev zKQ:SPat:=⟨[(0,.ptr 100000 0),(4,.own .str true),(5,.b),(31,.b)],[.box 100000 (pl [.own tg27 true,.i .i64,.i .i64,.i .i64,.own (.int .i64) true,.own tg89 true,.own tg53 true,.b])]⟩
abbrev zKP:SPat:=⟨[(0,.ptr 100000 0),(4,.own .str true),(5,.b),(76,.b)],[.box 100000 (pl [.own tg27 true,.i .i64,.i .i64,.i .i64,.own (.int .i64) true,.own tg89 true,.own tg53 true,.b])]⟩
abbrev zKO:SPat:=⟨[(0,.ptr 100000 0),(4,.own .str true),(5,.b),(102,.b)],[.box 100000 (pl [.own tg27 true,.i .i64,.i .i64,.i .i64,.own (.int .i64) true,.own tg89 true,.own tg53 true,.b])]⟩
abbrev zKN:SPat:=⟨[(0,.ptr 100000 0),(4,.own .str true),(5,.b),(139,.b)],[.box 100000 (pl [.own tg27 true,.i .i64,.i .i64,.i .i64,.own (.int .i64) true,.own tg89 true,.own tg53 true,.b])]⟩
abbrev zKM:SPat:=⟨[(0,.ptr 100000 0),(4,.own .str true),(5,.b),(157,.b)],[.box 100000 (pl [.own tg27 true,.i .i64,.i .i64,.i .i64,.own (.int .i64) true,.own tg89 true,.own tg53 true,.b])]⟩
abbrev zKL:SPat:=⟨[(0,.ptr 100000 0),(4,.own .str true),(173,.b)],[.box 100000 (pl [.own tg27 true,.i .i64,.i .i64,.i .i64,.own (.int .i64) true,.own tg89 true,.own tg53 true,.b])]⟩
abbrev zKK:SPat:=⟨[],[.box 100000 (pl [.own tg27 true,.i .i64,.i .i64,.i .i64,.own (.int .i64) true,.own tg89 true,.own tg53 true,.b])]⟩
def tv279:Nat→Option SPat:=fun k=>bif k == 1000001 then some zKS else bif k == 1000005 then some zKR else bif k == 1000006 then some zKQ else bif k == 1000010 then some zKP else bif k == 1000012 then some zKO else bif k == 1000014 then some zKN else bif k == 1000016 then some zKM else bif k == 1000018 then some zKL else bif k == 2000000 then some zKK else none
def tp279:Nat→List Nat×Plan:=fun id=>bif id == 10 then ([0,1,2,3,4,5,6,7,8,9],(.br 10 [9,8,7,6] [0,1,2,3,4,5] [] (.br 11 [10,9,8,7,6] [0,1,2,3,4,5] [] (.br 12 [11,10,9,8,7,6,5,4,3,2,1] [0] [13,14,15] (.br 16 [15,14,13,12,11,10,9,8,7,6,5,4,3,2,1,0] [] [] .fin .fin) .fin) .fin) .fin)) else bif id == 12 then ([0,1,2,3,4,5,6,7,8,9,11,12,13,14,16,17,18,19],(.br 10 [9,8,7,6] [0,1,2,3,4,5,11,12,13,14,16,17,18,19] [] (.br 15 [14,13,12,11,10,9,8,7,6] [0,1,2,3,4,5,16,17,18,19] [] (.br 20 [19,18,17,16,15,14,13,12,11,10,9,8,7,6] [0,1,2,3,4,5] [21] (.br 22 [21,20,19,18,17,16,15,14,13,12,11,10,9,8,7,6] [0,1,2,3,4,5] [] (.br 23 [22,21,20,19,18,17,16,15,14,13,12,11,10,9,8,7,6,5,4,3,2,1] [0] [24,25,26] (.br 27 [26,25,24,23,22,21,20,19,18,17,16,15,14,13,12,11,10,9,8,7,6,5,4,3,2,1,0] [] [] .fin .fin) .fin) .fin) .fin) .fin) .fin)) else bif id == 18 then ([0,2,7,8,9,10,12,13,14,15,17,18,19,20],(.br 1 [0] [2,7,8,9,10,12,13,14,15,17,18,19,20] [] (.br 3 [2,1,0] [7,8,9,10,12,13,14,15,17,18,19,20] [4,5,6] (.br 11 [10,9,8,7,3,2,1,0] [12,13,14,15,17,18,19,20,4,5,6] [] (.br 16 [15,14,13,12,11,10,9,8,7,3,2,1,0] [17,18,19,20,4,5,6] [] (.br 21 [20,19,18,17,16,15,14,13,12,11,10,9,8,7,3,2,1,0] [4,5,6] [22] (.br 23 [22,21,20,19,18,17,16,15,14,13,12,11,10,9,8,7,3,2,1,0] [4,5,6] [] (.br 24 [23,22,21,20,19,18,17,16,15,14,13,12,11,10,9,8,7,6,5,4,3,2,1,0] [] [25,26] (.br 27 [26,25,24,23,22,21,20,19,18,17,16,15,14,13,12,11,10,9,8,7,6,5,4,3,2,1,0] [] [] .fin .fin) .fin) .fin) .fin) .fin) .fin) .fin) .fin)) else ([],.fin)
def F279:List UInt8×List Cst×Int×Int×Int×List Int×List (Int×Int×Int)×List Mth×Bool→Option (List Cst×Int×Int×Int×List Int×List (Int×Int×Int)×List Mth×Bool):=fun (v1,o0,o1,o2,o3,o4,o5,o6,o7) =>
 bindE (Y:=List UInt8×Bool×List Cst×Int×Int×Int×List Int×List (Int×Int×Int)×List Mth×Bool) (cndO (decide (2<(v1.length:Int)))
   (grdO (decide (2≤(v1.length:Int))) (some (Sum.inl (v1,decide (List.drop (0:Nat) (List.take (2:Nat) v1)=[(32:UInt8),32]),o0,o1,o2,o3,o4,o5,o6,o7))))
   (some (Sum.inl (v1,false,o0,o1,o2,o3,o4,o5,o6,o7)))) fun (v11,v13,o01,o11,o21,o31,o41,o51,o61,o71) =>
 cndO (v13)
  (grdO (decide (2≤(v11.length:Int)) && decide ((v11.length:Int)≤(v11.length:Int))) (zAA (F278 (List.drop (2:Nat) (List.take (Int.toNat (v11.length:Int)) v11),(32:Int),(4:Int))) fun y =>
  zAA (F309 (y,o01,o11,o21,o31,o41,o51,o61,o71)) fun (y1,y2,y3,y4,y5,y6,x,x1) =>
  some ((y1,y2,y3,y4,y5,y6,x,x1))))
  (zAA (F278 (v11,(32:Int),(6:Int))) fun y =>
  bindE (Y:=List (List UInt8)×Bool×List Cst×Int×Int×Int×List Int×List (Int×Int×Int)×List Mth×Bool) (some (Sum.inl (y,decide (0<(o61.length:Int)),o01,o11,o21,o31,o41,o51,o61,o71))) fun (v4,v5,o02,o12,o22,o32,o42,o52,o62,o72) =>
  bindE (Y:=List Cst×Int×Int×Int×List Int×List (Int×Int×Int)×List Mth×Bool) (bindE (Y:=List (List UInt8)×Bool×Bool×List Cst×Int×Int×Int×List Int×List (Int×Int×Int)×List Mth×Bool) (grdO (decide (0<(v4.length:Int))) (atO (v4) (nat_lit 0) fun x=>cndO (decide (x=[(99:UInt8),108,97,115,115]))
     (cndO (decide ((v4.length:Int)=4))
      (some (Sum.inl (v4,v5,decide (o22=0),o02,o12,o22,o32,o42,o52,o62,o72)))
      (some (Sum.inl (v4,v5,false,o02,o12,o22,o32,o42,o52,o62,o72))))
     (some (Sum.inl (v4,v5,false,o02,o12,o22,o32,o42,o52,o62,o72))))) fun (v41,v51,v31,o03,o13,o23,o33,o43,o53,o63,o73) =>
   cndO (v31)
    (grdO (decide (1<(v41.length:Int))) (atO (v41) (nat_lit 1) fun x=>zAA (F310 (x,o03,o13,o23,o33,o43,o53,o63,o73)) fun (y1,y2,y3,y4,y5,y6,x1,x2,x3) =>
    grdO (decide (2<(v41.length:Int))) (atO (v41) (nat_lit 2) fun x4=>zAA (F310 (x4,y2,y3,y1,y5,y6,x1,x2,x3)) fun (y7,y8,y9,y10,y11,y12,x5,x6,x7) =>
    grdO (decide (3<(v41.length:Int))) (atO (v41) (nat_lit 3) fun x8=>zAA (F311 (x8,y8,y9,y10,y7,y12,x5,x6,x7)) fun (y13,y14,y15,y16,y17,y18,x9,x10,x11) =>
    some (Sum.inl (y14,y13,y16,y17,y18,x9,x10,x11))))))
    (bindE (Y:=List (List UInt8)×Bool×Bool×List Cst×Int×Int×Int×List Int×List (Int×Int×Int)×List Mth×Bool) (grdO (decide (0<(v41.length:Int))) (atO (v41) (nat_lit 0) fun x=>cndO (decide (x=[(102:UInt8),97,99,101]))
      (some (Sum.inl (v41,v51,decide ((v41.length:Int)=2),o03,o13,o23,o33,o43,o53,o63,o73)))
      (some (Sum.inl (v41,v51,false,o03,o13,o23,o33,o43,o53,o63,o73))))) fun (v42,v52,v76,o04,o14,o24,o34,o44,o54,o64,o74) =>
    cndO (v76)
     (grdO (decide (1<(v42.length:Int))) (atO (v42) (nat_lit 1) fun x=>zAA (F5000310 (x,(o04,o14,o24,o34,o54,o64,o74),o44)) fun (y1,(y2,y3,y4,y5,y6,x1,x2),x3) =>
     grdO (decide (List.length x3+1≤9223372036854775807) && decide ((List.length x3+1)*8≤140737488355328)) (some (Sum.inl (y2,y3,y4,y5,x3++[y1],y6,x1,x2)))))
     (bindE (Y:=List (List UInt8)×Bool×Bool×List Cst×Int×Int×Int×List Int×List (Int×Int×Int)×List Mth×Bool) (grdO (decide (0<(v42.length:Int))) (atO (v42) (nat_lit 0) fun x=>cndO (decide (x=[(102:UInt8),105,101,108,100]))
       (some (Sum.inl (v42,v52,decide ((v42.length:Int)=4),o04,o14,o24,o34,o44,o54,o64,o74)))
       (some (Sum.inl (v42,v52,false,o04,o14,o24,o34,o44,o54,o64,o74))))) fun (v43,v53,v102,o05,o15,o25,o35,o45,o55,o65,o75) =>
     cndO (v102)
      (grdO (decide (1<(v43.length:Int))) (atO (v43) (nat_lit 1) fun x=>grdO (decide (2<(v43.length:Int))) (atO (v43) (nat_lit 2) fun x1=>grdO (decide (3<(v43.length:Int))) (atO (v43) (nat_lit 3) fun x2=>zAA (F6000312 (x,(o05,o15,o25,o35,o45,o65,o75),o55)) fun (y1,(y2,y3,y4,y5,y6,x3,x4),x5) =>
      seqU (seqU (grdO (decide (2<(v43.length:Int))) (some ())) (seqU (atO (v43) (nat_lit 2) fun x6=>grdO (decide (x6=x1)) (some ())) (seqU (grdO (decide (3<(v43.length:Int))) (some ())) (seqU (atO (v43) (nat_lit 3) fun x6=>grdO (decide (x6=x2)) (some ())) (some ()))))) (zAA (F6000312 (x1,(y2,y3,y4,y5,y6,x3,x4),x5)) fun (y7,(y8,y9,y10,y11,y12,x6,x7),x8) =>
      seqU (seqU (grdO (decide (3<(v43.length:Int))) (some ())) (seqU (atO (v43) (nat_lit 3) fun x9=>grdO (decide (x9=x2)) (some ())) (some ()))) (zAA (F6000311 (x2,(y8,y9,y10,y11,y12,x6,x7),x8)) fun (y13,(y14,y15,y16,y17,y18,x9,x10),x11) =>
      grdO (decide (List.length x11+1≤9223372036854775807) && decide ((List.length x11+1)*24≤140737488355328)) (some (Sum.inl (y14,y15,y16,y17,y18,x11++[(y13,y1,y7)],x9,x10)))))))))
      (bindE (Y:=List (List UInt8)×Bool×Bool×List Cst×Int×Int×Int×List Int×List (Int×Int×Int)×List Mth×Bool) (grdO (decide (0<(v43.length:Int))) (atO (v43) (nat_lit 0) fun x=>cndO (decide (x=[(109:UInt8),101,116,104,111,100]))
        (cndO (decide ((v43.length:Int)=4))
         (some (Sum.inl (v43,v53,true,o05,o15,o25,o35,o45,o55,o65,o75)))
         (some (Sum.inl (v43,v53,decide ((v43.length:Int)=6),o05,o15,o25,o35,o45,o55,o65,o75))))
        (some (Sum.inl (v43,v53,false,o05,o15,o25,o35,o45,o55,o65,o75))))) fun (v44,v54,v139,o06,o16,o26,o36,o46,o56,o66,o76) =>
      cndO (v139)
       (zAA (F313 (v44,o06,o16,o26,o36,o46,o56,o66,o76)) fun (y1,y2,y3,y4,y5,y6,x,x1) =>
       some (Sum.inl (y1,y2,y3,y4,y5,y6,x,x1)))
       (bindE (Y:=List (List UInt8)×Bool×Bool×List Cst×Int×Int×Int×List Int×List (Int×Int×Int)×List Mth×Bool) (grdO (decide (0<(v44.length:Int))) (atO (v44) (nat_lit 0) fun x=>cndO (decide (x=[(116:UInt8),114,97,112]))
         (cndO (decide ((v44.length:Int)=5))
          (some (Sum.inl (v44,v54,v54,o06,o16,o26,o36,o46,o56,o66,o76)))
          (some (Sum.inl (v44,v54,false,o06,o16,o26,o36,o46,o56,o66,o76))))
         (some (Sum.inl (v44,v54,false,o06,o16,o26,o36,o46,o56,o66,o76))))) fun (v45,v55,v157,o07,o17,o27,o37,o47,o57,o67,o77) =>
       cndO (v157)
        (zAA (F314 (v45,o07,o17,o27,o37,o47,o57,o67,o77)) fun (y1,y2,y3,y4,y5,y6,x,x1) =>
        some (Sum.inl (y1,y2,y3,y4,y5,y6,x,x1)))
        (bindE (Y:=List (List UInt8)×Bool×List Cst×Int×Int×Int×List Int×List (Int×Int×Int)×List Mth×Bool) (grdO (decide (0<(v45.length:Int))) (atO (v45) (nat_lit 0) fun x=>cndO (decide (x=[(102:UInt8),114,97,109,101]))
          (cndO (decide ((v45.length:Int)=4))
           (some (Sum.inl (v45,v55,o07,o17,o27,o37,o47,o57,o67,o77)))
           (some (Sum.inl (v45,false,o07,o17,o27,o37,o47,o57,o67,o77))))
          (some (Sum.inl (v45,false,o07,o17,o27,o37,o47,o57,o67,o77))))) fun (v46,v173,o08,o18,o28,o38,o48,o58,o68,o78) =>
        cndO (v173)
         (grdO (decide (1<(v46.length:Int))) (atO (v46) (nat_lit 1) fun x=>grdO (decide (2<(v46.length:Int))) (atO (v46) (nat_lit 2) fun x1=>grdO (decide (3<(v46.length:Int))) (atO (v46) (nat_lit 3) fun x2=>zAA (F315 (o08,o18,o28,o38,o48,o58,o68,o78)) fun (y1,y2,y3,y4,y5,y6,x3,x4,x5) =>
         seqU (seqU (grdO (decide (1<(v46.length:Int))) (some ())) (seqU (atO (v46) (nat_lit 1) fun x6=>grdO (decide (x6=x)) (some ())) (seqU (grdO (decide (2<(v46.length:Int))) (some ())) (seqU (atO (v46) (nat_lit 2) fun x6=>grdO (decide (x6=x1)) (some ())) (seqU (grdO (decide (3<(v46.length:Int))) (some ())) (seqU (atO (v46) (nat_lit 3) fun x6=>grdO (decide (x6=x2)) (some ())) (some ()))))))) (zAA (F7000315 ((y3,y4,y5,y6,x3,x4,x5),y2)) fun (y7,(y8,y9,y10,y11,y12,x6,x7),x8) =>
         seqU (seqU (grdO (decide (1<(v46.length:Int))) (some ())) (seqU (atO (v46) (nat_lit 1) fun x9=>grdO (decide (x9=x)) (some ())) (seqU (grdO (decide (2<(v46.length:Int))) (some ())) (seqU (atO (v46) (nat_lit 2) fun x9=>grdO (decide (x9=x1)) (some ())) (seqU (grdO (decide (3<(v46.length:Int))) (some ())) (seqU (atO (v46) (nat_lit 3) fun x9=>grdO (decide (x9=x2)) (some ())) (some ()))))))) (atO (x8) (y7) fun x9=>grdO (decide (y7=y7) && decide (y7<List.length x8)) (grdO (decide (y7=y7) && decide (y7<List.length x8)) (grdO (decide (y7=y7) && decide (y7<List.length x8)) (zAA (F807000311 (x,(y8,y9,y10,y11,y12,x6,x7),(x8,y7,x9.1,x9.2.1,x9.2.2.1,x9.2.2.2.1,x9.2.2.2.2.1,x9.2.2.2.2.2.1,x9.2.2.2.2.2.2.1),x9.2.2.2.2.2.2.2)) fun (y13,(y14,y15,y16,y17,y18,x10,x11),(x12,x13,x14,x15,x16,x17,x18,x19,x20),x21) =>
         seqU (seqU (grdO (decide (2<(v46.length:Int))) (some ())) (seqU (atO (v46) (nat_lit 2) fun x22=>grdO (decide (x22=x1)) (some ())) (seqU (grdO (decide (3<(v46.length:Int))) (some ())) (seqU (atO (v46) (nat_lit 3) fun x22=>grdO (decide (x22=x2)) (some ())) (seqU (grdO (y7 == y7 && true) (some ())) (seqU (grdO (y7 == y7 && true) (some ())) (seqU (grdO (decide (y7=x13) && decide (x13<List.length x12)) (grdO (decide (y7=x13) && decide (x13<List.length x12)) (grdO (decide (y7=x13) && decide (x13<List.length x12)) (some ())))) (some ())))))))) (zAA (F807000316 (x1,(y14,y15,y16,y17,y18,x10,x11),(x12,x13,x14,x15,x16,x17,x18,x19,x20),x21)) fun (y19,(y20,y21,y22,y23,y24,x22,x23),(x24,x25,x26,x27,x28,x29,x30,x31,x32),x33) =>
         seqU (seqU (grdO (decide (3<(v46.length:Int))) (some ())) (seqU (atO (v46) (nat_lit 3) fun x34=>grdO (decide (x34=x2)) (some ())) (seqU (grdO (y7 == y7 && true) (some ())) (seqU (grdO (y7 == y7 && true) (some ())) (seqU (grdO (decide (y7=x25) && decide (x25<List.length x24)) (grdO (decide (y7=x25) && decide (x25<List.length x24)) (grdO (decide (y7=x25) && decide (x25<List.length x24)) (some ())))) (some ())))))) (zAA (F807000316 (x2,(y20,y21,y22,y23,y24,x22,x23),(x24,x25,x26,x27,x28,x29,x30,x31,x32),x33)) fun (y25,(y26,y27,y28,y29,y30,x34,x35),(x36,x37,x38,x39,x40,x41,x42,x43,x44),x45) =>
         seqU (seqU (grdO (y7 == y7 && true) (some ())) (seqU (grdO (y7 == y7 && true) (some ())) (seqU (grdO (decide (y7=x37) && decide (x37<List.length x36)) (grdO (decide (y7=x37) && decide (x37<List.length x36)) (grdO (decide (y7=x37) && decide (x37<List.length x36)) (some ())))) (some ())))) (seqU (seqU (grdO (y7 == y7 && true) (some ())) (seqU (grdO (y7 == y7 && true) (some ())) (seqU (grdO (decide (y7=x37) && decide (x37<List.length x36)) (grdO (decide (y7=x37) && decide (x37<List.length x36)) (grdO (decide (y7=x37) && decide (x37<List.length x36)) (some ())))) (some ())))) (grdO (decide (List.length x45+1≤9223372036854775807) && decide ((List.length x45+1)*56≤140737488355328)) (grdO (decide (y1=x37) && decide (x37<List.length x36)) (grdO (decide (x37<List.length x36)) (some (Sum.inl (y26,y27,y28,y29,y30,x34,List.set x36 x37 (x38,x39,x40,x41,x42,x43,x44,x45++[(y13,y19,y25)]),x35))))))))))))))))))
         (some (Sum.inl (o08,o18,o28,o38,o48,o58,o68,true))))))))) fun (o03,o13,o23,o33,o43,o53,o63,o73) =>
  some ((o03,o13,o23,o33,o43,o53,o63,o73)))
theorem r279 x:funT T zFD tp279 213 tv279 (zAD Tryz.f279) ti279 to279 x=F279 x:=by kernel_rfl
def te279:=mkE 279 false [(0,[])] ti279 to279 F279 [] 213 [100000]
def tb279:=insT 279 te279 zFD
theorem ok279:TbOk Tryz.prog tb279:=okI zQd tp279 tv279 Tryz.func279 rfl Tryz.results279 Tryz.ntmps279 (by kernel_rfl) (by kernel_rfl) Tryz.call279 r279
abbrev ti69:SPat:=⟨[(0,.agg (pl plC))],[]⟩
abbrev to69:SPat:=⟨[(2,.b)],[]⟩
def F69:Cls→Option (Bool):=fun (c0,c1,c2,c3,c4,c5,c6) =>
 cndO (decide ((c0.length:Int)≤60))
  (cndO (decide ((c4.length:Int)≤3))
   (cndO (decide ((c5.length:Int)≤5))
    (some (decide ((c6.length:Int)≤6)))
    (some (false)))
   (some (false)))
  (some (false))
theorem r69 x:funT T tb279 noPl 25 noIv (zAD Tryz.f69) ti69 to69 x=F69 x:=by kernel_rfl
def te69:=mkE 69 true [] ti69 to69 F69 [.tmp 2] 25 []
def tb69:=insT 69 te69 tb279
theorem ok69:TbOk Tryz.prog tb69:=okI ok279 noPl noIv Tryz.func69 rfl Tryz.results69 Tryz.ntmps69 (by kernel_rfl) (by kernel_rfl) Tryz.call69 r69
abbrev ti135:SPat:=⟨[(0,.agg (pl [.i .i64,.s,.i .i64,.i .i64]))],[]⟩
abbrev to135:SPat:=⟨[(2,.s)],[]⟩
def tp135:Nat→List Nat×Plan:=fun id=>bif id == 3 then ([0,1,3,4,5,8,9],(.br 2 [1,0] [3,4,5,8,9] [] (.br 6 [5,4,3,2,1,0] [8,9] [7,10] (.br 11 [10,9,8,7,6,5,4,3,2,1,0] [] [] .fin .fin) .fin) .fin)) else bif id == 5 then ([0,1,3,4],(.br 2 [1,0] [3,4] [] (.br 5 [4,3,2,1,0] [] [6] (.br 7 [6,5,4,3,2,1,0] [] [] .fin .fin) .fin) .fin)) else bif id == 6 then ([0,1,3,4,7,8],(.br 2 [1,0] [3,4,7,8] [] (.br 5 [4,3,2,1,0] [7,8] [6] (.br 9 [8,7,5,4,3,2,1,0] [6] [10] (.br 11 [10,9,8,7,6,5,4,3,2,1,0] [] [] .fin .fin) .fin) .fin) .fin)) else ([],.fin)
def F135:Cst→Option (List UInt8):=fun (c0,c1,c2,c3) =>
 cndO (decide (c0=1))
  (zAA (F134 c0) fun y =>
  seqU (seqU (grdO (decide (c1=c1)) (some ())) (seqU (grdO (decide ((c1.length:Int)=(c1.length:Int))) (some ())) (seqU (grdO (decide (c1=c1)) (some ())) (some ())))) (zAA (F134 (c1.length:Int)) fun y1 =>
  seqU (seqU (grdO (decide (c1=c1)) (some ())) (some ())) (grdO (decide (List.length y+List.length y1≤9223372036854775807)) (grdO (decide (List.length (y++y1)+List.length c1≤9223372036854775807)) (some (y++y1++c1))))))
  (cndO (decide (c0=2))
   (zAA (F134 c0) fun y =>
   seqU (seqU (grdO (decide (c2=c2)) (some ())) (some ())) (zAA (F136 c2) fun y1 =>
   grdO (decide (List.length y+List.length y1≤9223372036854775807)) (some (y++y1))))
   (zAA (F134 c0) fun y =>
   seqU (seqU (grdO (decide (c2=c2)) (some ())) (seqU (grdO (decide (c3=c3)) (some ())) (some ()))) (zAA (F136 c2) fun y1 =>
   seqU (seqU (grdO (decide (c3=c3)) (some ())) (some ())) (grdO (decide (List.length y+List.length y1≤9223372036854775807)) (zAA (F136 c3) fun y2 =>
   seqU (seqU (grdO (decide (List.length y+List.length y1≤9223372036854775807)) (grdO (decide (y++y1=y++y1)) (some ()))) (some ())) (grdO (decide (List.length (y++y1)+List.length y2≤9223372036854775807)) (some (y++y1++y2))))))))
theorem r135 x:funT T tb69 tp135 38 noIv (zAD Tryz.f135) ti135 to135 x=F135 x:=by kernel_rfl
def te135:=mkE 135 true [] ti135 to135 F135 [.tmp 2] 38 []
def tb135:=insT 135 te135 tb69
theorem ok135:TbOk Tryz.prog tb135:=okI ok69 tp135 noIv Tryz.func135 rfl Tryz.results135 Tryz.ntmps135 (by kernel_rfl) (by kernel_rfl) Tryz.call135 r135
abbrev ti216:SPat:=⟨[(0,.sl zBB)],[]⟩
abbrev to216:SPat:=⟨[(2,.s)],[]⟩
abbrev ts216_3:SPat:=⟨[(0,.sl zBB),(3,.s),(4,.i .i64)],[]⟩
abbrev zKz:SPat:=⟨[(3,.s)],[]⟩
abbrev zKy:SPat:=⟨[(0,.sl zBB),(3,.s),(4,.i .i64)],[]⟩
def tv216:Nat→Option SPat:=fun k=>bif k == 3 then some ts216_3 else bif k == 2000000 then some zKz else bif k == 2000001 then some zKy else none
def F216:List (Int×Int)→Option (List UInt8):=fun list =>
 zAA (F134 (list.length:Int)) fun y =>
 bindE (Y:=List UInt8) (zAF (fun (list1,out,i) =>
   cndO (decide (i<(list1.length:Int)))
    (bindE (Y:=List (Int×Int)×List UInt8×Int) (grdO (decide (0≤i)) (atO (list1) i.toNat fun x=>zAA (F134 (x.1)) fun y1 =>
     grdO (decide (List.length out+List.length y1≤9223372036854775807)) (grdO (decide (0≤i)) (atO (list1) i.toNat fun x1=>cndO (decide (x1.1=3))
      (grdO (decide (0≤i)) (atO (list1) i.toNat fun x2=>zAA (F136 (x2.2)) fun y2 =>
      grdO (decide (List.length (out++y1)+List.length y2≤9223372036854775807)) (some (Sum.inl (list1,out++y1++y2,i)))))
      (some (Sum.inl (list1,out++y1,i))))))) fun (list2,out1,i1) =>
    some (Sum.inl (list2,out1,IntKind.wrap .i64 (i1+1))))
    (some (Sum.inr (Sum.inl out)))) ((list,y,(0:Int)))) fun out =>
 some (out)
theorem r216 x:funT T tb135 noPl 37 tv216 (zAD Tryz.f216) ti216 to216 x=F216 x:=by kernel_rfl
def te216:=mkE 216 true [] ti216 to216 F216 [.tmp 2] 37 []
def tb216:=insT 216 te216 tb135
theorem ok216:TbOk Tryz.prog tb216:=okI ok135 noPl tv216 Tryz.func216 rfl Tryz.results216 Tryz.ntmps216 (by kernel_rfl) (by kernel_rfl) Tryz.call216 r216
abbrev ti137:SPat:=⟨[(0,.agg (pl plM))],[]⟩
abbrev to137:SPat:=⟨[(2,.s)],[]⟩
abbrev ts137_6:SPat:=⟨[(1,.ptr 1 0),(3,.s),(4,.i .i64)],[.box 1 (pl plM)]⟩
abbrev ts137_12:SPat:=⟨[(1,.ptr 1 0),(3,.s),(6,.i .i64)],[.box 1 (pl plM)]⟩
abbrev zMA:SPat:=⟨[(1,.ptr 1 0),(3,.s)],[.box 1 (pl plM)]⟩
abbrev zLz:SPat:=⟨[(3,.s)],[]⟩
def tv137:Nat→Option SPat:=fun k=>bif k == 6 then some ts137_6 else bif k == 12 then some ts137_12 else bif k == 2000000 then some zMA else bif k == 2000002 then some zLz else none
def tp137:Nat→List Nat×Plan:=fun id=>bif id == 1 then ([0,1,3,4,7,8],(.br 2 [1,0] [3,4,7,8] [] (.br 5 [4,3,2,1,0] [7,8] [6] (.br 9 [8,7,5,4,3,2,1,0] [6] [10] (.br 11 [10,9,8,7,6,5,4,3,2,1,0] [] [] .fin .fin) .fin) .fin) .fin)) else bif id == 4 then ([0,1,2,5,6,9,10,11,14,15,17,18,19],(.br 3 [2,1] [0,5,6,9,10,11,14,15,17,18,19] [4] (.br 7 [6,5,3,2,1] [0,9,10,11,14,15,17,18,19,4] [8] (.br 12 [11,10,9,7,6,5,3,2,1] [0,14,15,17,18,19,4,8] [13,16] (.br 20 [19,18,17,12,11,10,9,7,6,5,3,2,1] [0,14,15,4,8,13,16] [21] (.br 22 [21,20,19,18,17,16,15,14,13,12,11,10,9,8,7,6,5,4,3,2,1,0] [] [] .fin .fin) .fin) .fin) .fin) .fin)) else bif id == 9 then ([0,1,2,5,6,9,10,13,14],(.br 3 [2,1] [0,5,6,9,10,13,14] [4] (.br 7 [6,5,3,2,1] [0,9,10,13,14,4] [8] (.br 11 [10,9,7,6,5,3,2,1] [0,13,14,4,8] [12] (.br 15 [14,13,11,10,9,7,6,5,3,2,1] [0,4,8,12] [16] (.br 17 [16,15,14,13,12,11,10,9,8,7,6,5,4,3,2,1,0] [] [] .fin .fin) .fin) .fin) .fin) .fin)) else bif id == 14 then ([0,1,2,3,4,5,6,9,10,11,12,13,14,17,18,19,20,21,22],(.br 7 [6,5,4,3,2,1] [0,9,10,11,12,13,14,17,18,19,20,21,22] [8] (.br 15 [14,13,12,11,10,9,7,6,5,4,3,2,1] [0,17,18,19,20,21,22,8] [16] (.br 23 [22,21,20,19,18,17,15,14,13,12,11,10,9,7,6,5,4,3,2,1] [0,8,16] [24] (.br 25 [24,23,22,21,20,19,18,17,16,15,14,13,12,11,10,9,8,7,6,5,4,3,2,1,0] [] [] .fin .fin) .fin) .fin) .fin)) else ([],.fin)
def F137:Mth→Option (List UInt8):=fun (app0,app1,app2,app3,app4,app5,app6,app7) =>
 zAA (F134 app0) fun y =>
 seqU (seqU (grdO (decide (app1=app1)) (some ())) (seqU (grdO (decide (app2=app2)) (some ())) (some ()))) (zAA (F136 app1) fun y1 =>
 seqU (seqU (grdO (decide (app2=app2)) (some ())) (some ())) (grdO (decide (List.length y+List.length y1≤9223372036854775807)) (zAA (F136 app2) fun y2 =>
 seqU (seqU (grdO (decide (List.length y+List.length y1≤9223372036854775807)) (grdO (decide (y++y1=y++y1)) (some ()))) (some ())) (grdO (decide (List.length (y++y1)+List.length y2≤9223372036854775807)) (cndO (decide (IntKind.wrap .i64 (Int.tdiv (Int.tmod app0 (16:Int)) (8:Int))=1))
  (some (y++y1++y2))
  (zAA (F134 app3) fun y3 =>
  seqU (seqU (grdO (decide (y++y1++y2=y++y1++y2)) (some ())) (seqU (grdO (decide (app4=app4)) (some ())) (seqU (grdO (decide (app5=app5)) (some ())) (seqU (grdO (decide ((app5.length:Int)=(app5.length:Int))) (some ())) (seqU (grdO (decide (app5=app5)) (some ())) (seqU (grdO (decide (app6=app6)) (some ())) (seqU (grdO (decide ((app6.length:Int)=(app6.length:Int))) (some ())) (some ())))))))) (grdO (decide (List.length (y++y1++y2)+List.length y3≤9223372036854775807)) (zAA (F134 app4) fun y4 =>
  seqU (seqU (grdO (decide (y++y1++y2=y++y1++y2)) (some ())) (seqU (grdO (decide (app5=app5)) (some ())) (seqU (grdO (decide ((app5.length:Int)=(app5.length:Int))) (some ())) (seqU (grdO (decide (app5=app5)) (some ())) (seqU (grdO (decide (app6=app6)) (some ())) (seqU (grdO (decide ((app6.length:Int)=(app6.length:Int))) (some ())) (seqU (grdO (decide (List.length (y++y1++y2)+List.length y3≤9223372036854775807)) (grdO (decide (y++y1++y2++y3=y++y1++y2++y3)) (some ()))) (some ())))))))) (grdO (decide (List.length (y++y1++y2++y3)+List.length y4≤9223372036854775807)) (zAA (F136 (app5.length:Int)) fun y5 =>
  seqU (seqU (grdO (decide (y++y1++y2=y++y1++y2)) (some ())) (seqU (grdO (decide (app5=app5)) (some ())) (seqU (grdO (decide (app6=app6)) (some ())) (seqU (grdO (decide ((app6.length:Int)=(app6.length:Int))) (some ())) (seqU (grdO (decide (List.length (y++y1++y2)+List.length y3≤9223372036854775807)) (grdO (decide (y++y1++y2++y3=y++y1++y2++y3)) (some ()))) (seqU (grdO (decide (List.length (y++y1++y2++y3)+List.length y4≤9223372036854775807)) (grdO (decide (y++y1++y2++y3++y4=y++y1++y2++y3++y4)) (some ()))) (some ()))))))) (grdO (decide (List.length (y++y1++y2++y3++y4)+List.length y5≤9223372036854775807)) (grdO (decide (List.length (y++y1++y2++y3++y4++y5)+List.length app5≤9223372036854775807)) (zAA (F134 (app6.length:Int)) fun y6 =>
  seqU (seqU (grdO (decide (y++y1++y2=y++y1++y2)) (some ())) (seqU (grdO (decide (app5=app5)) (some ())) (seqU (grdO (decide (List.length (y++y1++y2)+List.length y3≤9223372036854775807)) (grdO (decide (y++y1++y2++y3=y++y1++y2++y3)) (some ()))) (seqU (grdO (decide (List.length (y++y1++y2++y3)+List.length y4≤9223372036854775807)) (grdO (decide (y++y1++y2++y3++y4=y++y1++y2++y3++y4)) (some ()))) (seqU (grdO (decide (List.length (y++y1++y2++y3++y4)+List.length y5≤9223372036854775807)) (grdO (decide (y++y1++y2++y3++y4++y5=y++y1++y2++y3++y4++y5)) (some ()))) (seqU (grdO (decide (List.length (y++y1++y2++y3++y4++y5)+List.length app5≤9223372036854775807)) (grdO (decide (y++y1++y2++y3++y4++y5++app5=y++y1++y2++y3++y4++y5++app5)) (some ()))) (some ()))))))) (grdO (decide (List.length (y++y1++y2++y3++y4++y5++app5)+List.length y6≤9223372036854775807)) (bindE (Y:=List UInt8×Mth) (zAF (fun (v3,v4,o0,o1,o2,o3,o4,o5,o6,o7) =>
    cndO (decide (v4<(o6.length:Int)))
     (grdO (decide (0≤v4)) (atO (o6) v4.toNat fun x=>zAA (F136 (x.1)) fun y7 =>
     seqU (seqU (grdO (decide (v3=v3)) (some ())) (seqU (grdO (decide (x.2.1=x.2.1)) (some ())) (seqU (grdO (decide (x.2.2.1=x.2.2.1)) (some ())) (seqU (grdO (decide (x.2.2.2=x.2.2.2)) (some ())) (some ()))))) (grdO (decide (List.length v3+List.length y7≤9223372036854775807)) (zAA (F136 (x.2.1)) fun y8 =>
     seqU (seqU (grdO (decide (v3=v3)) (some ())) (seqU (grdO (decide (x.2.2.1=x.2.2.1)) (some ())) (seqU (grdO (decide (x.2.2.2=x.2.2.2)) (some ())) (seqU (grdO (decide (List.length v3+List.length y7≤9223372036854775807)) (grdO (decide (v3++y7=v3++y7)) (some ()))) (some ()))))) (grdO (decide (List.length (v3++y7)+List.length y8≤9223372036854775807)) (zAA (F136 (x.2.2.1)) fun y9 =>
     seqU (seqU (grdO (decide (v3=v3)) (some ())) (seqU (grdO (decide (x.2.2.2=x.2.2.2)) (some ())) (seqU (grdO (decide (List.length v3+List.length y7≤9223372036854775807)) (grdO (decide (v3++y7=v3++y7)) (some ()))) (seqU (grdO (decide (List.length (v3++y7)+List.length y8≤9223372036854775807)) (grdO (decide (v3++y7++y8=v3++y7++y8)) (some ()))) (some ()))))) (grdO (decide (List.length (v3++y7++y8)+List.length y9≤9223372036854775807)) (zAA (F136 (x.2.2.2)) fun y10 =>
     seqU (seqU (grdO (decide (v3=v3)) (some ())) (seqU (grdO (decide (List.length v3+List.length y7≤9223372036854775807)) (grdO (decide (v3++y7=v3++y7)) (some ()))) (seqU (grdO (decide (List.length (v3++y7)+List.length y8≤9223372036854775807)) (grdO (decide (v3++y7++y8=v3++y7++y8)) (some ()))) (seqU (grdO (decide (List.length (v3++y7++y8)+List.length y9≤9223372036854775807)) (grdO (decide (v3++y7++y8++y9=v3++y7++y8++y9)) (some ()))) (some ()))))) (grdO (decide (List.length (v3++y7++y8++y9)+List.length y10≤9223372036854775807)) (some (Sum.inl (v3++y7++y8++y9++y10,IntKind.wrap .i64 (v4+1),o0,o1,o2,o3,o4,o5,o6,o7))))))))))))
     (some (Sum.inr (Sum.inl (v3,o0,o1,o2,o3,o4,o5,o6,o7))))) ((y++y1++y2++y3++y4++y5++app5++y6,(0:Int),app0,app1,app2,app3,app4,app5,app6,app7))) fun (v3,o0,o1,o2,o3,o4,o5,o6,o7) =>
  zAA (F134 (o7.length:Int)) fun y7 =>
  grdO (decide (List.length v3+List.length y7≤9223372036854775807)) (bindE (Y:=List UInt8) (zAF (fun (v31,v6,o01,o11,o21,o31,o41,o51,o61,o71) =>
    cndO (decide (v6<(o71.length:Int)))
     (grdO (decide (0≤v6)) (atO (o71) v6.toNat fun x=>grdO (decide (0≤v6)) (atO (o71) v6.toNat fun x1=>grdO (decide (0≤v6)) (atO (o71) v6.toNat fun x2=>zAA (F136 (x.1)) fun y8 =>
     seqU (seqU (grdO (decide (v31=v31)) (some ())) (seqU (grdO (decide (o71=o71)) (some ())) (seqU (grdO (decide (v6=v6)) (some ())) (seqU (grdO (decide (0≤v6)) (atO (o71) v6.toNat fun x3=>grdO (decide (x3.1=x1.1) && (decide (x3.2.1=x1.2.1) && (decide (x3.2.2=x1.2.2) && true))) (some ()))) (seqU (grdO (decide (x1.2.1=x1.2.1) && (decide (x1.2.2=x1.2.2) && true)) (some ())) (seqU (grdO (decide (x1.2.1=x1.2.1)) (some ())) (seqU (grdO (decide (o71=o71)) (some ())) (seqU (grdO (decide (v6=v6)) (some ())) (seqU (grdO (decide (0≤v6)) (atO (o71) v6.toNat fun x3=>grdO (decide (x3.1=x2.1) && (decide (x3.2.1=x2.2.1) && (decide (x3.2.2=x2.2.2) && true))) (some ()))) (seqU (grdO (decide (x2.2.2=x2.2.2) && true) (some ())) (seqU (grdO (decide (x2.2.2=x2.2.2)) (some ())) (some ())))))))))))) (grdO (decide (List.length v31+List.length y8≤9223372036854775807)) (zAA (F216 (x1.2.1)) fun y9 =>
     seqU (seqU (grdO (decide (v31=v31)) (some ())) (seqU (grdO (decide (o71=o71)) (some ())) (seqU (grdO (decide (v6=v6)) (some ())) (seqU (grdO (decide (0≤v6)) (atO (o71) v6.toNat fun x3=>grdO (decide (x3.1=x2.1) && (decide (x3.2.1=x2.2.1) && (decide (x3.2.2=x2.2.2) && true))) (some ()))) (seqU (grdO (decide (x2.2.2=x2.2.2) && true) (some ())) (seqU (grdO (decide (x2.2.2=x2.2.2)) (some ())) (seqU (grdO (decide (List.length v31+List.length y8≤9223372036854775807)) (grdO (decide (v31++y8=v31++y8)) (some ()))) (some ())))))))) (grdO (decide (List.length (v31++y8)+List.length y9≤9223372036854775807)) (zAA (F216 (x2.2.2)) fun y10 =>
     seqU (seqU (grdO (decide (v31=v31)) (some ())) (seqU (grdO (decide (List.length v31+List.length y8≤9223372036854775807)) (grdO (decide (v31++y8=v31++y8)) (some ()))) (seqU (grdO (decide (List.length (v31++y8)+List.length y9≤9223372036854775807)) (grdO (decide (v31++y8++y9=v31++y8++y9)) (some ()))) (some ())))) (grdO (decide (List.length (v31++y8++y9)+List.length y10≤9223372036854775807)) (some (Sum.inl (v31++y8++y9++y10,IntKind.wrap .i64 (v6+1),o01,o11,o21,o31,o41,o51,o61,o71))))))))))))
     (some (Sum.inr (Sum.inl v31)))) ((v3++y7,(0:Int),o0,o1,o2,o3,o4,o5,o6,o7))) fun v31 =>
  some (v31)))))))))))))))))
theorem r137 x:funT T tb216 tp137 114 tv137 (zAD Tryz.f137) ti137 to137 x=F137 x:=by kernel_rfl
def te137:=mkE 137 true [] ti137 to137 F137 [.tmp 2] 114 []
def tb137:=insT 137 te137 tb216
theorem ok137:TbOk Tryz.prog tb137:=okI ok216 tp137 tv137 Tryz.func137 rfl Tryz.results137 Tryz.ntmps137 (by kernel_rfl) (by kernel_rfl) Tryz.call137 r137
abbrev ti55:SPat:=⟨[(0,.agg (pl plC))],[]⟩
abbrev to55:SPat:=⟨[(2,.s)],[]⟩
abbrev ts55_3:SPat:=⟨[(1,.ptr 1 0),(3,.s),(4,.i .i64)],[.box 1 (pl plC)]⟩
abbrev ts55_8:SPat:=⟨[(1,.ptr 1 0),(3,.s),(5,.i .i64)],[.box 1 (pl plC)]⟩
abbrev ts55_13:SPat:=⟨[(1,.ptr 1 0),(3,.s),(6,.i .i64)],[.box 1 (pl plC)]⟩
abbrev ts55_18:SPat:=⟨[(1,.ptr 1 0),(3,.s),(7,.i .i64)],[.box 1 (pl plC)]⟩
abbrev zNq:SPat:=⟨[(1,.ptr 1 0),(3,.s)],[.box 1 (pl plC)]⟩
abbrev zNp:SPat:=⟨[(1,.ptr 1 0),(3,.s)],[.box 1 (pl plC)]⟩
abbrev zNo:SPat:=⟨[(1,.ptr 1 0),(3,.s)],[.box 1 (pl plC)]⟩
abbrev zNn:SPat:=⟨[(3,.s)],[]⟩
def tv55:Nat→Option SPat:=fun k=>bif k == 3 then some ts55_3 else bif k == 8 then some ts55_8 else bif k == 13 then some ts55_13 else bif k == 18 then some ts55_18 else bif k == 2000000 then some zNq else bif k == 2000002 then some zNp else bif k == 2000004 then some zNo else bif k == 2000006 then some zNn else none
def tp55:Nat→List Nat×Plan:=fun id=>bif id == 6 then ([0,1,2,5,6,9,10,13,14,15],(.br 3 [2,1] [0,5,6,9,10,13,14,15] [4] (.br 7 [6,5,3,2,1] [0,9,10,13,14,15,4] [8] (.br 11 [10,9,7,6,5,3,2,1] [0,13,14,15,4,8] [12] (.br 16 [15,14,13,11,10,9,7,6,5,3,2,1] [0,4,8,12] [17] (.br 18 [17,16,15,14,13,12,11,10,9,8,7,6,5,4,3,2,1,0] [] [] .fin .fin) .fin) .fin) .fin) .fin)) else bif id == 15 then ([0,1,2,3,4,5,6,9,10,11,12,13,14,17,18,19,20,21,22],(.br 7 [6,5,4,3,2,1] [0,9,10,11,12,13,14,17,18,19,20,21,22] [8] (.br 15 [14,13,12,11,10,9,7,6,5,4,3,2,1] [0,17,18,19,20,21,22,8] [16] (.br 23 [22,21,20,19,18,17,15,14,13,12,11,10,9,7,6,5,4,3,2,1] [0,8,16] [24] (.br 25 [24,23,22,21,20,19,18,17,16,15,14,13,12,11,10,9,8,7,6,5,4,3,2,1,0] [] [] .fin .fin) .fin) .fin) .fin)) else ([],.fin)
def F55:Cls→Option (List UInt8):=fun (app0,app1,app2,app3,app4,app5,app6) =>
 zAA (F134 (app0.length:Int)) fun y =>
 grdO (decide ((4:Nat)+List.length y≤9223372036854775807)) (bindE (Y:=List UInt8×Cls) (zAF (fun (v3,v4,o0,o1,o2,o3,o4,o5,o6) =>
   cndO (decide (v4<(o0.length:Int)))
    (grdO (decide (0≤v4)) (atO (o0) v4.toNat fun x=>zAA (F135 (x.1,x.2.1,x.2.2.1,x.2.2.2)) fun y1 =>
    grdO (decide (List.length v3+List.length y1≤9223372036854775807)) (some (Sum.inl (v3++y1,IntKind.wrap .i64 (v4+1),o0,o1,o2,o3,o4,o5,o6)))))
    (some (Sum.inr (Sum.inl (v3,o0,o1,o2,o3,o4,o5,o6))))) (([(83:UInt8),84,79,87]++y,(0:Int),app0,app1,app2,app3,app4,app5,app6))) fun (v3,o0,o1,o2,o3,o4,o5,o6) =>
 zAA (F134 o1) fun y1 =>
 seqU (seqU (grdO (decide (v3=v3)) (some ())) (seqU (grdO (decide (o2=o2)) (some ())) (seqU (grdO (decide (o3=o3)) (some ())) (seqU (grdO (decide (o4=o4)) (some ())) (seqU (grdO (decide ((o4.length:Int)=(o4.length:Int))) (some ())) (some ())))))) (grdO (decide (List.length v3+List.length y1≤9223372036854775807)) (zAA (F136 o2) fun y2 =>
 seqU (seqU (grdO (decide (v3=v3)) (some ())) (seqU (grdO (decide (o3=o3)) (some ())) (seqU (grdO (decide (o4=o4)) (some ())) (seqU (grdO (decide ((o4.length:Int)=(o4.length:Int))) (some ())) (seqU (grdO (decide (List.length v3+List.length y1≤9223372036854775807)) (grdO (decide (v3++y1=v3++y1)) (some ()))) (some ())))))) (grdO (decide (List.length (v3++y1)+List.length y2≤9223372036854775807)) (zAA (F136 o3) fun y3 =>
 seqU (seqU (grdO (decide (v3=v3)) (some ())) (seqU (grdO (decide (o4=o4)) (some ())) (seqU (grdO (decide ((o4.length:Int)=(o4.length:Int))) (some ())) (seqU (grdO (decide (List.length v3+List.length y1≤9223372036854775807)) (grdO (decide (v3++y1=v3++y1)) (some ()))) (seqU (grdO (decide (List.length (v3++y1)+List.length y2≤9223372036854775807)) (grdO (decide (v3++y1++y2=v3++y1++y2)) (some ()))) (some ())))))) (grdO (decide (List.length (v3++y1++y2)+List.length y3≤9223372036854775807)) (zAA (F134 (o4.length:Int)) fun y4 =>
 seqU (seqU (grdO (decide (v3=v3)) (some ())) (seqU (grdO (decide (List.length v3+List.length y1≤9223372036854775807)) (grdO (decide (v3++y1=v3++y1)) (some ()))) (seqU (grdO (decide (List.length (v3++y1)+List.length y2≤9223372036854775807)) (grdO (decide (v3++y1++y2=v3++y1++y2)) (some ()))) (seqU (grdO (decide (List.length (v3++y1++y2)+List.length y3≤9223372036854775807)) (grdO (decide (v3++y1++y2++y3=v3++y1++y2++y3)) (some ()))) (some ()))))) (grdO (decide (List.length (v3++y1++y2++y3)+List.length y4≤9223372036854775807)) (bindE (Y:=List UInt8×Cls) (zAF (fun (v31,v5,o01,o11,o21,o31,o41,o51,o61) =>
   cndO (decide (v5<(o41.length:Int)))
    (grdO (decide (0≤v5)) (atO (o41) v5.toNat fun x=>zAA (F136 x) fun y5 =>
    grdO (decide (List.length v31+List.length y5≤9223372036854775807)) (some (Sum.inl (v31++y5,IntKind.wrap .i64 (v5+1),o01,o11,o21,o31,o41,o51,o61)))))
    (some (Sum.inr (Sum.inl (v31,o01,o11,o21,o31,o41,o51,o61))))) ((v3++y1++y2++y3++y4,(0:Int),o0,o1,o2,o3,o4,o5,o6))) fun (v31,o01,o11,o21,o31,o41,o51,o61) =>
 zAA (F134 (o51.length:Int)) fun y5 =>
 grdO (decide (List.length v31+List.length y5≤9223372036854775807)) (bindE (Y:=List UInt8×Cls) (zAF (fun (v32,v6,o02,o12,o22,o32,o42,o52,o62) =>
   cndO (decide (v6<(o52.length:Int)))
    (grdO (decide (0≤v6)) (atO (o52) v6.toNat fun x=>grdO (decide (0≤v6)) (atO (o52) v6.toNat fun x1=>grdO (decide (0≤v6)) (atO (o52) v6.toNat fun x2=>zAA (F134 (x.1)) fun y6 =>
    seqU (seqU (grdO (decide (v32=v32)) (some ())) (seqU (grdO (decide (o52=o52)) (some ())) (seqU (grdO (decide (v6=v6)) (some ())) (seqU (grdO (decide (0≤v6)) (atO (o52) v6.toNat fun x3=>grdO (decide (x3.1=x1.1) && (decide (x3.2.1=x1.2.1) && (decide (x3.2.2=x1.2.2) && true))) (some ()))) (seqU (grdO (decide (x1.2.1=x1.2.1) && (decide (x1.2.2=x1.2.2) && true)) (some ())) (seqU (grdO (decide (x1.2.1=x1.2.1)) (some ())) (seqU (grdO (decide (o52=o52)) (some ())) (seqU (grdO (decide (v6=v6)) (some ())) (seqU (grdO (decide (0≤v6)) (atO (o52) v6.toNat fun x3=>grdO (decide (x3.1=x2.1) && (decide (x3.2.1=x2.2.1) && (decide (x3.2.2=x2.2.2) && true))) (some ()))) (seqU (grdO (decide (x2.2.2=x2.2.2) && true) (some ())) (seqU (grdO (decide (x2.2.2=x2.2.2)) (some ())) (some ())))))))))))) (grdO (decide (List.length v32+List.length y6≤9223372036854775807)) (zAA (F136 (x1.2.1)) fun y7 =>
    seqU (seqU (grdO (decide (v32=v32)) (some ())) (seqU (grdO (decide (o52=o52)) (some ())) (seqU (grdO (decide (v6=v6)) (some ())) (seqU (grdO (decide (0≤v6)) (atO (o52) v6.toNat fun x3=>grdO (decide (x3.1=x2.1) && (decide (x3.2.1=x2.2.1) && (decide (x3.2.2=x2.2.2) && true))) (some ()))) (seqU (grdO (decide (x2.2.2=x2.2.2) && true) (some ())) (seqU (grdO (decide (x2.2.2=x2.2.2)) (some ())) (seqU (grdO (decide (List.length v32+List.length y6≤9223372036854775807)) (grdO (decide (v32++y6=v32++y6)) (some ()))) (some ())))))))) (grdO (decide (List.length (v32++y6)+List.length y7≤9223372036854775807)) (zAA (F136 (x2.2.2)) fun y8 =>
    seqU (seqU (grdO (decide (v32=v32)) (some ())) (seqU (grdO (decide (List.length v32+List.length y6≤9223372036854775807)) (grdO (decide (v32++y6=v32++y6)) (some ()))) (seqU (grdO (decide (List.length (v32++y6)+List.length y7≤9223372036854775807)) (grdO (decide (v32++y6++y7=v32++y6++y7)) (some ()))) (some ())))) (grdO (decide (List.length (v32++y6++y7)+List.length y8≤9223372036854775807)) (some (Sum.inl (v32++y6++y7++y8,IntKind.wrap .i64 (v6+1),o02,o12,o22,o32,o42,o52,o62))))))))))))
    (some (Sum.inr (Sum.inl (v32,o02,o12,o22,o32,o42,o52,o62))))) ((v31++y5,(0:Int),o01,o11,o21,o31,o41,o51,o61))) fun (v32,o02,o12,o22,o32,o42,o52,o62) =>
 zAA (F134 (o62.length:Int)) fun y6 =>
 grdO (decide (List.length v32+List.length y6≤9223372036854775807)) (bindE (Y:=List UInt8) (zAF (fun (v33,v7,o03,o13,o23,o33,o43,o53,o63) =>
   cndO (decide (v7<(o63.length:Int)))
    (grdO (decide (0≤v7)) (atO (o63) v7.toNat fun x=>zAA (F137 (x.1,x.2.1,x.2.2.1,x.2.2.2.1,x.2.2.2.2.1,x.2.2.2.2.2.1,x.2.2.2.2.2.2.1,x.2.2.2.2.2.2.2)) fun y7 =>
    grdO (decide (List.length v33+List.length y7≤9223372036854775807)) (some (Sum.inl (v33++y7,IntKind.wrap .i64 (v7+1),o03,o13,o23,o33,o43,o53,o63)))))
    (some (Sum.inr (Sum.inl v33)))) ((v32++y6,(0:Int),o02,o12,o22,o32,o42,o52,o62))) fun v33 =>
 some (v33))))))))))))
theorem r55 x:funT T tb137 tp55 121 tv55 (zAD Tryz.f55) ti55 to55 x=F55 x:=by kernel_rfl
def te55:=mkE 55 true [] ti55 to55 F55 [.tmp 2] 121 []
def tb55:=insT 55 te55 tb137
theorem ok55:TbOk Tryz.prog tb55:=okI ok137 tp55 tv55 Tryz.func55 rfl Tryz.results55 Tryz.ntmps55 (by kernel_rfl) (by kernel_rfl) Tryz.call55 r55
abbrev ti219:SPat:=⟨[(0,.ptr 100000 0),(1,.i .i64)],[.box 100000 (pl [.s,.i .i64,.b])]⟩
abbrev to219:SPat:=⟨[(4,.s)],[.box 100000 (pl [.s,.i .i64,.b])]⟩
abbrev zKp:SPat:=⟨[(0,.ptr 100000 0),(1,.i .i64),(22,.b)],[.box 100000 (pl [.s,.i .i64,.b])]⟩
def tv219:Nat→Option SPat:=fun k=>bif k == 1000002 then some zKp else none
def tp219:Nat→List Nat×Plan:=fun id=>bif id == 1 then ([0,1,2,3,4,5,6,7,8,9,10,11,12,13,14,15,16,17],.fin) else bif id == 5 then ([0,1,2,3,4,5,6,7,8,9,10,11,12,13,14],(.br 15 [14,13,12,11,10,9,8,7,6,5,4,3,2,1,0] [] [] .fin .fin)) else ([],.fin)
def F219:Int×List UInt8×Int×Bool→Option (List UInt8×List UInt8×Int×Bool):=fun (n,o0,o1,o2) =>
 bindE (Y:=Int×Bool×List UInt8×Int×Bool) (cndO (o2)
   (some (Sum.inl (n,true,o0,o1,o2)))
   (some (Sum.inl (n,decide ((o0.length:Int)<IntKind.wrap .i64 (o1+n)),o0,o1,o2)))) fun (n1,v22,o01,o11,o21) =>
 cndO (v22)
  (some (([],o01,o11,true)))
  (grdO (decide (0≤IntKind.wrap .i64 (IntKind.wrap .i64 (o11+n1) - n1)) && decide (IntKind.wrap .i64 (IntKind.wrap .i64 (o11+n1) - n1)≤IntKind.wrap .i64 (o11+n1)) && decide (IntKind.wrap .i64 (o11+n1)≤(o01.length:Int))) (some ((List.drop (Int.toNat (IntKind.wrap .i64 (IntKind.wrap .i64 (o11+n1) - n1))) (List.take (Int.toNat (IntKind.wrap .i64 (o11+n1))) o01),o01,IntKind.wrap .i64 (o11+n1),o21))))
theorem r219 x:funT T tb55 tp219 50 tv219 (zAD Tryz.f219) ti219 to219 x=F219 x:=by kernel_rfl
def te219:=mkE 219 false [(0,[])] ti219 to219 F219 [.tmp 4] 50 [100000]
def tb219:=insT 219 te219 tb55
theorem ok219:TbOk Tryz.prog tb219:=okI ok55 tp219 tv219 Tryz.func219 rfl Tryz.results219 Tryz.ntmps219 (by kernel_rfl) (by kernel_rfl) Tryz.call219 r219
abbrev ti221:SPat:=⟨[(0,.ptr 100000 0)],[.box 100000 (pl [.s,.i .i64,.b])]⟩
abbrev to221:SPat:=⟨[(2,.i .i64)],[.box 100000 (pl [.s,.i .i64,.b])]⟩
abbrev zKl:SPat:=⟨[(0,.ptr 100000 0),(18,.b)],[.box 100000 (pl [.s,.i .i64,.b])]⟩
def tv221:Nat→Option SPat:=fun k=>bif k == 1000002 then some zKl else none
def tp221:Nat→List Nat×Plan:=fun id=>bif id == 1 then ([0,1,2,3,4,5,6,7,8,9,10,11,12,13,14,15],.fin) else bif id == 5 then ([0,1,2,3,4,5,6,7,8,9,10],(.br 11 [10,9,8,7,6,5,4,3,2,1,0] [] [] .fin .fin)) else ([],.fin)
def F221:List UInt8×Int×Bool→Option (Int×List UInt8×Int×Bool):=fun (o0,o1,o2) =>
 bindE (Y:=Bool×List UInt8×Int×Bool) (cndO (o2)
   (some (Sum.inl (true,o0,o1,o2)))
   (some (Sum.inl (decide ((o0.length:Int)≤o1),o0,o1,o2)))) fun (v18,o01,o11,o21) =>
 cndO (v18)
  (some (((0:Int),o01,o11,true)))
  (grdO (decide (0≤IntKind.wrap .i64 (IntKind.wrap .i64 (o11+1) - 1))) (atO (o01) (Int.toNat (IntKind.wrap .i64 (IntKind.wrap .i64 (o11+1) - 1))) fun x=>some ((IntKind.wrap .i64 (x.toNat:Int),o01,IntKind.wrap .i64 (o11+1),o21))))
theorem r221 x:funT T tb219 tp221 41 tv221 (zAD Tryz.f221) ti221 to221 x=F221 x:=by kernel_rfl
def te221:=mkE 221 false [(0,[])] ti221 to221 F221 [.tmp 2] 41 [100000]
def tb221:=insT 221 te221 tb219
theorem ok221:TbOk Tryz.prog tb221:=okI ok219 tp221 tv221 Tryz.func221 rfl Tryz.results221 Tryz.ntmps221 (by kernel_rfl) (by kernel_rfl) Tryz.call221 r221
end Go.Proofs.YtdpapeledldifaaGreat
end
