/- Part 28 of the proof that the law FnFilePut holds of every input; no condition. -/
import Derived.Test.YtdpapeledldifaaGreatX26
set_option autoImplicit true
set_option relaxedAutoImplicit true
set_option linter.all false
noncomputable section
namespace Go.Proofs.YtdpapeledldifaaGreat
open Go Go.AM Go.TM
set_option maxRecDepth 100000
set_option maxHeartbeats 4000000
abbrev ti291:SPat:=⟨[(0,.i .i64)],[]⟩
abbrev to291:SPat:=⟨[(2,.i .i64)],[]⟩
abbrev zJz:SPat:=⟨[(3,.i .i64),(4,.b)],[]⟩
abbrev zJy:SPat:=⟨[(3,.i .i64),(8,.b)],[]⟩
abbrev zJx:SPat:=⟨[(3,.i .i64),(13,.b)],[]⟩
def tv291:Nat→Option SPat:=fun k=>bif k == 1000005 then some zJz else bif k == 1000010 then some zJy else bif k == 1000014 then some zJx else none
def F291:Int→Option (Int):=fun op_ =>
 bindE (cndO (decide (op_=19))
   (some (Sum.inl (op_,true)))
   (cndO (decide (op_=28))
    (some (Sum.inl (op_,true)))
    (some (Sum.inl (op_,decide (op_=29)))))) fun (v3,v4) =>
 cndO (v4)
  (some ((2:Int)))
  (bindE (cndO (decide (v3=20))
    (some (Sum.inl (v3,true)))
    (cndO (decide (v3=21))
     (some (Sum.inl (v3,true)))
     (cndO (decide (v3=22))
      (some (Sum.inl (v3,true)))
      (some (Sum.inl (v3,decide (v3=23))))))) fun (v31,v8) =>
  cndO (v8)
   (some ((4:Int)))
   (bindE (cndO (decide (v31=24))
     (some (Sum.inl (v31,true)))
     (cndO (decide (v31=25))
      (some (Sum.inl (v31,true)))
      (some (Sum.inl (v31,decide (v31=26)))))) fun (v32,v13) =>
   cndO (v13)
    (some ((5:Int)))
    (cndO (decide (v32=27))
     (some ((6:Int)))
     (some ((0:Int))))))
theorem r291 x:funT T tb217 noPl 19 tv291 (zAD Tryz.f291) ti291 to291 x=F291 x:=by kernel_rfl
def te291:=mkE 291 true [] ti291 to291 F291 [.tmp 2] 19 []
def tb291:=insT 291 te291 tb217
theorem ok291:TbOk Tryz.prog tb291:=okI ok217 noPl tv291 Tryz.func291 rfl Tryz.results291 Tryz.ntmps291 (by kernel_rfl) (by kernel_rfl) Tryz.call291 r291
abbrev ti326:SPat:=⟨[(0,.ptr 100000 0),(1,.agg (pl [.i .i64,.s,.i .i64,.i .i64]))],[.box 100000 (pl [.own tg27 true,.i .i64,.i .i64,.i .i64,.own (.int .i64) true,.own tg89 true,.own tg53 true,.b])]⟩
abbrev to326:SPat:=⟨[(4,.i .i64)],[.box 100000 (pl [.own tg27 true,.i .i64,.i .i64,.i .i64,.own (.int .i64) true,.own tg89 true,.own tg53 true,.b])]⟩
abbrev ts326_2:SPat:=⟨[(0,.ptr 100000 0),(3,.ptr 3 0),(5,.i .i64)],[.box 3 (pl [.i .i64,.s,.i .i64,.i .i64]),.box 100000 (pl [.own tg27 true,.i .i64,.i .i64,.i .i64,.own (.int .i64) true,.own tg89 true,.own tg53 true,.b])]⟩
abbrev zJZ:SPat:=⟨[(0,.ptr 100000 0),(3,.ptr 3 0)],[.box 3 (pl [.i .i64,.s,.i .i64,.i .i64]),.box 100000 (pl [.own tg27 true,.i .i64,.i .i64,.i .i64,.own (.int .i64) true,.own tg89 true,.own tg53 true,.b])]⟩
def tv326:Nat→Option SPat:=fun k=>bif k == 2 then some ts326_2 else bif k == 2000000 then some zJZ else none
def tp326:Nat→List Nat×Plan:=fun id=>bif id == 4 then ([0,1,2,3,4,5,6,7,8,9],.fin) else bif id == 6 then ([0,1,2,3,4,5,6],(.br 7 [6] [0,1,2,3,4,5] [] (.br 8 [7,6,5,4,3,2,1] [0] [9,10,11] (.br 12 [11,10,9,8,7,6,5,4,3,2,1,0] [] [] .fin .fin) .fin) .fin)) else ([],.fin)
def F326:(Cst)×List Cst×Int×Int×Int×List Int×List (Int×Int×Int)×List Mth×Bool→Option (Int×List Cst×Int×Int×Int×List Int×List (Int×Int×Int)×List Mth×Bool):=fun ((c0,c1,c2,c3),o0,o1,o2,o3,o4,o5,o6,o7) =>
 bindE (Y:=(Cst)×List Cst×Int×Int×Int×List Int×List (Int×Int×Int)×List Mth×Bool) (zAF (fun (i,(o01,o11,o21,o31),o02,o12,o22,o32,o41,o51,o61,o71) =>
   cndO (decide (i<(o02.length:Int)))
    (grdO (decide (0≤i) && decide (i<(o02.length:Int))) (atO (o02) i.toNat fun x=>cndO (decide (x.1=o01) && (decide (x.2.1=o11) && (decide (x.2.2.1=o21) && (decide (x.2.2.2=o31) && true))))
     (some (Sum.inr (Sum.inr (IntKind.wrap .i64 (i+1),o02,o12,o22,o32,o41,o51,o61,o71))))
     (some (Sum.inl (IntKind.wrap .i64 (i+1),(o01,o11,o21,o31),o02,o12,o22,o32,o41,o51,o61,o71)))))
    (some (Sum.inr (Sum.inl ((o01,o11,o21,o31),o02,o12,o22,o32,o41,o51,o61,o71))))) (((0:Int),(c0,c1,c2,c3),o0,o1,o2,o3,o4,o5,o6,o7))) fun ((o01,o11,o21,o31),o02,o12,o22,o32,o41,o51,o61,o71) =>
 grdO (decide (List.length o02+1≤9223372036854775807) && decide ((List.length o02+1)*40≤140737488355328)) (some (((↑(List.length (o02++[(o01,o11,o21,o31)])):Int),o02++[(o01,o11,o21,o31)],o12,o22,o32,o41,o51,o61,o71)))
theorem r326 x:funT T tb291 tp326 46 tv326 (zAD Tryz.f326) ti326 to326 x=F326 x:=by kernel_rfl
def te326:=mkE 326 false [(0,[])] ti326 to326 F326 [.tmp 4] 46 [100000]
def tb326:=insT 326 te326 tb291
theorem ok326:TbOk Tryz.prog tb326:=okI ok291 tp326 tv326 Tryz.func326 rfl Tryz.results326 Tryz.ntmps326 (by kernel_rfl) (by kernel_rfl) Tryz.call326 r326
abbrev ti312:SPat:=⟨[(0,.ptr 100000 0),(1,.s)],[.box 100000 (pl [.own tg27 true,.i .i64,.i .i64,.i .i64,.own (.int .i64) true,.own tg89 true,.own tg53 true,.b])]⟩
abbrev to312:SPat:=⟨[(4,.i .i64)],[.box 100000 (pl [.own tg27 true,.i .i64,.i .i64,.i .i64,.own (.int .i64) true,.own tg89 true,.own tg53 true,.b])]⟩
def F312:List UInt8×List Cst×Int×Int×Int×List Int×List (Int×Int×Int)×List Mth×Bool→Option (Int×List Cst×Int×Int×Int×List Int×List (Int×Int×Int)×List Mth×Bool):=fun (s,o0,o1,o2,o3,o4,o5,o6,o7) =>
 cndO (decide (60<(s.length:Int)))
  (some (((0:Int),o0,o1,o2,o3,o4,o5,o6,true)))
  (zAA (F326 (((1:Int),s,(0:Int),(0:Int)),o0,o1,o2,o3,o4,o5,o6,o7)) fun (y,y1,y2,y3,y4,y5,x,x1,x2) =>
  some ((y,y1,y2,y3,y4,y5,x,x1,x2)))
theorem r312 x:funT T tb326 noPl 15 noIv (zAD Tryz.f312) ti312 to312 x=F312 x:=by kernel_rfl
def te312:=mkE 312 false [(0,[])] ti312 to312 F312 [.tmp 4] 15 [100000]
def tb312:=insT 312 te312 tb326
theorem ok312:TbOk Tryz.prog tb312:=okI ok326 noPl noIv Tryz.func312 rfl Tryz.results312 Tryz.ntmps312 (by kernel_rfl) (by kernel_rfl) Tryz.call312 r312
abbrev ti310:SPat:=⟨[(0,.ptr 100000 0),(1,.s)],[.box 100000 (pl [.own tg27 true,.i .i64,.i .i64,.i .i64,.own (.int .i64) true,.own tg89 true,.own tg53 true,.b])]⟩
abbrev to310:SPat:=⟨[(4,.i .i64)],[.box 100000 (pl [.own tg27 true,.i .i64,.i .i64,.i .i64,.own (.int .i64) true,.own tg89 true,.own tg53 true,.b])]⟩
def F310:List UInt8×List Cst×Int×Int×Int×List Int×List (Int×Int×Int)×List Mth×Bool→Option (Int×List Cst×Int×Int×Int×List Int×List (Int×Int×Int)×List Mth×Bool):=fun (s,o0,o1,o2,o3,o4,o5,o6,o7) =>
 zAA (F312 (s,o0,o1,o2,o3,o4,o5,o6,o7)) fun (y,y1,y2,y3,y4,y5,x,x1,x2) =>
 zAA (F326 (((2:Int),[],y,(0:Int)),y1,y2,y3,y4,y5,x,x1,x2)) fun (y6,y7,y8,y9,y10,y11,x3,x4,x5) =>
 some ((y6,y7,y8,y9,y10,y11,x3,x4,x5))
theorem r310 x:funT T tb312 noPl 11 noIv (zAD Tryz.f310) ti310 to310 x=F310 x:=by kernel_rfl
def te310:=mkE 310 false [(0,[])] ti310 to310 F310 [.tmp 4] 11 [100000]
def tb310:=insT 310 te310 tb312
theorem ok310:TbOk Tryz.prog tb310:=okI ok312 noPl noIv Tryz.func310 rfl Tryz.results310 Tryz.ntmps310 (by kernel_rfl) (by kernel_rfl) Tryz.call310 r310
abbrev ti324:SPat:=⟨[(0,.ptr 100000 0),(1,.i .i64),(2,.s),(3,.s),(4,.s)],[.box 100000 (pl [.own tg27 true,.i .i64,.i .i64,.i .i64,.own (.int .i64) true,.own tg89 true,.own tg53 true,.b])]⟩
abbrev to324:SPat:=⟨[(10,.i .i64)],[.box 100000 (pl [.own tg27 true,.i .i64,.i .i64,.i .i64,.own (.int .i64) true,.own tg89 true,.own tg53 true,.b])]⟩
def F324:Int×List UInt8×List UInt8×List UInt8×List Cst×Int×Int×Int×List Int×List (Int×Int×Int)×List Mth×Bool→Option (Int×List Cst×Int×Int×Int×List Int×List (Int×Int×Int)×List Mth×Bool):=fun (kind_,class_,name,t,o0,o1,o2,o3,o4,o5,o6,o7) =>
 zAA (F310 (class_,o0,o1,o2,o3,o4,o5,o6,o7)) fun (y,y1,y2,y3,y4,y5,x,x1,x2) =>
 zAA (F312 (name,y1,y2,y3,y4,y5,x,x1,x2)) fun (y6,y7,y8,y9,y10,y11,x3,x4,x5) =>
 zAA (F312 (t,y7,y8,y9,y10,y11,x3,x4,x5)) fun (y12,y13,y14,y15,y16,y17,x6,x7,x8) =>
 zAA (F326 (((3:Int),[],y6,y12),y13,y14,y15,y16,y17,x6,x7,x8)) fun (y18,y19,y20,y21,y22,y23,x9,x10,x11) =>
 zAA (F326 ((kind_,[],y,y18),y19,y20,y21,y22,y23,x9,x10,x11)) fun (y24,y25,y26,y27,y28,y29,x12,x13,x14) =>
 some ((y24,y25,y26,y27,y28,y29,x12,x13,x14))
theorem r324 x:funT T tb310 noPl 33 noIv (zAD Tryz.f324) ti324 to324 x=F324 x:=by kernel_rfl
def te324:=mkE 324 false [(0,[])] ti324 to324 F324 [.tmp 10] 33 [100000]
def tb324:=insT 324 te324 tb310
theorem ok324:TbOk Tryz.prog tb324:=okI ok310 noPl noIv Tryz.func324 rfl Tryz.results324 Tryz.ntmps324 (by kernel_rfl) (by kernel_rfl) Tryz.call324 r324
abbrev ti327:SPat:=⟨[(0,.s)],[]⟩
abbrev to327:SPat:=⟨[(2,.i .i64)],[]⟩
abbrev ts327_3:SPat:=⟨[(0,.s),(3,.i .i64),(4,.i .i64)],[]⟩
abbrev zJY:SPat:=⟨[(0,.s),(3,.i .i64),(4,.i .i64)],[]⟩
abbrev zJX:SPat:=⟨[(0,.s),(3,.i .i64)],[]⟩
def tv327:Nat→Option SPat:=fun k=>bif k == 3 then some ts327_3 else bif k == 1000007 then some zJY else bif k == 2000000 then some zJX else none
def F327:List UInt8→Option (Int):=fun s =>
 bindE (Y:=List UInt8×Int) (zAF (fun (s1,n,i) =>
   cndO (decide (i<(s1.length:Int)))
    (bindE (Y:=List UInt8×Int×Int) (grdO (decide (0≤i)) (atO (s1) i.toNat fun x=>cndO (decide ((x.toNat:Int)<48))
      (some (Sum.inr (Sum.inr (Sum.inr (-1:Int)))))
      (grdO (decide (0≤i)) (atO (s1) i.toNat fun x1=>cndO (decide (57<(x1.toNat:Int)))
       (some (Sum.inr (Sum.inr (Sum.inr (-1:Int)))))
       (cndO (decide (5≤i))
        (some (Sum.inr (Sum.inr (Sum.inr (-1:Int)))))
        (some (Sum.inl (s1,n,i)))))))) fun (s2,n1,i1) =>
    grdO (decide (0≤i1)) (atO (s2) i1.toNat fun x=>some (Sum.inl (s2,IntKind.wrap .i64 (IntKind.wrap .i64 (n1*10)+IntKind.wrap .i64 (IntKind.wrap .u8 ((x.toNat:Int) - 48))),IntKind.wrap .i64 (i1+1)))))
    (some (Sum.inr (Sum.inl (s1,n))))) ((s,(0:Int),(0:Int)))) fun (s1,n) =>
 cndO (decide ((s1.length:Int)=0))
  (some ((-1:Int)))
  (cndO (decide (1<(s1.length:Int)))
   (atO (s1) ((0:Nat)) fun x=>cndO (decide ((x.toNat:Int)=48))
    (some ((-1:Int)))
    (some (n)))
   (some (n)))
theorem r327 x:funT T tb324 noPl 47 tv327 (zAD Tryz.f327) ti327 to327 x=F327 x:=by kernel_rfl
def te327:=mkE 327 true [] ti327 to327 F327 [.tmp 2] 47 []
def tb327:=insT 327 te327 tb324
theorem ok327:TbOk Tryz.prog tb327:=okI ok324 noPl tv327 Tryz.func327 rfl Tryz.results327 Tryz.ntmps327 (by kernel_rfl) (by kernel_rfl) Tryz.call327 r327
abbrev ti325:SPat:=⟨[(0,.s)],[]⟩
abbrev to325:SPat:=⟨[(2,.i .i64),(3,.b)],[]⟩
abbrev zJa:SPat:=⟨[(0,.s),(13,.b)],[]⟩
def tv325:Nat→Option SPat:=fun k=>bif k == 1000002 then some zJa else none
def F325:List UInt8→Option (Int×Bool):=fun s =>
 bindE (Y:=List UInt8×Bool) (cndO (decide (1<(s.length:Int)))
   (atO (s) ((0:Nat)) fun x=>some (Sum.inl (s,decide ((x.toNat:Int)=45))))
   (some (Sum.inl (s,false)))) fun (s1,v13) =>
 cndO (v13)
  (grdO (decide (1≤(s1.length:Int)) && decide ((s1.length:Int)≤(s1.length:Int))) (zAA (F327 (List.drop (1:Nat) (List.take (Int.toNat (s1.length:Int)) s1))) fun y =>
  some ((IntKind.wrap .i64 ((0:Int) - y),decide (0<y)))))
  (zAA (F327 s1) fun y =>
  some ((y,decide (0≤y))))
theorem r325 x:funT T tb327 noPl 26 tv325 (zAD Tryz.f325) ti325 to325 x=F325 x:=by kernel_rfl
def te325:=mkE 325 true [] ti325 to325 F325 [.tmp 2,.tmp 3] 26 []
def tb325:=insT 325 te325 tb327
theorem ok325:TbOk Tryz.prog tb325:=okI ok327 noPl tv325 Tryz.func325 rfl Tryz.results325 Tryz.ntmps325 (by kernel_rfl) (by kernel_rfl) Tryz.call325 r325
abbrev ti311:SPat:=⟨[(0,.ptr 100000 0),(1,.s)],[.box 100000 (pl [.own tg27 true,.i .i64,.i .i64,.i .i64,.own (.int .i64) true,.own tg89 true,.own tg53 true,.b])]⟩
abbrev to311:SPat:=⟨[(4,.i .i64)],[.box 100000 (pl [.own tg27 true,.i .i64,.i .i64,.i .i64,.own (.int .i64) true,.own tg89 true,.own tg53 true,.b])]⟩
def F311:List UInt8×List Cst×Int×Int×Int×List Int×List (Int×Int×Int)×List Mth×Bool→Option (Int×List Cst×Int×Int×Int×List Int×List (Int×Int×Int)×List Mth×Bool):=fun (s,o0,o1,o2,o3,o4,o5,o6,o7) =>
 zAA (F327 s) fun y =>
 cndO (decide (y<0))
  (some (((0:Int),o0,o1,o2,o3,o4,o5,o6,true)))
  (some ((y,o0,o1,o2,o3,o4,o5,o6,o7)))
theorem r311 x:funT T tb325 noPl 14 noIv (zAD Tryz.f311) ti311 to311 x=F311 x:=by kernel_rfl
def te311:=mkE 311 false [(0,[])] ti311 to311 F311 [.tmp 4] 14 [100000]
def tb311:=insT 311 te311 tb325
theorem ok311:TbOk Tryz.prog tb311:=okI ok325 noPl noIv Tryz.func311 rfl Tryz.results311 Tryz.ntmps311 (by kernel_rfl) (by kernel_rfl) Tryz.call311 r311
abbrev ti315:SPat:=⟨[(0,.ptr 100000 0)],[.box 100000 (pl [.own tg27 true,.i .i64,.i .i64,.i .i64,.own (.int .i64) true,.own tg89 true,.own tg53 true,.b])]⟩
abbrev to315:SPat:=⟨[(2,.ptrI 7007 0)],[.arr 7007 tg53 true,.box 100000 (pl [.own tg27 true,.i .i64,.i .i64,.i .i64,.own (.int .i64) true,.own tg89 true,.ar 7007,.b])]⟩
def tp315:Nat→List Nat×Plan:=fun id=>bif id == 1 then ([0,1,2,3,4,5,6,7,8,9,10,11,12],(.br 13 [12,11,10,9,8,7,6,5,4,3,2,1,0] [] [] .fin .fin)) else ([],.fin)
def F315:List Cst×Int×Int×Int×List Int×List (Int×Int×Int)×List Mth×Bool→Option (Nat×List Mth×List Cst×Int×Int×Int×List Int×List (Int×Int×Int)×Bool):=fun (o0,o1,o2,o3,o4,o5,o6,o7) =>
 grdO (decide (0≤IntKind.wrap .i64 ((o6.length:Int) - 1)) && decide (IntKind.wrap .i64 ((o6.length:Int) - 1)<(o6.length:Int))) (some ((Int.toNat (IntKind.wrap .i64 ((o6.length:Int) - 1)),o6,o0,o1,o2,o3,o4,o5,o7)))
theorem r315 x:funT T tb311 tp315 16 noIv (zAD Tryz.f315) ti315 to315 x=F315 x:=by kernel_rfl
def te315:=mkE 315 false [(0,[])] ti315 to315 F315 [.tmp 2] 16 [7007,100000]
def tb315:=insT 315 te315 tb311
theorem ok315:TbOk Tryz.prog tb315:=okI ok311 tp315 noIv Tryz.func315 rfl Tryz.results315 Tryz.ntmps315 (by kernel_rfl) (by kernel_rfl) Tryz.call315 r315
abbrev zOU:SPat:=⟨[(0,.ptr 100000 0)],[.box 100000 (pl [.own tg27 true,.i .i64,.i .i64,.i .i64,.own (.int .i64) true,.own tg89 true,.ar 100001,.b]),.arr 100001 tg53 true]⟩
abbrev zON:SPat:=⟨[(2,.ptrI 100001 0)],[.box 100000 (pl [.own tg27 true,.i .i64,.i .i64,.i .i64,.own (.int .i64) true,.own tg89 true,.ar 100001,.b]),.arr 100001 tg53 true]⟩
def zOK:Nat→List Nat×Plan:=fun id=>bif id == 1 then ([0,1,2,3,4,5,6,7,8,9,10,11,12],(.br 13 [12,11,10,9,8,7,6,5,4,3,2,1,0] [] [] .fin .fin)) else ([],.fin)
def F7000315:(List Cst×Int×Int×Int×List Int×List (Int×Int×Int)×Bool)×List Mth→Option (Nat×(List Cst×Int×Int×Int×List Int×List (Int×Int×Int)×Bool)×List Mth):=fun ((o0,o1,o2,o3,o4,o5,o7),l100001) =>
 grdO (decide (0≤IntKind.wrap .i64 ((l100001.length:Int) - 1)) && decide (IntKind.wrap .i64 ((l100001.length:Int) - 1)<(l100001.length:Int))) (some ((Int.toNat (IntKind.wrap .i64 ((l100001.length:Int) - 1)),(o0,o1,o2,o3,o4,o5,o7),l100001)))
theorem r7000315 x:funT T tb315 zOK 16 noIv (zAD Tryz.f315) zOU zON x=F7000315 x:=by kernel_rfl
def zTI:=mkE 315 false [(0,[]),(0,[6])] zOU zON F7000315 [.tmp 2] 16 [100000,100001]
def zHT:=insT 7000315 zTI tb315
theorem zTo:TbOk Tryz.prog zHT:=okI ok315 zOK noIv Tryz.func315 rfl Tryz.results315 Tryz.ntmps315 (by kernel_rfl) (by kernel_rfl) Tryz.call315 r7000315
abbrev ti134:SPat:=⟨[(0,.i .i64)],[]⟩
abbrev to134:SPat:=⟨[(2,.s)],[]⟩
def F134:Int→Option (List UInt8):=fun n =>
 grdO (decide (0≤IntKind.wrap .u8 n) && decide (IntKind.wrap .u8 n≤255)) (some ([UInt8.ofNat (Int.toNat (IntKind.wrap .u8 n))]))
theorem r134 x:funT T zHT noPl 7 noIv (zAD Tryz.f134) ti134 to134 x=F134 x:=by kernel_rfl
def te134:=mkE 134 true [] ti134 to134 F134 [.tmp 2] 7 []
def tb134:=insT 134 te134 zHT
theorem ok134:TbOk Tryz.prog tb134:=okI zTo noPl noIv Tryz.func134 rfl Tryz.results134 Tryz.ntmps134 (by kernel_rfl) (by kernel_rfl) Tryz.call134 r134
abbrev ti136:SPat:=⟨[(0,.i .i64)],[]⟩
abbrev to136:SPat:=⟨[(2,.s)],[]⟩
def F136:Int→Option (List UInt8):=fun n =>
 grdO (decide (0≤IntKind.wrap .u8 (IntKind.wrap .i64 (Int.tdiv n (256:Int)))) && decide (IntKind.wrap .u8 (IntKind.wrap .i64 (Int.tdiv n (256:Int)))≤255)) (grdO (decide (0≤IntKind.wrap .u8 (Int.tmod n (256:Int))) && decide (IntKind.wrap .u8 (Int.tmod n (256:Int))≤255)) (some ([UInt8.ofNat (Int.toNat (IntKind.wrap .u8 (IntKind.wrap .i64 (Int.tdiv n (256:Int))))),UInt8.ofNat (Int.toNat (IntKind.wrap .u8 (Int.tmod n (256:Int))))])))
theorem r136 x:funT T tb134 noPl 11 noIv (zAD Tryz.f136) ti136 to136 x=F136 x:=by kernel_rfl
def te136:=mkE 136 true [] ti136 to136 F136 [.tmp 2] 11 []
def tb136:=insT 136 te136 tb134
theorem ok136:TbOk Tryz.prog tb136:=okI ok134 noPl noIv Tryz.func136 rfl Tryz.results136 Tryz.ntmps136 (by kernel_rfl) (by kernel_rfl) Tryz.call136 r136
abbrev ti194:SPat:=⟨[(0,.sl tg89)],[]⟩
abbrev to194:SPat:=⟨[(2,.s)],[]⟩
abbrev ts194_3:SPat:=⟨[(0,.sl tg89),(3,.s),(4,.i .i64)],[]⟩
abbrev zLI:SPat:=⟨[(3,.s)],[]⟩
abbrev zLH:SPat:=⟨[(0,.sl tg89),(3,.s),(4,.i .i64)],[]⟩
def tv194:Nat→Option SPat:=fun k=>bif k == 3 then some ts194_3 else bif k == 2000000 then some zLI else bif k == 2000002 then some zLH else none
def F194:List (Int×Int×Int)→Option (List UInt8):=fun list =>
 bindE (Y:=List UInt8) (zAF (fun (list1,out,i) =>
   cndO (decide (i<(list1.length:Int)))
    (grdO (decide (0≤i)) (atO (list1) i.toNat fun x=>zAA (F134 (x.2.1)) fun y =>
    grdO (decide (List.length out+List.length y≤9223372036854775807)) (zAA (F251 (x.2.1)) fun y1 =>
    bindE (Y:=List (Int×Int×Int)×List UInt8×Int) (cndO (decide (y1=1))
      (zAA (F134 (x.2.2)) fun y2 =>
      grdO (decide (List.length (out++y)+List.length y2≤9223372036854775807)) (some (Sum.inl (list1,out++y++y2,i))))
      (cndO (decide (y1=2))
       (zAA (F136 (Int.tmod (IntKind.wrap .i64 (x.2.2+65536)) (65536:Int))) fun y2 =>
       grdO (decide (List.length (out++y)+List.length y2≤9223372036854775807)) (some (Sum.inl (list1,out++y++y2,i))))
       (some (Sum.inl (list1,out++y,i))))) fun (list2,out1,i1) =>
    some (Sum.inl (list2,out1,IntKind.wrap .i64 (i1+1))))))
    (some (Sum.inr (Sum.inl out)))) ((list,[],(0:Int)))) fun out =>
 some (out)
theorem r194 x:funT T tb136 noPl 41 tv194 (zAD Tryz.f194) ti194 to194 x=F194 x:=by kernel_rfl
def te194:=mkE 194 true [] ti194 to194 F194 [.tmp 2] 41 []
def tb194:=insT 194 te194 tb136
theorem ok194:TbOk Tryz.prog tb194:=okI ok136 noPl tv194 Tryz.func194 rfl Tryz.results194 Tryz.ntmps194 (by kernel_rfl) (by kernel_rfl) Tryz.call194 r194
abbrev ti309:SPat:=⟨[(0,.ptr 100000 0),(1,.sl .str)],[.box 100000 (pl [.own tg27 true,.i .i64,.i .i64,.i .i64,.own (.int .i64) true,.own tg89 true,.own tg53 true,.b])]⟩
abbrev to309:SPat:=⟨[],[.box 100000 (pl [.own tg27 true,.i .i64,.i .i64,.i .i64,.own (.int .i64) true,.own tg89 true,.own tg53 true,.b])]⟩
abbrev zJo:SPat:=⟨[(0,.ptr 100000 0),(1,.sl .str),(4,.ptr 4 0)],[.box 4 (pl [.i .i64,.i .i64,.i .i64]),.box 100000 (pl [.own tg27 true,.i .i64,.i .i64,.i .i64,.own (.int .i64) true,.own tg89 true,.own tg53 true,.b])]⟩
abbrev zJn:SPat:=⟨[(0,.ptr 100000 0),(1,.sl .str),(4,.ptr 4 0),(5,.i .i64),(35,.b)],[.box 4 (pl [.i .i64,.i .i64,.i .i64]),.box 100000 (pl [.own tg27 true,.i .i64,.i .i64,.i .i64,.own (.int .i64) true,.own tg89 true,.own tg53 true,.b])]⟩
abbrev zJm:SPat:=⟨[(0,.ptr 100000 0),(1,.sl .str),(4,.ptr 4 0),(5,.i .i64),(49,.b)],[.box 4 (pl [.i .i64,.i .i64,.i .i64]),.box 100000 (pl [.own tg27 true,.i .i64,.i .i64,.i .i64,.own (.int .i64) true,.own tg89 true,.own tg53 true,.b])]⟩
abbrev zJl:SPat:=⟨[(0,.ptr 100000 0),(1,.sl .str),(4,.ptr 4 0),(5,.i .i64),(70,.b)],[.box 4 (pl [.i .i64,.i .i64,.i .i64]),.box 100000 (pl [.own tg27 true,.i .i64,.i .i64,.i .i64,.own (.int .i64) true,.own tg89 true,.own tg53 true,.b])]⟩
abbrev zJk:SPat:=⟨[(0,.ptr 100000 0),(1,.sl .str),(4,.ptr 4 0),(5,.i .i64),(93,.b)],[.box 4 (pl [.i .i64,.i .i64,.i .i64]),.box 100000 (pl [.own tg27 true,.i .i64,.i .i64,.i .i64,.own (.int .i64) true,.own tg89 true,.own tg53 true,.b])]⟩
abbrev zJj:SPat:=⟨[(0,.ptr 100000 0),(4,.ptr 4 0)],[.box 4 (pl [.i .i64,.i .i64,.i .i64]),.box 100000 (pl [.own tg27 true,.i .i64,.i .i64,.i .i64,.own (.int .i64) true,.own tg89 true,.own tg53 true,.b])]⟩
def tv309:Nat→Option SPat:=fun k=>bif k == 1000003 then some zJo else bif k == 1000006 then some zJn else bif k == 1000008 then some zJm else bif k == 1000010 then some zJl else bif k == 1000015 then some zJk else bif k == 2000000 then some zJj else none
def tp309:Nat→List Nat×Plan:=fun id=>bif id == 0 then ([1,2,3],(.br 0 [] [1,2,3] [] (.br 4 [3,2,1,0] [] [5] (.br 6 [] [1,2,3,5] [] (.br 7 [6,5,4,3,2,1,0] [] [] .fin .fin) .fin) (.br 6 [] [1,2,3] [] (.br 4 [3,2,1,0] [] [5] (.br 7 [6,5,4,3,2,1,0] [] [] .fin .fin) .fin) .fin)) (.br 6 [] [1,2,3] [] (.br 0 [] [1,2,3] [] (.br 4 [3,2,1,0] [] [5] (.br 7 [6,5,4,3,2,1,0] [] [] .fin .fin) .fin) .fin) .fin))) else bif id == 8 then ([0,1,2,3,4,5,6,7,8,9,10],(.br 11 [10,9,8,7,6,5,4,3,2,1,0] [] [12] (.br 13 [12,11,10,9,8,7,6,5,4,3,2,1,0] [] [] .fin .fin) .fin)) else bif id == 19 then ([0,2,7],(.br 1 [0] [2,7] [] (.br 3 [2,1,0] [7] [4,5,6] (.br 8 [7] [0,2,4,5,6] [] (.br 9 [8,7,3,2,1,0] [4,5,6] [10,11,12] (.br 13 [12,11,10,9,8,7,6,5,4,3,2,1,0] [] [] .fin .fin) .fin) .fin) (.br 8 [7] [0,2] [] (.br 3 [2,1,0] [7] [4,5,6] (.br 9 [8,7,3,2,1,0] [4,5,6] [10,11,12] (.br 13 [12,11,10,9,8,7,6,5,4,3,2,1,0] [] [] .fin .fin) .fin) .fin) .fin)) (.br 8 [7] [0,2] [] (.br 1 [0] [2,7] [] (.br 3 [2,1,0] [7] [4,5,6] (.br 9 [8,7,3,2,1,0] [4,5,6] [10,11,12] (.br 13 [12,11,10,9,8,7,6,5,4,3,2,1,0] [] [] .fin .fin) .fin) .fin) .fin) .fin))) else ([],.fin)
def F309:List (List UInt8)×List Cst×Int×Int×Int×List Int×List (Int×Int×Int)×List Mth×Bool→Option (List Cst×Int×Int×Int×List Int×List (Int×Int×Int)×List Mth×Bool):=fun (v1,o0,o1,o2,o3,o4,o5,o6,o7) =>
 atO (v1) ((0:Nat)) fun x=>zBP
  (zAA (F302 ()) fun y =>
  seqU (seqU (grdO (decide (v1=v1)) (some ())) (seqU (atO (v1) ((0:Nat)) fun x1=>grdO (decide (x1=x) && true) (some ())) (seqU (grdO (decide (x=x)) (some ())) (some ())))) (zBP
   (zAA (F301 (y,x)) fun y1 =>
   seqU (seqU (grdO (decide (v1=v1)) (some ())) (seqU (atO (v1) ((0:Nat)) fun x1=>grdO (decide (x1=x) && true) (some ())) (seqU (grdO (decide (x=x)) (some ())) (seqU (grdO (decide (y1=y1) && true) (some ())) (some ()))))) (bindE (Y:=List (List UInt8)×(Int×Int×Int)×List Cst×Int×Int×Int×List Int×List (Int×Int×Int)×List Mth×Bool) (cndO (decide ((o6.length:Int)=0))
     (some (Sum.inr (o0,o1,o2,o3,o4,o5,o6,true)))
     (cndO (decide (y1<0))
      (some (Sum.inr (o0,o1,o2,o3,o4,o5,o6,true)))
      (some (Sum.inl (v1,((0:Int),y1,(0:Int)),o0,o1,o2,o3,o4,o5,o6,o7))))) fun (v11,(o01,o11,o21),o02,o12,o22,o31,o41,o51,o61,o71) =>
   zAA (F291 o11) fun y2 =>
   bindE (Y:=(Int×Int×Int)×List Cst×Int×Int×Int×List Int×List (Int×Int×Int)×List Mth×Bool) (bindE (Y:=List (List UInt8)×Int×Bool×(Int×Int×Int)×List Cst×Int×Int×Int×List Int×List (Int×Int×Int)×List Mth×Bool) (cndO (decide (y2=2))
      (some (Sum.inl (v11,y2,decide ((v11.length:Int)=2),(o01,o11,o21),o02,o12,o22,o31,o41,o51,o61,o71)))
      (some (Sum.inl (v11,y2,false,(o01,o11,o21),o02,o12,o22,o31,o41,o51,o61,o71)))) fun (v12,v5,v35,(o03,o13,o23),o04,o14,o24,o32,o42,o52,o62,o72) =>
    cndO (v35)
     (atO (v12) ((1:Nat)) fun x1=>zAA (F310 (x1,o04,o14,o24,o32,o42,o52,o62,o72)) fun (y3,y4,y5,y6,y7,y8,x2,x3,x4) =>
     some (Sum.inl ((o03,o13,y3),y4,y5,y6,y7,y8,x2,x3,x4)))
     (bindE (Y:=List (List UInt8)×Int×Bool×(Int×Int×Int)×List Cst×Int×Int×Int×List Int×List (Int×Int×Int)×List Mth×Bool) (cndO (decide (2<v5))
       (some (Sum.inl (v12,v5,decide ((v12.length:Int)=4),(o03,o13,o23),o04,o14,o24,o32,o42,o52,o62,o72)))
       (some (Sum.inl (v12,v5,false,(o03,o13,o23),o04,o14,o24,o32,o42,o52,o62,o72)))) fun (v13,v51,v49,(o05,o15,o25),o06,o16,o26,o33,o43,o53,o63,o73) =>
     cndO (v49)
      (atO (v13) ((1:Nat)) fun x1=>atO (v13) ((2:Nat)) fun x2=>atO (v13) ((3:Nat)) fun x3=>zAA (F324 (v51,x1,x2,x3,o06,o16,o26,o33,o43,o53,o63,o73)) fun (y3,y4,y5,y6,y7,y8,x4,x5,x6) =>
      some (Sum.inl ((o05,o15,y3),y4,y5,y6,y7,y8,x4,x5,x6)))
      (bindE (Y:=List (List UInt8)×Int×Bool×(Int×Int×Int)×List Cst×Int×Int×Int×List Int×List (Int×Int×Int)×List Mth×Bool) (cndO (decide (o15=1))
        (some (Sum.inl (v13,v51,decide ((v13.length:Int)=2),(o05,o15,o25),o06,o16,o26,o33,o43,o53,o63,o73)))
        (some (Sum.inl (v13,v51,false,(o05,o15,o25),o06,o16,o26,o33,o43,o53,o63,o73)))) fun (v14,v52,v70,(o07,o17,o27),o08,o18,o28,o34,o44,o54,o64,o74) =>
      cndO (v70)
       (atO (v14) ((1:Nat)) fun x1=>zAA (F325 x1) fun (y3,y4) =>
       cndO (!y4)
        (some (Sum.inl ((o07,o17,y3),o08,o18,o28,o34,o44,o54,o64,true)))
        (some (Sum.inl ((o07,o17,y3),o08,o18,o28,o34,o44,o54,o64,o74))))
       (bindE (Y:=List (List UInt8)×Int×Bool×(Int×Int×Int)×List Cst×Int×Int×Int×List Int×List (Int×Int×Int)×List Mth×Bool) (cndO (decide (v52=0))
         (zAA (F251 o17) fun y3 =>
         cndO (decide (0<y3))
          (some (Sum.inl (v14,v52,decide ((v14.length:Int)=2),(o07,o17,o27),o08,o18,o28,o34,o44,o54,o64,o74)))
          (some (Sum.inl (v14,v52,false,(o07,o17,o27),o08,o18,o28,o34,o44,o54,o64,o74))))
         (some (Sum.inl (v14,v52,false,(o07,o17,o27),o08,o18,o28,o34,o44,o54,o64,o74)))) fun (v15,v53,v93,(o09,o19,o29),o010,o110,o210,o35,o45,o55,o65,o75) =>
       cndO (v93)
        (atO (v15) ((1:Nat)) fun x1=>zAA (F311 (x1,o010,o110,o210,o35,o45,o55,o65,o75)) fun (y3,y4,y5,y6,y7,y8,x2,x3,x4) =>
        some (Sum.inl ((o09,o19,y3),y4,y5,y6,y7,y8,x2,x3,x4)))
        (cndO (decide (v53=0))
         (zAA (F251 o19) fun y3 =>
         cndO (decide (y3=0))
          (cndO (decide ((v15.length:Int)=1))
           (some (Sum.inl ((o09,o19,o29),o010,o110,o210,o35,o45,o55,o65,o75)))
           (some (Sum.inr (o010,o110,o210,o35,o45,o55,o65,true))))
          (some (Sum.inr (o010,o110,o210,o35,o45,o55,o65,true))))
         (some (Sum.inr (o010,o110,o210,o35,o45,o55,o65,true)))))))) fun ((o03,o13,o23),o04,o14,o24,o32,o42,o52,o62,o72) =>
   zAA (F107 (o23,(-32768:Int),(65535:Int))) fun y3 =>
   cndO (!y3)
    (some ((o04,o14,o24,o32,o42,o52,o62,true)))
    (zBP
     (zAA (F315 (o04,o14,o24,o32,o42,o52,o62,o72)) fun (y4,y5,y6,y7,y8,y9,x1,x2,x3) =>
     seqU (seqU (grdO (decide (o03=o03) && (decide (o13=o13) && (decide (o23=o23) && true))) (some ())) (some ())) (zBP
      (zAA (F7000315 ((y6,y7,y8,y9,x1,x2,x3),y5)) fun (y10,(y11,y12,y13,y14,y15,x4,x5),x6) =>
      seqU (seqU (grdO (decide (o03=o03) && (decide (o13=o13) && (decide (o23=o23) && true))) (some ())) (some ())) (atO (x6) (y10) fun x7=>seqU (seqU (grdO (y10 == y10 && true) (some ())) (seqU (grdO (y10 == y10 && true) (some ())) (seqU (atO (x6) (y10) fun x8=>grdO (decide (x8.2.2.2.2.2.1=x7.2.2.2.2.2.1)) (some ())) (some ())))) (zAA (F194 [(o03,o13,o23)]) fun y16 =>
      seqU (seqU (grdO (y10 == y10 && true) (some ())) (seqU (grdO (y10 == y10 && true) (some ())) (seqU (atO (x6) (y10) fun x8=>grdO (decide (x8.2.2.2.2.2.1=x7.2.2.2.2.2.1)) (some ())) (some ())))) (grdO (decide (List.length (x7.2.2.2.2.2.1)+List.length y16≤9223372036854775807)) (atO (x6) (y4) fun x8=>some ((y11,y12,y13,y14,y15,x4,List.set x6 y4 (x8.1,x8.2.1,x8.2.2.1,x8.2.2.2.1,x8.2.2.2.2.1,x7.2.2.2.2.2.1++y16,x8.2.2.2.2.2.2.1,x8.2.2.2.2.2.2.2),x5)))))))
      (zAA (F7000315 ((y6,y7,y8,y9,x1,x2,x3),y5)) fun (y10,(y11,y12,y13,y14,y15,x4,x5),x6) =>
      seqU (seqU (grdO (decide (o03=o03) && (decide (o13=o13) && (decide (o23=o23) && true))) (some ())) (some ())) (atO (x6) (y10) fun x7=>zAA (F194 [(o03,o13,o23)]) fun y16 =>
      seqU (seqU (grdO (y10 == y10 && true) (some ())) (seqU (grdO (y10 == y10 && true) (some ())) (seqU (atO (x6) (y10) fun x8=>grdO (decide (x8.2.2.2.2.2.1=x7.2.2.2.2.2.1)) (some ())) (some ())))) (grdO (decide (List.length (x7.2.2.2.2.2.1)+List.length y16≤9223372036854775807)) (atO (x6) (y4) fun x8=>some ((y11,y12,y13,y14,y15,x4,List.set x6 y4 (x8.1,x8.2.1,x8.2.2.1,x8.2.2.2.1,x8.2.2.2.2.1,x7.2.2.2.2.2.1++y16,x8.2.2.2.2.2.2.1,x8.2.2.2.2.2.2.2),x5))))))))
     (zAA (F315 (o04,o14,o24,o32,o42,o52,o62,o72)) fun (y4,y5,y6,y7,y8,y9,x1,x2,x3) =>
     seqU (seqU (grdO (decide (o03=o03) && (decide (o13=o13) && (decide (o23=o23) && true))) (some ())) (some ())) (zAA (F7000315 ((y6,y7,y8,y9,x1,x2,x3),y5)) fun (y10,(y11,y12,y13,y14,y15,x4,x5),x6) =>
     seqU (seqU (grdO (decide (o03=o03) && (decide (o13=o13) && (decide (o23=o23) && true))) (some ())) (some ())) (atO (x6) (y10) fun x7=>zAA (F194 [(o03,o13,o23)]) fun y16 =>
     seqU (seqU (grdO (y10 == y10 && true) (some ())) (seqU (grdO (y10 == y10 && true) (some ())) (seqU (atO (x6) (y10) fun x8=>grdO (decide (x8.2.2.2.2.2.1=x7.2.2.2.2.2.1)) (some ())) (some ())))) (grdO (decide (List.length (x7.2.2.2.2.2.1)+List.length y16≤9223372036854775807)) (atO (x6) (y4) fun x8=>some ((y11,y12,y13,y14,y15,x4,List.set x6 y4 (x8.1,x8.2.1,x8.2.2.1,x8.2.2.2.1,x8.2.2.2.2.1,x7.2.2.2.2.2.1++y16,x8.2.2.2.2.2.2.1,x8.2.2.2.2.2.2.2),x5))))))))))
   (seqU (seqU (grdO (decide (v1=v1)) (some ())) (seqU (atO (v1) ((0:Nat)) fun x1=>grdO (decide (x1=x) && true) (some ())) (seqU (grdO (decide (x=x)) (some ())) (some ())))) (zAA (F301 (y,x)) fun y1 =>
   bindE (Y:=List (List UInt8)×(Int×Int×Int)×List Cst×Int×Int×Int×List Int×List (Int×Int×Int)×List Mth×Bool) (cndO (decide ((o6.length:Int)=0))
     (some (Sum.inr (o0,o1,o2,o3,o4,o5,o6,true)))
     (cndO (decide (y1<0))
      (some (Sum.inr (o0,o1,o2,o3,o4,o5,o6,true)))
      (some (Sum.inl (v1,((0:Int),y1,(0:Int)),o0,o1,o2,o3,o4,o5,o6,o7))))) fun (v11,(o01,o11,o21),o02,o12,o22,o31,o41,o51,o61,o71) =>
   zAA (F291 o11) fun y2 =>
   bindE (Y:=(Int×Int×Int)×List Cst×Int×Int×Int×List Int×List (Int×Int×Int)×List Mth×Bool) (bindE (Y:=List (List UInt8)×Int×Bool×(Int×Int×Int)×List Cst×Int×Int×Int×List Int×List (Int×Int×Int)×List Mth×Bool) (cndO (decide (y2=2))
      (some (Sum.inl (v11,y2,decide ((v11.length:Int)=2),(o01,o11,o21),o02,o12,o22,o31,o41,o51,o61,o71)))
      (some (Sum.inl (v11,y2,false,(o01,o11,o21),o02,o12,o22,o31,o41,o51,o61,o71)))) fun (v12,v5,v35,(o03,o13,o23),o04,o14,o24,o32,o42,o52,o62,o72) =>
    cndO (v35)
     (atO (v12) ((1:Nat)) fun x1=>zAA (F310 (x1,o04,o14,o24,o32,o42,o52,o62,o72)) fun (y3,y4,y5,y6,y7,y8,x2,x3,x4) =>
     some (Sum.inl ((o03,o13,y3),y4,y5,y6,y7,y8,x2,x3,x4)))
     (bindE (Y:=List (List UInt8)×Int×Bool×(Int×Int×Int)×List Cst×Int×Int×Int×List Int×List (Int×Int×Int)×List Mth×Bool) (cndO (decide (2<v5))
       (some (Sum.inl (v12,v5,decide ((v12.length:Int)=4),(o03,o13,o23),o04,o14,o24,o32,o42,o52,o62,o72)))
       (some (Sum.inl (v12,v5,false,(o03,o13,o23),o04,o14,o24,o32,o42,o52,o62,o72)))) fun (v13,v51,v49,(o05,o15,o25),o06,o16,o26,o33,o43,o53,o63,o73) =>
     cndO (v49)
      (atO (v13) ((1:Nat)) fun x1=>atO (v13) ((2:Nat)) fun x2=>atO (v13) ((3:Nat)) fun x3=>zAA (F324 (v51,x1,x2,x3,o06,o16,o26,o33,o43,o53,o63,o73)) fun (y3,y4,y5,y6,y7,y8,x4,x5,x6) =>
      some (Sum.inl ((o05,o15,y3),y4,y5,y6,y7,y8,x4,x5,x6)))
      (bindE (Y:=List (List UInt8)×Int×Bool×(Int×Int×Int)×List Cst×Int×Int×Int×List Int×List (Int×Int×Int)×List Mth×Bool) (cndO (decide (o15=1))
        (some (Sum.inl (v13,v51,decide ((v13.length:Int)=2),(o05,o15,o25),o06,o16,o26,o33,o43,o53,o63,o73)))
        (some (Sum.inl (v13,v51,false,(o05,o15,o25),o06,o16,o26,o33,o43,o53,o63,o73)))) fun (v14,v52,v70,(o07,o17,o27),o08,o18,o28,o34,o44,o54,o64,o74) =>
      cndO (v70)
       (atO (v14) ((1:Nat)) fun x1=>zAA (F325 x1) fun (y3,y4) =>
       cndO (!y4)
        (some (Sum.inl ((o07,o17,y3),o08,o18,o28,o34,o44,o54,o64,true)))
        (some (Sum.inl ((o07,o17,y3),o08,o18,o28,o34,o44,o54,o64,o74))))
       (bindE (Y:=List (List UInt8)×Int×Bool×(Int×Int×Int)×List Cst×Int×Int×Int×List Int×List (Int×Int×Int)×List Mth×Bool) (cndO (decide (v52=0))
         (zAA (F251 o17) fun y3 =>
         cndO (decide (0<y3))
          (some (Sum.inl (v14,v52,decide ((v14.length:Int)=2),(o07,o17,o27),o08,o18,o28,o34,o44,o54,o64,o74)))
          (some (Sum.inl (v14,v52,false,(o07,o17,o27),o08,o18,o28,o34,o44,o54,o64,o74))))
         (some (Sum.inl (v14,v52,false,(o07,o17,o27),o08,o18,o28,o34,o44,o54,o64,o74)))) fun (v15,v53,v93,(o09,o19,o29),o010,o110,o210,o35,o45,o55,o65,o75) =>
       cndO (v93)
        (atO (v15) ((1:Nat)) fun x1=>zAA (F311 (x1,o010,o110,o210,o35,o45,o55,o65,o75)) fun (y3,y4,y5,y6,y7,y8,x2,x3,x4) =>
        some (Sum.inl ((o09,o19,y3),y4,y5,y6,y7,y8,x2,x3,x4)))
        (cndO (decide (v53=0))
         (zAA (F251 o19) fun y3 =>
         cndO (decide (y3=0))
          (cndO (decide ((v15.length:Int)=1))
           (some (Sum.inl ((o09,o19,o29),o010,o110,o210,o35,o45,o55,o65,o75)))
           (some (Sum.inr (o010,o110,o210,o35,o45,o55,o65,true))))
          (some (Sum.inr (o010,o110,o210,o35,o45,o55,o65,true))))
         (some (Sum.inr (o010,o110,o210,o35,o45,o55,o65,true)))))))) fun ((o03,o13,o23),o04,o14,o24,o32,o42,o52,o62,o72) =>
   zAA (F107 (o23,(-32768:Int),(65535:Int))) fun y3 =>
   cndO (!y3)
    (some ((o04,o14,o24,o32,o42,o52,o62,true)))
    (zBP
     (zAA (F315 (o04,o14,o24,o32,o42,o52,o62,o72)) fun (y4,y5,y6,y7,y8,y9,x1,x2,x3) =>
     seqU (seqU (grdO (decide (o03=o03) && (decide (o13=o13) && (decide (o23=o23) && true))) (some ())) (some ())) (zBP
      (zAA (F7000315 ((y6,y7,y8,y9,x1,x2,x3),y5)) fun (y10,(y11,y12,y13,y14,y15,x4,x5),x6) =>
      seqU (seqU (grdO (decide (o03=o03) && (decide (o13=o13) && (decide (o23=o23) && true))) (some ())) (some ())) (atO (x6) (y10) fun x7=>seqU (seqU (grdO (y10 == y10 && true) (some ())) (seqU (grdO (y10 == y10 && true) (some ())) (seqU (atO (x6) (y10) fun x8=>grdO (decide (x8.2.2.2.2.2.1=x7.2.2.2.2.2.1)) (some ())) (some ())))) (zAA (F194 [(o03,o13,o23)]) fun y16 =>
      seqU (seqU (grdO (y10 == y10 && true) (some ())) (seqU (grdO (y10 == y10 && true) (some ())) (seqU (atO (x6) (y10) fun x8=>grdO (decide (x8.2.2.2.2.2.1=x7.2.2.2.2.2.1)) (some ())) (some ())))) (grdO (decide (List.length (x7.2.2.2.2.2.1)+List.length y16≤9223372036854775807)) (atO (x6) (y4) fun x8=>some ((y11,y12,y13,y14,y15,x4,List.set x6 y4 (x8.1,x8.2.1,x8.2.2.1,x8.2.2.2.1,x8.2.2.2.2.1,x7.2.2.2.2.2.1++y16,x8.2.2.2.2.2.2.1,x8.2.2.2.2.2.2.2),x5)))))))
      (zAA (F7000315 ((y6,y7,y8,y9,x1,x2,x3),y5)) fun (y10,(y11,y12,y13,y14,y15,x4,x5),x6) =>
      seqU (seqU (grdO (decide (o03=o03) && (decide (o13=o13) && (decide (o23=o23) && true))) (some ())) (some ())) (atO (x6) (y10) fun x7=>zAA (F194 [(o03,o13,o23)]) fun y16 =>
      seqU (seqU (grdO (y10 == y10 && true) (some ())) (seqU (grdO (y10 == y10 && true) (some ())) (seqU (atO (x6) (y10) fun x8=>grdO (decide (x8.2.2.2.2.2.1=x7.2.2.2.2.2.1)) (some ())) (some ())))) (grdO (decide (List.length (x7.2.2.2.2.2.1)+List.length y16≤9223372036854775807)) (atO (x6) (y4) fun x8=>some ((y11,y12,y13,y14,y15,x4,List.set x6 y4 (x8.1,x8.2.1,x8.2.2.1,x8.2.2.2.1,x8.2.2.2.2.1,x7.2.2.2.2.2.1++y16,x8.2.2.2.2.2.2.1,x8.2.2.2.2.2.2.2),x5))))))))
     (zAA (F315 (o04,o14,o24,o32,o42,o52,o62,o72)) fun (y4,y5,y6,y7,y8,y9,x1,x2,x3) =>
     seqU (seqU (grdO (decide (o03=o03) && (decide (o13=o13) && (decide (o23=o23) && true))) (some ())) (some ())) (zAA (F7000315 ((y6,y7,y8,y9,x1,x2,x3),y5)) fun (y10,(y11,y12,y13,y14,y15,x4,x5),x6) =>
     seqU (seqU (grdO (decide (o03=o03) && (decide (o13=o13) && (decide (o23=o23) && true))) (some ())) (some ())) (atO (x6) (y10) fun x7=>zAA (F194 [(o03,o13,o23)]) fun y16 =>
     seqU (seqU (grdO (y10 == y10 && true) (some ())) (seqU (grdO (y10 == y10 && true) (some ())) (seqU (atO (x6) (y10) fun x8=>grdO (decide (x8.2.2.2.2.2.1=x7.2.2.2.2.2.1)) (some ())) (some ())))) (grdO (decide (List.length (x7.2.2.2.2.2.1)+List.length y16≤9223372036854775807)) (atO (x6) (y4) fun x8=>some ((y11,y12,y13,y14,y15,x4,List.set x6 y4 (x8.1,x8.2.1,x8.2.2.1,x8.2.2.2.1,x8.2.2.2.2.1,x7.2.2.2.2.2.1++y16,x8.2.2.2.2.2.2.1,x8.2.2.2.2.2.2.2),x5))))))))))))
  (seqU (seqU (grdO (decide (v1=v1)) (some ())) (seqU (atO (v1) ((0:Nat)) fun x1=>grdO (decide (x1=x) && true) (some ())) (seqU (grdO (decide (x=x)) (some ())) (some ())))) (zAA (F302 ()) fun y =>
  seqU (seqU (grdO (decide (v1=v1)) (some ())) (seqU (atO (v1) ((0:Nat)) fun x1=>grdO (decide (x1=x) && true) (some ())) (seqU (grdO (decide (x=x)) (some ())) (some ())))) (zAA (F301 (y,x)) fun y1 =>
  bindE (Y:=List (List UInt8)×(Int×Int×Int)×List Cst×Int×Int×Int×List Int×List (Int×Int×Int)×List Mth×Bool) (cndO (decide ((o6.length:Int)=0))
    (some (Sum.inr (o0,o1,o2,o3,o4,o5,o6,true)))
    (cndO (decide (y1<0))
     (some (Sum.inr (o0,o1,o2,o3,o4,o5,o6,true)))
     (some (Sum.inl (v1,((0:Int),y1,(0:Int)),o0,o1,o2,o3,o4,o5,o6,o7))))) fun (v11,(o01,o11,o21),o02,o12,o22,o31,o41,o51,o61,o71) =>
  zAA (F291 o11) fun y2 =>
  bindE (Y:=(Int×Int×Int)×List Cst×Int×Int×Int×List Int×List (Int×Int×Int)×List Mth×Bool) (bindE (Y:=List (List UInt8)×Int×Bool×(Int×Int×Int)×List Cst×Int×Int×Int×List Int×List (Int×Int×Int)×List Mth×Bool) (cndO (decide (y2=2))
     (some (Sum.inl (v11,y2,decide ((v11.length:Int)=2),(o01,o11,o21),o02,o12,o22,o31,o41,o51,o61,o71)))
     (some (Sum.inl (v11,y2,false,(o01,o11,o21),o02,o12,o22,o31,o41,o51,o61,o71)))) fun (v12,v5,v35,(o03,o13,o23),o04,o14,o24,o32,o42,o52,o62,o72) =>
   cndO (v35)
    (atO (v12) ((1:Nat)) fun x1=>zAA (F310 (x1,o04,o14,o24,o32,o42,o52,o62,o72)) fun (y3,y4,y5,y6,y7,y8,x2,x3,x4) =>
    some (Sum.inl ((o03,o13,y3),y4,y5,y6,y7,y8,x2,x3,x4)))
    (bindE (Y:=List (List UInt8)×Int×Bool×(Int×Int×Int)×List Cst×Int×Int×Int×List Int×List (Int×Int×Int)×List Mth×Bool) (cndO (decide (2<v5))
      (some (Sum.inl (v12,v5,decide ((v12.length:Int)=4),(o03,o13,o23),o04,o14,o24,o32,o42,o52,o62,o72)))
      (some (Sum.inl (v12,v5,false,(o03,o13,o23),o04,o14,o24,o32,o42,o52,o62,o72)))) fun (v13,v51,v49,(o05,o15,o25),o06,o16,o26,o33,o43,o53,o63,o73) =>
    cndO (v49)
     (atO (v13) ((1:Nat)) fun x1=>atO (v13) ((2:Nat)) fun x2=>atO (v13) ((3:Nat)) fun x3=>zAA (F324 (v51,x1,x2,x3,o06,o16,o26,o33,o43,o53,o63,o73)) fun (y3,y4,y5,y6,y7,y8,x4,x5,x6) =>
     some (Sum.inl ((o05,o15,y3),y4,y5,y6,y7,y8,x4,x5,x6)))
     (bindE (Y:=List (List UInt8)×Int×Bool×(Int×Int×Int)×List Cst×Int×Int×Int×List Int×List (Int×Int×Int)×List Mth×Bool) (cndO (decide (o15=1))
       (some (Sum.inl (v13,v51,decide ((v13.length:Int)=2),(o05,o15,o25),o06,o16,o26,o33,o43,o53,o63,o73)))
       (some (Sum.inl (v13,v51,false,(o05,o15,o25),o06,o16,o26,o33,o43,o53,o63,o73)))) fun (v14,v52,v70,(o07,o17,o27),o08,o18,o28,o34,o44,o54,o64,o74) =>
     cndO (v70)
      (atO (v14) ((1:Nat)) fun x1=>zAA (F325 x1) fun (y3,y4) =>
      cndO (!y4)
       (some (Sum.inl ((o07,o17,y3),o08,o18,o28,o34,o44,o54,o64,true)))
       (some (Sum.inl ((o07,o17,y3),o08,o18,o28,o34,o44,o54,o64,o74))))
      (bindE (Y:=List (List UInt8)×Int×Bool×(Int×Int×Int)×List Cst×Int×Int×Int×List Int×List (Int×Int×Int)×List Mth×Bool) (cndO (decide (v52=0))
        (zAA (F251 o17) fun y3 =>
        cndO (decide (0<y3))
         (some (Sum.inl (v14,v52,decide ((v14.length:Int)=2),(o07,o17,o27),o08,o18,o28,o34,o44,o54,o64,o74)))
         (some (Sum.inl (v14,v52,false,(o07,o17,o27),o08,o18,o28,o34,o44,o54,o64,o74))))
        (some (Sum.inl (v14,v52,false,(o07,o17,o27),o08,o18,o28,o34,o44,o54,o64,o74)))) fun (v15,v53,v93,(o09,o19,o29),o010,o110,o210,o35,o45,o55,o65,o75) =>
      cndO (v93)
       (atO (v15) ((1:Nat)) fun x1=>zAA (F311 (x1,o010,o110,o210,o35,o45,o55,o65,o75)) fun (y3,y4,y5,y6,y7,y8,x2,x3,x4) =>
       some (Sum.inl ((o09,o19,y3),y4,y5,y6,y7,y8,x2,x3,x4)))
       (cndO (decide (v53=0))
        (zAA (F251 o19) fun y3 =>
        cndO (decide (y3=0))
         (cndO (decide ((v15.length:Int)=1))
          (some (Sum.inl ((o09,o19,o29),o010,o110,o210,o35,o45,o55,o65,o75)))
          (some (Sum.inr (o010,o110,o210,o35,o45,o55,o65,true))))
         (some (Sum.inr (o010,o110,o210,o35,o45,o55,o65,true))))
        (some (Sum.inr (o010,o110,o210,o35,o45,o55,o65,true)))))))) fun ((o03,o13,o23),o04,o14,o24,o32,o42,o52,o62,o72) =>
  zAA (F107 (o23,(-32768:Int),(65535:Int))) fun y3 =>
  cndO (!y3)
   (some ((o04,o14,o24,o32,o42,o52,o62,true)))
   (zBP
    (zAA (F315 (o04,o14,o24,o32,o42,o52,o62,o72)) fun (y4,y5,y6,y7,y8,y9,x1,x2,x3) =>
    seqU (seqU (grdO (decide (o03=o03) && (decide (o13=o13) && (decide (o23=o23) && true))) (some ())) (some ())) (zBP
     (zAA (F7000315 ((y6,y7,y8,y9,x1,x2,x3),y5)) fun (y10,(y11,y12,y13,y14,y15,x4,x5),x6) =>
     seqU (seqU (grdO (decide (o03=o03) && (decide (o13=o13) && (decide (o23=o23) && true))) (some ())) (some ())) (atO (x6) (y10) fun x7=>seqU (seqU (grdO (y10 == y10 && true) (some ())) (seqU (grdO (y10 == y10 && true) (some ())) (seqU (atO (x6) (y10) fun x8=>grdO (decide (x8.2.2.2.2.2.1=x7.2.2.2.2.2.1)) (some ())) (some ())))) (zAA (F194 [(o03,o13,o23)]) fun y16 =>
     seqU (seqU (grdO (y10 == y10 && true) (some ())) (seqU (grdO (y10 == y10 && true) (some ())) (seqU (atO (x6) (y10) fun x8=>grdO (decide (x8.2.2.2.2.2.1=x7.2.2.2.2.2.1)) (some ())) (some ())))) (grdO (decide (List.length (x7.2.2.2.2.2.1)+List.length y16≤9223372036854775807)) (atO (x6) (y4) fun x8=>some ((y11,y12,y13,y14,y15,x4,List.set x6 y4 (x8.1,x8.2.1,x8.2.2.1,x8.2.2.2.1,x8.2.2.2.2.1,x7.2.2.2.2.2.1++y16,x8.2.2.2.2.2.2.1,x8.2.2.2.2.2.2.2),x5)))))))
     (zAA (F7000315 ((y6,y7,y8,y9,x1,x2,x3),y5)) fun (y10,(y11,y12,y13,y14,y15,x4,x5),x6) =>
     seqU (seqU (grdO (decide (o03=o03) && (decide (o13=o13) && (decide (o23=o23) && true))) (some ())) (some ())) (atO (x6) (y10) fun x7=>zAA (F194 [(o03,o13,o23)]) fun y16 =>
     seqU (seqU (grdO (y10 == y10 && true) (some ())) (seqU (grdO (y10 == y10 && true) (some ())) (seqU (atO (x6) (y10) fun x8=>grdO (decide (x8.2.2.2.2.2.1=x7.2.2.2.2.2.1)) (some ())) (some ())))) (grdO (decide (List.length (x7.2.2.2.2.2.1)+List.length y16≤9223372036854775807)) (atO (x6) (y4) fun x8=>some ((y11,y12,y13,y14,y15,x4,List.set x6 y4 (x8.1,x8.2.1,x8.2.2.1,x8.2.2.2.1,x8.2.2.2.2.1,x7.2.2.2.2.2.1++y16,x8.2.2.2.2.2.2.1,x8.2.2.2.2.2.2.2),x5))))))))
    (zAA (F315 (o04,o14,o24,o32,o42,o52,o62,o72)) fun (y4,y5,y6,y7,y8,y9,x1,x2,x3) =>
    seqU (seqU (grdO (decide (o03=o03) && (decide (o13=o13) && (decide (o23=o23) && true))) (some ())) (some ())) (zAA (F7000315 ((y6,y7,y8,y9,x1,x2,x3),y5)) fun (y10,(y11,y12,y13,y14,y15,x4,x5),x6) =>
    seqU (seqU (grdO (decide (o03=o03) && (decide (o13=o13) && (decide (o23=o23) && true))) (some ())) (some ())) (atO (x6) (y10) fun x7=>zAA (F194 [(o03,o13,o23)]) fun y16 =>
    seqU (seqU (grdO (y10 == y10 && true) (some ())) (seqU (grdO (y10 == y10 && true) (some ())) (seqU (atO (x6) (y10) fun x8=>grdO (decide (x8.2.2.2.2.2.1=x7.2.2.2.2.2.1)) (some ())) (some ())))) (grdO (decide (List.length (x7.2.2.2.2.2.1)+List.length y16≤9223372036854775807)) (atO (x6) (y4) fun x8=>some ((y11,y12,y13,y14,y15,x4,List.set x6 y4 (x8.1,x8.2.1,x8.2.2.1,x8.2.2.2.1,x8.2.2.2.2.1,x7.2.2.2.2.2.1++y16,x8.2.2.2.2.2.2.1,x8.2.2.2.2.2.2.2),x5)))))))))))
theorem r309 x:funT T tb194 tp309 147 tv309 (zAD Tryz.f309) ti309 to309 x=F309 x:=by kernel_rfl
def te309:=mkE 309 false [(0,[])] ti309 to309 F309 [] 147 [100000]
def tb309:=insT 309 te309 tb194
theorem ok309:TbOk Tryz.prog tb309:=okI ok194 tp309 tv309 Tryz.func309 rfl Tryz.results309 Tryz.ntmps309 (by kernel_rfl) (by kernel_rfl) Tryz.call309 r309
abbrev zOY:SPat:=⟨[(0,.ptr 100000 0),(1,.agg (pl [.i .i64,.s,.i .i64,.i .i64]))],[.box 100000 (pl [.own tg27 true,.i .i64,.i .i64,.i .i64,.ar 100001,.own tg89 true,.own tg53 true,.b]),.arr 100001 (.int .i64) true]⟩
abbrev zOR:SPat:=⟨[(4,.i .i64)],[.box 100000 (pl [.own tg27 true,.i .i64,.i .i64,.i .i64,.ar 100001,.own tg89 true,.own tg53 true,.b]),.arr 100001 (.int .i64) true]⟩
abbrev zQD:SPat:=⟨[(0,.ptr 100000 0),(3,.ptr 3 0),(5,.i .i64)],[.box 3 (pl [.i .i64,.s,.i .i64,.i .i64]),.box 100000 (pl [.own tg27 true,.i .i64,.i .i64,.i .i64,.ar 100001,.own tg89 true,.own tg53 true,.b]),.arr 100001 (.int .i64) true]⟩
abbrev zGA:SPat:=⟨[(0,.ptr 100000 0),(3,.ptr 3 0)],[.box 3 (pl [.i .i64,.s,.i .i64,.i .i64]),.box 100000 (pl [.own tg27 true,.i .i64,.i .i64,.i .i64,.ar 100001,.own tg89 true,.own tg53 true,.b]),.arr 100001 (.int .i64) true]⟩
def zNF:Nat→Option SPat:=fun k=>bif k == 2 then some zQD else bif k == 2000000 then some zGA else none
def zOM:Nat→List Nat×Plan:=fun id=>bif id == 4 then ([0,1,2,3,4,5,6,7,8,9],.fin) else bif id == 6 then ([0,1,2,3,4,5,6],(.br 7 [6] [0,1,2,3,4,5] [] (.br 8 [7,6,5,4,3,2,1] [0] [9,10,11] (.br 12 [11,10,9,8,7,6,5,4,3,2,1,0] [] [] .fin .fin) .fin) .fin)) else ([],.fin)
def F5000326:(Cst)×(List Cst×Int×Int×Int×List (Int×Int×Int)×List Mth×Bool)×List Int→Option (Int×(List Cst×Int×Int×Int×List (Int×Int×Int)×List Mth×Bool)×List Int):=fun ((c0,c1,c2,c3),(o0,o1,o2,o3,o5,o6,o7),l100001) =>
 bindE (Y:=(Cst)×(List Cst×Int×Int×Int×List (Int×Int×Int)×List Mth×Bool)×List Int) (zAF (fun (i,(o01,o11,o21,o31),(o02,o12,o22,o32,o51,o61,o71),l1000011) =>
   cndO (decide (i<(o02.length:Int)))
    (grdO (decide (0≤i) && decide (i<(o02.length:Int))) (atO (o02) i.toNat fun x=>cndO (decide (x.1=o01) && (decide (x.2.1=o11) && (decide (x.2.2.1=o21) && (decide (x.2.2.2=o31) && true))))
     (some (Sum.inr (Sum.inr (IntKind.wrap .i64 (i+1),(o02,o12,o22,o32,o51,o61,o71),l1000011))))
     (some (Sum.inl (IntKind.wrap .i64 (i+1),(o01,o11,o21,o31),(o02,o12,o22,o32,o51,o61,o71),l1000011)))))
    (some (Sum.inr (Sum.inl ((o01,o11,o21,o31),(o02,o12,o22,o32,o51,o61,o71),l1000011))))) (((0:Int),(c0,c1,c2,c3),(o0,o1,o2,o3,o5,o6,o7),l100001))) fun ((o01,o11,o21,o31),(o02,o12,o22,o32,o51,o61,o71),l1000011) =>
 grdO (decide (List.length o02+1≤9223372036854775807) && decide ((List.length o02+1)*40≤140737488355328)) (some (((↑(List.length (o02++[(o01,o11,o21,o31)])):Int),(o02++[(o01,o11,o21,o31)],o12,o22,o32,o51,o61,o71),l1000011)))
theorem r5000326 x:funT T tb309 zOM 46 zNF (zAD Tryz.f326) zOY zOR x=F5000326 x:=by kernel_rfl
def zTM:=mkE 326 false [(0,[]),(0,[4])] zOY zOR F5000326 [.tmp 4] 46 [100000,100001]
def zHX:=insT 5000326 zTM tb309
theorem zTs:TbOk Tryz.prog zHX:=okI ok309 zOM zNF Tryz.func326 rfl Tryz.results326 Tryz.ntmps326 (by kernel_rfl) (by kernel_rfl) Tryz.call326 r5000326
abbrev zOZ:SPat:=⟨[(0,.ptr 100000 0),(1,.s)],[.box 100000 (pl [.own tg27 true,.i .i64,.i .i64,.i .i64,.ar 100001,.own tg89 true,.own tg53 true,.b]),.arr 100001 (.int .i64) true]⟩
abbrev zOS:SPat:=⟨[(4,.i .i64)],[.box 100000 (pl [.own tg27 true,.i .i64,.i .i64,.i .i64,.ar 100001,.own tg89 true,.own tg53 true,.b]),.arr 100001 (.int .i64) true]⟩
def F5000312:List UInt8×(List Cst×Int×Int×Int×List (Int×Int×Int)×List Mth×Bool)×List Int→Option (Int×(List Cst×Int×Int×Int×List (Int×Int×Int)×List Mth×Bool)×List Int):=fun (s,(o0,o1,o2,o3,o5,o6,o7),l100001) =>
 cndO (decide (60<(s.length:Int)))
  (some (((0:Int),(o0,o1,o2,o3,o5,o6,true),l100001)))
  (zAA (F5000326 (((1:Int),s,(0:Int),(0:Int)),(o0,o1,o2,o3,o5,o6,o7),l100001)) fun (y,(y1,y2,y3,y4,y5,x,x1),x2) =>
  some ((y,(y1,y2,y3,y4,y5,x,x1),x2)))
theorem r5000312 x:funT T zHX noPl 15 noIv (zAD Tryz.f312) zOZ zOS x=F5000312 x:=by kernel_rfl
def zTN:=mkE 312 false [(0,[]),(0,[4])] zOZ zOS F5000312 [.tmp 4] 15 [100000,100001]
def zHY:=insT 5000312 zTN zHX
theorem zTt:TbOk Tryz.prog zHY:=okI zTs noPl noIv Tryz.func312 rfl Tryz.results312 Tryz.ntmps312 (by kernel_rfl) (by kernel_rfl) Tryz.call312 r5000312
abbrev zOa:SPat:=⟨[(0,.ptr 100000 0),(1,.s)],[.box 100000 (pl [.own tg27 true,.i .i64,.i .i64,.i .i64,.ar 100001,.own tg89 true,.own tg53 true,.b]),.arr 100001 (.int .i64) true]⟩
abbrev zOT:SPat:=⟨[(4,.i .i64)],[.box 100000 (pl [.own tg27 true,.i .i64,.i .i64,.i .i64,.ar 100001,.own tg89 true,.own tg53 true,.b]),.arr 100001 (.int .i64) true]⟩
def F5000310:List UInt8×(List Cst×Int×Int×Int×List (Int×Int×Int)×List Mth×Bool)×List Int→Option (Int×(List Cst×Int×Int×Int×List (Int×Int×Int)×List Mth×Bool)×List Int):=fun (s,(o0,o1,o2,o3,o5,o6,o7),l100001) =>
 zAA (F5000312 (s,(o0,o1,o2,o3,o5,o6,o7),l100001)) fun (y,(y1,y2,y3,y4,y5,x,x1),x2) =>
 zAA (F5000326 (((2:Int),[],y,(0:Int)),(y1,y2,y3,y4,y5,x,x1),x2)) fun (y6,(y7,y8,y9,y10,y11,x3,x4),x5) =>
 some ((y6,(y7,y8,y9,y10,y11,x3,x4),x5))
theorem r5000310 x:funT T zHY noPl 11 noIv (zAD Tryz.f310) zOa zOT x=F5000310 x:=by kernel_rfl
def zTO:=mkE 310 false [(0,[]),(0,[4])] zOa zOT F5000310 [.tmp 4] 11 [100000,100001]
def zHZ:=insT 5000310 zTO zHY
theorem zTu:TbOk Tryz.prog zHZ:=okI zTt noPl noIv Tryz.func310 rfl Tryz.results310 Tryz.ntmps310 (by kernel_rfl) (by kernel_rfl) Tryz.call310 r5000310
abbrev zOV:SPat:=⟨[(0,.ptr 100000 0),(1,.agg (pl [.i .i64,.s,.i .i64,.i .i64]))],[.box 100000 (pl [.own tg27 true,.i .i64,.i .i64,.i .i64,.own (.int .i64) true,.ar 100001,.own tg53 true,.b]),.arr 100001 tg89 true]⟩
abbrev zOO:SPat:=⟨[(4,.i .i64)],[.box 100000 (pl [.own tg27 true,.i .i64,.i .i64,.i .i64,.own (.int .i64) true,.ar 100001,.own tg53 true,.b]),.arr 100001 tg89 true]⟩
abbrev zQB:SPat:=⟨[(0,.ptr 100000 0),(3,.ptr 3 0),(5,.i .i64)],[.box 3 (pl [.i .i64,.s,.i .i64,.i .i64]),.box 100000 (pl [.own tg27 true,.i .i64,.i .i64,.i .i64,.own (.int .i64) true,.ar 100001,.own tg53 true,.b]),.arr 100001 tg89 true]⟩
abbrev zFz:SPat:=⟨[(0,.ptr 100000 0),(3,.ptr 3 0)],[.box 3 (pl [.i .i64,.s,.i .i64,.i .i64]),.box 100000 (pl [.own tg27 true,.i .i64,.i .i64,.i .i64,.own (.int .i64) true,.ar 100001,.own tg53 true,.b]),.arr 100001 tg89 true]⟩
def zNE:Nat→Option SPat:=fun k=>bif k == 2 then some zQB else bif k == 2000000 then some zFz else none
def zOL:Nat→List Nat×Plan:=fun id=>bif id == 4 then ([0,1,2,3,4,5,6,7,8,9],.fin) else bif id == 6 then ([0,1,2,3,4,5,6],(.br 7 [6] [0,1,2,3,4,5] [] (.br 8 [7,6,5,4,3,2,1] [0] [9,10,11] (.br 12 [11,10,9,8,7,6,5,4,3,2,1,0] [] [] .fin .fin) .fin) .fin)) else ([],.fin)
def F6000326:(Cst)×(List Cst×Int×Int×Int×List Int×List Mth×Bool)×List (Int×Int×Int)→Option (Int×(List Cst×Int×Int×Int×List Int×List Mth×Bool)×List (Int×Int×Int)):=fun ((c0,c1,c2,c3),(o0,o1,o2,o3,o4,o6,o7),l100001) =>
 bindE (Y:=(Cst)×(List Cst×Int×Int×Int×List Int×List Mth×Bool)×List (Int×Int×Int)) (zAF (fun (i,(o01,o11,o21,o31),(o02,o12,o22,o32,o41,o61,o71),l1000011) =>
   cndO (decide (i<(o02.length:Int)))
    (grdO (decide (0≤i) && decide (i<(o02.length:Int))) (atO (o02) i.toNat fun x=>cndO (decide (x.1=o01) && (decide (x.2.1=o11) && (decide (x.2.2.1=o21) && (decide (x.2.2.2=o31) && true))))
     (some (Sum.inr (Sum.inr (IntKind.wrap .i64 (i+1),(o02,o12,o22,o32,o41,o61,o71),l1000011))))
     (some (Sum.inl (IntKind.wrap .i64 (i+1),(o01,o11,o21,o31),(o02,o12,o22,o32,o41,o61,o71),l1000011)))))
    (some (Sum.inr (Sum.inl ((o01,o11,o21,o31),(o02,o12,o22,o32,o41,o61,o71),l1000011))))) (((0:Int),(c0,c1,c2,c3),(o0,o1,o2,o3,o4,o6,o7),l100001))) fun ((o01,o11,o21,o31),(o02,o12,o22,o32,o41,o61,o71),l1000011) =>
 grdO (decide (List.length o02+1≤9223372036854775807) && decide ((List.length o02+1)*40≤140737488355328)) (some (((↑(List.length (o02++[(o01,o11,o21,o31)])):Int),(o02++[(o01,o11,o21,o31)],o12,o22,o32,o41,o61,o71),l1000011)))
theorem r6000326 x:funT T zHZ zOL 46 zNE (zAD Tryz.f326) zOV zOO x=F6000326 x:=by kernel_rfl
def zTJ:=mkE 326 false [(0,[]),(0,[5])] zOV zOO F6000326 [.tmp 4] 46 [100000,100001]
def zHU:=insT 6000326 zTJ zHZ
theorem zTp:TbOk Tryz.prog zHU:=okI zTu zOL zNE Tryz.func326 rfl Tryz.results326 Tryz.ntmps326 (by kernel_rfl) (by kernel_rfl) Tryz.call326 r6000326
abbrev zOW:SPat:=⟨[(0,.ptr 100000 0),(1,.s)],[.box 100000 (pl [.own tg27 true,.i .i64,.i .i64,.i .i64,.own (.int .i64) true,.ar 100001,.own tg53 true,.b]),.arr 100001 tg89 true]⟩
abbrev zOP:SPat:=⟨[(4,.i .i64)],[.box 100000 (pl [.own tg27 true,.i .i64,.i .i64,.i .i64,.own (.int .i64) true,.ar 100001,.own tg53 true,.b]),.arr 100001 tg89 true]⟩
def F6000312:List UInt8×(List Cst×Int×Int×Int×List Int×List Mth×Bool)×List (Int×Int×Int)→Option (Int×(List Cst×Int×Int×Int×List Int×List Mth×Bool)×List (Int×Int×Int)):=fun (s,(o0,o1,o2,o3,o4,o6,o7),l100001) =>
 cndO (decide (60<(s.length:Int)))
  (some (((0:Int),(o0,o1,o2,o3,o4,o6,true),l100001)))
  (zAA (F6000326 (((1:Int),s,(0:Int),(0:Int)),(o0,o1,o2,o3,o4,o6,o7),l100001)) fun (y,(y1,y2,y3,y4,y5,x,x1),x2) =>
  some ((y,(y1,y2,y3,y4,y5,x,x1),x2)))
theorem r6000312 x:funT T zHU noPl 15 noIv (zAD Tryz.f312) zOW zOP x=F6000312 x:=by kernel_rfl
def zTK:=mkE 312 false [(0,[]),(0,[5])] zOW zOP F6000312 [.tmp 4] 15 [100000,100001]
def zHV:=insT 6000312 zTK zHU
theorem zTq:TbOk Tryz.prog zHV:=okI zTp noPl noIv Tryz.func312 rfl Tryz.results312 Tryz.ntmps312 (by kernel_rfl) (by kernel_rfl) Tryz.call312 r6000312
abbrev zOX:SPat:=⟨[(0,.ptr 100000 0),(1,.s)],[.box 100000 (pl [.own tg27 true,.i .i64,.i .i64,.i .i64,.own (.int .i64) true,.ar 100001,.own tg53 true,.b]),.arr 100001 tg89 true]⟩
abbrev zOQ:SPat:=⟨[(4,.i .i64)],[.box 100000 (pl [.own tg27 true,.i .i64,.i .i64,.i .i64,.own (.int .i64) true,.ar 100001,.own tg53 true,.b]),.arr 100001 tg89 true]⟩
def F6000311:List UInt8×(List Cst×Int×Int×Int×List Int×List Mth×Bool)×List (Int×Int×Int)→Option (Int×(List Cst×Int×Int×Int×List Int×List Mth×Bool)×List (Int×Int×Int)):=fun (s,(o0,o1,o2,o3,o4,o6,o7),l100001) =>
 zAA (F327 s) fun y =>
 cndO (decide (y<0))
  (some (((0:Int),(o0,o1,o2,o3,o4,o6,true),l100001)))
  (some ((y,(o0,o1,o2,o3,o4,o6,o7),l100001)))
theorem r6000311 x:funT T zHV noPl 14 noIv (zAD Tryz.f311) zOX zOQ x=F6000311 x:=by kernel_rfl
def zTL:=mkE 311 false [(0,[]),(0,[5])] zOX zOQ F6000311 [.tmp 4] 14 [100000,100001]
def zHW:=insT 6000311 zTL zHV
theorem zTr:TbOk Tryz.prog zHW:=okI zTq noPl noIv Tryz.func311 rfl Tryz.results311 Tryz.ntmps311 (by kernel_rfl) (by kernel_rfl) Tryz.call311 r6000311
end Go.Proofs.YtdpapeledldifaaGreat
end
