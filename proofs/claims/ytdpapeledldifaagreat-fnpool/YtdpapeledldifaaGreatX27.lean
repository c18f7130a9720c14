/- Part 28 of the proof that the law FnPool holds of every input; no condition. -/
import Derived.Test.YtdpapeledldifaaGreatX26
set_option autoImplicit true
set_option relaxedAutoImplicit true
set_option linter.all false
noncomputable section
namespace Go.Proofs.YtdpapeledldifaaGreat
open Go Go.AM Go.TM
set_option maxRecDepth 100000
set_option maxHeartbeats 4000000
abbrev ti291:SPat:=⟨[(0,.i .i64)],[]⟩
abbrev to291:SPat:=⟨[(2,.i .i64)],[]⟩
abbrev ts291_1000005:SPat:=⟨[(3,.i .i64),(4,.b)],[]⟩
abbrev ts291_1000010:SPat:=⟨[(3,.i .i64),(8,.b)],[]⟩
abbrev ts291_1000014:SPat:=⟨[(3,.i .i64),(13,.b)],[]⟩
def tv291:Nat→Option SPat:=fun k=>bif k == 1000005 then some ts291_1000005 else bif k == 1000010 then some ts291_1000010 else bif k == 1000014 then some ts291_1000014 else none
def F291:Int→Option (Int):=fun op_ =>
 bindE (cndO (decide (op_=(19:Int)))
   (some (Sum.inl (op_,true)))
   (cndO (decide (op_=(28:Int)))
    (some (Sum.inl (op_,true)))
    (some (Sum.inl (op_,decide (op_=(29:Int))))))) fun (v3,v4) =>
 cndO (v4)
  (some ((2:Int)))
  (bindE (cndO (decide (v3=(20:Int)))
    (some (Sum.inl (v3,true)))
    (cndO (decide (v3=(21:Int)))
     (some (Sum.inl (v3,true)))
     (cndO (decide (v3=(22:Int)))
      (some (Sum.inl (v3,true)))
      (some (Sum.inl (v3,decide (v3=(23:Int)))))))) fun (v31,v8) =>
  cndO (v8)
   (some ((4:Int)))
   (bindE (cndO (decide (v31=(24:Int)))
     (some (Sum.inl (v31,true)))
     (cndO (decide (v31=(25:Int)))
      (some (Sum.inl (v31,true)))
      (some (Sum.inl (v31,decide (v31=(26:Int))))))) fun (v32,v13) =>
   cndO (v13)
    (some ((5:Int)))
    (cndO (decide (v32=(27:Int)))
     (some ((6:Int)))
     (some ((0:Int))))))
theorem r291 (x:Int):funT T tb217 noPl 19 tv291 (bodyOf Tryz.f291) ti291 to291 x=F291 x:=by kernel_rfl
def te291:TEnt:=⟨291,true,[],ti291,to291.Den,F291,resF T [.tmp 2] 19 to291 []⟩
def tb291:Nat→Option TEnt:=insT 291 te291 tb217
theorem ok291:TbOk Tryz.prog tb291:=TbOk.ins ok217 (fun_ok ok217 layOk mixed true _ ti291 to291 [] noPl tv291 Tryz.func291 rfl Tryz.results291 Tryz.ntmps291 (by kernel_rfl) (by kernel_rfl) Tryz.call291 F291 fun x _ h=>(r291 x).trans h)
abbrev ti326:SPat:=⟨[(0,.ptr 100000 0),(1,.agg (pl [.i .i64,.s,.i .i64,.i .i64]))],[.box 100000 (pl [.own tg27 true,.i .i64,.i .i64,.i .i64,.own (.int .i64) true,.own tg89 true,.own tg53 true,.b])]⟩
abbrev to326:SPat:=⟨[(4,.i .i64)],[.box 100000 (pl [.own tg27 true,.i .i64,.i .i64,.i .i64,.own (.int .i64) true,.own tg89 true,.own tg53 true,.b])]⟩
abbrev ts326_2:SPat:=⟨[(0,.ptr 100000 0),(3,.ptr 3 0),(5,.i .i64)],[.box 3 (pl [.i .i64,.s,.i .i64,.i .i64]),.box 100000 (pl [.own tg27 true,.i .i64,.i .i64,.i .i64,.own (.int .i64) true,.own tg89 true,.own tg53 true,.b])]⟩
abbrev ts326_2000000:SPat:=⟨[(0,.ptr 100000 0),(3,.ptr 3 0)],[.box 3 (pl [.i .i64,.s,.i .i64,.i .i64]),.box 100000 (pl [.own tg27 true,.i .i64,.i .i64,.i .i64,.own (.int .i64) true,.own tg89 true,.own tg53 true,.b])]⟩
def tv326:Nat→Option SPat:=fun k=>bif k == 2 then some ts326_2 else bif k == 2000000 then some ts326_2000000 else none
def tp326:Nat→List Nat×Plan:=fun id=>bif id == 4 then ([0,1,2,3,4,5,6,7,8,9],.fin) else bif id == 6 then ([0,1,2,3,4,5,6],(.br 7 [6] [0,1,2,3,4,5] [] (.br 8 [7,6,5,4,3,2,1] [0] [9,10,11] (.br 12 [11,10,9,8,7,6,5,4,3,2,1,0] [] [] .fin .fin) .fin) .fin)) else ([],.fin)
def F326:(Cst)×List Cst×Int×Int×Int×List Int×List (Int×Int×Int)×List Mth×Bool→Option (Int×List Cst×Int×Int×Int×List Int×List (Int×Int×Int)×List Mth×Bool):=fun ((c0,c1,c2,c3),o0,o1,o2,o3,o4,o5,o6,o7) =>
 bindE (Y:=(Cst)×List Cst×Int×Int×Int×List Int×List (Int×Int×Int)×List Mth×Bool) (whileO (fun (i,(o01,o11,o21,o31),o02,o12,o22,o32,o41,o51,o61,o71) =>
   cndO (decide (i<(o02.length:Int)))
    (grdO (decide ((0:Int)≤i) && decide (i<(o02.length:Int))) (atO (o02) i.toNat fun x=>cndO (decide (x.1=o01) && (decide (x.2.1=o11) && (decide (x.2.2.1=o21) && (decide (x.2.2.2=o31) && true))))
     (some (Sum.inr (Sum.inr (IntKind.wrap .i64 (i+(1:Int)),o02,o12,o22,o32,o41,o51,o61,o71))))
     (some (Sum.inl (IntKind.wrap .i64 (i+(1:Int)),(o01,o11,o21,o31),o02,o12,o22,o32,o41,o51,o61,o71)))))
    (some (Sum.inr (Sum.inl ((o01,o11,o21,o31),o02,o12,o22,o32,o41,o51,o61,o71))))) (((0:Int),(c0,c1,c2,c3),o0,o1,o2,o3,o4,o5,o6,o7))) fun ((o01,o11,o21,o31),o02,o12,o22,o32,o41,o51,o61,o71) =>
 grdO (decide (List.length o02+(1:Nat)≤(9223372036854775807:Nat)) && decide ((List.length o02+(1:Nat))*(40:Nat)≤(140737488355328:Nat))) (some (((↑(List.length (o02++[(o01,o11,o21,o31)])):Int),o02++[(o01,o11,o21,o31)],o12,o22,o32,o41,o51,o61,o71)))
theorem r326 (x:(Cst)×List Cst×Int×Int×Int×List Int×List (Int×Int×Int)×List Mth×Bool):funT T tb291 tp326 46 tv326 (bodyOf Tryz.f326) ti326 to326 x=F326 x:=by kernel_rfl
def te326:TEnt:=⟨326,false,[(0,[])],ti326,to326.Den,F326,resF T [.tmp 4] 46 to326 [100000]⟩
def tb326:Nat→Option TEnt:=insT 326 te326 tb291
theorem ok326:TbOk Tryz.prog tb326:=TbOk.ins ok291 (fun_ok ok291 layOk mixed false _ ti326 to326 [100000] tp326 tv326 Tryz.func326 rfl Tryz.results326 Tryz.ntmps326 (by kernel_rfl) (by kernel_rfl) Tryz.call326 F326 fun x _ h=>(r326 x).trans h)
abbrev ti312:SPat:=⟨[(0,.ptr 100000 0),(1,.s)],[.box 100000 (pl [.own tg27 true,.i .i64,.i .i64,.i .i64,.own (.int .i64) true,.own tg89 true,.own tg53 true,.b])]⟩
abbrev to312:SPat:=⟨[(4,.i .i64)],[.box 100000 (pl [.own tg27 true,.i .i64,.i .i64,.i .i64,.own (.int .i64) true,.own tg89 true,.own tg53 true,.b])]⟩
def F312:List UInt8×List Cst×Int×Int×Int×List Int×List (Int×Int×Int)×List Mth×Bool→Option (Int×List Cst×Int×Int×Int×List Int×List (Int×Int×Int)×List Mth×Bool):=fun (s,o0,o1,o2,o3,o4,o5,o6,o7) =>
 cndO (decide ((60:Int)<(s.length:Int)))
  (some (((0:Int),o0,o1,o2,o3,o4,o5,o6,true)))
  (bindO (F326 (((1:Int),s,(0:Int),(0:Int)),o0,o1,o2,o3,o4,o5,o6,o7)) fun (y,y1,y2,y3,y4,y5,x,x1,x2) =>
  some ((y,y1,y2,y3,y4,y5,x,x1,x2)))
theorem r312 (x:List UInt8×List Cst×Int×Int×Int×List Int×List (Int×Int×Int)×List Mth×Bool):funT T tb326 noPl 15 noIv (bodyOf Tryz.f312) ti312 to312 x=F312 x:=by kernel_rfl
def te312:TEnt:=⟨312,false,[(0,[])],ti312,to312.Den,F312,resF T [.tmp 4] 15 to312 [100000]⟩
def tb312:Nat→Option TEnt:=insT 312 te312 tb326
theorem ok312:TbOk Tryz.prog tb312:=TbOk.ins ok326 (fun_ok ok326 layOk mixed false _ ti312 to312 [100000] noPl noIv Tryz.func312 rfl Tryz.results312 Tryz.ntmps312 (by kernel_rfl) (by kernel_rfl) Tryz.call312 F312 fun x _ h=>(r312 x).trans h)
abbrev ti310:SPat:=⟨[(0,.ptr 100000 0),(1,.s)],[.box 100000 (pl [.own tg27 true,.i .i64,.i .i64,.i .i64,.own (.int .i64) true,.own tg89 true,.own tg53 true,.b])]⟩
abbrev to310:SPat:=⟨[(4,.i .i64)],[.box 100000 (pl [.own tg27 true,.i .i64,.i .i64,.i .i64,.own (.int .i64) true,.own tg89 true,.own tg53 true,.b])]⟩
def F310:List UInt8×List Cst×Int×Int×Int×List Int×List (Int×Int×Int)×List Mth×Bool→Option (Int×List Cst×Int×Int×Int×List Int×List (Int×Int×Int)×List Mth×Bool):=fun (s,o0,o1,o2,o3,o4,o5,o6,o7) =>
 bindO (F312 (s,o0,o1,o2,o3,o4,o5,o6,o7)) fun (y,y1,y2,y3,y4,y5,x,x1,x2) =>
 bindO (F326 (((2:Int),[],y,(0:Int)),y1,y2,y3,y4,y5,x,x1,x2)) fun (y6,y7,y8,y9,y10,y11,x3,x4,x5) =>
 some ((y6,y7,y8,y9,y10,y11,x3,x4,x5))
theorem r310 (x:List UInt8×List Cst×Int×Int×Int×List Int×List (Int×Int×Int)×List Mth×Bool):funT T tb312 noPl 11 noIv (bodyOf Tryz.f310) ti310 to310 x=F310 x:=by kernel_rfl
def te310:TEnt:=⟨310,false,[(0,[])],ti310,to310.Den,F310,resF T [.tmp 4] 11 to310 [100000]⟩
def tb310:Nat→Option TEnt:=insT 310 te310 tb312
theorem ok310:TbOk Tryz.prog tb310:=TbOk.ins ok312 (fun_ok ok312 layOk mixed false _ ti310 to310 [100000] noPl noIv Tryz.func310 rfl Tryz.results310 Tryz.ntmps310 (by kernel_rfl) (by kernel_rfl) Tryz.call310 F310 fun x _ h=>(r310 x).trans h)
abbrev ti324:SPat:=⟨[(0,.ptr 100000 0),(1,.i .i64),(2,.s),(3,.s),(4,.s)],[.box 100000 (pl [.own tg27 true,.i .i64,.i .i64,.i .i64,.own (.int .i64) true,.own tg89 true,.own tg53 true,.b])]⟩
abbrev to324:SPat:=⟨[(10,.i .i64)],[.box 100000 (pl [.own tg27 true,.i .i64,.i .i64,.i .i64,.own (.int .i64) true,.own tg89 true,.own tg53 true,.b])]⟩
def F324:Int×List UInt8×List UInt8×List UInt8×List Cst×Int×Int×Int×List Int×List (Int×Int×Int)×List Mth×Bool→Option (Int×List Cst×Int×Int×Int×List Int×List (Int×Int×Int)×List Mth×Bool):=fun (kind_,class_,name,t,o0,o1,o2,o3,o4,o5,o6,o7) =>
 bindO (F310 (class_,o0,o1,o2,o3,o4,o5,o6,o7)) fun (y,y1,y2,y3,y4,y5,x,x1,x2) =>
 bindO (F312 (name,y1,y2,y3,y4,y5,x,x1,x2)) fun (y6,y7,y8,y9,y10,y11,x3,x4,x5) =>
 bindO (F312 (t,y7,y8,y9,y10,y11,x3,x4,x5)) fun (y12,y13,y14,y15,y16,y17,x6,x7,x8) =>
 bindO (F326 (((3:Int),[],y6,y12),y13,y14,y15,y16,y17,x6,x7,x8)) fun (y18,y19,y20,y21,y22,y23,x9,x10,x11) =>
 bindO (F326 ((kind_,[],y,y18),y19,y20,y21,y22,y23,x9,x10,x11)) fun (y24,y25,y26,y27,y28,y29,x12,x13,x14) =>
 some ((y24,y25,y26,y27,y28,y29,x12,x13,x14))
theorem r324 (x:Int×List UInt8×List UInt8×List UInt8×List Cst×Int×Int×Int×List Int×List (Int×Int×Int)×List Mth×Bool):funT T tb310 noPl 33 noIv (bodyOf Tryz.f324) ti324 to324 x=F324 x:=by kernel_rfl
def te324:TEnt:=⟨324,false,[(0,[])],ti324,to324.Den,F324,resF T [.tmp 10] 33 to324 [100000]⟩
def tb324:Nat→Option TEnt:=insT 324 te324 tb310
theorem ok324:TbOk Tryz.prog tb324:=TbOk.ins ok310 (fun_ok ok310 layOk mixed false _ ti324 to324 [100000] noPl noIv Tryz.func324 rfl Tryz.results324 Tryz.ntmps324 (by kernel_rfl) (by kernel_rfl) Tryz.call324 F324 fun x _ h=>(r324 x).trans h)
abbrev ti327:SPat:=⟨[(0,.s)],[]⟩
abbrev to327:SPat:=⟨[(2,.i .i64)],[]⟩
abbrev ts327_3:SPat:=⟨[(0,.s),(3,.i .i64),(4,.i .i64)],[]⟩
abbrev ts327_1000007:SPat:=⟨[(0,.s),(3,.i .i64),(4,.i .i64)],[]⟩
abbrev ts327_2000000:SPat:=⟨[(0,.s),(3,.i .i64)],[]⟩
def tv327:Nat→Option SPat:=fun k=>bif k == 3 then some ts327_3 else bif k == 1000007 then some ts327_1000007 else bif k == 2000000 then some ts327_2000000 else none
def F327:List UInt8→Option (Int):=fun s =>
 bindE (Y:=List UInt8×Int) (whileO (fun (s1,n,i) =>
   cndO (decide (i<(s1.length:Int)))
    (bindE (Y:=List UInt8×Int×Int) (grdO (decide ((0:Int)≤i)) (atO (s1) i.toNat fun x=>cndO (decide ((x.toNat:Int)<(48:Int)))
      (some (Sum.inr (Sum.inr (Sum.inr (-1:Int)))))
      (grdO (decide ((0:Int)≤i)) (atO (s1) i.toNat fun x1=>cndO (decide ((57:Int)<(x1.toNat:Int)))
       (some (Sum.inr (Sum.inr (Sum.inr (-1:Int)))))
       (cndO (decide ((5:Int)≤i))
        (some (Sum.inr (Sum.inr (Sum.inr (-1:Int)))))
        (some (Sum.inl (s1,n,i)))))))) fun (s2,n1,i1) =>
    grdO (decide ((0:Int)≤i1)) (atO (s2) i1.toNat fun x=>some (Sum.inl (s2,IntKind.wrap .i64 (IntKind.wrap .i64 (n1*(10:Int))+IntKind.wrap .i64 (IntKind.wrap .u8 ((x.toNat:Int) - (48:Int)))),IntKind.wrap .i64 (i1+(1:Int))))))
    (some (Sum.inr (Sum.inl (s1,n))))) ((s,(0:Int),(0:Int)))) fun (s1,n) =>
 cndO (decide ((s1.length:Int)=(0:Int)))
  (some ((-1:Int)))
  (cndO (decide ((1:Int)<(s1.length:Int)))
   (atO (s1) ((0:Nat)) fun x=>cndO (decide ((x.toNat:Int)=(48:Int)))
    (some ((-1:Int)))
    (some (n)))
   (some (n)))
theorem r327 (x:List UInt8):funT T tb324 noPl 47 tv327 (bodyOf Tryz.f327) ti327 to327 x=F327 x:=by kernel_rfl
def te327:TEnt:=⟨327,true,[],ti327,to327.Den,F327,resF T [.tmp 2] 47 to327 []⟩
def tb327:Nat→Option TEnt:=insT 327 te327 tb324
theorem ok327:TbOk Tryz.prog tb327:=TbOk.ins ok324 (fun_ok ok324 layOk mixed true _ ti327 to327 [] noPl tv327 Tryz.func327 rfl Tryz.results327 Tryz.ntmps327 (by kernel_rfl) (by kernel_rfl) Tryz.call327 F327 fun x _ h=>(r327 x).trans h)
abbrev ti325:SPat:=⟨[(0,.s)],[]⟩
abbrev to325:SPat:=⟨[(2,.i .i64),(3,.b)],[]⟩
abbrev ts325_1000002:SPat:=⟨[(0,.s),(13,.b)],[]⟩
def tv325:Nat→Option SPat:=fun k=>bif k == 1000002 then some ts325_1000002 else none
def F325:List UInt8→Option (Int×Bool):=fun s =>
 bindE (Y:=List UInt8×Bool) (cndO (decide ((1:Int)<(s.length:Int)))
   (atO (s) ((0:Nat)) fun x=>some (Sum.inl (s,decide ((x.toNat:Int)=(45:Int)))))
   (some (Sum.inl (s,false)))) fun (s1,v13) =>
 cndO (v13)
  (grdO (decide ((1:Int)≤(s1.length:Int)) && decide ((s1.length:Int)≤(s1.length:Int))) (bindO (F327 (List.drop (1:Nat) (List.take (Int.toNat (s1.length:Int)) s1))) fun y =>
  some ((IntKind.wrap .i64 ((0:Int) - y),decide ((0:Int)<y)))))
  (bindO (F327 s1) fun y =>
  some ((y,decide ((0:Int)≤y))))
theorem r325 (x:List UInt8):funT T tb327 noPl 26 tv325 (bodyOf Tryz.f325) ti325 to325 x=F325 x:=by kernel_rfl
def te325:TEnt:=⟨325,true,[],ti325,to325.Den,F325,resF T [.tmp 2,.tmp 3] 26 to325 []⟩
def tb325:Nat→Option TEnt:=insT 325 te325 tb327
theorem ok325:TbOk Tryz.prog tb325:=TbOk.ins ok327 (fun_ok ok327 layOk mixed true _ ti325 to325 [] noPl tv325 Tryz.func325 rfl Tryz.results325 Tryz.ntmps325 (by kernel_rfl) (by kernel_rfl) Tryz.call325 F325 fun x _ h=>(r325 x).trans h)
abbrev ti311:SPat:=⟨[(0,.ptr 100000 0),(1,.s)],[.box 100000 (pl [.own tg27 true,.i .i64,.i .i64,.i .i64,.own (.int .i64) true,.own tg89 true,.own tg53 true,.b])]⟩
abbrev to311:SPat:=⟨[(4,.i .i64)],[.box 100000 (pl [.own tg27 true,.i .i64,.i .i64,.i .i64,.own (.int .i64) true,.own tg89 true,.own tg53 true,.b])]⟩
def F311:List UInt8×List Cst×Int×Int×Int×List Int×List (Int×Int×Int)×List Mth×Bool→Option (Int×List Cst×Int×Int×Int×List Int×List (Int×Int×Int)×List Mth×Bool):=fun (s,o0,o1,o2,o3,o4,o5,o6,o7) =>
 bindO (F327 s) fun y =>
 cndO (decide (y<(0:Int)))
  (some (((0:Int),o0,o1,o2,o3,o4,o5,o6,true)))
  (some ((y,o0,o1,o2,o3,o4,o5,o6,o7)))
theorem r311 (x:List UInt8×List Cst×Int×Int×Int×List Int×List (Int×Int×Int)×List Mth×Bool):funT T tb325 noPl 14 noIv (bodyOf Tryz.f311) ti311 to311 x=F311 x:=by kernel_rfl
def te311:TEnt:=⟨311,false,[(0,[])],ti311,to311.Den,F311,resF T [.tmp 4] 14 to311 [100000]⟩
def tb311:Nat→Option TEnt:=insT 311 te311 tb325
theorem ok311:TbOk Tryz.prog tb311:=TbOk.ins ok325 (fun_ok ok325 layOk mixed false _ ti311 to311 [100000] noPl noIv Tryz.func311 rfl Tryz.results311 Tryz.ntmps311 (by kernel_rfl) (by kernel_rfl) Tryz.call311 F311 fun x _ h=>(r311 x).trans h)
abbrev ti315:SPat:=⟨[(0,.ptr 100000 0)],[.box 100000 (pl [.own tg27 true,.i .i64,.i .i64,.i .i64,.own (.int .i64) true,.own tg89 true,.own tg53 true,.b])]⟩
abbrev to315:SPat:=⟨[(2,.ptrI 7007 0)],[.arr 7007 tg53 true,.box 100000 (pl [.own tg27 true,.i .i64,.i .i64,.i .i64,.own (.int .i64) true,.own tg89 true,.ar 7007,.b])]⟩
def tp315:Nat→List Nat×Plan:=fun id=>bif id == 1 then ([0,1,2,3,4,5,6,7,8,9,10,11,12],(.br 13 [12,11,10,9,8,7,6,5,4,3,2,1,0] [] [] .fin .fin)) else ([],.fin)
def F315:List Cst×Int×Int×Int×List Int×List (Int×Int×Int)×List Mth×Bool→Option (Nat×List Mth×List Cst×Int×Int×Int×List Int×List (Int×Int×Int)×Bool):=fun (o0,o1,o2,o3,o4,o5,o6,o7) =>
 grdO (decide ((0:Int)≤IntKind.wrap .i64 ((o6.length:Int) - (1:Int))) && decide (IntKind.wrap .i64 ((o6.length:Int) - (1:Int))<(o6.length:Int))) (some ((Int.toNat (IntKind.wrap .i64 ((o6.length:Int) - (1:Int))),o6,o0,o1,o2,o3,o4,o5,o7)))
theorem r315 (x:List Cst×Int×Int×Int×List Int×List (Int×Int×Int)×List Mth×Bool):funT T tb311 tp315 16 noIv (bodyOf Tryz.f315) ti315 to315 x=F315 x:=by kernel_rfl
def te315:TEnt:=⟨315,false,[(0,[])],ti315,to315.Den,F315,resF T [.tmp 2] 16 to315 [7007,100000]⟩
def tb315:Nat→Option TEnt:=insT 315 te315 tb311
theorem ok315:TbOk Tryz.prog tb315:=TbOk.ins ok311 (fun_ok ok311 layOk mixed false _ ti315 to315 [7007,100000] tp315 noIv Tryz.func315 rfl Tryz.results315 Tryz.ntmps315 (by kernel_rfl) (by kernel_rfl) Tryz.call315 F315 fun x _ h=>(r315 x).trans h)
abbrev ti7000315:SPat:=⟨[(0,.ptr 100000 0)],[.box 100000 (pl [.own tg27 true,.i .i64,.i .i64,.i .i64,.own (.int .i64) true,.own tg89 true,.ar 100001,.b]),.arr 100001 tg53 true]⟩
abbrev to7000315:SPat:=⟨[(2,.ptrI 100001 0)],[.box 100000 (pl [.own tg27 true,.i .i64,.i .i64,.i .i64,.own (.int .i64) true,.own tg89 true,.ar 100001,.b]),.arr 100001 tg53 true]⟩
def tp7000315:Nat→List Nat×Plan:=fun id=>bif id == 1 then ([0,1,2,3,4,5,6,7,8,9,10,11,12],(.br 13 [12,11,10,9,8,7,6,5,4,3,2,1,0] [] [] .fin .fin)) else ([],.fin)
def F7000315:(List Cst×Int×Int×Int×List Int×List (Int×Int×Int)×Bool)×List Mth→Option (Nat×(List Cst×Int×Int×Int×List Int×List (Int×Int×Int)×Bool)×List Mth):=fun ((o0,o1,o2,o3,o4,o5,o7),l100001) =>
 grdO (decide ((0:Int)≤IntKind.wrap .i64 ((l100001.length:Int) - (1:Int))) && decide (IntKind.wrap .i64 ((l100001.length:Int) - (1:Int))<(l100001.length:Int))) (some ((Int.toNat (IntKind.wrap .i64 ((l100001.length:Int) - (1:Int))),(o0,o1,o2,o3,o4,o5,o7),l100001)))
theorem r7000315 (x:(List Cst×Int×Int×Int×List Int×List (Int×Int×Int)×Bool)×List Mth):funT T tb315 tp7000315 16 noIv (bodyOf Tryz.f315) ti7000315 to7000315 x=F7000315 x:=by kernel_rfl
def te7000315:TEnt:=⟨315,false,[(0,[]),(0,[6])],ti7000315,to7000315.Den,F7000315,resF T [.tmp 2] 16 to7000315 [100000,100001]⟩
def tb7000315:Nat→Option TEnt:=insT 7000315 te7000315 tb315
theorem ok7000315:TbOk Tryz.prog tb7000315:=TbOk.ins ok315 (fun_ok ok315 layOk mixed false _ ti7000315 to7000315 [100000,100001] tp7000315 noIv Tryz.func315 rfl Tryz.results315 Tryz.ntmps315 (by kernel_rfl) (by kernel_rfl) Tryz.call315 F7000315 fun x _ h=>(r7000315 x).trans h)
abbrev ti134:SPat:=⟨[(0,.i .i64)],[]⟩
abbrev to134:SPat:=⟨[(2,.s)],[]⟩
def F134:Int→Option (List UInt8):=fun n =>
 grdO (decide ((0:Int)≤IntKind.wrap .u8 n) && decide (IntKind.wrap .u8 n≤(255:Int))) (some ([UInt8.ofNat (Int.toNat (IntKind.wrap .u8 n))]))
theorem r134 (x:Int):funT T tb7000315 noPl 7 noIv (bodyOf Tryz.f134) ti134 to134 x=F134 x:=by kernel_rfl
def te134:TEnt:=⟨134,true,[],ti134,to134.Den,F134,resF T [.tmp 2] 7 to134 []⟩
def tb134:Nat→Option TEnt:=insT 134 te134 tb7000315
theorem ok134:TbOk Tryz.prog tb134:=TbOk.ins ok7000315 (fun_ok ok7000315 layOk mixed true _ ti134 to134 [] noPl noIv Tryz.func134 rfl Tryz.results134 Tryz.ntmps134 (by kernel_rfl) (by kernel_rfl) Tryz.call134 F134 fun x _ h=>(r134 x).trans h)
abbrev ti136:SPat:=⟨[(0,.i .i64)],[]⟩
abbrev to136:SPat:=⟨[(2,.s)],[]⟩
def F136:Int→Option (List UInt8):=fun n =>
 grdO (decide ((0:Int)≤IntKind.wrap .u8 (IntKind.wrap .i64 (Int.tdiv n (256:Int)))) && decide (IntKind.wrap .u8 (IntKind.wrap .i64 (Int.tdiv n (256:Int)))≤(255:Int))) (grdO (decide ((0:Int)≤IntKind.wrap .u8 (Int.tmod n (256:Int))) && decide (IntKind.wrap .u8 (Int.tmod n (256:Int))≤(255:Int))) (some ([UInt8.ofNat (Int.toNat (IntKind.wrap .u8 (IntKind.wrap .i64 (Int.tdiv n (256:Int))))),UInt8.ofNat (Int.toNat (IntKind.wrap .u8 (Int.tmod n (256:Int))))])))
theorem r136 (x:Int):funT T tb134 noPl 11 noIv (bodyOf Tryz.f136) ti136 to136 x=F136 x:=by kernel_rfl
def te136:TEnt:=⟨136,true,[],ti136,to136.Den,F136,resF T [.tmp 2] 11 to136 []⟩
def tb136:Nat→Option TEnt:=insT 136 te136 tb134
theorem ok136:TbOk Tryz.prog tb136:=TbOk.ins ok134 (fun_ok ok134 layOk mixed true _ ti136 to136 [] noPl noIv Tryz.func136 rfl Tryz.results136 Tryz.ntmps136 (by kernel_rfl) (by kernel_rfl) Tryz.call136 F136 fun x _ h=>(r136 x).trans h)
abbrev ti194:SPat:=⟨[(0,.sl tg89)],[]⟩
abbrev to194:SPat:=⟨[(2,.s)],[]⟩
abbrev ts194_3:SPat:=⟨[(0,.sl tg89),(3,.s),(4,.i .i64)],[]⟩
abbrev ts194_2000000:SPat:=⟨[(3,.s)],[]⟩
abbrev ts194_2000002:SPat:=⟨[(0,.sl tg89),(3,.s),(4,.i .i64)],[]⟩
def tv194:Nat→Option SPat:=fun k=>bif k == 3 then some ts194_3 else bif k == 2000000 then some ts194_2000000 else bif k == 2000002 then some ts194_2000002 else none
def F194:List (Int×Int×Int)→Option (List UInt8):=fun list =>
 bindE (Y:=List UInt8) (whileO (fun (list1,out,i) =>
   cndO (decide (i<(list1.length:Int)))
    (grdO (decide ((0:Int)≤i)) (atO (list1) i.toNat fun x=>bindO (F134 (x.2.1)) fun y =>
    grdO (decide (List.length out+List.length y≤(9223372036854775807:Nat))) (bindO (F251 (x.2.1)) fun y1 =>
    bindE (Y:=List (Int×Int×Int)×List UInt8×Int) (cndO (decide (y1=(1:Int)))
      (bindO (F134 (x.2.2)) fun y2 =>
      grdO (decide (List.length (out++y)+List.length y2≤(9223372036854775807:Nat))) (some (Sum.inl (list1,out++y++y2,i))))
      (cndO (decide (y1=(2:Int)))
       (bindO (F136 (Int.tmod (IntKind.wrap .i64 (x.2.2+(65536:Int))) (65536:Int))) fun y2 =>
       grdO (decide (List.length (out++y)+List.length y2≤(9223372036854775807:Nat))) (some (Sum.inl (list1,out++y++y2,i))))
       (some (Sum.inl (list1,out++y,i))))) fun (list2,out1,i1) =>
    some (Sum.inl (list2,out1,IntKind.wrap .i64 (i1+(1:Int)))))))
    (some (Sum.inr (Sum.inl out)))) ((list,[],(0:Int)))) fun out =>
 some (out)
theorem r194 (x:List (Int×Int×Int)):funT T tb136 noPl 41 tv194 (bodyOf Tryz.f194) ti194 to194 x=F194 x:=by kernel_rfl
def te194:TEnt:=⟨194,true,[],ti194,to194.Den,F194,resF T [.tmp 2] 41 to194 []⟩
def tb194:Nat→Option TEnt:=insT 194 te194 tb136
theorem ok194:TbOk Tryz.prog tb194:=TbOk.ins ok136 (fun_ok ok136 layOk mixed true _ ti194 to194 [] noPl tv194 Tryz.func194 rfl Tryz.results194 Tryz.ntmps194 (by kernel_rfl) (by kernel_rfl) Tryz.call194 F194 fun x _ h=>(r194 x).trans h)
abbrev ti309:SPat:=⟨[(0,.ptr 100000 0),(1,.sl .str)],[.box 100000 (pl [.own tg27 true,.i .i64,.i .i64,.i .i64,.own (.int .i64) true,.own tg89 true,.own tg53 true,.b])]⟩
abbrev to309:SPat:=⟨[],[.box 100000 (pl [.own tg27 true,.i .i64,.i .i64,.i .i64,.own (.int .i64) true,.own tg89 true,.own tg53 true,.b])]⟩
abbrev ts309_1000003:SPat:=⟨[(0,.ptr 100000 0),(1,.sl .str),(4,.ptr 4 0)],[.box 4 (pl [.i .i64,.i .i64,.i .i64]),.box 100000 (pl [.own tg27 true,.i .i64,.i .i64,.i .i64,.own (.int .i64) true,.own tg89 true,.own tg53 true,.b])]⟩
abbrev ts309_1000006:SPat:=⟨[(0,.ptr 100000 0),(1,.sl .str),(4,.ptr 4 0),(5,.i .i64),(35,.b)],[.box 4 (pl [.i .i64,.i .i64,.i .i64]),.box 100000 (pl [.own tg27 true,.i .i64,.i .i64,.i .i64,.own (.int .i64) true,.own tg89 true,.own tg53 true,.b])]⟩
abbrev ts309_1000008:SPat:=⟨[(0,.ptr 100000 0),(1,.sl .str),(4,.ptr 4 0),(5,.i .i64),(49,.b)],[.box 4 (pl [.i .i64,.i .i64,.i .i64]),.box 100000 (pl [.own tg27 true,.i .i64,.i .i64,.i .i64,.own (.int .i64) true,.own tg89 true,.own tg53 true,.b])]⟩
abbrev ts309_1000010:SPat:=⟨[(0,.ptr 100000 0),(1,.sl .str),(4,.ptr 4 0),(5,.i .i64),(70,.b)],[.box 4 (pl [.i .i64,.i .i64,.i .i64]),.box 100000 (pl [.own tg27 true,.i .i64,.i .i64,.i .i64,.own (.int .i64) true,.own tg89 true,.own tg53 true,.b])]⟩
abbrev ts309_1000015:SPat:=⟨[(0,.ptr 100000 0),(1,.sl .str),(4,.ptr 4 0),(5,.i .i64),(93,.b)],[.box 4 (pl [.i .i64,.i .i64,.i .i64]),.box 100000 (pl [.own tg27 true,.i .i64,.i .i64,.i .i64,.own (.int .i64) true,.own tg89 true,.own tg53 true,.b])]⟩
abbrev ts309_2000000:SPat:=⟨[(0,.ptr 100000 0),(4,.ptr 4 0)],[.box 4 (pl [.i .i64,.i .i64,.i .i64]),.box 100000 (pl [.own tg27 true,.i .i64,.i .i64,.i .i64,.own (.int .i64) true,.own tg89 true,.own tg53 true,.b])]⟩
def tv309:Nat→Option SPat:=fun k=>bif k == 1000003 then some ts309_1000003 else bif k == 1000006 then some ts309_1000006 else bif k == 1000008 then some ts309_1000008 else bif k == 1000010 then some ts309_1000010 else bif k == 1000015 then some ts309_1000015 else bif k == 2000000 then some ts309_2000000 else none
def tp309:Nat→List Nat×Plan:=fun id=>bif id == 0 then ([1,2,3],(.br 0 [] [1,2,3] [] (.br 4 [3,2,1,0] [] [5] (.br 6 [] [1,2,3,5] [] (.br 7 [6,5,4,3,2,1,0] [] [] .fin .fin) .fin) (.br 6 [] [1,2,3] [] (.br 4 [3,2,1,0] [] [5] (.br 7 [6,5,4,3,2,1,0] [] [] .fin .fin) .fin) .fin)) (.br 6 [] [1,2,3] [] (.br 0 [] [1,2,3] [] (.br 4 [3,2,1,0] [] [5] (.br 7 [6,5,4,3,2,1,0] [] [] .fin .fin) .fin) .fin) .fin))) else bif id == 8 then ([0,1,2,3,4,5,6,7,8,9,10],(.br 11 [10,9,8,7,6,5,4,3,2,1,0] [] [12] (.br 13 [12,11,10,9,8,7,6,5,4,3,2,1,0] [] [] .fin .fin) .fin)) else bif id == 19 then ([0,2,7],(.br 1 [0] [2,7] [] (.br 3 [2,1,0] [7] [4,5,6] (.br 8 [7] [0,2,4,5,6] [] (.br 9 [8,7,3,2,1,0] [4,5,6] [10,11,12] (.br 13 [12,11,10,9,8,7,6,5,4,3,2,1,0] [] [] .fin .fin) .fin) .fin) (.br 8 [7] [0,2] [] (.br 3 [2,1,0] [7] [4,5,6] (.br 9 [8,7,3,2,1,0] [4,5,6] [10,11,12] (.br 13 [12,11,10,9,8,7,6,5,4,3,2,1,0] [] [] .fin .fin) .fin) .fin) .fin)) (.br 8 [7] [0,2] [] (.br 1 [0] [2,7] [] (.br 3 [2,1,0] [7] [4,5,6] (.br 9 [8,7,3,2,1,0] [4,5,6] [10,11,12] (.br 13 [12,11,10,9,8,7,6,5,4,3,2,1,0] [] [] .fin .fin) .fin) .fin) .fin) .fin))) else ([],.fin)
def F309:List (List UInt8)×List Cst×Int×Int×Int×List Int×List (Int×Int×Int)×List Mth×Bool→Option (List Cst×Int×Int×Int×List Int×List (Int×Int×Int)×List Mth×Bool):=fun (v1,o0,o1,o2,o3,o4,o5,o6,o7) =>
 atO (v1) ((0:Nat)) fun x=>bothO
  (bindO (F302 ()) fun y =>
  seqU (seqU (grdO (decide (v1=v1)) (some (()))) (seqU (atO (v1) ((0:Nat)) fun x1=>grdO (decide (x1=x) && true) (some (()))) (seqU (grdO (decide (x=x)) (some (()))) (some (()))))) (bothO
   (bindO (F301 (y,x)) fun y1 =>
   seqU (seqU (grdO (decide (v1=v1)) (some (()))) (seqU (atO (v1) ((0:Nat)) fun x1=>grdO (decide (x1=x) && true) (some (()))) (seqU (grdO (decide (x=x)) (some (()))) (seqU (grdO (decide (y1=y1) && true) (some (()))) (some (())))))) (bindE (Y:=List (List UInt8)×(Int×Int×Int)×List Cst×Int×Int×Int×List Int×List (Int×Int×Int)×List Mth×Bool) (cndO (decide ((o6.length:Int)=(0:Int)))
     (some (Sum.inr (o0,o1,o2,o3,o4,o5,o6,true)))
     (cndO (decide (y1<(0:Int)))
      (some (Sum.inr (o0,o1,o2,o3,o4,o5,o6,true)))
      (some (Sum.inl (v1,((0:Int),y1,(0:Int)),o0,o1,o2,o3,o4,o5,o6,o7))))) fun (v11,(o01,o11,o21),o02,o12,o22,o31,o41,o51,o61,o71) =>
   bindO (F291 o11) fun y2 =>
   bindE (Y:=(Int×Int×Int)×List Cst×Int×Int×Int×List Int×List (Int×Int×Int)×List Mth×Bool) (bindE (Y:=List (List UInt8)×Int×Bool×(Int×Int×Int)×List Cst×Int×Int×Int×List Int×List (Int×Int×Int)×List Mth×Bool) (cndO (decide (y2=(2:Int)))
      (some (Sum.inl (v11,y2,decide ((v11.length:Int)=(2:Int)),(o01,o11,o21),o02,o12,o22,o31,o41,o51,o61,o71)))
      (some (Sum.inl (v11,y2,false,(o01,o11,o21),o02,o12,o22,o31,o41,o51,o61,o71)))) fun (v12,v5,v35,(o03,o13,o23),o04,o14,o24,o32,o42,o52,o62,o72) =>
    cndO (v35)
     (atO (v12) ((1:Nat)) fun x1=>bindO (F310 (x1,o04,o14,o24,o32,o42,o52,o62,o72)) fun (y3,y4,y5,y6,y7,y8,x2,x3,x4) =>
     some (Sum.inl ((o03,o13,y3),y4,y5,y6,y7,y8,x2,x3,x4)))
     (bindE (Y:=List (List UInt8)×Int×Bool×(Int×Int×Int)×List Cst×Int×Int×Int×List Int×List (Int×Int×Int)×List Mth×Bool) (cndO (decide ((2:Int)<v5))
       (some (Sum.inl (v12,v5,decide ((v12.length:Int)=(4:Int)),(o03,o13,o23),o04,o14,o24,o32,o42,o52,o62,o72)))
       (some (Sum.inl (v12,v5,false,(o03,o13,o23),o04,o14,o24,o32,o42,o52,o62,o72)))) fun (v13,v51,v49,(o05,o15,o25),o06,o16,o26,o33,o43,o53,o63,o73) =>
     cndO (v49)
      (atO (v13) ((1:Nat)) fun x1=>atO (v13) ((2:Nat)) fun x2=>atO (v13) ((3:Nat)) fun x3=>bindO (F324 (v51,x1,x2,x3,o06,o16,o26,o33,o43,o53,o63,o73)) fun (y3,y4,y5,y6,y7,y8,x4,x5,x6) =>
      some (Sum.inl ((o05,o15,y3),y4,y5,y6,y7,y8,x4,x5,x6)))
      (bindE (Y:=List (List UInt8)×Int×Bool×(Int×Int×Int)×List Cst×Int×Int×Int×List Int×List (Int×Int×Int)×List Mth×Bool) (cndO (decide (o15=(1:Int)))
        (some (Sum.inl (v13,v51,decide ((v13.length:Int)=(2:Int)),(o05,o15,o25),o06,o16,o26,o33,o43,o53,o63,o73)))
        (some (Sum.inl (v13,v51,false,(o05,o15,o25),o06,o16,o26,o33,o43,o53,o63,o73)))) fun (v14,v52,v70,(o07,o17,o27),o08,o18,o28,o34,o44,o54,o64,o74) =>
      cndO (v70)
       (atO (v14) ((1:Nat)) fun x1=>bindO (F325 x1) fun (y3,y4) =>
       cndO (!y4)
        (some (Sum.inl ((o07,o17,y3),o08,o18,o28,o34,o44,o54,o64,true)))
        (some (Sum.inl ((o07,o17,y3),o08,o18,o28,o34,o44,o54,o64,o74))))
       (bindE (Y:=List (List UInt8)×Int×Bool×(Int×Int×Int)×List Cst×Int×Int×Int×List Int×List (Int×Int×Int)×List Mth×Bool) (cndO (decide (v52=(0:Int)))
         (bindO (F251 o17) fun y3 =>
         cndO (decide ((0:Int)<y3))
          (some (Sum.inl (v14,v52,decide ((v14.length:Int)=(2:Int)),(o07,o17,o27),o08,o18,o28,o34,o44,o54,o64,o74)))
          (some (Sum.inl (v14,v52,false,(o07,o17,o27),o08,o18,o28,o34,o44,o54,o64,o74))))
         (some (Sum.inl (v14,v52,false,(o07,o17,o27),o08,o18,o28,o34,o44,o54,o64,o74)))) fun (v15,v53,v93,(o09,o19,o29),o010,o110,o210,o35,o45,o55,o65,o75) =>
       cndO (v93)
        (atO (v15) ((1:Nat)) fun x1=>bindO (F311 (x1,o010,o110,o210,o35,o45,o55,o65,o75)) fun (y3,y4,y5,y6,y7,y8,x2,x3,x4) =>
        some (Sum.inl ((o09,o19,y3),y4,y5,y6,y7,y8,x2,x3,x4)))
        (cndO (decide (v53=(0:Int)))
         (bindO (F251 o19) fun y3 =>
         cndO (decide (y3=(0:Int)))
          (cndO (decide ((v15.length:Int)=(1:Int)))
           (some (Sum.inl ((o09,o19,o29),o010,o110,o210,o35,o45,o55,o65,o75)))
           (some (Sum.inr (o010,o110,o210,o35,o45,o55,o65,true))))
          (some (Sum.inr (o010,o110,o210,o35,o45,o55,o65,true))))
         (some (Sum.inr (o010,o110,o210,o35,o45,o55,o65,true)))))))) fun ((o03,o13,o23),o04,o14,o24,o32,o42,o52,o62,o72) =>
   bindO (F107 (o23,(-32768:Int),(65535:Int))) fun y3 =>
   cndO (!y3)
    (some ((o04,o14,o24,o32,o42,o52,o62,true)))
    (bothO
     (bindO (F315 (o04,o14,o24,o32,o42,o52,o62,o72)) fun (y4,y5,y6,y7,y8,y9,x1,x2,x3) =>
     seqU (seqU (grdO (decide (o03=o03) && (decide (o13=o13) && (decide (o23=o23) && true))) (some (()))) (some (()))) (bothO
      (bindO (F7000315 ((y6,y7,y8,y9,x1,x2,x3),y5)) fun (y10,(y11,y12,y13,y14,y15,x4,x5),x6) =>
      seqU (seqU (grdO (decide (o03=o03) && (decide (o13=o13) && (decide (o23=o23) && true))) (some (()))) (some (()))) (atO (x6) (y10) fun x7=>seqU (seqU (grdO (y10 == y10 && true) (some (()))) (seqU (grdO (y10 == y10 && true) (some (()))) (seqU (atO (x6) (y10) fun x8=>grdO (decide (x8.2.2.2.2.2.1=x7.2.2.2.2.2.1)) (some (()))) (some (()))))) (bindO (F194 [(o03,o13,o23)]) fun y16 =>
      seqU (seqU (grdO (y10 == y10 && true) (some (()))) (seqU (grdO (y10 == y10 && true) (some (()))) (seqU (atO (x6) (y10) fun x8=>grdO (decide (x8.2.2.2.2.2.1=x7.2.2.2.2.2.1)) (some (()))) (some (()))))) (grdO (decide (List.length (x7.2.2.2.2.2.1)+List.length y16≤(9223372036854775807:Nat))) (atO (x6) (y4) fun x8=>some ((y11,y12,y13,y14,y15,x4,List.set x6 y4 (x8.1,x8.2.1,x8.2.2.1,x8.2.2.2.1,x8.2.2.2.2.1,x7.2.2.2.2.2.1++y16,x8.2.2.2.2.2.2.1,x8.2.2.2.2.2.2.2),x5)))))))
      (bindO (F7000315 ((y6,y7,y8,y9,x1,x2,x3),y5)) fun (y10,(y11,y12,y13,y14,y15,x4,x5),x6) =>
      seqU (seqU (grdO (decide (o03=o03) && (decide (o13=o13) && (decide (o23=o23) && true))) (some (()))) (some (()))) (atO (x6) (y10) fun x7=>bindO (F194 [(o03,o13,o23)]) fun y16 =>
      seqU (seqU (grdO (y10 == y10 && true) (some (()))) (seqU (grdO (y10 == y10 && true) (some (()))) (seqU (atO (x6) (y10) fun x8=>grdO (decide (x8.2.2.2.2.2.1=x7.2.2.2.2.2.1)) (some (()))) (some (()))))) (grdO (decide (List.length (x7.2.2.2.2.2.1)+List.length y16≤(9223372036854775807:Nat))) (atO (x6) (y4) fun x8=>some ((y11,y12,y13,y14,y15,x4,List.set x6 y4 (x8.1,x8.2.1,x8.2.2.1,x8.2.2.2.1,x8.2.2.2.2.1,x7.2.2.2.2.2.1++y16,x8.2.2.2.2.2.2.1,x8.2.2.2.2.2.2.2),x5))))))))
     (bindO (F315 (o04,o14,o24,o32,o42,o52,o62,o72)) fun (y4,y5,y6,y7,y8,y9,x1,x2,x3) =>
     seqU (seqU (grdO (decide (o03=o03) && (decide (o13=o13) && (decide (o23=o23) && true))) (some (()))) (some (()))) (bindO (F7000315 ((y6,y7,y8,y9,x1,x2,x3),y5)) fun (y10,(y11,y12,y13,y14,y15,x4,x5),x6) =>
     seqU (seqU (grdO (decide (o03=o03) && (decide (o13=o13) && (decide (o23=o23) && true))) (some (()))) (some (()))) (atO (x6) (y10) fun x7=>bindO (F194 [(o03,o13,o23)]) fun y16 =>
     seqU (seqU (grdO (y10 == y10 && true) (some (()))) (seqU (grdO (y10 == y10 && true) (some (()))) (seqU (atO (x6) (y10) fun x8=>grdO (decide (x8.2.2.2.2.2.1=x7.2.2.2.2.2.1)) (some (()))) (some (()))))) (grdO (decide (List.length (x7.2.2.2.2.2.1)+List.length y16≤(9223372036854775807:Nat))) (atO (x6) (y4) fun x8=>some ((y11,y12,y13,y14,y15,x4,List.set x6 y4 (x8.1,x8.2.1,x8.2.2.1,x8.2.2.2.1,x8.2.2.2.2.1,x7.2.2.2.2.2.1++y16,x8.2.2.2.2.2.2.1,x8.2.2.2.2.2.2.2),x5))))))))))
   (seqU (seqU (grdO (decide (v1=v1)) (some (()))) (seqU (atO (v1) ((0:Nat)) fun x1=>grdO (decide (x1=x) && true) (some (()))) (seqU (grdO (decide (x=x)) (some (()))) (some (()))))) (bindO (F301 (y,x)) fun y1 =>
   bindE (Y:=List (List UInt8)×(Int×Int×Int)×List Cst×Int×Int×Int×List Int×List (Int×Int×Int)×List Mth×Bool) (cndO (decide ((o6.length:Int)=(0:Int)))
     (some (Sum.inr (o0,o1,o2,o3,o4,o5,o6,true)))
     (cndO (decide (y1<(0:Int)))
      (some (Sum.inr (o0,o1,o2,o3,o4,o5,o6,true)))
      (some (Sum.inl (v1,((0:Int),y1,(0:Int)),o0,o1,o2,o3,o4,o5,o6,o7))))) fun (v11,(o01,o11,o21),o02,o12,o22,o31,o41,o51,o61,o71) =>
   bindO (F291 o11) fun y2 =>
   bindE (Y:=(Int×Int×Int)×List Cst×Int×Int×Int×List Int×List (Int×Int×Int)×List Mth×Bool) (bindE (Y:=List (List UInt8)×Int×Bool×(Int×Int×Int)×List Cst×Int×Int×Int×List Int×List (Int×Int×Int)×List Mth×Bool) (cndO (decide (y2=(2:Int)))
      (some (Sum.inl (v11,y2,decide ((v11.length:Int)=(2:Int)),(o01,o11,o21),o02,o12,o22,o31,o41,o51,o61,o71)))
      (some (Sum.inl (v11,y2,false,(o01,o11,o21),o02,o12,o22,o31,o41,o51,o61,o71)))) fun (v12,v5,v35,(o03,o13,o23),o04,o14,o24,o32,o42,o52,o62,o72) =>
    cndO (v35)
     (atO (v12) ((1:Nat)) fun x1=>bindO (F310 (x1,o04,o14,o24,o32,o42,o52,o62,o72)) fun (y3,y4,y5,y6,y7,y8,x2,x3,x4) =>
     some (Sum.inl ((o03,o13,y3),y4,y5,y6,y7,y8,x2,x3,x4)))
     (bindE (Y:=List (List UInt8)×Int×Bool×(Int×Int×Int)×List Cst×Int×Int×Int×List Int×List (Int×Int×Int)×List Mth×Bool) (cndO (decide ((2:Int)<v5))
       (some (Sum.inl (v12,v5,decide ((v12.length:Int)=(4:Int)),(o03,o13,o23),o04,o14,o24,o32,o42,o52,o62,o72)))
       (some (Sum.inl (v12,v5,false,(o03,o13,o23),o04,o14,o24,o32,o42,o52,o62,o72)))) fun (v13,v51,v49,(o05,o15,o25),o06,o16,o26,o33,o43,o53,o63,o73) =>
     cndO (v49)
      (atO (v13) ((1:Nat)) fun x1=>atO (v13) ((2:Nat)) fun x2=>atO (v13) ((3:Nat)) fun x3=>bindO (F324 (v51,x1,x2,x3,o06,o16,o26,o33,o43,o53,o63,o73)) fun (y3,y4,y5,y6,y7,y8,x4,x5,x6) =>
      some (Sum.inl ((o05,o15,y3),y4,y5,y6,y7,y8,x4,x5,x6)))
      (bindE (Y:=List (List UInt8)×Int×Bool×(Int×Int×Int)×List Cst×Int×Int×Int×List Int×List (Int×Int×Int)×List Mth×Bool) (cndO (decide (o15=(1:Int)))
        (some (Sum.inl (v13,v51,decide ((v13.length:Int)=(2:Int)),(o05,o15,o25),o06,o16,o26,o33,o43,o53,o63,o73)))
        (some (Sum.inl (v13,v51,false,(o05,o15,o25),o06,o16,o26,o33,o43,o53,o63,o73)))) fun (v14,v52,v70,(o07,o17,o27),o08,o18,o28,o34,o44,o54,o64,o74) =>
      cndO (v70)
       (atO (v14) ((1:Nat)) fun x1=>bindO (F325 x1) fun (y3,y4) =>
       cndO (!y4)
        (some (Sum.inl ((o07,o17,y3),o08,o18,o28,o34,o44,o54,o64,true)))
        (some (Sum.inl ((o07,o17,y3),o08,o18,o28,o34,o44,o54,o64,o74))))
       (bindE (Y:=List (List UInt8)×Int×Bool×(Int×Int×Int)×List Cst×Int×Int×Int×List Int×List (Int×Int×Int)×List Mth×Bool) (cndO (decide (v52=(0:Int)))
         (bindO (F251 o17) fun y3 =>
         cndO (decide ((0:Int)<y3))
          (some (Sum.inl (v14,v52,decide ((v14.length:Int)=(2:Int)),(o07,o17,o27),o08,o18,o28,o34,o44,o54,o64,o74)))
          (some (Sum.inl (v14,v52,false,(o07,o17,o27),o08,o18,o28,o34,o44,o54,o64,o74))))
         (some (Sum.inl (v14,v52,false,(o07,o17,o27),o08,o18,o28,o34,o44,o54,o64,o74)))) fun (v15,v53,v93,(o09,o19,o29),o010,o110,o210,o35,o45,o55,o65,o75) =>
       cndO (v93)
        (atO (v15) ((1:Nat)) fun x1=>bindO (F311 (x1,o010,o110,o210,o35,o45,o55,o65,o75)) fun (y3,y4,y5,y6,y7,y8,x2,x3,x4) =>
        some (Sum.inl ((o09,o19,y3),y4,y5,y6,y7,y8,x2,x3,x4)))
        (cndO (decide (v53=(0:Int)))
         (bindO (F251 o19) fun y3 =>
         cndO (decide (y3=(0:Int)))
          (cndO (decide ((v15.length:Int)=(1:Int)))
           (some (Sum.inl ((o09,o19,o29),o010,o110,o210,o35,o45,o55,o65,o75)))
           (some (Sum.inr (o010,o110,o210,o35,o45,o55,o65,true))))
          (some (Sum.inr (o010,o110,o210,o35,o45,o55,o65,true))))
         (some (Sum.inr (o010,o110,o210,o35,o45,o55,o65,true)))))))) fun ((o03,o13,o23),o04,o14,o24,o32,o42,o52,o62,o72) =>
   bindO (F107 (o23,(-32768:Int),(65535:Int))) fun y3 =>
   cndO (!y3)
    (some ((o04,o14,o24,o32,o42,o52,o62,true)))
    (bothO
     (bindO (F315 (o04,o14,o24,o32,o42,o52,o62,o72)) fun (y4,y5,y6,y7,y8,y9,x1,x2,x3) =>
     seqU (seqU (grdO (decide (o03=o03) && (decide (o13=o13) && (decide (o23=o23) && true))) (some (()))) (some (()))) (bothO
      (bindO (F7000315 ((y6,y7,y8,y9,x1,x2,x3),y5)) fun (y10,(y11,y12,y13,y14,y15,x4,x5),x6) =>
      seqU (seqU (grdO (decide (o03=o03) && (decide (o13=o13) && (decide (o23=o23) && true))) (some (()))) (some (()))) (atO (x6) (y10) fun x7=>seqU (seqU (grdO (y10 == y10 && true) (some (()))) (seqU (grdO (y10 == y10 && true) (some (()))) (seqU (atO (x6) (y10) fun x8=>grdO (decide (x8.2.2.2.2.2.1=x7.2.2.2.2.2.1)) (some (()))) (some (()))))) (bindO (F194 [(o03,o13,o23)]) fun y16 =>
      seqU (seqU (grdO (y10 == y10 && true) (some (()))) (seqU (grdO (y10 == y10 && true) (some (()))) (seqU (atO (x6) (y10) fun x8=>grdO (decide (x8.2.2.2.2.2.1=x7.2.2.2.2.2.1)) (some (()))) (some (()))))) (grdO (decide (List.length (x7.2.2.2.2.2.1)+List.length y16≤(9223372036854775807:Nat))) (atO (x6) (y4) fun x8=>some ((y11,y12,y13,y14,y15,x4,List.set x6 y4 (x8.1,x8.2.1,x8.2.2.1,x8.2.2.2.1,x8.2.2.2.2.1,x7.2.2.2.2.2.1++y16,x8.2.2.2.2.2.2.1,x8.2.2.2.2.2.2.2),x5)))))))
      (bindO (F7000315 ((y6,y7,y8,y9,x1,x2,x3),y5)) fun (y10,(y11,y12,y13,y14,y15,x4,x5),x6) =>
      seqU (seqU (grdO (decide (o03=o03) && (decide (o13=o13) && (decide (o23=o23) && true))) (some (()))) (some (()))) (atO (x6) (y10) fun x7=>bindO (F194 [(o03,o13,o23)]) fun y16 =>
      seqU (seqU (grdO (y10 == y10 && true) (some (()))) (seqU (grdO (y10 == y10 && true) (some (()))) (seqU (atO (x6) (y10) fun x8=>grdO (decide (x8.2.2.2.2.2.1=x7.2.2.2.2.2.1)) (some (()))) (some (()))))) (grdO (decide (List.length (x7.2.2.2.2.2.1)+List.length y16≤(9223372036854775807:Nat))) (atO (x6) (y4) fun x8=>some ((y11,y12,y13,y14,y15,x4,List.set x6 y4 (x8.1,x8.2.1,x8.2.2.1,x8.2.2.2.1,x8.2.2.2.2.1,x7.2.2.2.2.2.1++y16,x8.2.2.2.2.2.2.1,x8.2.2.2.2.2.2.2),x5))))))))
     (bindO (F315 (o04,o14,o24,o32,o42,o52,o62,o72)) fun (y4,y5,y6,y7,y8,y9,x1,x2,x3) =>
     seqU (seqU (grdO (decide (o03=o03) && (decide (o13=o13) && (decide (o23=o23) && true))) (some (()))) (some (()))) (bindO (F7000315 ((y6,y7,y8,y9,x1,x2,x3),y5)) fun (y10,(y11,y12,y13,y14,y15,x4,x5),x6) =>
     seqU (seqU (grdO (decide (o03=o03) && (decide (o13=o13) && (decide (o23=o23) && true))) (some (()))) (some (()))) (atO (x6) (y10) fun x7=>bindO (F194 [(o03,o13,o23)]) fun y16 =>
     seqU (seqU (grdO (y10 == y10 && true) (some (()))) (seqU (grdO (y10 == y10 && true) (some (()))) (seqU (atO (x6) (y10) fun x8=>grdO (decide (x8.2.2.2.2.2.1=x7.2.2.2.2.2.1)) (some (()))) (some (()))))) (grdO (decide (List.length (x7.2.2.2.2.2.1)+List.length y16≤(9223372036854775807:Nat))) (atO (x6) (y4) fun x8=>some ((y11,y12,y13,y14,y15,x4,List.set x6 y4 (x8.1,x8.2.1,x8.2.2.1,x8.2.2.2.1,x8.2.2.2.2.1,x7.2.2.2.2.2.1++y16,x8.2.2.2.2.2.2.1,x8.2.2.2.2.2.2.2),x5))))))))))))
  (seqU (seqU (grdO (decide (v1=v1)) (some (()))) (seqU (atO (v1) ((0:Nat)) fun x1=>grdO (decide (x1=x) && true) (some (()))) (seqU (grdO (decide (x=x)) (some (()))) (some (()))))) (bindO (F302 ()) fun y =>
  seqU (seqU (grdO (decide (v1=v1)) (some (()))) (seqU (atO (v1) ((0:Nat)) fun x1=>grdO (decide (x1=x) && true) (some (()))) (seqU (grdO (decide (x=x)) (some (()))) (some (()))))) (bindO (F301 (y,x)) fun y1 =>
  bindE (Y:=List (List UInt8)×(Int×Int×Int)×List Cst×Int×Int×Int×List Int×List (Int×Int×Int)×List Mth×Bool) (cndO (decide ((o6.length:Int)=(0:Int)))
    (some (Sum.inr (o0,o1,o2,o3,o4,o5,o6,true)))
    (cndO (decide (y1<(0:Int)))
     (some (Sum.inr (o0,o1,o2,o3,o4,o5,o6,true)))
     (some (Sum.inl (v1,((0:Int),y1,(0:Int)),o0,o1,o2,o3,o4,o5,o6,o7))))) fun (v11,(o01,o11,o21),o02,o12,o22,o31,o41,o51,o61,o71) =>
  bindO (F291 o11) fun y2 =>
  bindE (Y:=(Int×Int×Int)×List Cst×Int×Int×Int×List Int×List (Int×Int×Int)×List Mth×Bool) (bindE (Y:=List (List UInt8)×Int×Bool×(Int×Int×Int)×List Cst×Int×Int×Int×List Int×List (Int×Int×Int)×List Mth×Bool) (cndO (decide (y2=(2:Int)))
     (some (Sum.inl (v11,y2,decide ((v11.length:Int)=(2:Int)),(o01,o11,o21),o02,o12,o22,o31,o41,o51,o61,o71)))
     (some (Sum.inl (v11,y2,false,(o01,o11,o21),o02,o12,o22,o31,o41,o51,o61,o71)))) fun (v12,v5,v35,(o03,o13,o23),o04,o14,o24,o32,o42,o52,o62,o72) =>
   cndO (v35)
    (atO (v12) ((1:Nat)) fun x1=>bindO (F310 (x1,o04,o14,o24,o32,o42,o52,o62,o72)) fun (y3,y4,y5,y6,y7,y8,x2,x3,x4) =>
    some (Sum.inl ((o03,o13,y3),y4,y5,y6,y7,y8,x2,x3,x4)))
    (bindE (Y:=List (List UInt8)×Int×Bool×(Int×Int×Int)×List Cst×Int×Int×Int×List Int×List (Int×Int×Int)×List Mth×Bool) (cndO (decide ((2:Int)<v5))
      (some (Sum.inl (v12,v5,decide ((v12.length:Int)=(4:Int)),(o03,o13,o23),o04,o14,o24,o32,o42,o52,o62,o72)))
      (some (Sum.inl (v12,v5,false,(o03,o13,o23),o04,o14,o24,o32,o42,o52,o62,o72)))) fun (v13,v51,v49,(o05,o15,o25),o06,o16,o26,o33,o43,o53,o63,o73) =>
    cndO (v49)
     (atO (v13) ((1:Nat)) fun x1=>atO (v13) ((2:Nat)) fun x2=>atO (v13) ((3:Nat)) fun x3=>bindO (F324 (v51,x1,x2,x3,o06,o16,o26,o33,o43,o53,o63,o73)) fun (y3,y4,y5,y6,y7,y8,x4,x5,x6) =>
     some (Sum.inl ((o05,o15,y3),y4,y5,y6,y7,y8,x4,x5,x6)))
     (bindE (Y:=List (List UInt8)×Int×Bool×(Int×Int×Int)×List Cst×Int×Int×Int×List Int×List (Int×Int×Int)×List Mth×Bool) (cndO (decide (o15=(1:Int)))
       (some (Sum.inl (v13,v51,decide ((v13.length:Int)=(2:Int)),(o05,o15,o25),o06,o16,o26,o33,o43,o53,o63,o73)))
       (some (Sum.inl (v13,v51,false,(o05,o15,o25),o06,o16,o26,o33,o43,o53,o63,o73)))) fun (v14,v52,v70,(o07,o17,o27),o08,o18,o28,o34,o44,o54,o64,o74) =>
     cndO (v70)
      (atO (v14) ((1:Nat)) fun x1=>bindO (F325 x1) fun (y3,y4) =>
      cndO (!y4)
       (some (Sum.inl ((o07,o17,y3),o08,o18,o28,o34,o44,o54,o64,true)))
       (some (Sum.inl ((o07,o17,y3),o08,o18,o28,o34,o44,o54,o64,o74))))
      (bindE (Y:=List (List UInt8)×Int×Bool×(Int×Int×Int)×List Cst×Int×Int×Int×List Int×List (Int×Int×Int)×List Mth×Bool) (cndO (decide (v52=(0:Int)))
        (bindO (F251 o17) fun y3 =>
        cndO (decide ((0:Int)<y3))
         (some (Sum.inl (v14,v52,decide ((v14.length:Int)=(2:Int)),(o07,o17,o27),o08,o18,o28,o34,o44,o54,o64,o74)))
         (some (Sum.inl (v14,v52,false,(o07,o17,o27),o08,o18,o28,o34,o44,o54,o64,o74))))
        (some (Sum.inl (v14,v52,false,(o07,o17,o27),o08,o18,o28,o34,o44,o54,o64,o74)))) fun (v15,v53,v93,(o09,o19,o29),o010,o110,o210,o35,o45,o55,o65,o75) =>
      cndO (v93)
       (atO (v15) ((1:Nat)) fun x1=>bindO (F311 (x1,o010,o110,o210,o35,o45,o55,o65,o75)) fun (y3,y4,y5,y6,y7,y8,x2,x3,x4) =>
       some (Sum.inl ((o09,o19,y3),y4,y5,y6,y7,y8,x2,x3,x4)))
       (cndO (decide (v53=(0:Int)))
        (bindO (F251 o19) fun y3 =>
        cndO (decide (y3=(0:Int)))
         (cndO (decide ((v15.length:Int)=(1:Int)))
          (some (Sum.inl ((o09,o19,o29),o010,o110,o210,o35,o45,o55,o65,o75)))
          (some (Sum.inr (o010,o110,o210,o35,o45,o55,o65,true))))
         (some (Sum.inr (o010,o110,o210,o35,o45,o55,o65,true))))
        (some (Sum.inr (o010,o110,o210,o35,o45,o55,o65,true)))))))) fun ((o03,o13,o23),o04,o14,o24,o32,o42,o52,o62,o72) =>
  bindO (F107 (o23,(-32768:Int),(65535:Int))) fun y3 =>
  cndO (!y3)
   (some ((o04,o14,o24,o32,o42,o52,o62,true)))
   (bothO
    (bindO (F315 (o04,o14,o24,o32,o42,o52,o62,o72)) fun (y4,y5,y6,y7,y8,y9,x1,x2,x3) =>
    seqU (seqU (grdO (decide (o03=o03) && (decide (o13=o13) && (decide (o23=o23) && true))) (some (()))) (some (()))) (bothO
     (bindO (F7000315 ((y6,y7,y8,y9,x1,x2,x3),y5)) fun (y10,(y11,y12,y13,y14,y15,x4,x5),x6) =>
     seqU (seqU (grdO (decide (o03=o03) && (decide (o13=o13) && (decide (o23=o23) && true))) (some (()))) (some (()))) (atO (x6) (y10) fun x7=>seqU (seqU (grdO (y10 == y10 && true) (some (()))) (seqU (grdO (y10 == y10 && true) (some (()))) (seqU (atO (x6) (y10) fun x8=>grdO (decide (x8.2.2.2.2.2.1=x7.2.2.2.2.2.1)) (some (()))) (some (()))))) (bindO (F194 [(o03,o13,o23)]) fun y16 =>
     seqU (seqU (grdO (y10 == y10 && true) (some (()))) (seqU (grdO (y10 == y10 && true) (some (()))) (seqU (atO (x6) (y10) fun x8=>grdO (decide (x8.2.2.2.2.2.1=x7.2.2.2.2.2.1)) (some (()))) (some (()))))) (grdO (decide (List.length (x7.2.2.2.2.2.1)+List.length y16≤(9223372036854775807:Nat))) (atO (x6) (y4) fun x8=>some ((y11,y12,y13,y14,y15,x4,List.set x6 y4 (x8.1,x8.2.1,x8.2.2.1,x8.2.2.2.1,x8.2.2.2.2.1,x7.2.2.2.2.2.1++y16,x8.2.2.2.2.2.2.1,x8.2.2.2.2.2.2.2),x5)))))))
     (bindO (F7000315 ((y6,y7,y8,y9,x1,x2,x3),y5)) fun (y10,(y11,y12,y13,y14,y15,x4,x5),x6) =>
     seqU (seqU (grdO (decide (o03=o03) && (decide (o13=o13) && (decide (o23=o23) && true))) (some (()))) (some (()))) (atO (x6) (y10) fun x7=>bindO (F194 [(o03,o13,o23)]) fun y16 =>
     seqU (seqU (grdO (y10 == y10 && true) (some (()))) (seqU (grdO (y10 == y10 && true) (some (()))) (seqU (atO (x6) (y10) fun x8=>grdO (decide (x8.2.2.2.2.2.1=x7.2.2.2.2.2.1)) (some (()))) (some (()))))) (grdO (decide (List.length (x7.2.2.2.2.2.1)+List.length y16≤(9223372036854775807:Nat))) (atO (x6) (y4) fun x8=>some ((y11,y12,y13,y14,y15,x4,List.set x6 y4 (x8.1,x8.2.1,x8.2.2.1,x8.2.2.2.1,x8.2.2.2.2.1,x7.2.2.2.2.2.1++y16,x8.2.2.2.2.2.2.1,x8.2.2.2.2.2.2.2),x5))))))))
    (bindO (F315 (o04,o14,o24,o32,o42,o52,o62,o72)) fun (y4,y5,y6,y7,y8,y9,x1,x2,x3) =>
    seqU (seqU (grdO (decide (o03=o03) && (decide (o13=o13) && (decide (o23=o23) && true))) (some (()))) (some (()))) (bindO (F7000315 ((y6,y7,y8,y9,x1,x2,x3),y5)) fun (y10,(y11,y12,y13,y14,y15,x4,x5),x6) =>
    seqU (seqU (grdO (decide (o03=o03) && (decide (o13=o13) && (decide (o23=o23) && true))) (some (()))) (some (()))) (atO (x6) (y10) fun x7=>bindO (F194 [(o03,o13,o23)]) fun y16 =>
    seqU (seqU (grdO (y10 == y10 && true) (some (()))) (seqU (grdO (y10 == y10 && true) (some (()))) (seqU (atO (x6) (y10) fun x8=>grdO (decide (x8.2.2.2.2.2.1=x7.2.2.2.2.2.1)) (some (()))) (some (()))))) (grdO (decide (List.length (x7.2.2.2.2.2.1)+List.length y16≤(9223372036854775807:Nat))) (atO (x6) (y4) fun x8=>some ((y11,y12,y13,y14,y15,x4,List.set x6 y4 (x8.1,x8.2.1,x8.2.2.1,x8.2.2.2.1,x8.2.2.2.2.1,x7.2.2.2.2.2.1++y16,x8.2.2.2.2.2.2.1,x8.2.2.2.2.2.2.2),x5)))))))))))
theorem r309 (x:List (List UInt8)×List Cst×Int×Int×Int×List Int×List (Int×Int×Int)×List Mth×Bool):funT T tb194 tp309 147 tv309 (bodyOf Tryz.f309) ti309 to309 x=F309 x:=by kernel_rfl
def te309:TEnt:=⟨309,false,[(0,[])],ti309,to309.Den,F309,resF T [] 147 to309 [100000]⟩
def tb309:Nat→Option TEnt:=insT 309 te309 tb194
theorem ok309:TbOk Tryz.prog tb309:=TbOk.ins ok194 (fun_ok ok194 layOk mixed false _ ti309 to309 [100000] tp309 tv309 Tryz.func309 rfl Tryz.results309 Tryz.ntmps309 (by kernel_rfl) (by kernel_rfl) Tryz.call309 F309 fun x _ h=>(r309 x).trans h)
abbrev ti5000326:SPat:=⟨[(0,.ptr 100000 0),(1,.agg (pl [.i .i64,.s,.i .i64,.i .i64]))],[.box 100000 (pl [.own tg27 true,.i .i64,.i .i64,.i .i64,.ar 100001,.own tg89 true,.own tg53 true,.b]),.arr 100001 (.int .i64) true]⟩
abbrev to5000326:SPat:=⟨[(4,.i .i64)],[.box 100000 (pl [.own tg27 true,.i .i64,.i .i64,.i .i64,.ar 100001,.own tg89 true,.own tg53 true,.b]),.arr 100001 (.int .i64) true]⟩
abbrev ts5000326_2:SPat:=⟨[(0,.ptr 100000 0),(3,.ptr 3 0),(5,.i .i64)],[.box 3 (pl [.i .i64,.s,.i .i64,.i .i64]),.box 100000 (pl [.own tg27 true,.i .i64,.i .i64,.i .i64,.ar 100001,.own tg89 true,.own tg53 true,.b]),.arr 100001 (.int .i64) true]⟩
abbrev ts5000326_2000000:SPat:=⟨[(0,.ptr 100000 0),(3,.ptr 3 0)],[.box 3 (pl [.i .i64,.s,.i .i64,.i .i64]),.box 100000 (pl [.own tg27 true,.i .i64,.i .i64,.i .i64,.ar 100001,.own tg89 true,.own tg53 true,.b]),.arr 100001 (.int .i64) true]⟩
def tv5000326:Nat→Option SPat:=fun k=>bif k == 2 then some ts5000326_2 else bif k == 2000000 then some ts5000326_2000000 else none
def tp5000326:Nat→List Nat×Plan:=fun id=>bif id == 4 then ([0,1,2,3,4,5,6,7,8,9],.fin) else bif id == 6 then ([0,1,2,3,4,5,6],(.br 7 [6] [0,1,2,3,4,5] [] (.br 8 [7,6,5,4,3,2,1] [0] [9,10,11] (.br 12 [11,10,9,8,7,6,5,4,3,2,1,0] [] [] .fin .fin) .fin) .fin)) else ([],.fin)
def F5000326:(Cst)×(List Cst×Int×Int×Int×List (Int×Int×Int)×List Mth×Bool)×List Int→Option (Int×(List Cst×Int×Int×Int×List (Int×Int×Int)×List Mth×Bool)×List Int):=fun ((c0,c1,c2,c3),(o0,o1,o2,o3,o5,o6,o7),l100001) =>
 bindE (Y:=(Cst)×(List Cst×Int×Int×Int×List (Int×Int×Int)×List Mth×Bool)×List Int) (whileO (fun (i,(o01,o11,o21,o31),(o02,o12,o22,o32,o51,o61,o71),l1000011) =>
   cndO (decide (i<(o02.length:Int)))
    (grdO (decide ((0:Int)≤i) && decide (i<(o02.length:Int))) (atO (o02) i.toNat fun x=>cndO (decide (x.1=o01) && (decide (x.2.1=o11) && (decide (x.2.2.1=o21) && (decide (x.2.2.2=o31) && true))))
     (some (Sum.inr (Sum.inr (IntKind.wrap .i64 (i+(1:Int)),(o02,o12,o22,o32,o51,o61,o71),l1000011))))
     (some (Sum.inl (IntKind.wrap .i64 (i+(1:Int)),(o01,o11,o21,o31),(o02,o12,o22,o32,o51,o61,o71),l1000011)))))
    (some (Sum.inr (Sum.inl ((o01,o11,o21,o31),(o02,o12,o22,o32,o51,o61,o71),l1000011))))) (((0:Int),(c0,c1,c2,c3),(o0,o1,o2,o3,o5,o6,o7),l100001))) fun ((o01,o11,o21,o31),(o02,o12,o22,o32,o51,o61,o71),l1000011) =>
 grdO (decide (List.length o02+(1:Nat)≤(9223372036854775807:Nat)) && decide ((List.length o02+(1:Nat))*(40:Nat)≤(140737488355328:Nat))) (some (((↑(List.length (o02++[(o01,o11,o21,o31)])):Int),(o02++[(o01,o11,o21,o31)],o12,o22,o32,o51,o61,o71),l1000011)))
theorem r5000326 (x:(Cst)×(List Cst×Int×Int×Int×List (Int×Int×Int)×List Mth×Bool)×List Int):funT T tb309 tp5000326 46 tv5000326 (bodyOf Tryz.f326) ti5000326 to5000326 x=F5000326 x:=by kernel_rfl
def te5000326:TEnt:=⟨326,false,[(0,[]),(0,[4])],ti5000326,to5000326.Den,F5000326,resF T [.tmp 4] 46 to5000326 [100000,100001]⟩
def tb5000326:Nat→Option TEnt:=insT 5000326 te5000326 tb309
theorem ok5000326:TbOk Tryz.prog tb5000326:=TbOk.ins ok309 (fun_ok ok309 layOk mixed false _ ti5000326 to5000326 [100000,100001] tp5000326 tv5000326 Tryz.func326 rfl Tryz.results326 Tryz.ntmps326 (by kernel_rfl) (by kernel_rfl) Tryz.call326 F5000326 fun x _ h=>(r5000326 x).trans h)
abbrev ti5000312:SPat:=⟨[(0,.ptr 100000 0),(1,.s)],[.box 100000 (pl [.own tg27 true,.i .i64,.i .i64,.i .i64,.ar 100001,.own tg89 true,.own tg53 true,.b]),.arr 100001 (.int .i64) true]⟩
abbrev to5000312:SPat:=⟨[(4,.i .i64)],[.box 100000 (pl [.own tg27 true,.i .i64,.i .i64,.i .i64,.ar 100001,.own tg89 true,.own tg53 true,.b]),.arr 100001 (.int .i64) true]⟩
def F5000312:List UInt8×(List Cst×Int×Int×Int×List (Int×Int×Int)×List Mth×Bool)×List Int→Option (Int×(List Cst×Int×Int×Int×List (Int×Int×Int)×List Mth×Bool)×List Int):=fun (s,(o0,o1,o2,o3,o5,o6,o7),l100001) =>
 cndO (decide ((60:Int)<(s.length:Int)))
  (some (((0:Int),(o0,o1,o2,o3,o5,o6,true),l100001)))
  (bindO (F5000326 (((1:Int),s,(0:Int),(0:Int)),(o0,o1,o2,o3,o5,o6,o7),l100001)) fun (y,(y1,y2,y3,y4,y5,x,x1),x2) =>
  some ((y,(y1,y2,y3,y4,y5,x,x1),x2)))
theorem r5000312 (x:List UInt8×(List Cst×Int×Int×Int×List (Int×Int×Int)×List Mth×Bool)×List Int):funT T tb5000326 noPl 15 noIv (bodyOf Tryz.f312) ti5000312 to5000312 x=F5000312 x:=by kernel_rfl
def te5000312:TEnt:=⟨312,false,[(0,[]),(0,[4])],ti5000312,to5000312.Den,F5000312,resF T [.tmp 4] 15 to5000312 [100000,100001]⟩
def tb5000312:Nat→Option TEnt:=insT 5000312 te5000312 tb5000326
theorem ok5000312:TbOk Tryz.prog tb5000312:=TbOk.ins ok5000326 (fun_ok ok5000326 layOk mixed false _ ti5000312 to5000312 [100000,100001] noPl noIv Tryz.func312 rfl Tryz.results312 Tryz.ntmps312 (by kernel_rfl) (by kernel_rfl) Tryz.call312 F5000312 fun x _ h=>(r5000312 x).trans h)
abbrev ti5000310:SPat:=⟨[(0,.ptr 100000 0),(1,.s)],[.box 100000 (pl [.own tg27 true,.i .i64,.i .i64,.i .i64,.ar 100001,.own tg89 true,.own tg53 true,.b]),.arr 100001 (.int .i64) true]⟩
abbrev to5000310:SPat:=⟨[(4,.i .i64)],[.box 100000 (pl [.own tg27 true,.i .i64,.i .i64,.i .i64,.ar 100001,.own tg89 true,.own tg53 true,.b]),.arr 100001 (.int .i64) true]⟩
def F5000310:List UInt8×(List Cst×Int×Int×Int×List (Int×Int×Int)×List Mth×Bool)×List Int→Option (Int×(List Cst×Int×Int×Int×List (Int×Int×Int)×List Mth×Bool)×List Int):=fun (s,(o0,o1,o2,o3,o5,o6,o7),l100001) =>
 bindO (F5000312 (s,(o0,o1,o2,o3,o5,o6,o7),l100001)) fun (y,(y1,y2,y3,y4,y5,x,x1),x2) =>
 bindO (F5000326 (((2:Int),[],y,(0:Int)),(y1,y2,y3,y4,y5,x,x1),x2)) fun (y6,(y7,y8,y9,y10,y11,x3,x4),x5) =>
 some ((y6,(y7,y8,y9,y10,y11,x3,x4),x5))
theorem r5000310 (x:List UInt8×(List Cst×Int×Int×Int×List (Int×Int×Int)×List Mth×Bool)×List Int):funT T tb5000312 noPl 11 noIv (bodyOf Tryz.f310) ti5000310 to5000310 x=F5000310 x:=by kernel_rfl
def te5000310:TEnt:=⟨310,false,[(0,[]),(0,[4])],ti5000310,to5000310.Den,F5000310,resF T [.tmp 4] 11 to5000310 [100000,100001]⟩
def tb5000310:Nat→Option TEnt:=insT 5000310 te5000310 tb5000312
theorem ok5000310:TbOk Tryz.prog tb5000310:=TbOk.ins ok5000312 (fun_ok ok5000312 layOk mixed false _ ti5000310 to5000310 [100000,100001] noPl noIv Tryz.func310 rfl Tryz.results310 Tryz.ntmps310 (by kernel_rfl) (by kernel_rfl) Tryz.call310 F5000310 fun x _ h=>(r5000310 x).trans h)
abbrev ti6000326:SPat:=⟨[(0,.ptr 100000 0),(1,.agg (pl [.i .i64,.s,.i .i64,.i .i64]))],[.box 100000 (pl [.own tg27 true,.i .i64,.i .i64,.i .i64,.own (.int .i64) true,.ar 100001,.own tg53 true,.b]),.arr 100001 tg89 true]⟩
abbrev to6000326:SPat:=⟨[(4,.i .i64)],[.box 100000 (pl [.own tg27 true,.i .i64,.i .i64,.i .i64,.own (.int .i64) true,.ar 100001,.own tg53 true,.b]),.arr 100001 tg89 true]⟩
abbrev ts6000326_2:SPat:=⟨[(0,.ptr 100000 0),(3,.ptr 3 0),(5,.i .i64)],[.box 3 (pl [.i .i64,.s,.i .i64,.i .i64]),.box 100000 (pl [.own tg27 true,.i .i64,.i .i64,.i .i64,.own (.int .i64) true,.ar 100001,.own tg53 true,.b]),.arr 100001 tg89 true]⟩
abbrev ts6000326_2000000:SPat:=⟨[(0,.ptr 100000 0),(3,.ptr 3 0)],[.box 3 (pl [.i .i64,.s,.i .i64,.i .i64]),.box 100000 (pl [.own tg27 true,.i .i64,.i .i64,.i .i64,.own (.int .i64) true,.ar 100001,.own tg53 true,.b]),.arr 100001 tg89 true]⟩
def tv6000326:Nat→Option SPat:=fun k=>bif k == 2 then some ts6000326_2 else bif k == 2000000 then some ts6000326_2000000 else none
def tp6000326:Nat→List Nat×Plan:=fun id=>bif id == 4 then ([0,1,2,3,4,5,6,7,8,9],.fin) else bif id == 6 then ([0,1,2,3,4,5,6],(.br 7 [6] [0,1,2,3,4,5] [] (.br 8 [7,6,5,4,3,2,1] [0] [9,10,11] (.br 12 [11,10,9,8,7,6,5,4,3,2,1,0] [] [] .fin .fin) .fin) .fin)) else ([],.fin)
def F6000326:(Cst)×(List Cst×Int×Int×Int×List Int×List Mth×Bool)×List (Int×Int×Int)→Option (Int×(List Cst×Int×Int×Int×List Int×List Mth×Bool)×List (Int×Int×Int)):=fun ((c0,c1,c2,c3),(o0,o1,o2,o3,o4,o6,o7),l100001) =>
 bindE (Y:=(Cst)×(List Cst×Int×Int×Int×List Int×List Mth×Bool)×List (Int×Int×Int)) (whileO (fun (i,(o01,o11,o21,o31),(o02,o12,o22,o32,o41,o61,o71),l1000011) =>
   cndO (decide (i<(o02.length:Int)))
    (grdO (decide ((0:Int)≤i) && decide (i<(o02.length:Int))) (atO (o02) i.toNat fun x=>cndO (decide (x.1=o01) && (decide (x.2.1=o11) && (decide (x.2.2.1=o21) && (decide (x.2.2.2=o31) && true))))
     (some (Sum.inr (Sum.inr (IntKind.wrap .i64 (i+(1:Int)),(o02,o12,o22,o32,o41,o61,o71),l1000011))))
     (some (Sum.inl (IntKind.wrap .i64 (i+(1:Int)),(o01,o11,o21,o31),(o02,o12,o22,o32,o41,o61,o71),l1000011)))))
    (some (Sum.inr (Sum.inl ((o01,o11,o21,o31),(o02,o12,o22,o32,o41,o61,o71),l1000011))))) (((0:Int),(c0,c1,c2,c3),(o0,o1,o2,o3,o4,o6,o7),l100001))) fun ((o01,o11,o21,o31),(o02,o12,o22,o32,o41,o61,o71),l1000011) =>
 grdO (decide (List.length o02+(1:Nat)≤(9223372036854775807:Nat)) && decide ((List.length o02+(1:Nat))*(40:Nat)≤(140737488355328:Nat))) (some (((↑(List.length (o02++[(o01,o11,o21,o31)])):Int),(o02++[(o01,o11,o21,o31)],o12,o22,o32,o41,o61,o71),l1000011)))
theorem r6000326 (x:(Cst)×(List Cst×Int×Int×Int×List Int×List Mth×Bool)×List (Int×Int×Int)):funT T tb5000310 tp6000326 46 tv6000326 (bodyOf Tryz.f326) ti6000326 to6000326 x=F6000326 x:=by kernel_rfl
def te6000326:TEnt:=⟨326,false,[(0,[]),(0,[5])],ti6000326,to6000326.Den,F6000326,resF T [.tmp 4] 46 to6000326 [100000,100001]⟩
def tb6000326:Nat→Option TEnt:=insT 6000326 te6000326 tb5000310
theorem ok6000326:TbOk Tryz.prog tb6000326:=TbOk.ins ok5000310 (fun_ok ok5000310 layOk mixed false _ ti6000326 to6000326 [100000,100001] tp6000326 tv6000326 Tryz.func326 rfl Tryz.results326 Tryz.ntmps326 (by kernel_rfl) (by kernel_rfl) Tryz.call326 F6000326 fun x _ h=>(r6000326 x).trans h)
abbrev ti6000312:SPat:=⟨[(0,.ptr 100000 0),(1,.s)],[.box 100000 (pl [.own tg27 true,.i .i64,.i .i64,.i .i64,.own (.int .i64) true,.ar 100001,.own tg53 true,.b]),.arr 100001 tg89 true]⟩
abbrev to6000312:SPat:=⟨[(4,.i .i64)],[.box 100000 (pl [.own tg27 true,.i .i64,.i .i64,.i .i64,.own (.int .i64) true,.ar 100001,.own tg53 true,.b]),.arr 100001 tg89 true]⟩
def F6000312:List UInt8×(List Cst×Int×Int×Int×List Int×List Mth×Bool)×List (Int×Int×Int)→Option (Int×(List Cst×Int×Int×Int×List Int×List Mth×Bool)×List (Int×Int×Int)):=fun (s,(o0,o1,o2,o3,o4,o6,o7),l100001) =>
 cndO (decide ((60:Int)<(s.length:Int)))
  (some (((0:Int),(o0,o1,o2,o3,o4,o6,true),l100001)))
  (bindO (F6000326 (((1:Int),s,(0:Int),(0:Int)),(o0,o1,o2,o3,o4,o6,o7),l100001)) fun (y,(y1,y2,y3,y4,y5,x,x1),x2) =>
  some ((y,(y1,y2,y3,y4,y5,x,x1),x2)))
theorem r6000312 (x:List UInt8×(List Cst×Int×Int×Int×List Int×List Mth×Bool)×List (Int×Int×Int)):funT T tb6000326 noPl 15 noIv (bodyOf Tryz.f312) ti6000312 to6000312 x=F6000312 x:=by kernel_rfl
def te6000312:TEnt:=⟨312,false,[(0,[]),(0,[5])],ti6000312,to6000312.Den,F6000312,resF T [.tmp 4] 15 to6000312 [100000,100001]⟩
def tb6000312:Nat→Option TEnt:=insT 6000312 te6000312 tb6000326
theorem ok6000312:TbOk Tryz.prog tb6000312:=TbOk.ins ok6000326 (fun_ok ok6000326 layOk mixed false _ ti6000312 to6000312 [100000,100001] noPl noIv Tryz.func312 rfl Tryz.results312 Tryz.ntmps312 (by kernel_rfl) (by kernel_rfl) Tryz.call312 F6000312 fun x _ h=>(r6000312 x).trans h)
abbrev ti6000311:SPat:=⟨[(0,.ptr 100000 0),(1,.s)],[.box 100000 (pl [.own tg27 true,.i .i64,.i .i64,.i .i64,.own (.int .i64) true,.ar 100001,.own tg53 true,.b]),.arr 100001 tg89 true]⟩
abbrev to6000311:SPat:=⟨[(4,.i .i64)],[.box 100000 (pl [.own tg27 true,.i .i64,.i .i64,.i .i64,.own (.int .i64) true,.ar 100001,.own tg53 true,.b]),.arr 100001 tg89 true]⟩
def F6000311:List UInt8×(List Cst×Int×Int×Int×List Int×List Mth×Bool)×List (Int×Int×Int)→Option (Int×(List Cst×Int×Int×Int×List Int×List Mth×Bool)×List (Int×Int×Int)):=fun (s,(o0,o1,o2,o3,o4,o6,o7),l100001) =>
 bindO (F327 s) fun y =>
 cndO (decide (y<(0:Int)))
  (some (((0:Int),(o0,o1,o2,o3,o4,o6,true),l100001)))
  (some ((y,(o0,o1,o2,o3,o4,o6,o7),l100001)))
theorem r6000311 (x:List UInt8×(List Cst×Int×Int×Int×List Int×List Mth×Bool)×List (Int×Int×Int)):funT T tb6000312 noPl 14 noIv (bodyOf Tryz.f311) ti6000311 to6000311 x=F6000311 x:=by kernel_rfl
def te6000311:TEnt:=⟨311,false,[(0,[]),(0,[5])],ti6000311,to6000311.Den,F6000311,resF T [.tmp 4] 14 to6000311 [100000,100001]⟩
def tb6000311:Nat→Option TEnt:=insT 6000311 te6000311 tb6000312
theorem ok6000311:TbOk Tryz.prog tb6000311:=TbOk.ins ok6000312 (fun_ok ok6000312 layOk mixed false _ ti6000311 to6000311 [100000,100001] noPl noIv Tryz.func311 rfl Tryz.results311 Tryz.ntmps311 (by kernel_rfl) (by kernel_rfl) Tryz.call311 F6000311 fun x _ h=>(r6000311 x).trans h)
end Go.Proofs.YtdpapeledldifaaGreat
end
