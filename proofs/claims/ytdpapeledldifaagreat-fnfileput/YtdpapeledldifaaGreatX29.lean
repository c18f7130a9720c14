/- Part 30 of the proof that the law FnFilePut holds of every input; no condition. -/
import Derived.Test.YtdpapeledldifaaGreatX28
set_option autoImplicit true
set_option relaxedAutoImplicit true
set_option linter.all false
noncomputable section
namespace Go.Proofs.YtdpapeledldifaaGreat
open Go Go.AM Go.TM
set_option maxRecDepth 100000
set_option maxHeartbeats 4000000
abbrev ti222:SPat:=⟨[(0,.ptr 100000 0)],[.box 100000 (pl [.s,.i .i64,.b])]⟩
abbrev to222:SPat:=⟨[(2,.i .i64)],[.box 100000 (pl [.s,.i .i64,.b])]⟩
def F222:List UInt8×Int×Bool→Option (Int×List UInt8×Int×Bool):=fun (o0,o1,o2) =>
 zAA (F221 (o0,o1,o2)) fun (y,y1,y2,y3) =>
 zAA (F221 (y1,y2,y3)) fun (y4,y5,y6,y7) =>
 some ((IntKind.wrap .i64 (IntKind.wrap .i64 (y*256)+y4),y5,y6,y7))
theorem r222 x:funT T tb221 noPl 13 noIv (zAD Tryz.f222) ti222 to222 x=F222 x:=by kernel_rfl
def te222:=mkE 222 false [(0,[])] ti222 to222 F222 [.tmp 2] 13 [100000]
def tb222:=insT 222 te222 tb221
theorem ok222:TbOk Tryz.prog tb222:=okI ok221 noPl noIv Tryz.func222 rfl Tryz.results222 Tryz.ntmps222 (by kernel_rfl) (by kernel_rfl) Tryz.call222 r222
abbrev ti280:SPat:=⟨[(0,.ptr 100000 0)],[.box 100000 (pl [.s,.i .i64,.b])]⟩
abbrev to280:SPat:=⟨[(2,.ptr 2 0)],[.box 2 (pl [.i .i64,.s,.i .i64,.i .i64]),.box 100000 (pl [.s,.i .i64,.b])]⟩
abbrev zKJ:SPat:=⟨[(0,.ptr 100000 0),(2,.ptr 2 0),(3,.ptr 3 0),(24,.b)],[.box 2 (pl [.i .i64,.s,.i .i64,.i .i64]),.box 3 (pl [.i .i64,.s,.i .i64,.i .i64]),.box 100000 (pl [.s,.i .i64,.b])]⟩
abbrev zKI:SPat:=⟨[(2,.ptr 2 0),(3,.ptr 3 0)],[.box 2 (pl [.i .i64,.s,.i .i64,.i .i64]),.box 3 (pl [.i .i64,.s,.i .i64,.i .i64]),.box 100000 (pl [.s,.i .i64,.b])]⟩
def tv280:Nat→Option SPat:=fun k=>bif k == 1000012 then some zKJ else bif k == 2000000 then some zKI else none
def F280:List UInt8×Int×Bool→Option ((Cst)×List UInt8×Int×Bool):=fun (o0,o1,o2) =>
 zAA (F221 (o0,o1,o2)) fun (y,y1,y2,y3) =>
 bindE (Y:=(Cst)×(Cst)×List UInt8×Int×Bool) (cndO (decide (y=1))
   (zAA (F221 (y1,y2,y3)) fun (y4,y5,y6,y7) =>
   zAA (F219 (y4,y5,y6,y7)) fun (y8,y9,y10,y11) =>
   some (Sum.inl (((0:Int),[],(0:Int),(0:Int)),(y,y8,(0:Int),(0:Int)),y9,y10,y11)))
   (cndO (decide (y=2))
    (zAA (F222 (y1,y2,y3)) fun (y4,y5,y6,y7) =>
    some (Sum.inl (((0:Int),[],(0:Int),(0:Int)),(y,[],y4,(0:Int)),y5,y6,y7)))
    (bindE (Y:=Bool×(Cst)×(Cst)×List UInt8×Int×Bool) (cndO (decide (y=3))
      (some (Sum.inl (true,((0:Int),[],(0:Int),(0:Int)),(y,[],(0:Int),(0:Int)),y1,y2,y3)))
      (cndO (decide (y=4))
       (some (Sum.inl (true,((0:Int),[],(0:Int),(0:Int)),(y,[],(0:Int),(0:Int)),y1,y2,y3)))
       (cndO (decide (y=5))
        (some (Sum.inl (true,((0:Int),[],(0:Int),(0:Int)),(y,[],(0:Int),(0:Int)),y1,y2,y3)))
        (some (Sum.inl (decide (y=6),((0:Int),[],(0:Int),(0:Int)),(y,[],(0:Int),(0:Int)),y1,y2,y3)))))) fun (v24,(o01,o11,o21,o3),(o02,o12,o22,o31),o03,o13,o23) =>
    cndO (v24)
     (zAA (F222 (o03,o13,o23)) fun (y4,y5,y6,y7) =>
     zAA (F222 (y5,y6,y7)) fun (y8,y9,y10,y11) =>
     some (Sum.inl ((o01,o11,o21,o3),(o02,o12,y4,y8),y9,y10,y11)))
     (some (Sum.inl ((o01,o11,o21,o3),(o02,o12,o22,o31),o03,o13,true)))))) fun ((o01,o11,o21,o3),(o02,o12,o22,o31),o03,o13,o23) =>
 some (((o02,o12,o22,o31),o03,o13,o23))
theorem r280 x:funT T tb222 noPl 36 tv280 (zAD Tryz.f280) ti280 to280 x=F280 x:=by kernel_rfl
def te280:=mkE 280 false [(0,[])] ti280 to280 F280 [.cell 2 27] 36 [100000]
def tb280:=insT 280 te280 tb222
theorem ok280:TbOk Tryz.prog tb280:=okI ok222 noPl tv280 Tryz.func280 rfl Tryz.results280 Tryz.ntmps280 (by kernel_rfl) (by kernel_rfl) Tryz.call280 r280
abbrev ti220:SPat:=⟨[(0,.ptr 100000 0)],[.box 100000 (pl [.s,.i .i64,.b])]⟩
abbrev to220:SPat:=⟨[(2,.own tg27 true)],[.box 100000 (pl [.s,.i .i64,.b])]⟩
abbrev ts220_6:SPat:=⟨[(0,.ptr 100000 0),(3,.own tg27 true),(4,.i .i64),(5,.i .i64)],[.box 100000 (pl [.s,.i .i64,.b])]⟩
abbrev zKo:SPat:=⟨[(0,.ptr 100000 0),(3,.own tg27 true),(4,.i .i64)],[.box 100000 (pl [.s,.i .i64,.b])]⟩
abbrev zKn:SPat:=⟨[(0,.ptr 100000 0),(3,.own tg27 true),(4,.i .i64),(5,.i .i64)],[.box 100000 (pl [.s,.i .i64,.b])]⟩
abbrev zKm:SPat:=⟨[(3,.own tg27 true)],[.box 100000 (pl [.s,.i .i64,.b])]⟩
def tv220:Nat→Option SPat:=fun k=>bif k == 6 then some ts220_6 else bif k == 1000005 then some zKo else bif k == 1000008 then some zKn else bif k == 2000000 then some zKm else none
def F220:List UInt8×Int×Bool→Option (List Cst×List UInt8×Int×Bool):=fun (o0,o1,o2) =>
 zAA (F221 (o0,o1,o2)) fun (y,y1,y2,y3) =>
 bindE (Y:=List Cst×Int×List UInt8×Int×Bool) (cndO (decide (60<y))
   (some (Sum.inl ([],y,y1,y2,true)))
   (some (Sum.inl ([],y,y1,y2,y3)))) fun (out,n,o01,o11,o21) =>
 bindE (Y:=List Cst×List UInt8×Int×Bool) (zAF (fun (out1,n1,i,o02,o12,o22) =>
   bindE (Y:=List Cst×Int×Int×List UInt8×Int×Bool) (cndO (decide (i<n1))
     (cndO (!o22)
      (some (Sum.inl (out1,n1,i,o02,o12,o22)))
      (some (Sum.inr (Sum.inr (Sum.inl (out1,o02,o12,o22))))))
     (some (Sum.inr (Sum.inr (Sum.inl (out1,o02,o12,o22)))))) fun (out2,n2,i1,o03,o13,o23) =>
   zAA (F280 (o03,o13,o23)) fun ((y4,y5,y6,y7),y8,y9,x) =>
   grdO (decide (List.length out2+1≤9223372036854775807) && decide ((List.length out2+1)*40≤140737488355328)) (some (Sum.inl (out2++[(y4,y5,y6,y7)],n2,IntKind.wrap .i64 (i1+1),y8,y9,x)))) ((out,n,(0:Int),o01,o11,o21))) fun (out1,o02,o12,o22) =>
 some ((out1,o02,o12,o22))
theorem r220 x:funT T tb280 noPl 32 tv220 (zAD Tryz.f220) ti220 to220 x=F220 x:=by kernel_rfl
def te220:=mkE 220 false [(0,[])] ti220 to220 F220 [.tmp 2] 32 [100000]
def tb220:=insT 220 te220 tb280
theorem ok220:TbOk Tryz.prog tb220:=okI ok280 noPl tv220 Tryz.func220 rfl Tryz.results220 Tryz.ntmps220 (by kernel_rfl) (by kernel_rfl) Tryz.call220 r220
abbrev ti317:SPat:=⟨[(0,.ptr 100000 0)],[.box 100000 (pl [.s,.i .i64,.b])]⟩
abbrev to317:SPat:=⟨[(2,.own zBB true)],[.box 100000 (pl [.s,.i .i64,.b])]⟩
abbrev ts317_6:SPat:=⟨[(0,.ptr 100000 0),(3,.own zBB true),(4,.i .i64),(5,.i .i64)],[.box 100000 (pl [.s,.i .i64,.b])]⟩
abbrev zJf:SPat:=⟨[(0,.ptr 100000 0),(3,.own zBB true),(4,.i .i64)],[.box 100000 (pl [.s,.i .i64,.b])]⟩
abbrev zJe:SPat:=⟨[(0,.ptr 100000 0),(3,.own zBB true),(4,.i .i64),(5,.i .i64)],[.box 100000 (pl [.s,.i .i64,.b])]⟩
abbrev zJd:SPat:=⟨[(0,.ptr 100000 0),(3,.own zBB true),(4,.i .i64),(5,.i .i64),(6,.ptr 6 0)],[.box 6 (pl [.i .i64,.i .i64]),.box 100000 (pl [.s,.i .i64,.b])]⟩
abbrev zJc:SPat:=⟨[(3,.own zBB true)],[.box 100000 (pl [.s,.i .i64,.b])]⟩
abbrev zJb:SPat:=⟨[(0,.ptr 100000 0),(3,.own zBB true),(4,.i .i64),(5,.i .i64)],[.box 100000 (pl [.s,.i .i64,.b])]⟩
def tv317:Nat→Option SPat:=fun k=>bif k == 6 then some ts317_6 else bif k == 1000005 then some zJf else bif k == 1000008 then some zJe else bif k == 1000011 then some zJd else bif k == 2000000 then some zJc else bif k == 2000001 then some zJb else none
def F317:List UInt8×Int×Bool→Option (List (Int×Int)×List UInt8×Int×Bool):=fun (o0,o1,o2) =>
 zAA (F221 (o0,o1,o2)) fun (y,y1,y2,y3) =>
 bindE (Y:=List (Int×Int)×Int×List UInt8×Int×Bool) (cndO (decide (8<y))
   (some (Sum.inl ([],y,y1,y2,true)))
   (some (Sum.inl ([],y,y1,y2,y3)))) fun (out,n,o01,o11,o21) =>
 bindE (Y:=List (Int×Int)×List UInt8×Int×Bool) (zAF (fun (out1,n1,i,o02,o12,o22) =>
   bindE (Y:=List (Int×Int)×Int×Int×List UInt8×Int×Bool) (cndO (decide (i<n1))
     (cndO (!o22)
      (some (Sum.inl (out1,n1,i,o02,o12,o22)))
      (some (Sum.inr (Sum.inr (Sum.inl (out1,o02,o12,o22))))))
     (some (Sum.inr (Sum.inr (Sum.inl (out1,o02,o12,o22)))))) fun (out2,n2,i1,o03,o13,o23) =>
   bindE (Y:=List (Int×Int)×Int×Int×List UInt8×Int×Bool) (zAA (F221 (o03,o13,o23)) fun (y4,y5,y6,y7) =>
    bindE (Y:=List (Int×Int)×Int×Int×(Int×Int)×List UInt8×Int×Bool) (cndO (decide (y4=3))
      (zAA (F222 (y5,y6,y7)) fun (y8,y9,y10,y11) =>
      some (Sum.inl (out2,n2,i1,(y4,y8),y9,y10,y11)))
      (some (Sum.inl (out2,n2,i1,(y4,(0:Int)),y5,y6,y7)))) fun (out3,n3,i2,(o04,o14),o05,o15,o24) =>
    cndO (decide (3<o04))
     (grdO (decide (List.length out3+1≤9223372036854775807) && decide ((List.length out3+1)*16≤140737488355328)) (some (Sum.inl (out3++[(o04,o14)],n3,i2,o05,o15,true))))
     (grdO (decide (List.length out3+1≤9223372036854775807) && decide ((List.length out3+1)*16≤140737488355328)) (some (Sum.inl (out3++[(o04,o14)],n3,i2,o05,o15,o24))))) fun (out3,n3,i2,o04,o14,o24) =>
   some (Sum.inl (out3,n3,IntKind.wrap .i64 (i2+1),o04,o14,o24))) ((out,n,(0:Int),o01,o11,o21))) fun (out1,o02,o12,o22) =>
 some ((out1,o02,o12,o22))
theorem r317 x:funT T tb220 noPl 47 tv317 (zAD Tryz.f317) ti317 to317 x=F317 x:=by kernel_rfl
def te317:=mkE 317 false [(0,[])] ti317 to317 F317 [.tmp 2] 47 [100000]
def tb317:=insT 317 te317 tb220
theorem ok317:TbOk Tryz.prog tb317:=okI ok220 noPl tv317 Tryz.func317 rfl Tryz.results317 Tryz.ntmps317 (by kernel_rfl) (by kernel_rfl) Tryz.call317 r317
abbrev ti281:SPat:=⟨[(0,.ptr 100000 0),(1,.agg (pl [.i .i64,.i .i64,.i .i64,.i .i64,.i .i64,.s,.nil,.nil]))],[.box 100000 (pl [.s,.i .i64,.b])]⟩
abbrev to281:SPat:=⟨[(4,.ptr 4 0)],[.box 4 (pl plN),.box 100000 (pl [.s,.i .i64,.b])]⟩
abbrev ts281_11:SPat:=⟨[(0,.ptr 100000 0),(3,.ptr 3 0),(4,.ptr 4 0),(6,.i .i64),(7,.i .i64)],[.box 3 (pl plN),.box 4 (pl plN),.box 100000 (pl [.s,.i .i64,.b])]⟩
abbrev ts281_18:SPat:=⟨[(0,.ptr 100000 0),(3,.ptr 3 0),(4,.ptr 4 0),(6,.i .i64),(8,.i .i64)],[.box 3 (pl plN),.box 4 (pl plN),.box 100000 (pl [.s,.i .i64,.b])]⟩
abbrev zKH:SPat:=⟨[(0,.ptr 100000 0),(3,.ptr 3 0),(4,.ptr 4 0),(5,.i .i64)],[.box 3 (pl plN),.box 4 (pl plN),.box 100000 (pl [.s,.i .i64,.b])]⟩
abbrev zKG:SPat:=⟨[(0,.ptr 100000 0),(3,.ptr 3 0),(4,.ptr 4 0),(6,.i .i64)],[.box 3 (pl plN),.box 4 (pl plN),.box 100000 (pl [.s,.i .i64,.b])]⟩
abbrev zKF:SPat:=⟨[(0,.ptr 100000 0),(3,.ptr 3 0),(4,.ptr 4 0),(6,.i .i64),(7,.i .i64)],[.box 3 (pl plN),.box 4 (pl plN),.box 100000 (pl [.s,.i .i64,.b])]⟩
abbrev zKE:SPat:=⟨[(0,.ptr 100000 0),(3,.ptr 3 0),(4,.ptr 4 0),(6,.i .i64)],[.box 3 (pl plN),.box 4 (pl plN),.box 100000 (pl [.s,.i .i64,.b])]⟩
abbrev zKD:SPat:=⟨[(0,.ptr 100000 0),(3,.ptr 3 0),(4,.ptr 4 0),(6,.i .i64),(8,.i .i64)],[.box 3 (pl plN),.box 4 (pl plN),.box 100000 (pl [.s,.i .i64,.b])]⟩
abbrev zKC:SPat:=⟨[(0,.ptr 100000 0),(3,.ptr 3 0),(4,.ptr 4 0)],[.box 3 (pl plN),.box 4 (pl plN),.box 100000 (pl [.s,.i .i64,.b])]⟩
abbrev zKB:SPat:=⟨[(3,.ptr 3 0),(4,.ptr 4 0)],[.box 3 (pl plN),.box 4 (pl plN),.box 100000 (pl [.s,.i .i64,.b])]⟩
def tv281:Nat→Option SPat:=fun k=>bif k == 11 then some ts281_11 else bif k == 18 then some ts281_18 else bif k == 1000006 then some zKH else bif k == 1000010 then some zKG else bif k == 1000013 then some zKF else bif k == 1000017 then some zKE else bif k == 1000020 then some zKD else bif k == 2000000 then some zKC else bif k == 2000002 then some zKB else none
def tp281:Nat→List Nat×Plan:=fun id=>bif id == 13 then ([0,1,2,4,6,8],(.br 3 [2] [0,1,4,6,8] [] (.br 5 [4,3,2] [0,1,6,8] [] (.br 7 [6,5,4,3,2] [0,1,8] [] (.br 9 [8,7,6,5,4,3,2] [0,1] [10] (.br 11 [10,9,8,7,6,5,4,3,2] [0,1] [] (.br 12 [11,10,9,8,7,6,5,4,3,2,1,0] [] [13] (.br 14 [13,12,11,10,9,8,7,6,5,4,3,2,1,0] [] [] .fin .fin) .fin) .fin) .fin) .fin) .fin) .fin)) else bif id == 20 then ([0,1,2,4,6],(.br 3 [2] [0,1,4,6] [] (.br 5 [4,3,2] [0,1,6] [] (.br 7 [6,5,4,3,2] [0,1] [8] (.br 9 [8,7,6,5,4,3,2] [0,1] [] (.br 10 [9,8,7,6,5,4,3,2,1,0] [] [11] (.br 12 [11,10,9,8,7,6,5,4,3,2,1,0] [] [] .fin .fin) .fin) .fin) .fin) .fin) .fin)) else ([],.fin)
def F281:(Int×Int×Int×Int×Int×List UInt8)×List UInt8×Int×Bool→Option ((Mth)×List UInt8×Int×Bool):=fun ((v10,v11,v12,v13,v14,v15),v16,v17,o0) =>
 zAA (F221 (v16,v17,o0)) fun (y,y1,y2,y3) =>
 zAA (F221 (y1,y2,y3)) fun (y4,y5,y6,y7) =>
 zAA (F222 (y5,y6,y7)) fun (y8,y9,y10,y11) =>
 bindE (Y:=Int×(Mth)×(Mth)×List UInt8×Int×Bool) (cndO (decide (120<y8))
   (some (Sum.inl (y8,(v10,v11,v12,y,y4,v15,[],[]),((0:Int),(0:Int),(0:Int),(0:Int),(0:Int),[],[],[]),y9,y10,true)))
   (some (Sum.inl (y8,(v10,v11,v12,y,y4,v15,[],[]),((0:Int),(0:Int),(0:Int),(0:Int),(0:Int),[],[],[]),y9,y10,y11)))) fun (v5,(o01,o1,o2,o3,o4,o5,o6,o7),(o02,o11,o21,o31,o41,o51,o61,o71),o03,o12,o22) =>
 zAA (F219 (v5,o03,o12,o22)) fun (y12,y13,y14,y15) =>
 zAA (F221 (y13,y14,y15)) fun (y16,y17,y18,y19) =>
 bindE (Y:=Int×(Mth)×(Mth)×List UInt8×Int×Bool) (cndO (decide (3<y16))
   (some (Sum.inl (y16,(o01,o1,o2,o3,o4,y12,o6,o7),(o02,o11,o21,o31,o41,o51,o61,o71),y17,y18,true)))
   (some (Sum.inl (y16,(o01,o1,o2,o3,o4,y12,o6,o7),(o02,o11,o21,o31,o41,o51,o61,o71),y17,y18,y19)))) fun (v6,(o04,o13,o23,o32,o42,o52,o62,o72),(o05,o14,o24,o33,o43,o53,o63,o73),o06,o15,o25) =>
 bindE (Y:=(Mth)×(Mth)×List UInt8×Int×Bool) (zAF (fun (v61,v7,(o07,o16,o26,o34,o44,o54,o64,o74),(o08,o17,o27,o35,o45,o55,o65,o75),o09,o18,o28) =>
   bindE (Y:=Int×Int×(Mth)×(Mth)×List UInt8×Int×Bool) (cndO (decide (v7<v61))
     (cndO (!o28)
      (some (Sum.inl (v61,v7,(o07,o16,o26,o34,o44,o54,o64,o74),(o08,o17,o27,o35,o45,o55,o65,o75),o09,o18,o28)))
      (some (Sum.inr (Sum.inr (Sum.inl ((o07,o16,o26,o34,o44,o54,o64,o74),(o08,o17,o27,o35,o45,o55,o65,o75),o09,o18,o28))))))
     (some (Sum.inr (Sum.inr (Sum.inl ((o07,o16,o26,o34,o44,o54,o64,o74),(o08,o17,o27,o35,o45,o55,o65,o75),o09,o18,o28)))))) fun (v62,v71,(o010,o19,o29,o36,o46,o56,o66,o76),(o011,o110,o210,o37,o47,o57,o67,o77),o012,o111,o211) =>
   zAA (F222 (o012,o111,o211)) fun (y20,y21,y22,y23) =>
   zAA (F222 (y21,y22,y23)) fun (y24,y25,y26,y27) =>
   zAA (F222 (y25,y26,y27)) fun (y28,y29,y30,y31) =>
   zAA (F222 (y29,y30,y31)) fun (y32,y33,y34,y35) =>
   grdO (decide (List.length o66+1≤9223372036854775807) && decide ((List.length o66+1)*32≤140737488355328)) (some (Sum.inl (v62,IntKind.wrap .i64 (v71+1),(o010,o19,o29,o36,o46,o56,o66++[(y20,y24,y28,y32)],o76),(o011,o110,o210,o37,o47,o57,o67,o77),y33,y34,y35)))) ((v6,(0:Int),(o04,o13,o23,o32,o42,o52,o62,o72),(o05,o14,o24,o33,o43,o53,o63,o73),o06,o15,o25))) fun ((o07,o16,o26,o34,o44,o54,o64,o74),(o08,o17,o27,o35,o45,o55,o65,o75),o09,o18,o28) =>
 zAA (F221 (o09,o18,o28)) fun (y20,y21,y22,y23) =>
 bindE (Y:=Int×(Mth)×(Mth)×List UInt8×Int×Bool) (cndO (decide (8<y20))
   (some (Sum.inl (y20,(o07,o16,o26,o34,o44,o54,o64,o74),(o08,o17,o27,o35,o45,o55,o65,o75),y21,y22,true)))
   (some (Sum.inl (y20,(o07,o16,o26,o34,o44,o54,o64,o74),(o08,o17,o27,o35,o45,o55,o65,o75),y21,y22,y23)))) fun (v61,(o010,o19,o29,o36,o46,o56,o66,o76),(o011,o110,o210,o37,o47,o57,o67,o77),o012,o111,o211) =>
 bindE (Y:=(Mth)×(Mth)×List UInt8×Int×Bool) (zAF (fun (v62,v8,(o013,o112,o212,o38,o48,o58,o68,o78),(o014,o113,o213,o39,o49,o59,o69,o79),o015,o114,o214) =>
   bindE (Y:=Int×Int×(Mth)×(Mth)×List UInt8×Int×Bool) (cndO (decide (v8<v62))
     (cndO (!o214)
      (some (Sum.inl (v62,v8,(o013,o112,o212,o38,o48,o58,o68,o78),(o014,o113,o213,o39,o49,o59,o69,o79),o015,o114,o214)))
      (some (Sum.inr (Sum.inr (Sum.inl ((o013,o112,o212,o38,o48,o58,o68,o78),(o014,o113,o213,o39,o49,o59,o69,o79),o015,o114,o214))))))
     (some (Sum.inr (Sum.inr (Sum.inl ((o013,o112,o212,o38,o48,o58,o68,o78),(o014,o113,o213,o39,o49,o59,o69,o79),o015,o114,o214)))))) fun (v63,v81,(o016,o115,o215,o310,o410,o510,o610,o710),(o017,o116,o216,o311,o411,o511,o611,o711),o018,o117,o217) =>
   zAA (F222 (o018,o117,o217)) fun (y24,y25,y26,y27) =>
   zAA (F317 (y25,y26,y27)) fun (y28,y29,y30,y31) =>
   zAA (F317 (y29,y30,y31)) fun (y32,y33,y34,y35) =>
   grdO (decide (List.length o710+1≤9223372036854775807) && decide ((List.length o710+1)*56≤140737488355328)) (some (Sum.inl (v63,IntKind.wrap .i64 (v81+1),(o016,o115,o215,o310,o410,o510,o610,o710++[(y24,y28,y32)]),(o017,o116,o216,o311,o411,o511,o611,o711),y33,y34,y35)))) ((v61,(0:Int),(o010,o19,o29,o36,o46,o56,o66,o76),(o011,o110,o210,o37,o47,o57,o67,o77),o012,o111,o211))) fun ((o013,o112,o212,o38,o48,o58,o68,o78),(o014,o113,o213,o39,o49,o59,o69,o79),o015,o114,o214) =>
 some (((o013,o112,o212,o38,o48,o58,o68,o78),o015,o114,o214))
theorem r281 x:funT T tb317 tp281 91 tv281 (zAD Tryz.f281) ti281 to281 x=F281 x:=by kernel_rfl
def te281:=mkE 281 false [(0,[])] ti281 to281 F281 [.cell 4 53] 91 [100000]
def tb281:=insT 281 te281 tb317
theorem ok281:TbOk Tryz.prog tb281:=okI ok317 tp281 tv281 Tryz.func281 rfl Tryz.results281 Tryz.ntmps281 (by kernel_rfl) (by kernel_rfl) Tryz.call281 r281
abbrev ti223:SPat:=⟨[(0,.ptr 100000 0)],[.box 100000 (pl [.s,.i .i64,.b])]⟩
abbrev to223:SPat:=⟨[(2,.ptr 2 0)],[.box 2 (pl plN),.box 100000 (pl [.s,.i .i64,.b])]⟩
def F223:List UInt8×Int×Bool→Option ((Mth)×List UInt8×Int×Bool):=fun (o0,o1,o2) =>
 zAA (F221 (o0,o1,o2)) fun (y,y1,y2,y3) =>
 zAA (F222 (y1,y2,y3)) fun (y4,y5,y6,y7) =>
 zAA (F222 (y5,y6,y7)) fun (y8,y9,y10,y11) =>
 cndO (decide (IntKind.wrap .i64 (Int.tdiv (Int.tmod y (16:Int)) (8:Int))=1))
  (some (((y,y4,y8,(0:Int),(0:Int),[],[],[]),y9,y10,y11)))
  (zAA (F281 ((y,y4,y8,(0:Int),(0:Int),[]),y9,y10,y11)) fun ((y12,y13,y14,y15,y16,y17,x,x1),x2,x3,x4) =>
  some (((y12,y13,y14,y15,y16,y17,x,x1),x2,x3,x4)))
theorem r223 x:funT T tb281 noPl 20 noIv (zAD Tryz.f223) ti223 to223 x=F223 x:=by kernel_rfl
def te223:=mkE 223 false [(0,[])] ti223 to223 F223 [.cell 2 53] 20 [100000]
def tb223:=insT 223 te223 tb281
theorem ok223:TbOk Tryz.prog tb223:=okI ok281 noPl noIv Tryz.func223 rfl Tryz.results223 Tryz.ntmps223 (by kernel_rfl) (by kernel_rfl) Tryz.call223 r223
abbrev ti142:SPat:=⟨[(0,.ptr 100000 0)],[.box 100000 (pl [.s,.i .i64,.b])]⟩
abbrev to142:SPat:=⟨[(2,.ptr 2 0)],[.box 2 (pl plD),.box 100000 (pl [.s,.i .i64,.b])]⟩
abbrev ts142_12:SPat:=⟨[(0,.ptr 100000 0),(2,.ptr 2 0),(3,.ptr 3 0),(4,.i .i64),(5,.i .i64)],[.box 2 (pl plD),.box 3 (pl plD),.box 100000 (pl [.s,.i .i64,.b])]⟩
abbrev ts142_19:SPat:=⟨[(0,.ptr 100000 0),(2,.ptr 2 0),(3,.ptr 3 0),(4,.i .i64),(6,.i .i64)],[.box 2 (pl plD),.box 3 (pl plD),.box 100000 (pl [.s,.i .i64,.b])]⟩
abbrev ts142_26:SPat:=⟨[(0,.ptr 100000 0),(2,.ptr 2 0),(3,.ptr 3 0),(4,.i .i64),(7,.i .i64)],[.box 2 (pl plD),.box 3 (pl plD),.box 100000 (pl [.s,.i .i64,.b])]⟩
abbrev zLv:SPat:=⟨[(0,.ptr 100000 0),(2,.ptr 2 0),(3,.ptr 3 0)],[.box 2 (pl plD),.box 3 (pl plD),.box 100000 (pl [.s,.i .i64,.b])]⟩
abbrev zLu:SPat:=⟨[(0,.ptr 100000 0),(2,.ptr 2 0),(3,.ptr 3 0),(4,.i .i64)],[.box 2 (pl plD),.box 3 (pl plD),.box 100000 (pl [.s,.i .i64,.b])]⟩
abbrev zLt:SPat:=⟨[(0,.ptr 100000 0),(2,.ptr 2 0),(3,.ptr 3 0),(4,.i .i64),(5,.i .i64)],[.box 2 (pl plD),.box 3 (pl plD),.box 100000 (pl [.s,.i .i64,.b])]⟩
abbrev zLs:SPat:=⟨[(0,.ptr 100000 0),(2,.ptr 2 0),(3,.ptr 3 0),(4,.i .i64)],[.box 2 (pl plD),.box 3 (pl plD),.box 100000 (pl [.s,.i .i64,.b])]⟩
abbrev zLr:SPat:=⟨[(0,.ptr 100000 0),(2,.ptr 2 0),(3,.ptr 3 0),(4,.i .i64),(6,.i .i64)],[.box 2 (pl plD),.box 3 (pl plD),.box 100000 (pl [.s,.i .i64,.b])]⟩
abbrev zLq:SPat:=⟨[(0,.ptr 100000 0),(2,.ptr 2 0),(3,.ptr 3 0),(4,.i .i64)],[.box 2 (pl plD),.box 3 (pl plD),.box 100000 (pl [.s,.i .i64,.b])]⟩
abbrev zLp:SPat:=⟨[(0,.ptr 100000 0),(2,.ptr 2 0),(3,.ptr 3 0),(4,.i .i64),(7,.i .i64)],[.box 2 (pl plD),.box 3 (pl plD),.box 100000 (pl [.s,.i .i64,.b])]⟩
abbrev zLo:SPat:=⟨[(0,.ptr 100000 0),(2,.ptr 2 0),(3,.ptr 3 0)],[.box 2 (pl plD),.box 3 (pl plD),.box 100000 (pl [.s,.i .i64,.b])]⟩
abbrev zLn:SPat:=⟨[(0,.ptr 100000 0),(2,.ptr 2 0),(3,.ptr 3 0)],[.box 2 (pl plD),.box 3 (pl plD),.box 100000 (pl [.s,.i .i64,.b])]⟩
abbrev zLm:SPat:=⟨[(2,.ptr 2 0),(3,.ptr 3 0)],[.box 2 (pl plD),.box 3 (pl plD),.box 100000 (pl [.s,.i .i64,.b])]⟩
def tv142:Nat→Option SPat:=fun k=>bif k == 12 then some ts142_12 else bif k == 19 then some ts142_19 else bif k == 26 then some ts142_26 else bif k == 1000004 then some zLv else bif k == 1000011 then some zLu else bif k == 1000014 then some zLt else bif k == 1000018 then some zLs else bif k == 1000021 then some zLr else bif k == 1000025 then some zLq else bif k == 1000028 then some zLp else bif k == 2000000 then some zLo else bif k == 2000002 then some zLn else bif k == 2000004 then some zLm else none
def tp142:Nat→List Nat×Plan:=fun id=>bif id == 14 then ([0,1,2],(.br 3 [2] [0,1] [] (.br 4 [3,2] [0,1] [] (.br 5 [4,3,2,1,0] [] [6] (.br 7 [6,5,4,3,2,1,0] [] [] .fin .fin) .fin) .fin) .fin)) else bif id == 21 then ([0,1,2,4,6],(.br 3 [2] [0,1,4,6] [] (.br 5 [4,3,2] [0,1,6] [] (.br 7 [6,5,4,3,2] [0,1] [8] (.br 9 [8,7,6,5,4,3,2] [0,1] [] (.br 10 [9,8,7,6,5,4,3,2,1,0] [] [11] (.br 12 [11,10,9,8,7,6,5,4,3,2,1,0] [] [] .fin .fin) .fin) .fin) .fin) .fin) .fin)) else bif id == 28 then ([0,1,2],(.br 3 [2] [0,1] [] (.br 4 [3,2] [0,1] [] (.br 5 [4,3,2,1,0] [] [6] (.br 7 [6,5,4,3,2,1,0] [] [] .fin .fin) .fin) .fin) .fin)) else ([],.fin)
def F142:List UInt8×Int×Bool→Option ((Cls)×List UInt8×Int×Bool):=fun (o0,o1,o2) =>
 bindE (Y:=(Cls)×(Cls)×List UInt8×Int×Bool) (zAA (F219 ((4:Int),o0,o1,o2)) fun (y,y1,y2,y3) =>
  cndO (!decide (y=[(83:UInt8),84,79,87]))
   (some (Sum.inl (([],(0:Int),(0:Int),(0:Int),[],[],[]),([],(0:Int),(0:Int),(0:Int),[],[],[]),y1,y2,true)))
   (some (Sum.inl (([],(0:Int),(0:Int),(0:Int),[],[],[]),([],(0:Int),(0:Int),(0:Int),[],[],[]),y1,y2,y3)))) fun ((o01,o11,o21,o3,o4,o5,o6),(o02,o12,o22,o31,o41,o51,o61),o03,o13,o23) =>
 zAA (F220 (o03,o13,o23)) fun (y,y1,y2,y3) =>
 zAA (F221 (y1,y2,y3)) fun (y4,y5,y6,y7) =>
 zAA (F222 (y5,y6,y7)) fun (y8,y9,y10,y11) =>
 zAA (F222 (y9,y10,y11)) fun (y12,y13,y14,y15) =>
 zAA (F221 (y13,y14,y15)) fun (y16,y17,y18,y19) =>
 bindE (Y:=Int×(Cls)×(Cls)×List UInt8×Int×Bool) (cndO (decide (3<y16))
   (some (Sum.inl (y16,(o01,o11,o21,o3,o4,o5,o6),(y,y4,y8,y12,o41,o51,o61),y17,y18,true)))
   (some (Sum.inl (y16,(o01,o11,o21,o3,o4,o5,o6),(y,y4,y8,y12,o41,o51,o61),y17,y18,y19)))) fun (v4,(o04,o14,o24,o32,o42,o52,o62),(o05,o15,o25,o33,o43,o53,o63),o06,o16,o26) =>
 bindE (Y:=(Cls)×(Cls)×List UInt8×Int×Bool) (zAF (fun (v41,v5,(o07,o17,o27,o34,o44,o54,o64),(o08,o18,o28,o35,o45,o55,o65),o09,o19,o29) =>
   bindE (Y:=Int×Int×(Cls)×(Cls)×List UInt8×Int×Bool) (cndO (decide (v5<v41))
     (cndO (!o29)
      (some (Sum.inl (v41,v5,(o07,o17,o27,o34,o44,o54,o64),(o08,o18,o28,o35,o45,o55,o65),o09,o19,o29)))
      (some (Sum.inr (Sum.inr (Sum.inl ((o07,o17,o27,o34,o44,o54,o64),(o08,o18,o28,o35,o45,o55,o65),o09,o19,o29))))))
     (some (Sum.inr (Sum.inr (Sum.inl ((o07,o17,o27,o34,o44,o54,o64),(o08,o18,o28,o35,o45,o55,o65),o09,o19,o29)))))) fun (v42,v51,(o010,o110,o210,o36,o46,o56,o66),(o011,o111,o211,o37,o47,o57,o67),o012,o112,o212) =>
   zAA (F222 (o012,o112,o212)) fun (y20,y21,y22,y23) =>
   grdO (decide (List.length o47+1≤9223372036854775807) && decide ((List.length o47+1)*8≤140737488355328)) (some (Sum.inl (v42,IntKind.wrap .i64 (v51+1),(o010,o110,o210,o36,o46,o56,o66),(o011,o111,o211,o37,o47++[y20],o57,o67),y21,y22,y23)))) ((v4,(0:Int),(o04,o14,o24,o32,o42,o52,o62),(o05,o15,o25,o33,o43,o53,o63),o06,o16,o26))) fun ((o07,o17,o27,o34,o44,o54,o64),(o08,o18,o28,o35,o45,o55,o65),o09,o19,o29) =>
 zAA (F221 (o09,o19,o29)) fun (y20,y21,y22,y23) =>
 bindE (Y:=Int×(Cls)×(Cls)×List UInt8×Int×Bool) (cndO (decide (5<y20))
   (some (Sum.inl (y20,(o07,o17,o27,o34,o44,o54,o64),(o08,o18,o28,o35,o45,o55,o65),y21,y22,true)))
   (some (Sum.inl (y20,(o07,o17,o27,o34,o44,o54,o64),(o08,o18,o28,o35,o45,o55,o65),y21,y22,y23)))) fun (v41,(o010,o110,o210,o36,o46,o56,o66),(o011,o111,o211,o37,o47,o57,o67),o012,o112,o212) =>
 bindE (Y:=(Cls)×(Cls)×List UInt8×Int×Bool) (zAF (fun (v42,v6,(o013,o113,o213,o38,o48,o58,o68),(o014,o114,o214,o39,o49,o59,o69),o015,o115,o215) =>
   bindE (Y:=Int×Int×(Cls)×(Cls)×List UInt8×Int×Bool) (cndO (decide (v6<v42))
     (cndO (!o215)
      (some (Sum.inl (v42,v6,(o013,o113,o213,o38,o48,o58,o68),(o014,o114,o214,o39,o49,o59,o69),o015,o115,o215)))
      (some (Sum.inr (Sum.inr (Sum.inl ((o013,o113,o213,o38,o48,o58,o68),(o014,o114,o214,o39,o49,o59,o69),o015,o115,o215))))))
     (some (Sum.inr (Sum.inr (Sum.inl ((o013,o113,o213,o38,o48,o58,o68),(o014,o114,o214,o39,o49,o59,o69),o015,o115,o215)))))) fun (v43,v61,(o016,o116,o216,o310,o410,o510,o610),(o017,o117,o217,o311,o411,o511,o611),o018,o118,o218) =>
   zAA (F221 (o018,o118,o218)) fun (y24,y25,y26,y27) =>
   zAA (F222 (y25,y26,y27)) fun (y28,y29,y30,y31) =>
   zAA (F222 (y29,y30,y31)) fun (y32,y33,y34,y35) =>
   grdO (decide (List.length o511+1≤9223372036854775807) && decide ((List.length o511+1)*24≤140737488355328)) (some (Sum.inl (v43,IntKind.wrap .i64 (v61+1),(o016,o116,o216,o310,o410,o510,o610),(o017,o117,o217,o311,o411,o511++[(y24,y28,y32)],o611),y33,y34,y35)))) ((v41,(0:Int),(o010,o110,o210,o36,o46,o56,o66),(o011,o111,o211,o37,o47,o57,o67),o012,o112,o212))) fun ((o013,o113,o213,o38,o48,o58,o68),(o014,o114,o214,o39,o49,o59,o69),o015,o115,o215) =>
 zAA (F221 (o015,o115,o215)) fun (y24,y25,y26,y27) =>
 bindE (Y:=Int×(Cls)×(Cls)×List UInt8×Int×Bool) (cndO (decide (6<y24))
   (some (Sum.inl (y24,(o013,o113,o213,o38,o48,o58,o68),(o014,o114,o214,o39,o49,o59,o69),y25,y26,true)))
   (some (Sum.inl (y24,(o013,o113,o213,o38,o48,o58,o68),(o014,o114,o214,o39,o49,o59,o69),y25,y26,y27)))) fun (v42,(o016,o116,o216,o310,o410,o510,o610),(o017,o117,o217,o311,o411,o511,o611),o018,o118,o218) =>
 bindE (Y:=(Cls)×(Cls)×List UInt8×Int×Bool) (zAF (fun (v43,v7,(o019,o119,o219,o312,o412,o512,o612),(o020,o120,o220,o313,o413,o513,o613),o021,o121,o221) =>
   bindE (Y:=Int×Int×(Cls)×(Cls)×List UInt8×Int×Bool) (cndO (decide (v7<v43))
     (cndO (!o221)
      (some (Sum.inl (v43,v7,(o019,o119,o219,o312,o412,o512,o612),(o020,o120,o220,o313,o413,o513,o613),o021,o121,o221)))
      (some (Sum.inr (Sum.inr (Sum.inl ((o019,o119,o219,o312,o412,o512,o612),(o020,o120,o220,o313,o413,o513,o613),o021,o121,o221))))))
     (some (Sum.inr (Sum.inr (Sum.inl ((o019,o119,o219,o312,o412,o512,o612),(o020,o120,o220,o313,o413,o513,o613),o021,o121,o221)))))) fun (v44,v71,(o022,o122,o222,o314,o414,o514,o614),(o023,o123,o223,o315,o415,o515,o615),o024,o124,o224) =>
   zAA (F223 (o024,o124,o224)) fun ((y28,y29,y30,y31,y32,y33,x,x1),x2,x3,x4) =>
   grdO (decide (List.length o615+1≤9223372036854775807) && decide ((List.length o615+1)*104≤140737488355328)) (some (Sum.inl (v44,IntKind.wrap .i64 (v71+1),(o022,o122,o222,o314,o414,o514,o614),(o023,o123,o223,o315,o415,o515,o615++[(y28,y29,y30,y31,y32,y33,x,x1)]),x2,x3,x4)))) ((v42,(0:Int),(o016,o116,o216,o310,o410,o510,o610),(o017,o117,o217,o311,o411,o511,o611),o018,o118,o218))) fun ((o019,o119,o219,o312,o412,o512,o612),(o020,o120,o220,o313,o413,o513,o613),o021,o121,o221) =>
 some (((o020,o120,o220,o313,o413,o513,o613),o021,o121,o221))
theorem r142 x:funT T tb223 tp142 111 tv142 (zAD Tryz.f142) ti142 to142 x=F142 x:=by kernel_rfl
def te142:=mkE 142 false [(0,[])] ti142 to142 F142 [.cell 2 34] 111 [100000]
def tb142:=insT 142 te142 tb223
theorem ok142:TbOk Tryz.prog tb142:=okI ok223 tp142 tv142 Tryz.func142 rfl Tryz.results142 Tryz.ntmps142 (by kernel_rfl) (by kernel_rfl) Tryz.call142 r142
abbrev ti63:SPat:=⟨[(0,.s)],[]⟩
abbrev to63:SPat:=⟨[(2,.ptr 2 0),(3,.b)],[.box 2 (pl plD)]⟩
def F63:List UInt8→Option (Bool×Cls):=fun s =>
 cndO (decide (900<(s.length:Int)))
  (some ((false,[],(0:Int),(0:Int),(0:Int),[],[],[])))
  (zAA (F142 (s,(0:Int),false)) fun ((y,y1,y2,y3,y4,y5,x),x1,x2,x3) =>
  cndO (x3)
   (some ((false,[],(0:Int),(0:Int),(0:Int),[],[],[])))
   (cndO (!decide (x2=(s.length:Int)))
    (some ((false,[],(0:Int),(0:Int),(0:Int),[],[],[])))
    (zAA (F55 (y,y1,y2,y3,y4,y5,x)) fun y6 =>
    cndO (!decide (y6=s))
     (some ((false,[],(0:Int),(0:Int),(0:Int),[],[],[])))
     (some ((true,y,y1,y2,y3,y4,y5,x))))))
theorem r63 x:funT T tb142 noPl 36 noIv (zAD Tryz.f63) ti63 to63 x=F63 x:=by kernel_rfl
def te63:=mkE 63 false [] ti63 to63 F63 [.cell 2 34,.tmp 3] 36 []
def tb63:=insT 63 te63 tb142
theorem ok63:TbOk Tryz.prog tb63:=okI ok142 noPl noIv Tryz.func63 rfl Tryz.results63 Tryz.ntmps63 (by kernel_rfl) (by kernel_rfl) Tryz.call63 r63
abbrev ti152:SPat:=⟨[(0,.sl tg27),(1,.sl tg27)],[]⟩
abbrev to152:SPat:=⟨[(4,.b)],[]⟩
abbrev ts152_4:SPat:=⟨[(0,.sl tg27),(1,.sl tg27),(5,.i .i64)],[]⟩
abbrev zLf:SPat:=⟨[],[]⟩
def tv152:Nat→Option SPat:=fun k=>bif k == 4 then some ts152_4 else bif k == 2000000 then some zLf else none
def tp152:Nat→List Nat×Plan:=fun id=>bif id == 6 then ([0,1,2,3,4,5,6,7,8],.fin) else ([],.fin)
def F152:List Cst×List Cst→Option (Bool):=fun (a,b) =>
 cndO (!decide ((a.length:Int)=(b.length:Int)))
  (some (false))
  (bindE (zAF (fun (a1,b1,i) =>
    cndO (decide (i<(a1.length:Int)))
     (grdO (decide (0≤i)) (atO (a1) i.toNat fun x=>grdO (decide (0≤i)) (atO (b1) i.toNat fun x1=>cndO (!(decide (x.1=x1.1) && (decide (x.2.1=x1.2.1) && (decide (x.2.2.1=x1.2.2.1) && (decide (x.2.2.2=x1.2.2.2) && true)))))
      (some (Sum.inr (Sum.inr false)))
      (some (Sum.inl (a1,b1,IntKind.wrap .i64 (i+1)))))))
     (some (Sum.inr (Sum.inl ())))) ((a,b,(0:Int)))) fun _ =>
  some (true))
theorem r152 x:funT T tb63 tp152 26 tv152 (zAD Tryz.f152) ti152 to152 x=F152 x:=by kernel_rfl
def te152:=mkE 152 true [] ti152 to152 F152 [.tmp 4] 26 []
def tb152:=insT 152 te152 tb63
theorem ok152:TbOk Tryz.prog tb152:=okI ok63 tp152 tv152 Tryz.func152 rfl Tryz.results152 Tryz.ntmps152 (by kernel_rfl) (by kernel_rfl) Tryz.call152 r152
abbrev ti282:SPat:=⟨[(0,.sl zBB),(1,.sl zBB)],[]⟩
abbrev to282:SPat:=⟨[(4,.b)],[]⟩
abbrev ts282_4:SPat:=⟨[(0,.sl zBB),(1,.sl zBB),(5,.i .i64)],[]⟩
abbrev zKA:SPat:=⟨[],[]⟩
def tv282:Nat→Option SPat:=fun k=>bif k == 4 then some ts282_4 else bif k == 2000000 then some zKA else none
def tp282:Nat→List Nat×Plan:=fun id=>bif id == 6 then ([0,1,2,3,4,5,6,7,8],.fin) else ([],.fin)
def F282:List (Int×Int)×List (Int×Int)→Option (Bool):=fun (a,b) =>
 cndO (!decide ((a.length:Int)=(b.length:Int)))
  (some (false))
  (bindE (zAF (fun (a1,b1,i) =>
    cndO (decide (i<(a1.length:Int)))
     (grdO (decide (0≤i)) (atO (a1) i.toNat fun x=>grdO (decide (0≤i)) (atO (b1) i.toNat fun x1=>cndO (!(decide (x.1=x1.1) && (decide (x.2=x1.2) && true)))
      (some (Sum.inr (Sum.inr false)))
      (some (Sum.inl (a1,b1,IntKind.wrap .i64 (i+1)))))))
     (some (Sum.inr (Sum.inl ())))) ((a,b,(0:Int)))) fun _ =>
  some (true))
theorem r282 x:funT T tb152 tp282 26 tv282 (zAD Tryz.f282) ti282 to282 x=F282 x:=by kernel_rfl
def te282:=mkE 282 true [] ti282 to282 F282 [.tmp 4] 26 []
def tb282:=insT 282 te282 tb152
theorem ok282:TbOk Tryz.prog tb282:=okI ok152 tp282 tv282 Tryz.func282 rfl Tryz.results282 Tryz.ntmps282 (by kernel_rfl) (by kernel_rfl) Tryz.call282 r282
abbrev ti228:SPat:=⟨[(0,.sl zBb),(1,.sl zBb)],[]⟩
abbrev to228:SPat:=⟨[(4,.b)],[]⟩
abbrev ts228_4:SPat:=⟨[(0,.sl zBb),(1,.sl zBb),(5,.i .i64)],[]⟩
abbrev zKi:SPat:=⟨[],[]⟩
abbrev zKh:SPat:=⟨[(0,.sl zBb),(1,.sl zBb),(5,.i .i64)],[]⟩
def tv228:Nat→Option SPat:=fun k=>bif k == 4 then some ts228_4 else bif k == 2000000 then some zKi else bif k == 2000001 then some zKh else none
def tp228:Nat→List Nat×Plan:=fun id=>bif id == 6 then ([0,1,2,3,4,5,6,7,8,9,10,11,12,13,14,15,16,17,18,19,20,21],(.br 22 [21,20,19,18,17,16,15,14,13,12,11,10,9,8,7,6,5,4,3,2,1,0] [] [23,24,25,26,27,28,29,30,31,32,33,34,35] (.br 36 [35,34,33,32,31,30,29,28,27,26,25,24,23,22,21,20,19,18,17,16,15,14,13,12,11,10,9,8,7,6,5,4,3,2,1,0] [] [37,38] .fin .fin) .fin)) else ([],.fin)
def F228:List Frm×List Frm→Option (Bool):=fun (a,b) =>
 cndO (!decide ((a.length:Int)=(b.length:Int)))
  (some (false))
  (bindE (zAF (fun (a1,b1,i) =>
    cndO (decide (i<(a1.length:Int)))
     (bindE (Y:=List Frm×List Frm×Int) (grdO (decide (0≤i)) (atO (a1) i.toNat fun x=>grdO (decide (0≤i)) (atO (b1) i.toNat fun x1=>cndO (!decide (x.1=x1.1))
       (some (Sum.inr (Sum.inr (Sum.inr false))))
       (grdO (decide (0≤i)) (atO (a1) i.toNat fun x2=>grdO (decide (0≤i)) (atO (b1) i.toNat fun x3=>zAA (F282 (x2.2.1,x3.2.1)) fun y =>
       cndO (!y)
        (some (Sum.inr (Sum.inr (Sum.inr false))))
        (grdO (decide (0≤i)) (atO (a1) i.toNat fun x4=>grdO (decide (0≤i)) (atO (b1) i.toNat fun x5=>zAA (F282 (x4.2.2,x5.2.2)) fun y1 =>
        cndO (!y1)
         (some (Sum.inr (Sum.inr (Sum.inr false))))
         (some (Sum.inl (a1,b1,i)))))))))))) fun (a2,b2,i1) =>
     some (Sum.inl (a2,b2,IntKind.wrap .i64 (i1+1))))
     (some (Sum.inr (Sum.inl ())))) ((a,b,(0:Int)))) fun _ =>
  some (true))
theorem r228 x:funT T tb282 tp228 56 tv228 (zAD Tryz.f228) ti228 to228 x=F228 x:=by kernel_rfl
def te228:=mkE 228 true [] ti228 to228 F228 [.tmp 4] 56 []
def tb228:=insT 228 te228 tb282
theorem ok228:TbOk Tryz.prog tb228:=okI ok282 tp228 tv228 Tryz.func228 rfl Tryz.results228 Tryz.ntmps228 (by kernel_rfl) (by kernel_rfl) Tryz.call228 r228
abbrev ti153:SPat:=⟨[(0,.agg (pl plM)),(1,.agg (pl plM))],[]⟩
abbrev to153:SPat:=⟨[(4,.b)],[]⟩
abbrev ts153_4:SPat:=⟨[(2,.ptr 2 0),(3,.ptr 3 0),(5,.i .i64)],[.box 2 (pl plM),.box 3 (pl plM)]⟩
abbrev zLe:SPat:=⟨[(2,.ptr 2 0),(3,.ptr 3 0)],[.box 2 (pl plM),.box 3 (pl plM)]⟩
abbrev zLd:SPat:=⟨[(2,.ptr 2 0),(3,.ptr 3 0)],[.box 2 (pl plM),.box 3 (pl plM)]⟩
def tv153:Nat→Option SPat:=fun k=>bif k == 4 then some ts153_4 else bif k == 1000003 then some zLe else bif k == 2000000 then some zLd else none
def tp153:Nat→List Nat×Plan:=fun id=>bif id == 6 then ([0,1,2,3,4,5,6,7,8,9,10],.fin) else ([],.fin)
def F153:(Mth)×Mth→Option (Bool):=fun ((app0,app1,app2,app3,app4,app5,app6,app7),v10,v11,v12,v13,v14,v15,v16,v17) =>
 bindE (Y:=(Mth)×Mth) (cndO (!decide (app0=v10))
   (some (Sum.inr false))
   (cndO (!decide (app1=v11))
    (some (Sum.inr false))
    (cndO (!decide (app2=v12))
     (some (Sum.inr false))
     (cndO (!decide (app3=v13))
      (some (Sum.inr false))
      (cndO (!decide (app4=v14))
       (some (Sum.inr false))
       (cndO (!decide (app5=v15))
        (some (Sum.inr false))
        (cndO (!decide ((app6.length:Int)=(v16.length:Int)))
         (some (Sum.inr false))
         (some (Sum.inl ((app0,app1,app2,app3,app4,app5,app6,app7),v10,v11,v12,v13,v14,v15,v16,v17)))))))))) fun ((o0,o1,o2,o3,o4,o5,o6,o7),o01,o11,o21,o31,o41,o51,o61,o71) =>
 bindE (Y:=(Mth)×Mth) (zAF (fun (v5,(o02,o12,o22,o32,o42,o52,o62,o72),o03,o13,o23,o33,o43,o53,o63,o73) =>
   cndO (decide (v5<(o62.length:Int)))
    (grdO (decide (0≤v5)) (atO (o62) v5.toNat fun x=>grdO (decide (0≤v5)) (atO (o63) v5.toNat fun x1=>cndO (!(decide (x.1=x1.1) && (decide (x.2.1=x1.2.1) && (decide (x.2.2.1=x1.2.2.1) && (decide (x.2.2.2=x1.2.2.2) && true)))))
     (some (Sum.inr (Sum.inr false)))
     (some (Sum.inl (IntKind.wrap .i64 (v5+1),(o02,o12,o22,o32,o42,o52,o62,o72),o03,o13,o23,o33,o43,o53,o63,o73))))))
    (some (Sum.inr (Sum.inl ((o02,o12,o22,o32,o42,o52,o62,o72),o03,o13,o23,o33,o43,o53,o63,o73))))) (((0:Int),(o0,o1,o2,o3,o4,o5,o6,o7),o01,o11,o21,o31,o41,o51,o61,o71))) fun ((o02,o12,o22,o32,o42,o52,o62,o72),o03,o13,o23,o33,o43,o53,o63,o73) =>
 zAA (F228 (o72,o73)) fun y =>
 some (y)
theorem r153 x:funT T tb228 tp153 78 tv153 (zAD Tryz.f153) ti153 to153 x=F153 x:=by kernel_rfl
def te153:=mkE 153 true [] ti153 to153 F153 [.tmp 4] 78 []
def tb153:=insT 153 te153 tb228
theorem ok153:TbOk Tryz.prog tb153:=okI ok228 tp153 tv153 Tryz.func153 rfl Tryz.results153 Tryz.ntmps153 (by kernel_rfl) (by kernel_rfl) Tryz.call153 r153
abbrev ti70:SPat:=⟨[(0,.agg (pl plC)),(1,.agg (pl plC))],[]⟩
abbrev to70:SPat:=⟨[(4,.b)],[]⟩
abbrev ts70_4:SPat:=⟨[(2,.ptr 2 0),(3,.ptr 3 0),(5,.i .i64)],[.box 2 (pl plC),.box 3 (pl plC)]⟩
abbrev ts70_9:SPat:=⟨[(2,.ptr 2 0),(3,.ptr 3 0),(6,.i .i64)],[.box 2 (pl plC),.box 3 (pl plC)]⟩
abbrev ts70_14:SPat:=⟨[(2,.ptr 2 0),(3,.ptr 3 0),(7,.i .i64)],[.box 2 (pl plC),.box 3 (pl plC)]⟩
abbrev zNK:SPat:=⟨[(2,.ptr 2 0),(3,.ptr 3 0)],[.box 2 (pl plC),.box 3 (pl plC)]⟩
abbrev zNJ:SPat:=⟨[(2,.ptr 2 0),(3,.ptr 3 0)],[.box 2 (pl plC),.box 3 (pl plC)]⟩
abbrev zNI:SPat:=⟨[(2,.ptr 2 0),(3,.ptr 3 0)],[.box 2 (pl plC),.box 3 (pl plC)]⟩
abbrev zNH:SPat:=⟨[],[]⟩
def tv70:Nat→Option SPat:=fun k=>bif k == 4 then some ts70_4 else bif k == 9 then some ts70_9 else bif k == 14 then some ts70_14 else bif k == 1000003 then some zNK else bif k == 2000000 then some zNJ else bif k == 2000002 then some zNI else bif k == 2000004 then some zNH else none
def tp70:Nat→List Nat×Plan:=fun id=>bif id == 6 then ([0,1,2,3,4,5,6,7,8,9,10],.fin) else bif id == 11 then ([0,1,2,3,4,5,6,7,8,9,10],.fin) else bif id == 16 then ([0,1,2,3,4,5,6,7,8,9],(.br 10 [9,8,7,6,5,4,3,2,1,0] [] [11] .fin .fin)) else ([],.fin)
def F70:(Cls)×Cls→Option (Bool):=fun ((app0,app1,app2,app3,app4,app5,app6),v10,v11,v12,v13,v14,v15,v16) =>
 bindE (Y:=(Cls)×Cls) (zAA (F152 (app0,v10)) fun y =>
  cndO (!y)
   (some (Sum.inr false))
   (cndO (!decide (app1=v11))
    (some (Sum.inr false))
    (cndO (!decide (app2=v12))
     (some (Sum.inr false))
     (cndO (!decide (app3=v13))
      (some (Sum.inr false))
      (cndO (!decide ((app4.length:Int)=(v14.length:Int)))
       (some (Sum.inr false))
       (cndO (!decide ((app5.length:Int)=(v15.length:Int)))
        (some (Sum.inr false))
        (cndO (!decide ((app6.length:Int)=(v16.length:Int)))
         (some (Sum.inr false))
         (some (Sum.inl ((app0,app1,app2,app3,app4,app5,app6),v10,v11,v12,v13,v14,v15,v16)))))))))) fun ((o0,o1,o2,o3,o4,o5,o6),o01,o11,o21,o31,o41,o51,o61) =>
 bindE (Y:=(Cls)×Cls) (zAF (fun (v5,(o02,o12,o22,o32,o42,o52,o62),o03,o13,o23,o33,o43,o53,o63) =>
   cndO (decide (v5<(o42.length:Int)))
    (grdO (decide (0≤v5)) (atO (o42) v5.toNat fun x=>grdO (decide (0≤v5)) (atO (o43) v5.toNat fun x1=>cndO (!decide (x=x1))
     (some (Sum.inr (Sum.inr false)))
     (some (Sum.inl (IntKind.wrap .i64 (v5+1),(o02,o12,o22,o32,o42,o52,o62),o03,o13,o23,o33,o43,o53,o63))))))
    (some (Sum.inr (Sum.inl ((o02,o12,o22,o32,o42,o52,o62),o03,o13,o23,o33,o43,o53,o63))))) (((0:Int),(o0,o1,o2,o3,o4,o5,o6),o01,o11,o21,o31,o41,o51,o61))) fun ((o02,o12,o22,o32,o42,o52,o62),o03,o13,o23,o33,o43,o53,o63) =>
 bindE (Y:=(Cls)×Cls) (zAF (fun (v6,(o04,o14,o24,o34,o44,o54,o64),o05,o15,o25,o35,o45,o55,o65) =>
   cndO (decide (v6<(o54.length:Int)))
    (grdO (decide (0≤v6)) (atO (o54) v6.toNat fun x=>grdO (decide (0≤v6)) (atO (o55) v6.toNat fun x1=>cndO (!(decide (x.1=x1.1) && (decide (x.2.1=x1.2.1) && (decide (x.2.2=x1.2.2) && true))))
     (some (Sum.inr (Sum.inr false)))
     (some (Sum.inl (IntKind.wrap .i64 (v6+1),(o04,o14,o24,o34,o44,o54,o64),o05,o15,o25,o35,o45,o55,o65))))))
    (some (Sum.inr (Sum.inl ((o04,o14,o24,o34,o44,o54,o64),o05,o15,o25,o35,o45,o55,o65))))) (((0:Int),(o02,o12,o22,o32,o42,o52,o62),o03,o13,o23,o33,o43,o53,o63))) fun ((o04,o14,o24,o34,o44,o54,o64),o05,o15,o25,o35,o45,o55,o65) =>
 bindE (zAF (fun (v7,(o06,o16,o26,o36,o46,o56,o66),o07,o17,o27,o37,o47,o57,o67) =>
   cndO (decide (v7<(o66.length:Int)))
    (grdO (decide (0≤v7)) (atO (o66) v7.toNat fun x=>grdO (decide (0≤v7)) (atO (o67) v7.toNat fun x1=>zAA (F153 ((x.1,x.2.1,x.2.2.1,x.2.2.2.1,x.2.2.2.2.1,x.2.2.2.2.2.1,x.2.2.2.2.2.2.1,x.2.2.2.2.2.2.2),x1.1,x1.2.1,x1.2.2.1,x1.2.2.2.1,x1.2.2.2.2.1,x1.2.2.2.2.2.1,x1.2.2.2.2.2.2.1,x1.2.2.2.2.2.2.2)) fun y =>
    cndO (!y)
     (some (Sum.inr (Sum.inr false)))
     (some (Sum.inl (IntKind.wrap .i64 (v7+1),(o06,o16,o26,o36,o46,o56,o66),o07,o17,o27,o37,o47,o57,o67))))))
    (some (Sum.inr (Sum.inl ())))) (((0:Int),(o04,o14,o24,o34,o44,o54,o64),o05,o15,o25,o35,o45,o55,o65))) fun _ =>
 some (true)
theorem r70 x:funT T tb153 tp70 117 tv70 (zAD Tryz.f70) ti70 to70 x=F70 x:=by kernel_rfl
def te70:=mkE 70 true [] ti70 to70 F70 [.tmp 4] 117 []
def tb70:=insT 70 te70 tb153
theorem ok70:TbOk Tryz.prog tb70:=okI ok153 tp70 tv70 Tryz.func70 rfl Tryz.results70 Tryz.ntmps70 (by kernel_rfl) (by kernel_rfl) Tryz.call70 r70
abbrev ti22:SPat:=⟨[(0,.agg (pl plC))],[]⟩
abbrev to22:SPat:=⟨[(2,.s)],[]⟩
def F22:Cls→Option (List UInt8):=fun (c0,c1,c2,c3,c4,c5,c6) =>
 zAA (F69 (c0,c1,c2,c3,c4,c5,c6)) fun y =>
 cndO (!y)
  (some ([]))
  (zAA (F55 (c0,c1,c2,c3,c4,c5,c6)) fun y1 =>
  zAA (F63 y1) fun (y2,y3,y4,y5,y6,y7,x,x1) =>
  cndO (!y2)
   (some ([]))
   (zAA (F70 ((y3,y4,y5,y6,y7,x,x1),c0,c1,c2,c3,c4,c5,c6)) fun y8 =>
   cndO (!y8)
    (some ([]))
    (some (y1))))
theorem r22 x:funT T tb70 noPl 25 noIv (zAD Tryz.f22) ti22 to22 x=F22 x:=by kernel_rfl
def te22:=mkE 22 true [] ti22 to22 F22 [.tmp 2] 25 []
def tb22:=insT 22 te22 tb70
theorem ok22:TbOk Tryz.prog tb22:=okI ok70 noPl noIv Tryz.func22 rfl Tryz.results22 Tryz.ntmps22 (by kernel_rfl) (by kernel_rfl) Tryz.call22 r22
abbrev ti214:SPat:=⟨[(0,.s)],[]⟩
abbrev to214:SPat:=⟨[(2,.own .str true),(3,.s),(4,.b)],[]⟩
abbrev ts214_5:SPat:=⟨[(0,.s),(5,.own .str true),(6,.i .i64)],[]⟩
abbrev zLD:SPat:=⟨[(0,.s),(5,.own .str true)],[]⟩
abbrev zLC:SPat:=⟨[(0,.s),(5,.own .str true),(6,.i .i64)],[]⟩
abbrev zLB:SPat:=⟨[(0,.s),(5,.own .str true),(6,.i .i64),(7,.i .i64)],[]⟩
abbrev zLA:SPat:=⟨[(0,.s),(5,.own .str true),(6,.i .i64)],[]⟩
def tv214:Nat→Option SPat:=fun k=>bif k == 5 then some ts214_5 else bif k == 1000004 then some zLD else bif k == 1000006 then some zLC else bif k == 1000009 then some zLB else bif k == 2000000 then some zLA else none
def F214:List UInt8→Option (List (List UInt8)×List UInt8×Bool):=fun s =>
 bindE (Y:=List UInt8×List (List UInt8)) (cndO (decide ((s.length:Int)=0))
   (some (Sum.inr ([],[],false)))
   (atO (s) ((0:Nat)) fun x=>cndO (!decide ((x.toNat:Int)=40))
    (some (Sum.inr ([],[],false)))
    (some (Sum.inl (s,[]))))) fun (s1,out) =>
 bindE (Y:=List UInt8×List (List UInt8)×Int) (zAF (fun (s2,out1,at_) =>
   bindE (Y:=List UInt8×List (List UInt8)×Int) (cndO (decide (at_<(s2.length:Int)))
     (grdO (decide (0≤at_)) (atO (s2) at_.toNat fun x=>cndO (!decide ((x.toNat:Int)=41))
      (some (Sum.inl (s2,out1,at_)))
      (some (Sum.inr (Sum.inr (Sum.inl (s2,out1,at_)))))))
     (some (Sum.inr (Sum.inr (Sum.inl (s2,out1,at_)))))) fun (s3,out2,at_1) =>
   zAA (F213 (s3,at_1)) fun y =>
   bindE (Y:=List UInt8×List (List UInt8)×Int×Int) (cndO (decide (y<0))
     (some (Sum.inr (Sum.inr (Sum.inr ([],[],false)))))
     (cndO (decide (4≤(out2.length:Int)))
      (some (Sum.inr (Sum.inr (Sum.inr ([],[],false)))))
      (some (Sum.inl (s3,out2,at_1,y))))) fun (s4,out3,at_2,end_) =>
   grdO (decide (0≤at_2) && decide (at_2≤end_) && decide (end_≤(s4.length:Int))) (grdO (decide (List.length out3+1≤9223372036854775807) && decide ((List.length out3+1)*16≤140737488355328)) (some (Sum.inl (s4,out3++[List.drop at_2.toNat (List.take end_.toNat s4)],end_))))) ((s1,out,(1:Int)))) fun (s2,out1,at_) =>
 cndO (decide ((s2.length:Int)≤at_))
  (some (([],[],false)))
  (grdO (decide (0≤IntKind.wrap .i64 (at_+1)) && decide (IntKind.wrap .i64 (at_+1)≤(s2.length:Int)) && decide ((s2.length:Int)≤(s2.length:Int))) (cndO (!decide (List.drop (Int.toNat (IntKind.wrap .i64 (at_+1))) (List.take (Int.toNat (s2.length:Int)) s2)=[(86:UInt8)]))
   (zAA (F128 (List.drop (Int.toNat (IntKind.wrap .i64 (at_+1))) (List.take (Int.toNat (s2.length:Int)) s2))) fun y =>
   cndO (!y)
    (some (([],[],false)))
    (some ((out1,List.drop (Int.toNat (IntKind.wrap .i64 (at_+1))) (List.take (Int.toNat (s2.length:Int)) s2),true))))
   (some ((out1,List.drop (Int.toNat (IntKind.wrap .i64 (at_+1))) (List.take (Int.toNat (s2.length:Int)) s2),true)))))
theorem r214 x:funT T tb22 noPl 63 tv214 (zAD Tryz.f214) ti214 to214 x=F214 x:=by kernel_rfl
def te214:=mkE 214 false [] ti214 to214 F214 [.tmp 2,.tmp 3,.tmp 4] 63 []
def tb214:=insT 214 te214 tb22
theorem ok214:TbOk Tryz.prog tb214:=okI ok22 noPl tv214 Tryz.func214 rfl Tryz.results214 Tryz.ntmps214 (by kernel_rfl) (by kernel_rfl) Tryz.call214 r214
abbrev ti129:SPat:=⟨[(0,.s)],[]⟩
abbrev to129:SPat:=⟨[(2,.b)],[]⟩
def F129:List UInt8→Option (Bool):=fun s =>
 zAA (F214 s) fun (y,y1,y2) =>
 some (y2)
theorem r129 x:funT T tb214 noPl 13 noIv (zAD Tryz.f129) ti129 to129 x=F129 x:=by kernel_rfl
def te129:=mkE 129 true [] ti129 to129 F129 [.tmp 2] 13 []
def tb129:=insT 129 te129 tb214
theorem ok129:TbOk Tryz.prog tb129:=okI ok214 noPl noIv Tryz.func129 rfl Tryz.results129 Tryz.ntmps129 (by kernel_rfl) (by kernel_rfl) Tryz.call129 r129
abbrev ti215:SPat:=⟨[(0,.sl tg27),(1,.i .i64)],[]⟩
abbrev to215:SPat:=⟨[(4,.ptr 4 0)],[.box 4 (pl [.i .i64,.s,.i .i64,.i .i64])]⟩
def F215:List Cst×Int→Option (Cst):=fun (pool,i) =>
 zAA (F107 (i,(1:Int),(pool.length:Int))) fun y =>
 cndO (y)
  (grdO (decide (0≤IntKind.wrap .i64 (i - 1))) (atO (pool) (Int.toNat (IntKind.wrap .i64 (i - 1))) fun x=>some ((x.1,x.2.1,x.2.2.1,x.2.2.2))))
  (some (((0:Int),[],(0:Int),(0:Int))))
theorem r215 x:funT T tb129 noPl 15 noIv (zAD Tryz.f215) ti215 to215 x=F215 x:=by kernel_rfl
def te215:=mkE 215 true [] ti215 to215 F215 [.cell 4 27] 15 []
def tb215:=insT 215 te215 tb129
theorem ok215:TbOk Tryz.prog tb215:=okI ok129 noPl noIv Tryz.func215 rfl Tryz.results215 Tryz.ntmps215 (by kernel_rfl) (by kernel_rfl) Tryz.call215 r215
abbrev ti130:SPat:=⟨[(0,.sl tg27),(1,.i .i64)],[]⟩
abbrev to130:SPat:=⟨[(4,.s)],[]⟩
def F130:List Cst×Int→Option (List UInt8):=fun (pool,i) =>
 zAA (F215 (pool,i)) fun (y,y1,y2,y3) =>
 zAA (F215 (pool,y2)) fun (y4,y5,y6,y7) =>
 cndO (!decide (y=2))
  (some ([]))
  (cndO (!decide (y4=1))
   (some ([]))
   (zAA (F127 y5) fun y8 =>
   cndO (!y8)
    (some ([]))
    (some (y5))))
theorem r130 x:funT T tb215 noPl 30 noIv (zAD Tryz.f130) ti130 to130 x=F130 x:=by kernel_rfl
def te130:=mkE 130 true [] ti130 to130 F130 [.tmp 4] 30 []
def tb130:=insT 130 te130 tb215
theorem ok130:TbOk Tryz.prog tb130:=okI ok215 noPl noIv Tryz.func130 rfl Tryz.results130 Tryz.ntmps130 (by kernel_rfl) (by kernel_rfl) Tryz.call130 r130
abbrev ti131:SPat:=⟨[(0,.sl tg27),(1,.i .i64)],[]⟩
abbrev to131:SPat:=⟨[(4,.s)],[]⟩
def F131:List Cst×Int→Option (List UInt8):=fun (pool,i) =>
 zAA (F215 (pool,i)) fun (y,y1,y2,y3) =>
 cndO (!decide (y=1))
  (some ([]))
  (some (y1))
theorem r131 x:funT T tb130 noPl 14 noIv (zAD Tryz.f131) ti131 to131 x=F131 x:=by kernel_rfl
def te131:=mkE 131 true [] ti131 to131 F131 [.tmp 4] 14 []
def tb131:=insT 131 te131 tb130
theorem ok131:TbOk Tryz.prog tb131:=okI ok130 noPl noIv Tryz.func131 rfl Tryz.results131 Tryz.ntmps131 (by kernel_rfl) (by kernel_rfl) Tryz.call131 r131
abbrev ti132:SPat:=⟨[(0,.sl tg27),(1,.i .i64)],[]⟩
abbrev to132:SPat:=⟨[(4,.s),(5,.s),(6,.s)],[]⟩
def tp132:Nat→List Nat×Plan:=fun id=>bif id == 3 then ([0,1,2,4,5,6,8,9,10],(.br 3 [2,1,0] [4,5,6,8,9,10] [] (.br 7 [6,5,4,3,2,1,0] [8,9,10] [] (.br 11 [10,9,8,7,6,5,4,3,2,1,0] [] [] (.br 12 [11,10,9,8,7,6,5,4,3,2,1,0] [] [] (.br 13 [12,11,10,9,8,7,6,5,4,3,2,1,0] [] [] (.br 14 [13,12,11,10,9,8,7,6,5,4,3,2,1,0] [] [] .fin .fin) .fin) .fin) .fin) .fin) .fin)) else ([],.fin)
def F132:List Cst×Int→Option (List UInt8×List UInt8×List UInt8):=fun (pool,i) =>
 zAA (F215 (pool,i)) fun (y,y1,y2,y3) =>
 zAA (F215 (pool,y3)) fun (y4,y5,y6,y7) =>
 zAA (F130 (pool,y2)) fun y8 =>
 seqU (seqU (grdO (decide (pool=pool)) (some ())) (seqU (grdO (decide (y6=y6)) (some ())) (seqU (grdO (decide (pool=pool)) (some ())) (seqU (grdO (decide (y7=y7)) (some ())) (some ()))))) (zAA (F131 (pool,y6)) fun y9 =>
 seqU (seqU (grdO (decide (pool=pool)) (some ())) (seqU (grdO (decide (y7=y7)) (some ())) (some ()))) (zAA (F131 (pool,y7)) fun y10 =>
 some ((y8,y9,y10))))
theorem r132 x:funT T tb131 tp132 28 noIv (zAD Tryz.f132) ti132 to132 x=F132 x:=by kernel_rfl
def te132:=mkE 132 true [] ti132 to132 F132 [.tmp 4,.tmp 5,.tmp 6] 28 []
def tb132:=insT 132 te132 tb131
theorem ok132:TbOk Tryz.prog tb132:=okI ok131 tp132 noIv Tryz.func132 rfl Tryz.results132 Tryz.ntmps132 (by kernel_rfl) (by kernel_rfl) Tryz.call132 r132
end Go.Proofs.YtdpapeledldifaaGreat
end
noncomputable section
namespace Go.Proofs.YtdpapeledldifaaGreat
open Go Go.AM Go.TM
set_option maxRecDepth 100000
set_option maxHeartbeats 4000000
abbrev ti133:SPat:=⟨[(0,.sl tg27),(1,.i .i64),(2,.i .i64)],[]⟩
abbrev to133:SPat:=⟨[(6,.b)],[]⟩
def F133:List Cst×Int×Int→Option (Bool):=fun (pool,i,kind_) =>
 zAA (F215 (pool,i)) fun (y,y1,y2,y3) =>
 some (decide (y=kind_))
theorem r133 x:funT T tb132 noPl 13 noIv (zAD Tryz.f133) ti133 to133 x=F133 x:=by kernel_rfl
def te133:=mkE 133 true [] ti133 to133 F133 [.tmp 6] 13 []
def tb133:=insT 133 te133 tb132
theorem ok133:TbOk Tryz.prog tb133:=okI ok132 noPl noIv Tryz.func133 rfl Tryz.results133 Tryz.ntmps133 (by kernel_rfl) (by kernel_rfl) Tryz.call133 r133
abbrev ti53:SPat:=⟨[(0,.sl tg27),(1,.i .i64)],[]⟩
abbrev to53:SPat:=⟨[(4,.b)],[]⟩
abbrev zNt:SPat:=⟨[(5,.ptr 5 0),(9,.s)],[.box 5 (pl [.i .i64,.s,.i .i64,.i .i64])]⟩
def tv53:Nat→Option SPat:=fun k=>bif k == 1000013 then some zNt else none
def F53:List Cst×Int→Option (Bool):=fun (app,v1) =>
 grdO (decide (0≤v1)) (atO (app) v1.toNat fun x=>cndO (decide (x.1=1))
  (cndO (decide (x.2.2.1=0))
   (cndO (decide (x.2.2.2=0))
    (zAA (F127 (x.2.1)) fun y =>
    cndO (y)
     (some (true))
     (zAA (F128 (x.2.1)) fun y1 =>
     cndO (y1)
      (some (true))
      (zAA (F129 (x.2.1)) fun y2 =>
      some (y2))))
    (some (false)))
   (some (false)))
  (cndO (decide (x.1=2))
   (cndO (decide (x.2.1=[]))
    (cndO (decide (x.2.2.2=0))
     (zAA (F130 (app,IntKind.wrap .i64 (v1+1))) fun y =>
     some (!decide (y=[])))
     (some (false)))
    (some (false)))
   (cndO (decide (x.1=3))
    (zAA (F131 (app,x.2.2.2)) fun y =>
    cndO (decide (x.2.1=[]))
     (zAA (F131 (app,x.2.2.1)) fun y1 =>
     zAA (F127 y1) fun y2 =>
     cndO (y2)
      (zAA (F128 y) fun y3 =>
      cndO (y3)
       (some (true))
       (zAA (F129 y) fun y4 =>
       some (y4)))
      (some (false)))
     (some (false)))
    (zAA (F132 (app,IntKind.wrap .i64 (v1+1))) fun (y,y1,y2) =>
    bindE (Y:=List UInt8×Cst) (zAA (F107 (x.1,(4:Int),(6:Int))) fun y3 =>
     cndO (!y3)
      (some (Sum.inr false))
      (cndO (!decide (x.2.1=[]))
       (some (Sum.inr false))
       (zAA (F130 (app,x.2.2.1)) fun y4 =>
       cndO (decide (y4=[]))
        (some (Sum.inr false))
        (zAA (F133 (app,x.2.2.2,(3:Int))) fun y5 =>
        cndO (!y5)
         (some (Sum.inr false))
         (some (Sum.inl (y2,x.1,x.2.1,x.2.2.1,x.2.2.2))))))) fun (v9,o0,o1,o2,o3) =>
    cndO (decide (o0=4))
     (zAA (F128 v9) fun y3 =>
     some (y3))
     (zAA (F129 v9) fun y3 =>
     some (y3))))))
theorem r53 x:funT T tb133 noPl 120 tv53 (zAD Tryz.f53) ti53 to53 x=F53 x:=by kernel_rfl
def te53:=mkE 53 true [] ti53 to53 F53 [.tmp 4] 120 []
def tb53:=insT 53 te53 tb133
theorem ok53:TbOk Tryz.prog tb53:=okI ok133 noPl tv53 Tryz.func53 rfl Tryz.results53 Tryz.ntmps53 (by kernel_rfl) (by kernel_rfl) Tryz.call53 r53
abbrev ti15:SPat:=⟨[(0,.sl tg27)],[]⟩
abbrev to15:SPat:=⟨[(2,.i .i64)],[]⟩
abbrev ts15_2:SPat:=⟨[(0,.sl tg27),(3,.i .i64)],[]⟩
abbrev zOJ:SPat:=⟨[(0,.sl tg27),(3,.i .i64)],[]⟩
abbrev zOI:SPat:=⟨[(0,.sl tg27)],[]⟩
def tv15:Nat→Option SPat:=fun k=>bif k == 2 then some ts15_2 else bif k == 1000004 then some zOJ else bif k == 2000000 then some zOI else none
def F15:List Cst→Option (Int):=fun pool =>
 bindE (Y:=List Cst) (zAF (fun (pool1,i) =>
   bindE (Y:=List Cst×Int) (cndO (decide (i<(pool1.length:Int)))
     (cndO (decide (i<60))
      (some (Sum.inl (pool1,i)))
      (some (Sum.inr (Sum.inr (Sum.inl pool1)))))
     (some (Sum.inr (Sum.inr (Sum.inl pool1))))) fun (pool2,i1) =>
   zAA (F53 (pool2,i1)) fun y =>
   cndO (!y)
    (some (Sum.inr (Sum.inr (IntKind.wrap .i64 (i1+1)))))
    (some (Sum.inl (pool2,IntKind.wrap .i64 (i1+1))))) ((pool,(0:Int)))) fun pool1 =>
 cndO (decide (60<(pool1.length:Int)))
  (some ((61:Int)))
  (some ((0:Int)))
theorem r15 x:funT T tb53 noPl 23 tv15 (zAD Tryz.f15) ti15 to15 x=F15 x:=by kernel_rfl
def te15:=mkE 15 true [] ti15 to15 F15 [.tmp 2] 23 []
def tb15:=insT 15 te15 tb53
theorem ok15:TbOk Tryz.prog tb15:=okI ok53 noPl tv15 Tryz.func15 rfl Tryz.results15 Tryz.ntmps15 (by kernel_rfl) (by kernel_rfl) Tryz.call15 r15
abbrev ti175:SPat:=⟨[(0,.agg (pl plC))],[]⟩
abbrev to175:SPat:=⟨[(2,.b)],[]⟩
abbrev ts175_5:SPat:=⟨[(1,.ptr 1 0),(3,.s),(4,.i .i64)],[.box 1 (pl plC)]⟩
abbrev ts175_10:SPat:=⟨[(1,.ptr 1 0),(3,.s),(4,.i .i64),(5,.i .i64)],[.box 1 (pl plC)]⟩
abbrev zLc:SPat:=⟨[(1,.ptr 1 0),(3,.s)],[.box 1 (pl plC)]⟩
abbrev zLb:SPat:=⟨[(1,.ptr 1 0),(3,.s)],[.box 1 (pl plC)]⟩
abbrev zLa:SPat:=⟨[(1,.ptr 1 0),(3,.s)],[.box 1 (pl plC)]⟩
abbrev zLZ:SPat:=⟨[(1,.ptr 1 0),(3,.s),(4,.i .i64)],[.box 1 (pl plC)]⟩
abbrev zLY:SPat:=⟨[(1,.ptr 1 0),(3,.s),(4,.i .i64)],[.box 1 (pl plC)]⟩
def tv175:Nat→Option SPat:=fun k=>bif k == 5 then some ts175_5 else bif k == 10 then some ts175_10 else bif k == 1000004 then some zLc else bif k == 1000016 then some zLb else bif k == 2000000 then some zLa else bif k == 2000001 then some zLZ else bif k == 2000002 then some zLY else none
def tp175:Nat→List Nat×Plan:=fun id=>bif id == 7 then ([0,1,2,3,4,5,6],(.br 7 [6,5,4,3,2,1,0] [] [8] .fin .fin)) else bif id == 12 then ([0,1,2,3,4,5,6,8,9,10,11,12,13,14],(.br 7 [6,5,4,3,2,1,0] [8,9,10,11,12,13,14] [] (.br 15 [14,13,12,11,10,9,8,7,6,5,4,3,2,1,0] [] [16] .fin .fin) .fin)) else ([],.fin)
def F175:Cls→Option (Bool):=fun (app0,app1,app2,app3,app4,app5,app6) =>
 zAA (F130 (app0,app3)) fun y =>
 bindE (Y:=List UInt8×Cls) (zAA (F130 (app0,app2)) fun y1 =>
  cndO (decide (y1=[]))
   (some (Sum.inr false))
   (cndO (decide (y=[]))
    (some (Sum.inr false))
    (zAA (F130 (app0,app2)) fun y2 =>
    cndO (decide (y=y2))
     (some (Sum.inr false))
     (zAA (F107 (app1,(0:Int),(7:Int))) fun y3 =>
     cndO (!y3)
      (some (Sum.inr false))
      (some (Sum.inl (y,app0,app1,app2,app3,app4,app5,app6))))))) fun (v3,o0,o1,o2,o3,o4,o5,o6) =>
 bindE (Y:=List UInt8×Cls) (zAF (fun (v31,v4,o01,o11,o21,o31,o41,o51,o61) =>
   cndO (decide (v4<(o41.length:Int)))
    (bindE (Y:=List UInt8×Int×Cls) (grdO (decide (0≤v4)) (atO (o41) v4.toNat fun x=>zAA (F130 (o01,x)) fun y1 =>
     cndO (decide (y1=[]))
      (some (Sum.inr (Sum.inr (Sum.inr false))))
      (bindE (Y:=List UInt8×Int×Cls) (zAF (fun (v32,v41,v5,o02,o12,o22,o32,o42,o52,o62) =>
        cndO (decide (v5<v41))
         (grdO (decide (0≤v5)) (atO (o42) v5.toNat fun x1=>grdO (decide (0≤v41)) (atO (o42) v41.toNat fun x2=>zAA (F130 (o02,x1)) fun y2 =>
         seqU (seqU (grdO (decide (o02=o02)) (some ())) (seqU (grdO (decide (o42=o42)) (some ())) (seqU (grdO (decide (v41=v41)) (some ())) (seqU (grdO (decide (0≤v41)) (atO (o42) v41.toNat fun x3=>grdO (decide (x3=x2) && true) (some ()))) (seqU (grdO (decide (x2=x2)) (some ())) (some ())))))) (zAA (F130 (o02,x2)) fun y3 =>
         cndO (decide (y2=y3))
          (some (Sum.inr (Sum.inr (Sum.inr (Sum.inr (Sum.inr false))))))
          (some (Sum.inl (v32,v41,IntKind.wrap .i64 (v5+1),o02,o12,o22,o32,o42,o52,o62)))))))
         (some (Sum.inr (Sum.inl (v32,v41,o02,o12,o22,o32,o42,o52,o62))))) ((v31,v4,(0:Int),o01,o11,o21,o31,o41,o51,o61))) fun (v32,v41,o02,o12,o22,o32,o42,o52,o62) =>
      some (Sum.inl (v32,v41,o02,o12,o22,o32,o42,o52,o62))))) fun (v32,v41,o02,o12,o22,o32,o42,o52,o62) =>
    some (Sum.inl (v32,IntKind.wrap .i64 (v41+1),o02,o12,o22,o32,o42,o52,o62)))
    (some (Sum.inr (Sum.inl (v31,o01,o11,o21,o31,o41,o51,o61))))) ((v3,(0:Int),o0,o1,o2,o3,o4,o5,o6))) fun (v31,o01,o11,o21,o31,o41,o51,o61) =>
 bindE (Y:=List UInt8×Cls) (zAA (F108 (o11,(2:Int))) fun y1 =>
  cndO (y1)
   (zAA (F108 (o11,(4:Int))) fun y2 =>
   cndO (y2)
    (some (Sum.inr false))
    (some (Sum.inl (v31,o01,o11,o21,o31,o41,o51,o61))))
   (some (Sum.inl (v31,o01,o11,o21,o31,o41,o51,o61)))) fun (v32,o02,o12,o22,o32,o42,o52,o62) =>
 zAA (F108 (o12,(1:Int))) fun y1 =>
 cndO (!y1)
  (some (true))
  (zAA (F108 (o12,(4:Int))) fun y2 =>
  cndO (y2)
   (some (decide (v32=[(79:UInt8),98,106])))
   (some (false)))
theorem r175 x:funT T tb15 tp175 95 tv175 (zAD Tryz.f175) ti175 to175 x=F175 x:=by kernel_rfl
def te175:=mkE 175 true [] ti175 to175 F175 [.tmp 2] 95 []
def tb175:=insT 175 te175 tb15
theorem ok175:TbOk Tryz.prog tb175:=okI ok15 tp175 tv175 Tryz.func175 rfl Tryz.results175 Tryz.ntmps175 (by kernel_rfl) (by kernel_rfl) Tryz.call175 r175
abbrev ti176:SPat:=⟨[(0,.agg (pl plC))],[]⟩
abbrev to176:SPat:=⟨[(2,.b)],[]⟩
abbrev ts176_2:SPat:=⟨[(1,.ptr 1 0),(3,.i .i64)],[.box 1 (pl plC)]⟩
abbrev ts176_10:SPat:=⟨[(1,.ptr 1 0),(3,.i .i64),(4,.ptr 4 0),(5,.i .i64)],[.box 1 (pl plC),.box 4 (pl [.i .i64,.i .i64,.i .i64])]⟩
abbrev zLX:SPat:=⟨[(1,.ptr 1 0),(3,.i .i64),(4,.ptr 4 0)],[.box 1 (pl plC),.box 4 (pl [.i .i64,.i .i64,.i .i64])]⟩
abbrev zLW:SPat:=⟨[(1,.ptr 1 0),(3,.i .i64),(4,.ptr 4 0)],[.box 1 (pl plC),.box 4 (pl [.i .i64,.i .i64,.i .i64])]⟩
abbrev zLV:SPat:=⟨[],[]⟩
abbrev zLU:SPat:=⟨[(1,.ptr 1 0),(3,.i .i64)],[.box 1 (pl plC)]⟩
abbrev zLT:SPat:=⟨[(1,.ptr 1 0),(3,.i .i64)],[.box 1 (pl plC)]⟩
def tv176:Nat→Option SPat:=fun k=>bif k == 2 then some ts176_2 else bif k == 10 then some ts176_10 else bif k == 1000007 then some zLX else bif k == 1000009 then some zLW else bif k == 2000000 then some zLV else bif k == 2000001 then some zLU else bif k == 2000002 then some zLT else none
def tp176:Nat→List Nat×Plan:=fun id=>bif id == 12 then ([0,1,2,3,4,5,6,7,9,10,11,12],(.br 8 [7,6,5,4,3,2,1,0] [9,10,11,12] [] (.br 13 [12,11,10,9,8,7,6,5,4,3,2,1,0] [] [14] .fin .fin) .fin)) else ([],.fin)
def F176:Cls→Option (Bool):=fun (app0,app1,app2,app3,app4,app5,app6) =>
 bindE (zAF (fun (v3,o0,o1,o2,o3,o4,o5,o6) =>
   cndO (decide (v3<(o5.length:Int)))
    (bindE (Y:=Int×Cls) (grdO (decide (0≤v3)) (atO (o5) v3.toNat fun x=>bindE (Y:=Int×(Cls)×Int×Int×Int) (zAA (F131 (o0,x.2.1)) fun y =>
      zAA (F127 y) fun y1 =>
      cndO (!y1)
       (some (Sum.inr (Sum.inr (Sum.inr (Sum.inr false)))))
       (zAA (F131 (o0,x.2.2)) fun y2 =>
       zAA (F128 y2) fun y3 =>
       cndO (!y3)
        (some (Sum.inr (Sum.inr (Sum.inr (Sum.inr false)))))
        (zAA (F107 (x.1,(0:Int),(3:Int))) fun y4 =>
        cndO (!y4)
         (some (Sum.inr (Sum.inr (Sum.inr (Sum.inr false)))))
         (some (Sum.inl (v3,(o0,o1,o2,o3,o4,o5,o6),x.1,x.2.1,x.2.2)))))) fun (v31,(o01,o11,o21,o31,o41,o51,o61),o02,o12,o22) =>
     bindE (Y:=Int×(Cls)×Int×Int×Int) (zAA (F108 (o11,(1:Int))) fun y =>
      cndO (y)
       (cndO (!decide (o02=1))
        (some (Sum.inr (Sum.inr (Sum.inr (Sum.inr false)))))
        (some (Sum.inl (v31,(o01,o11,o21,o31,o41,o51,o61),o02,o12,o22))))
       (some (Sum.inl (v31,(o01,o11,o21,o31,o41,o51,o61),o02,o12,o22)))) fun (v32,(o03,o13,o23,o32,o42,o52,o62),o04,o14,o24) =>
     bindE (Y:=Int×Cls) (zAF (fun (v33,v5,(o05,o15,o25,o33,o43,o53,o63),o06,o16,o26) =>
       cndO (decide (v5<v33))
        (grdO (decide (0≤v5)) (atO (o53) v5.toNat fun x1=>zAA (F131 (o05,x1.2.1)) fun y =>
        seqU (seqU (grdO (decide (o05=o05)) (some ())) (seqU (grdO (decide (o16=o16)) (some ())) (some ()))) (zAA (F131 (o05,o16)) fun y1 =>
        cndO (decide (y=y1))
         (some (Sum.inr (Sum.inr (Sum.inr (Sum.inr (Sum.inr false))))))
         (some (Sum.inl (v33,IntKind.wrap .i64 (v5+1),(o05,o15,o25,o33,o43,o53,o63),o06,o16,o26))))))
        (some (Sum.inr (Sum.inl (v33,o05,o15,o25,o33,o43,o53,o63))))) ((v32,(0:Int),(o03,o13,o23,o32,o42,o52,o62),o04,o14,o24))) fun (v33,o05,o15,o25,o33,o43,o53,o63) =>
     some (Sum.inl (v33,o05,o15,o25,o33,o43,o53,o63)))) fun (v31,o01,o11,o21,o31,o41,o51,o61) =>
    some (Sum.inl (IntKind.wrap .i64 (v31+1),o01,o11,o21,o31,o41,o51,o61)))
    (some (Sum.inr (Sum.inl ())))) (((0:Int),app0,app1,app2,app3,app4,app5,app6))) fun _ =>
 some (true)
theorem r176 x:funT T tb175 tp176 68 tv176 (zAD Tryz.f176) ti176 to176 x=F176 x:=by kernel_rfl
def te176:=mkE 176 true [] ti176 to176 F176 [.tmp 2] 68 []
def tb176:=insT 176 te176 tb175
theorem ok176:TbOk Tryz.prog tb176:=okI ok175 tp176 tv176 Tryz.func176 rfl Tryz.results176 Tryz.ntmps176 (by kernel_rfl) (by kernel_rfl) Tryz.call176 r176
abbrev ti244:SPat:=⟨[(0,.agg (pl plC)),(1,.agg (pl plM))],[]⟩
abbrev to244:SPat:=⟨[(4,.b)],[]⟩
abbrev zKg:SPat:=⟨[(2,.ptr 2 0),(3,.ptr 3 0)],[.box 2 (pl plC),.box 3 (pl plM)]⟩
def tv244:Nat→Option SPat:=fun k=>bif k == 1000005 then some zKg else none
def F244:(Cls)×Mth→Option (Bool):=fun ((c0,c1,c2,c3,c4,c5,c6),m0,m1,m2,m3,m4,m5,m6,m7) =>
 zAA (F107 (m0,(0:Int),(15:Int))) fun y =>
 cndO (!y)
  (some (false))
  (bindE (Y:=(Cls)×Mth) (zAA (F131 (c0,m1)) fun y1 =>
   cndO (decide (y1=[(98:UInt8),101,103,105,110]))
    (cndO (!decide (m0=1))
     (some (Sum.inr false))
     (zAA (F131 (c0,m2)) fun y2 =>
     cndO (!decide (y2=[(40:UInt8),41,86]))
      (some (Sum.inr false))
      (some (Sum.inl ((c0,c1,c2,c3,c4,c5,c6),m0,m1,m2,m3,m4,m5,m6,m7)))))
    (some (Sum.inl ((c0,c1,c2,c3,c4,c5,c6),m0,m1,m2,m3,m4,m5,m6,m7)))) fun ((o0,o1,o2,o3,o4,o5,o6),o01,o11,o21,o31,o41,o51,o61,o7) =>
  zAA (F108 (o01,(8:Int))) fun y1 =>
  cndO (y1)
   (cndO (decide (o01=8))
    (zAA (F108 (o1,(4:Int))) fun y2 =>
    some (y2))
    (some (false)))
   (zAA (F108 (o1,(1:Int))) fun y2 =>
   cndO (!y2)
    (some (true))
    (some (decide (o01=1)))))
theorem r244 x:funT T tb176 noPl 48 tv244 (zAD Tryz.f244) ti244 to244 x=F244 x:=by kernel_rfl
def te244:=mkE 244 true [] ti244 to244 F244 [.tmp 4] 48 []
def tb244:=insT 244 te244 tb176
theorem ok244:TbOk Tryz.prog tb244:=okI ok176 noPl tv244 Tryz.func244 rfl Tryz.results244 Tryz.ntmps244 (by kernel_rfl) (by kernel_rfl) Tryz.call244 r244
abbrev ti177:SPat:=⟨[(0,.agg (pl plC))],[]⟩
abbrev to177:SPat:=⟨[(2,.b)],[]⟩
abbrev ts177_2:SPat:=⟨[(1,.ptr 1 0),(3,.i .i64)],[.box 1 (pl plC)]⟩
abbrev ts177_8:SPat:=⟨[(1,.ptr 1 0),(3,.i .i64),(4,.ptr 4 0),(5,.i .i64)],[.box 1 (pl plC),.box 4 (pl plM)]⟩
abbrev zLS:SPat:=⟨[(1,.ptr 1 0),(3,.i .i64),(4,.ptr 4 0)],[.box 1 (pl plC),.box 4 (pl plM)]⟩
abbrev zLR:SPat:=⟨[],[]⟩
abbrev zLQ:SPat:=⟨[(1,.ptr 1 0),(3,.i .i64)],[.box 1 (pl plC)]⟩
abbrev zLP:SPat:=⟨[(1,.ptr 1 0),(3,.i .i64)],[.box 1 (pl plC)]⟩
abbrev zLO:SPat:=⟨[(1,.ptr 1 0),(3,.i .i64),(4,.ptr 4 0),(5,.i .i64)],[.box 1 (pl plC),.box 4 (pl plM)]⟩
def tv177:Nat→Option SPat:=fun k=>bif k == 2 then some ts177_2 else bif k == 8 then some ts177_8 else bif k == 1000007 then some zLS else bif k == 2000000 then some zLR else bif k == 2000001 then some zLQ else bif k == 2000002 then some zLP else bif k == 2000003 then some zLO else none
def tp177:Nat→List Nat×Plan:=fun id=>bif id == 10 then ([0,1,2,3,4,5,6,7,9,10,11,12],(.br 8 [7,6,5,4,3,2,1,0] [9,10,11,12] [] (.br 13 [12,11,10,9,8,7,6,5,4,3,2,1,0] [] [14,15,16,17,18,19,20,21,22,23,25,26,27,28] (.br 24 [23,22,21,20,19,18,17,16,15,14,13,12,11,10,9,8,7,6,5,4,3,2,1,0] [25,26,27,28] [] (.br 29 [28,27,26,25,24,23,22,21,20,19,18,17,16,15,14,13,12,11,10,9,8,7,6,5,4,3,2,1,0] [] [30,31] .fin .fin) .fin) .fin) .fin)) else ([],.fin)
def F177:Cls→Option (Bool):=fun (app0,app1,app2,app3,app4,app5,app6) =>
 bindE (zAF (fun (v3,o0,o1,o2,o3,o4,o5,o6) =>
   cndO (decide (v3<(o6.length:Int)))
    (bindE (Y:=Int×Cls) (grdO (decide (0≤v3)) (atO (o6) v3.toNat fun x=>bindE (Y:=Int×(Cls)×Mth) (zAA (F131 (o0,x.2.1)) fun y =>
      zAA (F127 y) fun y1 =>
      cndO (!y1)
       (some (Sum.inr (Sum.inr (Sum.inr (Sum.inr false)))))
       (zAA (F131 (o0,x.2.2.1)) fun y2 =>
       zAA (F129 y2) fun y3 =>
       cndO (!y3)
        (some (Sum.inr (Sum.inr (Sum.inr (Sum.inr false)))))
        (zAA (F244 ((o0,o1,o2,o3,o4,o5,o6),x.1,x.2.1,x.2.2.1,x.2.2.2.1,x.2.2.2.2.1,x.2.2.2.2.2.1,x.2.2.2.2.2.2.1,x.2.2.2.2.2.2.2)) fun y4 =>
        cndO (!y4)
         (some (Sum.inr (Sum.inr (Sum.inr (Sum.inr false)))))
         (some (Sum.inl (v3,(o0,o1,o2,o3,o4,o5,o6),x.1,x.2.1,x.2.2.1,x.2.2.2.1,x.2.2.2.2.1,x.2.2.2.2.2.1,x.2.2.2.2.2.2.1,x.2.2.2.2.2.2.2)))))) fun (v31,(o01,o11,o21,o31,o41,o51,o61),o02,o12,o22,o32,o42,o52,o62,o7) =>
     bindE (Y:=Int×Cls) (zAF (fun (v32,v5,(o03,o13,o23,o33,o43,o53,o63),o04,o14,o24,o34,o44,o54,o64,o71) =>
       cndO (decide (v5<v32))
        (bindE (Y:=Int×Int×(Cls)×Mth) (grdO (decide (0≤v5)) (atO (o63) v5.toNat fun x1=>zAA (F131 (o03,x1.2.1)) fun y =>
         seqU (seqU (grdO (decide (o03=o03)) (some ())) (seqU (grdO (decide (o14=o14)) (some ())) (some ()))) (zAA (F131 (o03,o14)) fun y1 =>
         cndO (decide (y=y1))
          (grdO (decide (0≤v5)) (atO (o63) v5.toNat fun x2=>zAA (F131 (o03,x2.2.2.1)) fun y2 =>
          seqU (seqU (grdO (decide (o03=o03)) (some ())) (seqU (grdO (decide (o24=o24)) (some ())) (some ()))) (zAA (F131 (o03,o24)) fun y3 =>
          cndO (decide (y2=y3))
           (some (Sum.inr (Sum.inr (Sum.inr (Sum.inr (Sum.inr (Sum.inr false)))))))
           (some (Sum.inl (v32,v5,(o03,o13,o23,o33,o43,o53,o63),o04,o14,o24,o34,o44,o54,o64,o71))))))
          (some (Sum.inl (v32,v5,(o03,o13,o23,o33,o43,o53,o63),o04,o14,o24,o34,o44,o54,o64,o71)))))) fun (v33,v51,(o05,o15,o25,o35,o45,o55,o65),o06,o16,o26,o36,o46,o56,o66,o72) =>
        some (Sum.inl (v33,IntKind.wrap .i64 (v51+1),(o05,o15,o25,o35,o45,o55,o65),o06,o16,o26,o36,o46,o56,o66,o72)))
        (some (Sum.inr (Sum.inl (v32,o03,o13,o23,o33,o43,o53,o63))))) ((v31,(0:Int),(o01,o11,o21,o31,o41,o51,o61),o02,o12,o22,o32,o42,o52,o62,o7))) fun (v32,o03,o13,o23,o33,o43,o53,o63) =>
     some (Sum.inl (v32,o03,o13,o23,o33,o43,o53,o63)))) fun (v31,o01,o11,o21,o31,o41,o51,o61) =>
    some (Sum.inl (IntKind.wrap .i64 (v31+1),o01,o11,o21,o31,o41,o51,o61)))
    (some (Sum.inr (Sum.inl ())))) (((0:Int),app0,app1,app2,app3,app4,app5,app6))) fun _ =>
 some (true)
theorem r177 x:funT T tb244 tp177 77 tv177 (zAD Tryz.f177) ti177 to177 x=F177 x:=by kernel_rfl
def te177:=mkE 177 true [] ti177 to177 F177 [.tmp 2] 77 []
def tb177:=insT 177 te177 tb244
theorem ok177:TbOk Tryz.prog tb177:=okI ok244 tp177 tv177 Tryz.func177 rfl Tryz.results177 Tryz.ntmps177 (by kernel_rfl) (by kernel_rfl) Tryz.call177 r177
abbrev ti252:SPat:=⟨[(0,.s),(1,.i .i64)],[]⟩
abbrev to252:SPat:=⟨[(4,.i .i64)],[]⟩
abbrev zKb:SPat:=⟨[(1,.i .i64),(5,.i .i64)],[]⟩
def tv252:Nat→Option SPat:=fun k=>bif k == 1000006 then some zKb else none
def F252:List UInt8×Int→Option (Int):=fun (s,op_) =>
 cndO (decide ((s.length:Int)=0))
  (some ((0:Int)))
  (atO (s) ((0:Nat)) fun x=>bindE (cndO (decide ((s.length:Int)=2))
    (atO (s) ((1:Nat)) fun x1=>some (Sum.inl (op_,IntKind.wrap .i64 (IntKind.wrap .i64 (IntKind.wrap .i64 (x.toNat:Int)*256)+IntKind.wrap .i64 (x1.toNat:Int)))))
    (some (Sum.inl (op_,IntKind.wrap .i64 (x.toNat:Int))))) fun (op_1,n) =>
  cndO (decide (op_1=1))
   (cndO (decide (32768≤n))
    (some (IntKind.wrap .i64 (n - 65536)))
    (some (n)))
   (some (n)))
theorem r252 x:funT T tb177 noPl 30 tv252 (zAD Tryz.f252) ti252 to252 x=F252 x:=by kernel_rfl
def te252:=mkE 252 true [] ti252 to252 F252 [.tmp 4] 30 []
def tb252:=insT 252 te252 tb177
theorem ok252:TbOk Tryz.prog tb252:=okI ok177 noPl tv252 Tryz.func252 rfl Tryz.results252 Tryz.ntmps252 (by kernel_rfl) (by kernel_rfl) Tryz.call252 r252
abbrev ti193:SPat:=⟨[(0,.s)],[]⟩
abbrev to193:SPat:=⟨[(2,.own tg89 true),(3,.b)],[]⟩
abbrev ts193_3:SPat:=⟨[(0,.s),(4,.own tg89 true),(5,.i .i64)],[]⟩
abbrev zLK:SPat:=⟨[(0,.s),(4,.own tg89 true),(5,.i .i64),(6,.i .i64),(7,.i .i64)],[]⟩
abbrev zLJ:SPat:=⟨[(4,.own tg89 true)],[]⟩
def tv193:Nat→Option SPat:=fun k=>bif k == 3 then some ts193_3 else bif k == 1000008 then some zLK else bif k == 2000000 then some zLJ else none
def F193:List UInt8→Option (List (Int×Int×Int)×Bool):=fun s =>
 bindE (Y:=List (Int×Int×Int)) (zAF (fun (s1,out,at_) =>
   cndO (decide (at_<(s1.length:Int)))
    (grdO (decide (0≤at_)) (atO (s1) at_.toNat fun x=>zAA (F251 (IntKind.wrap .i64 (x.toNat:Int))) fun y =>
    bindE (Y:=List UInt8×List (Int×Int×Int)×Int×Int×Int) (cndO (decide (y<0))
      (some (Sum.inr (Sum.inr (Sum.inr ([],false)))))
      (cndO (decide ((s1.length:Int)<IntKind.wrap .i64 (IntKind.wrap .i64 (at_+1)+y)))
       (some (Sum.inr (Sum.inr (Sum.inr ([],false)))))
       (some (Sum.inl (s1,out,at_,IntKind.wrap .i64 (x.toNat:Int),y))))) fun (s2,out1,at_1,op_,n) =>
    grdO (decide (0≤IntKind.wrap .i64 (at_1+1)) && decide (IntKind.wrap .i64 (at_1+1)≤IntKind.wrap .i64 (IntKind.wrap .i64 (at_1+1)+n)) && decide (IntKind.wrap .i64 (IntKind.wrap .i64 (at_1+1)+n)≤(s2.length:Int))) (zAA (F252 (List.drop (Int.toNat (IntKind.wrap .i64 (at_1+1))) (List.take (Int.toNat (IntKind.wrap .i64 (IntKind.wrap .i64 (at_1+1)+n))) s2),op_)) fun y1 =>
    grdO (decide (List.length out1+1≤9223372036854775807) && decide ((List.length out1+1)*24≤140737488355328)) (some (Sum.inl (s2,out1++[(at_1,op_,y1)],IntKind.wrap .i64 (IntKind.wrap .i64 (at_1+1)+n)))))))
    (some (Sum.inr (Sum.inl out)))) ((s,[],(0:Int)))) fun out =>
 some ((out,decide (0<(out.length:Int))))
theorem r193 x:funT T tb252 noPl 54 tv193 (zAD Tryz.f193) ti193 to193 x=F193 x:=by kernel_rfl
def te193:=mkE 193 false [] ti193 to193 F193 [.tmp 2,.tmp 3] 54 []
def tb193:=insT 193 te193 tb252
theorem ok193:TbOk Tryz.prog tb193:=okI ok252 noPl tv193 Tryz.func193 rfl Tryz.results193 Tryz.ntmps193 (by kernel_rfl) (by kernel_rfl) Tryz.call193 r193
abbrev ti245:SPat:=⟨[(0,.agg (pl plC)),(1,.agg (pl plM))],[]⟩
abbrev to245:SPat:=⟨[(4,.i .i64)],[]⟩
def F245:(Cls)×Mth→Option (Int):=fun ((c0,c1,c2,c3,c4,c5,c6),m0,m1,m2,m3,m4,m5,m6,m7) =>
 zAA (F131 (c0,m2)) fun y =>
 zAA (F214 y) fun (y1,y2,y3) =>
 zAA (F108 (m0,(1:Int))) fun y4 =>
 cndO (y4)
  (some ((y1.length:Int)))
  (some (IntKind.wrap .i64 ((y1.length:Int)+1)))
theorem r245 x:funT T tb193 noPl 26 noIv (zAD Tryz.f245) ti245 to245 x=F245 x:=by kernel_rfl
def te245:=mkE 245 true [] ti245 to245 F245 [.tmp 4] 26 []
def tb245:=insT 245 te245 tb193
theorem ok245:TbOk Tryz.prog tb245:=okI ok193 noPl noIv Tryz.func245 rfl Tryz.results245 Tryz.ntmps245 (by kernel_rfl) (by kernel_rfl) Tryz.call245 r245
abbrev ti254:SPat:=⟨[(0,.sl tg89),(1,.i .i64)],[]⟩
abbrev to254:SPat:=⟨[(4,.i .i64)],[]⟩
abbrev ts254_2:SPat:=⟨[(0,.sl tg89),(1,.i .i64),(5,.i .i64)],[]⟩
abbrev zKa:SPat:=⟨[],[]⟩
def tv254:Nat→Option SPat:=fun k=>bif k == 2 then some ts254_2 else bif k == 2000000 then some zKa else none
def F254:List (Int×Int×Int)×Int→Option (Int):=fun (list,at_) =>
 bindE (zAF (fun (list1,at_1,i) =>
   cndO (decide (i<(list1.length:Int)))
    (grdO (decide (0≤i)) (atO (list1) i.toNat fun x=>cndO (decide (x.1=at_1))
     (some (Sum.inr (Sum.inr i)))
     (some (Sum.inl (list1,at_1,IntKind.wrap .i64 (i+1))))))
    (some (Sum.inr (Sum.inl ())))) ((list,at_,(0:Int)))) fun _ =>
 some ((-1:Int))
theorem r254 x:funT T tb245 noPl 20 tv254 (zAD Tryz.f254) ti254 to254 x=F254 x:=by kernel_rfl
def te254:=mkE 254 true [] ti254 to254 F254 [.tmp 4] 20 []
def tb254:=insT 254 te254 tb245
theorem ok254:TbOk Tryz.prog tb254:=okI ok245 noPl tv254 Tryz.func254 rfl Tryz.results254 Tryz.ntmps254 (by kernel_rfl) (by kernel_rfl) Tryz.call254 r254
abbrev ti246:SPat:=⟨[(0,.agg (pl plC)),(1,.agg (pl plM)),(2,.sl tg89),(3,.agg (pl [.i .i64,.i .i64,.i .i64]))],[]⟩
abbrev to246:SPat:=⟨[(8,.b)],[]⟩
def F246:(Cls)×(Mth)×List (Int×Int×Int)×Int×Int×Int→Option (Bool):=fun ((c0,c1,c2,c3,c4,c5,c6),(m0,m1,m2,m3,m4,m5,m6,m7),list,x0,x1,x2) =>
 zAA (F107 (x1,(3:Int),(6:Int))) fun y =>
 cndO (y)
  (some (decide (x2<m4)))
  (zAA (F107 (x1,(14:Int),(18:Int))) fun y1 =>
  cndO (y1)
   (zAA (F254 (list,x2)) fun y2 =>
   some (decide (0≤y2)))
   (zAA (F291 x1) fun y2 =>
   cndO (decide (y2=0))
    (some (true))
    (zAA (F133 (c0,x2,y2)) fun y3 =>
    some (y3))))
theorem r246 x:funT T tb254 noPl 39 noIv (zAD Tryz.f246) ti246 to246 x=F246 x:=by kernel_rfl
def te246:=mkE 246 true [] ti246 to246 F246 [.tmp 8] 39 []
def tb246:=insT 246 te246 tb254
theorem ok246:TbOk Tryz.prog tb246:=okI ok254 noPl noIv Tryz.func246 rfl Tryz.results246 Tryz.ntmps246 (by kernel_rfl) (by kernel_rfl) Tryz.call246 r246
abbrev ti247:SPat:=⟨[(0,.agg (pl plC)),(1,.agg (pl plM)),(2,.sl tg89),(3,.agg (pl [.i .i64,.i .i64,.i .i64,.i .i64]))],[]⟩
abbrev to247:SPat:=⟨[(8,.b)],[]⟩
abbrev zKf:SPat:=⟨[(4,.ptr 4 0),(7,.ptr 7 0)],[.box 4 (pl plC),.box 7 (pl [.i .i64,.i .i64,.i .i64,.i .i64])]⟩
def tv247:Nat→Option SPat:=fun k=>bif k == 1000003 then some zKf else none
def F247:(Cls)×(Mth)×List (Int×Int×Int)×Int×Int×Int×Int→Option (Bool):=fun ((c0,c1,c2,c3,c4,c5,c6),(m0,m1,m2,m3,m4,m5,m6,m7),list,t0,t1,t2,t3) =>
 bindE (Y:=(Cls)×Int×Int×Int×Int) (cndO (decide (t1≤t0))
   (some (Sum.inr false))
   (zAA (F254 (list,t0)) fun y =>
   cndO (decide (y<0))
    (some (Sum.inr false))
    (cndO (!decide (t1=(m5.length:Int)))
     (zAA (F254 (list,t1)) fun y1 =>
     cndO (decide (y1<0))
      (some (Sum.inr false))
      (zAA (F254 (list,t2)) fun y2 =>
      cndO (decide (y2<0))
       (some (Sum.inr false))
       (some (Sum.inl ((c0,c1,c2,c3,c4,c5,c6),t0,t1,t2,t3)))))
     (zAA (F254 (list,t2)) fun y1 =>
     cndO (decide (y1<0))
      (some (Sum.inr false))
      (some (Sum.inl ((c0,c1,c2,c3,c4,c5,c6),t0,t1,t2,t3))))))) fun ((o0,o1,o2,o3,o4,o5,o6),o01,o11,o21,o31) =>
 cndO (decide (o31=0))
  (some (true))
  (zAA (F130 (o0,o31)) fun y =>
  some (!decide (y=[])))
theorem r247 x:funT T tb246 noPl 54 tv247 (zAD Tryz.f247) ti247 to247 x=F247 x:=by kernel_rfl
def te247:=mkE 247 true [] ti247 to247 F247 [.tmp 8] 54 []
def tb247:=insT 247 te247 tb246
theorem ok247:TbOk Tryz.prog tb247:=okI ok246 noPl tv247 Tryz.func247 rfl Tryz.results247 Tryz.ntmps247 (by kernel_rfl) (by kernel_rfl) Tryz.call247 r247
abbrev ti292:SPat:=⟨[(0,.agg (pl plC)),(1,.sl zBB)],[]⟩
abbrev to292:SPat:=⟨[(4,.b)],[]⟩
abbrev ts292_2:SPat:=⟨[(1,.sl zBB),(2,.ptr 2 0),(5,.i .i64)],[.box 2 (pl plC)]⟩
abbrev zJw:SPat:=⟨[],[]⟩
abbrev zJv:SPat:=⟨[(1,.sl zBB),(2,.ptr 2 0),(5,.i .i64)],[.box 2 (pl plC)]⟩
def tv292:Nat→Option SPat:=fun k=>bif k == 2 then some ts292_2 else bif k == 2000000 then some zJw else bif k == 2000001 then some zJv else none
def tp292:Nat→List Nat×Plan:=fun id=>bif id == 4 then ([0,1,2,3,4],(.br 5 [4,3,2,1,0] [] [6,7,8,9,10,11,12,13,14,15,16,17,18,19,20,21] (.br 22 [21,20,19,18,17,16,15,14,13,12,11,10,9,8,7,6,5,4,3,2,1,0] [] [23,24,25,26,27,28,29,30,31,32,33,34,35,36,37,38,39,40,41] .fin .fin) .fin)) else ([],.fin)
def F292:(Cls)×List (Int×Int)→Option (Bool):=fun ((c0,c1,c2,c3,c4,c5,c6),list) =>
 bindE (zAF (fun (list1,i,o0,o1,o2,o3,o4,o5,o6) =>
   cndO (decide (i<(list1.length:Int)))
    (bindE (Y:=List (Int×Int)×Int×Cls) (grdO (decide (0≤i)) (atO (list1) i.toNat fun x=>zAA (F107 (x.1,(0:Int),(3:Int))) fun y =>
     cndO (!y)
      (some (Sum.inr (Sum.inr (Sum.inr false))))
      (grdO (decide (0≤i)) (atO (list1) i.toNat fun x1=>cndO (decide (x1.1=3))
       (grdO (decide (0≤i)) (atO (list1) i.toNat fun x2=>zAA (F130 (o0,x2.2)) fun y1 =>
       cndO (decide (y1=[]))
        (some (Sum.inr (Sum.inr (Sum.inr false))))
        (grdO (decide (0≤i)) (atO (list1) i.toNat fun x3=>cndO (!decide (x3.1=3))
         (grdO (decide (0≤i)) (atO (list1) i.toNat fun x4=>cndO (!decide (x4.2=0))
          (some (Sum.inr (Sum.inr (Sum.inr false))))
          (some (Sum.inl (list1,i,o0,o1,o2,o3,o4,o5,o6)))))
         (some (Sum.inl (list1,i,o0,o1,o2,o3,o4,o5,o6)))))))
       (grdO (decide (0≤i)) (atO (list1) i.toNat fun x2=>cndO (!decide (x2.1=3))
        (grdO (decide (0≤i)) (atO (list1) i.toNat fun x3=>cndO (!decide (x3.2=0))
         (some (Sum.inr (Sum.inr (Sum.inr false))))
         (some (Sum.inl (list1,i,o0,o1,o2,o3,o4,o5,o6)))))
        (some (Sum.inl (list1,i,o0,o1,o2,o3,o4,o5,o6))))))))) fun (list2,i1,o01,o11,o21,o31,o41,o51,o61) =>
    some (Sum.inl (list2,IntKind.wrap .i64 (i1+1),o01,o11,o21,o31,o41,o51,o61)))
    (some (Sum.inr (Sum.inl ())))) ((list,(0:Int),c0,c1,c2,c3,c4,c5,c6))) fun _ =>
 some (true)
theorem r292 x:funT T tb247 tp292 54 tv292 (zAD Tryz.f292) ti292 to292 x=F292 x:=by kernel_rfl
def te292:=mkE 292 true [] ti292 to292 F292 [.tmp 4] 54 []
def tb292:=insT 292 te292 tb247
theorem ok292:TbOk Tryz.prog tb292:=okI ok247 tp292 tv292 Tryz.func292 rfl Tryz.results292 Tryz.ntmps292 (by kernel_rfl) (by kernel_rfl) Tryz.call292 r292
abbrev ti248:SPat:=⟨[(0,.agg (pl plC)),(1,.agg (pl plM)),(2,.sl tg89)],[]⟩
abbrev to248:SPat:=⟨[(6,.b)],[]⟩
abbrev ts248_2:SPat:=⟨[(2,.sl tg89),(3,.ptr 3 0),(4,.ptr 4 0),(7,.i .i64)],[.box 3 (pl plC),.box 4 (pl plM)]⟩
abbrev zKe:SPat:=⟨[],[]⟩
abbrev zKd:SPat:=⟨[(2,.sl tg89),(3,.ptr 3 0),(4,.ptr 4 0),(7,.i .i64)],[.box 3 (pl plC),.box 4 (pl plM)]⟩
def tv248:Nat→Option SPat:=fun k=>bif k == 2 then some ts248_2 else bif k == 2000000 then some zKe else bif k == 2000001 then some zKd else none
def tp248:Nat→List Nat×Plan:=fun id=>bif id == 5 then ([0,1,2],(.br 3 [2,1,0] [] [4,5,6,7,8,9,10,11,12,13,14,15,16,17,18,19,20,21,22,23,24,25,26,27,28,29,30,31,32,33,34,35,36,37,38,39,40] (.br 41 [40,39,38,37,36,35,34,33,32,31,30,29,28,27,26,25,24,23,22,21,20,19,18,17,16,15,14,13,12,11,10,9,8,7,6,5,4,3,2,1,0] [] [42,43,44,45,46,47] (.br 48 [47,46,45,44,43,42,41,40,39,38,37,36,35,34,33,32,31,30,29,28,27,26,25,24,23,22,21,20,19,18,17,16,15,14,13,12,11,10,9,8,7,6,5,4,3,2,1,0] [] [49,50] .fin .fin) .fin) .fin)) else ([],.fin)
def F248:(Cls)×(Mth)×List (Int×Int×Int)→Option (Bool):=fun ((app0,app1,app2,app3,app4,app5,app6),(v10,v11,v12,v13,v14,v15,v16,v17),v2) =>
 bindE (zAF (fun (v21,v7,(o0,o1,o2,o3,o4,o5,o6),o01,o11,o21,o31,o41,o51,o61,o7) =>
   cndO (decide (v7<(o7.length:Int)))
    (bindE (Y:=List (Int×Int×Int)×Int×(Cls)×Mth) (grdO (decide (0≤v7)) (atO (o7) v7.toNat fun x=>zAA (F254 (v21,x.1)) fun y =>
     cndO (decide (y<0))
      (some (Sum.inr (Sum.inr (Sum.inr false))))
      (cndO (decide (0<v7))
       (grdO (decide (0≤IntKind.wrap .i64 (v7 - 1))) (atO (o7) (Int.toNat (IntKind.wrap .i64 (v7 - 1))) fun x1=>cndO (decide (x.1≤x1.1))
        (some (Sum.inr (Sum.inr (Sum.inr false))))
        (cndO (!decide ((x.2.1.length:Int)=o41))
         (some (Sum.inr (Sum.inr (Sum.inr false))))
         (cndO (decide (o31<(x.2.2.length:Int)))
          (some (Sum.inr (Sum.inr (Sum.inr false))))
          (zAA (F292 ((o0,o1,o2,o3,o4,o5,o6),x.2.1)) fun y1 =>
          cndO (!y1)
           (some (Sum.inr (Sum.inr (Sum.inr false))))
           (zAA (F292 ((o0,o1,o2,o3,o4,o5,o6),x.2.2)) fun y2 =>
           cndO (!y2)
            (some (Sum.inr (Sum.inr (Sum.inr false))))
            (some (Sum.inl (v21,v7,(o0,o1,o2,o3,o4,o5,o6),o01,o11,o21,o31,o41,o51,o61,o7)))))))))
       (cndO (!decide ((x.2.1.length:Int)=o41))
        (some (Sum.inr (Sum.inr (Sum.inr false))))
        (cndO (decide (o31<(x.2.2.length:Int)))
         (some (Sum.inr (Sum.inr (Sum.inr false))))
         (zAA (F292 ((o0,o1,o2,o3,o4,o5,o6),x.2.1)) fun y1 =>
         cndO (!y1)
          (some (Sum.inr (Sum.inr (Sum.inr false))))
          (zAA (F292 ((o0,o1,o2,o3,o4,o5,o6),x.2.2)) fun y2 =>
          cndO (!y2)
           (some (Sum.inr (Sum.inr (Sum.inr false))))
           (some (Sum.inl (v21,v7,(o0,o1,o2,o3,o4,o5,o6),o01,o11,o21,o31,o41,o51,o61,o7)))))))))) fun (v22,v71,(o02,o12,o22,o32,o42,o52,o62),o03,o13,o23,o33,o43,o53,o63,o71) =>
    some (Sum.inl (v22,IntKind.wrap .i64 (v71+1),(o02,o12,o22,o32,o42,o52,o62),o03,o13,o23,o33,o43,o53,o63,o71)))
    (some (Sum.inr (Sum.inl ())))) ((v2,(0:Int),(app0,app1,app2,app3,app4,app5,app6),v10,v11,v12,v13,v14,v15,v16,v17))) fun _ =>
 some (true)
theorem r248 x:funT T tb292 tp248 72 tv248 (zAD Tryz.f248) ti248 to248 x=F248 x:=by kernel_rfl
def te248:=mkE 248 true [] ti248 to248 F248 [.tmp 6] 72 []
def tb248:=insT 248 te248 tb292
theorem ok248:TbOk Tryz.prog tb248:=okI ok292 tp248 tv248 Tryz.func248 rfl Tryz.results248 Tryz.ntmps248 (by kernel_rfl) (by kernel_rfl) Tryz.call248 r248
abbrev ti178:SPat:=⟨[(0,.agg (pl plC)),(1,.agg (pl plM))],[]⟩
abbrev to178:SPat:=⟨[(4,.b)],[]⟩
abbrev ts178_7:SPat:=⟨[(2,.ptr 2 0),(3,.ptr 3 0),(5,.own tg89 true),(7,.i .i64)],[.box 2 (pl plC),.box 3 (pl plM)]⟩
abbrev ts178_12:SPat:=⟨[(2,.ptr 2 0),(3,.ptr 3 0),(5,.own tg89 true),(8,.i .i64)],[.box 2 (pl plC),.box 3 (pl plM)]⟩
abbrev zLN:SPat:=⟨[(2,.ptr 2 0),(3,.ptr 3 0),(5,.own tg89 true)],[.box 2 (pl plC),.box 3 (pl plM)]⟩
abbrev zLM:SPat:=⟨[(2,.ptr 2 0),(3,.ptr 3 0),(5,.own tg89 true)],[.box 2 (pl plC),.box 3 (pl plM)]⟩
abbrev zLL:SPat:=⟨[(2,.ptr 2 0),(3,.ptr 3 0),(5,.own tg89 true)],[.box 2 (pl plC),.box 3 (pl plM)]⟩
def tv178:Nat→Option SPat:=fun k=>bif k == 7 then some ts178_7 else bif k == 12 then some ts178_12 else bif k == 1000006 then some zLN else bif k == 2000000 then some zLM else bif k == 2000002 then some zLL else none
def tp178:Nat→List Nat×Plan:=fun id=>bif id == 4 then ([0,1,2,3,4,5,6,7,8,9,10,11],(.br 12 [11,10,7,6,5,4,3,2,1,0] [8,9] [] (.br 13 [12,11,10,9,8,7,6,5,4,3,2,1,0] [] [14,15] .fin .fin) .fin)) else bif id == 9 then ([0,1,2,3,4,5,6],(.br 7 [6,5,4,3,2,1,0] [] [8] .fin .fin)) else bif id == 14 then ([0,1,2,3,4,5,6,7],(.br 8 [7,6,5,4,3,2,1,0] [] [9] .fin .fin)) else ([],.fin)
def F178:(Cls)×Mth→Option (Bool):=fun ((app0,app1,app2,app3,app4,app5,app6),v10,v11,v12,v13,v14,v15,v16,v17) =>
 zAA (F108 (v10,(8:Int))) fun y =>
 cndO (y)
  (some (true))
  (zAA (F193 v15) fun (y1,y2) =>
  bindE (Y:=List (Int×Int×Int)×(Cls)×Mth) (cndO (!y2)
    (some (Sum.inr false))
    (cndO (decide (8<v13))
     (some (Sum.inr false))
     (zAA (F245 ((app0,app1,app2,app3,app4,app5,app6),v10,v11,v12,v13,v14,v15,v16,v17)) fun y3 =>
     seqU (seqU (grdO (decide (v14=v14)) (some ())) (some ())) (zAA (F107 (v14,y3,(8:Int))) fun y4 =>
     cndO (!y4)
      (some (Sum.inr false))
      (some (Sum.inl (y1,(app0,app1,app2,app3,app4,app5,app6),v10,v11,v12,v13,v14,v15,v16,v17))))))) fun (v5,(o0,o1,o2,o3,o4,o5,o6),o01,o11,o21,o31,o41,o51,o61,o7) =>
  bindE (Y:=List (Int×Int×Int)×(Cls)×Mth) (zAF (fun (v51,v7,(o02,o12,o22,o32,o42,o52,o62),o03,o13,o23,o33,o43,o53,o63,o71) =>
    cndO (decide (v7<(v51.length:Int)))
     (grdO (decide (0≤v7) && decide (v7<(v51.length:Int))) (atO (v51) v7.toNat fun x=>zAA (F246 ((o02,o12,o22,o32,o42,o52,o62),(o03,o13,o23,o33,o43,o53,o63,o71),v51,x.1,x.2.1,x.2.2)) fun y3 =>
     cndO (!y3)
      (some (Sum.inr (Sum.inr false)))
      (some (Sum.inl (v51,IntKind.wrap .i64 (v7+1),(o02,o12,o22,o32,o42,o52,o62),o03,o13,o23,o33,o43,o53,o63,o71)))))
     (some (Sum.inr (Sum.inl (v51,(o02,o12,o22,o32,o42,o52,o62),o03,o13,o23,o33,o43,o53,o63,o71))))) ((v5,(0:Int),(o0,o1,o2,o3,o4,o5,o6),o01,o11,o21,o31,o41,o51,o61,o7))) fun (v51,(o02,o12,o22,o32,o42,o52,o62),o03,o13,o23,o33,o43,o53,o63,o71) =>
  bindE (Y:=List (Int×Int×Int)×(Cls)×Mth) (zAF (fun (v52,v8,(o04,o14,o24,o34,o44,o54,o64),o05,o15,o25,o35,o45,o55,o65,o72) =>
    cndO (decide (v8<(o65.length:Int)))
     (grdO (decide (0≤v8)) (atO (o65) v8.toNat fun x=>zAA (F247 ((o04,o14,o24,o34,o44,o54,o64),(o05,o15,o25,o35,o45,o55,o65,o72),v52,x.1,x.2.1,x.2.2.1,x.2.2.2)) fun y3 =>
     cndO (!y3)
      (some (Sum.inr (Sum.inr false)))
      (some (Sum.inl (v52,IntKind.wrap .i64 (v8+1),(o04,o14,o24,o34,o44,o54,o64),o05,o15,o25,o35,o45,o55,o65,o72)))))
     (some (Sum.inr (Sum.inl (v52,(o04,o14,o24,o34,o44,o54,o64),o05,o15,o25,o35,o45,o55,o65,o72))))) ((v51,(0:Int),(o02,o12,o22,o32,o42,o52,o62),o03,o13,o23,o33,o43,o53,o63,o71))) fun (v52,(o04,o14,o24,o34,o44,o54,o64),o05,o15,o25,o35,o45,o55,o65,o72) =>
  zAA (F248 ((o04,o14,o24,o34,o44,o54,o64),(o05,o15,o25,o35,o45,o55,o65,o72),v52)) fun y3 =>
  some (y3))
theorem r178 x:funT T tb248 tp178 70 tv178 (zAD Tryz.f178) ti178 to178 x=F178 x:=by kernel_rfl
def te178:=mkE 178 true [] ti178 to178 F178 [.tmp 4] 70 []
def tb178:=insT 178 te178 tb248
theorem ok178:TbOk Tryz.prog tb178:=okI ok248 tp178 tv178 Tryz.func178 rfl Tryz.results178 Tryz.ntmps178 (by kernel_rfl) (by kernel_rfl) Tryz.call178 r178
abbrev ti88:SPat:=⟨[(0,.agg (pl plC))],[]⟩
abbrev to88:SPat:=⟨[(2,.i .i64)],[]⟩
abbrev ts88_10:SPat:=⟨[(1,.ptr 1 0),(3,.i .i64)],[.box 1 (pl plC)]⟩
abbrev zNG:SPat:=⟨[],[]⟩
def tv88:Nat→Option SPat:=fun k=>bif k == 10 then some ts88_10 else bif k == 2000000 then some zNG else none
def tp88:Nat→List Nat×Plan:=fun id=>bif id == 12 then ([0,1,2,3,4,5],(.br 6 [5,4,3,2,1,0] [] [7] .fin .fin)) else ([],.fin)
def F88:Cls→Option (Int):=fun (c0,c1,c2,c3,c4,c5,c6) =>
 zAA (F15 c0) fun y =>
 cndO (!decide (y=0))
  (some ((2:Int)))
  (zAA (F175 (c0,c1,c2,c3,c4,c5,c6)) fun y1 =>
  cndO (!y1)
   (some ((3:Int)))
   (zAA (F176 (c0,c1,c2,c3,c4,c5,c6)) fun y2 =>
   cndO (!y2)
    (some ((4:Int)))
    (zAA (F177 (c0,c1,c2,c3,c4,c5,c6)) fun y3 =>
    cndO (!y3)
     (some ((5:Int)))
     (bindE (zAF (fun (i,o0,o1,o2,o3,o4,o5,o6) =>
       cndO (decide (i<(o6.length:Int)))
        (grdO (decide (0≤i)) (atO (o6) i.toNat fun x=>zAA (F178 ((o0,o1,o2,o3,o4,o5,o6),x.1,x.2.1,x.2.2.1,x.2.2.2.1,x.2.2.2.2.1,x.2.2.2.2.2.1,x.2.2.2.2.2.2.1,x.2.2.2.2.2.2.2)) fun y4 =>
        cndO (!y4)
         (some (Sum.inr (Sum.inr (6:Int))))
         (some (Sum.inl (IntKind.wrap .i64 (i+1),o0,o1,o2,o3,o4,o5,o6)))))
        (some (Sum.inr (Sum.inl ())))) (((0:Int),c0,c1,c2,c3,c4,c5,c6))) fun _ =>
     some ((0:Int))))))
theorem r88 x:funT T tb178 tp88 32 tv88 (zAD Tryz.f88) ti88 to88 x=F88 x:=by kernel_rfl
def te88:=mkE 88 true [] ti88 to88 F88 [.tmp 2] 32 []
def tb88:=insT 88 te88 tb178
theorem ok88:TbOk Tryz.prog tb88:=okI ok178 tp88 tv88 Tryz.func88 rfl Tryz.results88 Tryz.ntmps88 (by kernel_rfl) (by kernel_rfl) Tryz.call88 r88
abbrev ti218:SPat:=⟨[(0,.s)],[]⟩
abbrev to218:SPat:=⟨[(2,.ptr 2 0),(3,.b)],[.box 2 (pl plD)]⟩
abbrev ts218_6:SPat:=⟨[(2,.ptr 2 0),(4,.ptr 25 0),(5,.own .str true),(6,.i .i64)],[.box 2 (pl plD),.box 25 (pl [.own tg27 true,.i .i64,.i .i64,.i .i64,.own (.int .i64) true,.own tg89 true,.own tg53 true,.b])]⟩
abbrev zKt:SPat:=⟨[(0,.s),(2,.ptr 2 0)],[.box 2 (pl plD)]⟩
abbrev zKs:SPat:=⟨[(2,.ptr 2 0),(4,.ptr 25 0),(5,.own .str true),(6,.i .i64)],[.box 2 (pl plD),.box 25 (pl [.own tg27 true,.i .i64,.i .i64,.i .i64,.own (.int .i64) true,.own tg89 true,.own tg53 true,.b])]⟩
abbrev zKr:SPat:=⟨[(2,.ptr 2 0),(4,.ptr 25 0)],[.box 2 (pl plD),.box 25 (pl [.own tg27 true,.i .i64,.i .i64,.i .i64,.own (.int .i64) true,.own tg89 true,.own tg53 true,.b])]⟩
abbrev zKq:SPat:=⟨[(2,.ptr 2 0),(4,.ptr 25 0)],[.box 2 (pl plD),.box 25 (pl [.own tg27 true,.i .i64,.i .i64,.i .i64,.own (.int .i64) true,.own tg89 true,.own tg53 true,.b])]⟩
def tv218:Nat→Option SPat:=fun k=>bif k == 6 then some ts218_6 else bif k == 1000003 then some zKt else bif k == 1000008 then some zKs else bif k == 1000011 then some zKr else bif k == 2000000 then some zKq else none
def F218:List UInt8→Option (Bool×Cls):=fun app =>
 bindE (Y:=List UInt8×Cls) (cndO (decide (2500<(app.length:Int)))
   (some (Sum.inr (false,[],(0:Int),(0:Int),(0:Int),[],[],[])))
   (cndO (decide ((app.length:Int)=0))
    (some (Sum.inr (false,[],(0:Int),(0:Int),(0:Int),[],[],[])))
    (grdO (decide (0≤IntKind.wrap .i64 ((app.length:Int) - 1))) (atO (app) (Int.toNat (IntKind.wrap .i64 ((app.length:Int) - 1))) fun x=>cndO (!decide ((x.toNat:Int)=10))
     (some (Sum.inr (false,[],(0:Int),(0:Int),(0:Int),[],[],[])))
     (some (Sum.inl (app,[],(0:Int),(0:Int),(0:Int),[],[],[]))))))) fun (app1,o0,o1,o2,o3,o4,o5,o6) =>
 zAA (F278 (app1,(10:Int),(app1.length:Int))) fun y =>
 bindE (Y:=(Cls)×List Cst×Int×Int×Int×List Int×List (Int×Int×Int)×List Mth×Bool) (zAF (fun (v5,v6,(o01,o11,o21,o31,o41,o51,o61),o02,o12,o22,o32,o42,o52,o62,o7) =>
   bindE (Y:=List (List UInt8)×Int×(Cls)×List Cst×Int×Int×Int×List Int×List (Int×Int×Int)×List Mth×Bool) (cndO (decide (v6<IntKind.wrap .i64 ((v5.length:Int) - 1)))
     (cndO (!o7)
      (some (Sum.inl (v5,v6,(o01,o11,o21,o31,o41,o51,o61),o02,o12,o22,o32,o42,o52,o62,o7)))
      (some (Sum.inr (Sum.inr (Sum.inl ((o01,o11,o21,o31,o41,o51,o61),o02,o12,o22,o32,o42,o52,o62,o7))))))
     (some (Sum.inr (Sum.inr (Sum.inl ((o01,o11,o21,o31,o41,o51,o61),o02,o12,o22,o32,o42,o52,o62,o7)))))) fun (v51,v61,(o03,o13,o23,o33,o43,o53,o63),o04,o14,o24,o34,o44,o54,o64,o71) =>
   grdO (decide (0≤v61) && decide (v61<(v51.length:Int))) (atO (v51) v61.toNat fun x=>zAA (F279 (x,o04,o14,o24,o34,o44,o54,o64,o71)) fun (y1,y2,y3,y4,y5,y6,x1,x2) =>
   some (Sum.inl (v51,IntKind.wrap .i64 (v61+1),(o03,o13,o23,o33,o43,o53,o63),y1,y2,y3,y4,y5,y6,x1,x2)))) ((y,(0:Int),(o0,o1,o2,o3,o4,o5,o6),[],(0:Int),(0:Int),(0:Int),[],[],[],false))) fun ((o01,o11,o21,o31,o41,o51,o61),o02,o12,o22,o32,o42,o52,o62,o7) =>
 bindE (Y:=(Cls)×List Cst×Int×Int×Int×List Int×List (Int×Int×Int)×List Mth×Bool) (cndO (o7)
   (some (Sum.inr (false,[],(0:Int),(0:Int),(0:Int),[],[],[])))
   (zAA (F22 (o02,o12,o22,o32,o42,o52,o62)) fun y1 =>
   cndO (decide (y1=[]))
    (some (Sum.inr (false,[],(0:Int),(0:Int),(0:Int),[],[],[])))
    (zAA (F88 (o02,o12,o22,o32,o42,o52,o62)) fun y2 =>
    cndO (!decide (y2=0))
     (some (Sum.inr (false,[],(0:Int),(0:Int),(0:Int),[],[],[])))
     (some (Sum.inl ((o01,o11,o21,o31,o41,o51,o61),o02,o12,o22,o32,o42,o52,o62,o7)))))) fun ((o03,o13,o23,o33,o43,o53,o63),o04,o14,o24,o34,o44,o54,o64,o71) =>
 some ((true,o04,o14,o24,o34,o44,o54,o64))
theorem r218 x:funT T tb88 noPl 75 tv218 (zAD Tryz.f218) ti218 to218 x=F218 x:=by kernel_rfl
def te218:=mkE 218 false [] ti218 to218 F218 [.cell 2 34,.tmp 3] 75 []
def tb218:=insT 218 te218 tb88
theorem ok218:TbOk Tryz.prog tb218:=okI ok88 noPl tv218 Tryz.func218 rfl Tryz.results218 Tryz.ntmps218 (by kernel_rfl) (by kernel_rfl) Tryz.call218 r218
abbrev ti139:SPat:=⟨[(0,.s)],[]⟩
abbrev to139:SPat:=⟨[(2,.s)],[]⟩
def F139:List UInt8→Option (List UInt8):=fun s =>
 zAA (F218 s) fun (y,y1,y2,y3,y4,y5,x,x1) =>
 cndO (!y)
  (some ([(83:UInt8),84,79,87]))
  (zAA (F55 (y1,y2,y3,y4,y5,x,x1)) fun y6 =>
  some (y6))
theorem r139 x:funT T tb218 noPl 14 noIv (zAD Tryz.f139) ti139 to139 x=F139 x:=by kernel_rfl
def te139:=mkE 139 true [] ti139 to139 F139 [.tmp 2] 14 []
def tb139:=insT 139 te139 tb218
theorem ok139:TbOk Tryz.prog tb139:=okI ok218 noPl noIv Tryz.func139 rfl Tryz.results139 Tryz.ntmps139 (by kernel_rfl) (by kernel_rfl) Tryz.call139 r139
abbrev ti138:SPat:=⟨[(0,.ptr 100000 0)],[.box 100000 (pl [.sl .byte,.i .i64])]⟩
abbrev to138:SPat:=⟨[(2,.ptr 2 0)],[.box 2 (pl [.s,.s]),.box 100000 (pl [.sl .byte,.i .i64])]⟩
def F138:List UInt8×Int→Option ((List UInt8×List UInt8)×List UInt8×Int):=fun (o0,o1) =>
 zAA (F119 ([[(79:UInt8),98,106],[(79:UInt8),98,106],[(79:UInt8),98,106],[(65:UInt8)]],o0,o1)) fun (y,y1,y2) =>
 grdO (decide ((8:Nat)+List.length y≤9223372036854775807)) (grdO (decide (List.length ([(99:UInt8),108,97,115,115,32,77,32]++y)+3≤9223372036854775807)) (zAA (F217 ([(109:UInt8),97,105,110],y1,y2)) fun (y3,y4,y5) =>
 grdO (decide (List.length ([(99:UInt8),108,97,115,115,32,77,32]++y++[(32:UInt8),48,10])+List.length y3≤9223372036854775807)) (zAA (F139 ([(99:UInt8),108,97,115,115,32,77,32]++y++[(32:UInt8),48,10]++y3)) fun y6 =>
 some ((([(77:UInt8)],y6),y4,y5)))))
theorem r138 x:funT T tb139 noPl 13 noIv (zAD Tryz.f138) ti138 to138 x=F138 x:=by kernel_rfl
def te138:=mkE 138 false [(0,[])] ti138 to138 F138 [.cell 2 143] 13 [100000]
def tb138:=insT 138 te138 tb139
theorem ok138:TbOk Tryz.prog tb138:=okI ok139 noPl noIv Tryz.func138 rfl Tryz.results138 Tryz.ntmps138 (by kernel_rfl) (by kernel_rfl) Tryz.call138 r138
end Go.Proofs.YtdpapeledldifaaGreat
end
