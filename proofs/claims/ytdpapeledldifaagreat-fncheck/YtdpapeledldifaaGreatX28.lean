/- Part 29 of the proof that the law FnCheck holds of every input; no condition. -/
import Derived.Test.YtdpapeledldifaaGreatX27
set_option autoImplicit true
set_option relaxedAutoImplicit true
set_option linter.all false
noncomputable section
namespace Go.Proofs.YtdpapeledldifaaGreat
open Go Go.AM Go.TM
open Go.Proofs.Tryz
open Sum (inl inr)
set_option maxRecDepth 100000
set_option maxHeartbeats 4000000
abbrev ti222:SPat:=⟨[(0,.ptr 100000 0)],[.box 100000 (pl plS)]⟩
abbrev to222:SPat:=⟨[(2,.i .i64)],[.box 100000 (pl plS)]⟩
def F222:List UInt8×Int×Bool→Option (Int×List UInt8×Int×Bool):=fun (o0,o1,o2) =>
 zAA (F221 (o0,o1,o2)) fun (y,y1,y2,y3) =>
 zAA (F221 (y1,y2,y3)) fun (y4,y5,y6,y7) =>
 some ((IntKind.wrap .i64 (IntKind.wrap .i64 (y*256)+y4),y5,y6,y7))
def tb222:=insT 222 (mkE 222 false [(0,[])] ti222 to222 F222 [.tmp 2] 13 [100000]) tb221
theorem ok222:TbOk Tryz.prog tb222:=okI ok221 noPl noIv func222 rfl call222
abbrev ti280:SPat:=⟨[(0,.ptr 100000 0)],[.box 100000 (pl plS)]⟩
abbrev to280:SPat:=⟨[(2,.ptr 2 0)],[.box 2 (pl [.i .i64,.s,.i .i64,.i .i64]),.box 100000 (pl plS)]⟩
abbrev zKN:SPat:=⟨[(0,.ptr 100000 0),(2,.ptr 2 0),(3,.ptr 3 0),(24,.b)],[.box 2 (pl [.i .i64,.s,.i .i64,.i .i64]),.box 3 (pl [.i .i64,.s,.i .i64,.i .i64]),.box 100000 (pl plS)]⟩
abbrev zKM:SPat:=⟨[(2,.ptr 2 0),(3,.ptr 3 0)],[.box 2 (pl [.i .i64,.s,.i .i64,.i .i64]),.box 3 (pl [.i .i64,.s,.i .i64,.i .i64]),.box 100000 (pl plS)]⟩
def tv280:Nat→Option SPat:=fun k=>bif k == 1000012 then some zKN else bif k == 2000000 then some zKM else none
def F280:List UInt8×Int×Bool→Option ((Cst)×List UInt8×Int×Bool):=fun (o0,o1,o2) =>
 zAA (F221 (o0,o1,o2)) fun (y,y1,y2,y3) =>
 bindE (Y:=(Cst)×(Cst)×List UInt8×Int×Bool) (cndO (decide (y=1))
 (zAA (F221 (y1,y2,y3)) fun (y4,y5,y6,y7) =>
 zAA (F219 (y4,y5,y6,y7)) fun (y8,y9,y10,y11) =>
 some (inl (((0:Int),[],(0:Int),(0:Int)),(y,y8,(0:Int),(0:Int)),y9,y10,y11)))
 (cndO (decide (y=2))
 (zAA (F222 (y1,y2,y3)) fun (y4,y5,y6,y7) =>
 some (inl (((0:Int),[],(0:Int),(0:Int)),(y,[],y4,(0:Int)),y5,y6,y7)))
 (bindE (Y:=Bool×(Cst)×(Cst)×List UInt8×Int×Bool) (cndO (decide (y=3))
 (some (inl (true,((0:Int),[],(0:Int),(0:Int)),(y,[],(0:Int),(0:Int)),y1,y2,y3)))
 (cndO (decide (y=4))
 (some (inl (true,((0:Int),[],(0:Int),(0:Int)),(y,[],(0:Int),(0:Int)),y1,y2,y3)))
 (cndO (decide (y=5))
 (some (inl (true,((0:Int),[],(0:Int),(0:Int)),(y,[],(0:Int),(0:Int)),y1,y2,y3)))
 (some (inl (decide (y=6),((0:Int),[],(0:Int),(0:Int)),(y,[],(0:Int),(0:Int)),y1,y2,y3)))))) fun (v24,(o01,o11,o21,o3),(o02,o12,o22,o31),o03,o13,o23) =>
 cndO (v24)
 (zAA (F222 (o03,o13,o23)) fun (y4,y5,y6,y7) =>
 zAA (F222 (y5,y6,y7)) fun (y8,y9,y10,y11) =>
 some (inl ((o01,o11,o21,o3),(o02,o12,y4,y8),y9,y10,y11)))
 (some (inl ((o01,o11,o21,o3),(o02,o12,o22,o31),o03,o13,true)))))) fun ((o01,o11,o21,o3),(o02,o12,o22,o31),o03,o13,o23) =>
 some (((o02,o12,o22,o31),o03,o13,o23))
def tb280:=insT 280 (mkE 280 false [(0,[])] ti280 to280 F280 [.cell 2 27] 36 [100000]) tb222
theorem ok280:TbOk Tryz.prog tb280:=okI ok222 noPl tv280 func280 rfl call280
abbrev ti220:SPat:=⟨[(0,.ptr 100000 0)],[.box 100000 (pl plS)]⟩
abbrev to220:SPat:=⟨[(2,.own tg27 true)],[.box 100000 (pl plS)]⟩
abbrev ts220_6:SPat:=⟨[(0,.ptr 100000 0),(3,.own tg27 true),(4,.i .i64),(5,.i .i64)],[.box 100000 (pl plS)]⟩
abbrev zKs:SPat:=⟨[(0,.ptr 100000 0),(3,.own tg27 true),(4,.i .i64)],[.box 100000 (pl plS)]⟩
abbrev zKr:SPat:=⟨[(0,.ptr 100000 0),(3,.own tg27 true),(4,.i .i64),(5,.i .i64)],[.box 100000 (pl plS)]⟩
abbrev zKq:SPat:=⟨[(3,.own tg27 true)],[.box 100000 (pl plS)]⟩
def tv220:Nat→Option SPat:=fun k=>bif k == 6 then some ts220_6 else bif k == 1000005 then some zKs else bif k == 1000008 then some zKr else bif k == 2000000 then some zKq else none
def F220:List UInt8×Int×Bool→Option (List Cst×List UInt8×Int×Bool):=fun (o0,o1,o2) =>
 zAA (F221 (o0,o1,o2)) fun (y,y1,y2,y3) =>
 bindE (Y:=List Cst×Int×List UInt8×Int×Bool) (cndO (decide (60<y))
 (some (inl ([],y,y1,y2,true)))
 (some (inl ([],y,y1,y2,y3)))) fun (out,n,o01,o11,o21) =>
 bindE (Y:=List Cst×List UInt8×Int×Bool) (zAF (fun (out1,n1,i,o02,o12,o22) =>
 bindE (Y:=List Cst×Int×Int×List UInt8×Int×Bool) (cndO (decide (i<n1))
 (cndO (!o22)
 (some (inl (out1,n1,i,o02,o12,o22)))
 (some (inr (inr (inl (out1,o02,o12,o22))))))
 (some (inr (inr (inl (out1,o02,o12,o22)))))) fun (out2,n2,i1,o03,o13,o23) =>
 zAA (F280 (o03,o13,o23)) fun ((y4,y5,y6,y7),y8,y9,x) =>
 grdO (decide (List.length out2+1≤9223372036854775807) && decide ((List.length out2+1)*40≤140737488355328)) (some (inl (out2++[(y4,y5,y6,y7)],n2,IntKind.wrap .i64 (i1+1),y8,y9,x)))) ((out,n,(0:Int),o01,o11,o21))) fun (out1,o02,o12,o22) =>
 some ((out1,o02,o12,o22))
def tb220:=insT 220 (mkE 220 false [(0,[])] ti220 to220 F220 [.tmp 2] 32 [100000]) tb280
theorem ok220:TbOk Tryz.prog tb220:=okI ok280 noPl tv220 func220 rfl call220
abbrev ti317:SPat:=⟨[(0,.ptr 100000 0)],[.box 100000 (pl plS)]⟩
abbrev to317:SPat:=⟨[(2,.own zBH true)],[.box 100000 (pl plS)]⟩
abbrev ts317_6:SPat:=⟨[(0,.ptr 100000 0),(3,.own zBH true),(4,.i .i64),(5,.i .i64)],[.box 100000 (pl plS)]⟩
abbrev zJj:SPat:=⟨[(0,.ptr 100000 0),(3,.own zBH true),(4,.i .i64)],[.box 100000 (pl plS)]⟩
abbrev zJi:SPat:=⟨[(0,.ptr 100000 0),(3,.own zBH true),(4,.i .i64),(5,.i .i64)],[.box 100000 (pl plS)]⟩
abbrev zJh:SPat:=⟨[(0,.ptr 100000 0),(3,.own zBH true),(4,.i .i64),(5,.i .i64),(6,.ptr 6 0)],[.box 6 (pl [.i .i64,.i .i64]),.box 100000 (pl plS)]⟩
abbrev zJg:SPat:=⟨[(3,.own zBH true)],[.box 100000 (pl plS)]⟩
abbrev zJf:SPat:=⟨[(0,.ptr 100000 0),(3,.own zBH true),(4,.i .i64),(5,.i .i64)],[.box 100000 (pl plS)]⟩
def tv317:Nat→Option SPat:=fun k=>bif k == 6 then some ts317_6 else bif k == 1000005 then some zJj else bif k == 1000008 then some zJi else bif k == 1000011 then some zJh else bif k == 2000000 then some zJg else bif k == 2000001 then some zJf else none
def F317:List UInt8×Int×Bool→Option (List (Int×Int)×List UInt8×Int×Bool):=fun (o0,o1,o2) =>
 zAA (F221 (o0,o1,o2)) fun (y,y1,y2,y3) =>
 bindE (Y:=List (Int×Int)×Int×List UInt8×Int×Bool) (cndO (decide (8<y))
 (some (inl ([],y,y1,y2,true)))
 (some (inl ([],y,y1,y2,y3)))) fun (out,n,o01,o11,o21) =>
 bindE (Y:=List (Int×Int)×List UInt8×Int×Bool) (zAF (fun (out1,n1,i,o02,o12,o22) =>
 bindE (Y:=List (Int×Int)×Int×Int×List UInt8×Int×Bool) (cndO (decide (i<n1))
 (cndO (!o22)
 (some (inl (out1,n1,i,o02,o12,o22)))
 (some (inr (inr (inl (out1,o02,o12,o22))))))
 (some (inr (inr (inl (out1,o02,o12,o22)))))) fun (out2,n2,i1,o03,o13,o23) =>
 bindE (Y:=List (Int×Int)×Int×Int×List UInt8×Int×Bool) (zAA (F221 (o03,o13,o23)) fun (y4,y5,y6,y7) =>
 bindE (Y:=List (Int×Int)×Int×Int×(Int×Int)×List UInt8×Int×Bool) (cndO (decide (y4=3))
 (zAA (F222 (y5,y6,y7)) fun (y8,y9,y10,y11) =>
 some (inl (out2,n2,i1,(y4,y8),y9,y10,y11)))
 (some (inl (out2,n2,i1,(y4,(0:Int)),y5,y6,y7)))) fun (out3,n3,i2,(o04,o14),o05,o15,o24) =>
 cndO (decide (3<o04))
 (grdO (decide (List.length out3+1≤9223372036854775807) && decide ((List.length out3+1)*16≤140737488355328)) (some (inl (out3++[(o04,o14)],n3,i2,o05,o15,true))))
 (grdO (decide (List.length out3+1≤9223372036854775807) && decide ((List.length out3+1)*16≤140737488355328)) (some (inl (out3++[(o04,o14)],n3,i2,o05,o15,o24))))) fun (out3,n3,i2,o04,o14,o24) =>
 some (inl (out3,n3,IntKind.wrap .i64 (i2+1),o04,o14,o24))) ((out,n,(0:Int),o01,o11,o21))) fun (out1,o02,o12,o22) =>
 some ((out1,o02,o12,o22))
def tb317:=insT 317 (mkE 317 false [(0,[])] ti317 to317 F317 [.tmp 2] 47 [100000]) tb220
theorem ok317:TbOk Tryz.prog tb317:=okI ok220 noPl tv317 func317 rfl call317
abbrev ti281:SPat:=⟨[(0,.ptr 100000 0),(1,.agg (pl [.i .i64,.i .i64,.i .i64,.i .i64,.i .i64,.s,.nil,.nil]))],[.box 100000 (pl plS)]⟩
abbrev to281:SPat:=⟨[(4,.ptr 4 0)],[.box 4 (pl plN),.box 100000 (pl plS)]⟩
abbrev ts281_11:SPat:=⟨[(0,.ptr 100000 0),(3,.ptr 3 0),(4,.ptr 4 0),(6,.i .i64),(7,.i .i64)],[.box 3 (pl plN),.box 4 (pl plN),.box 100000 (pl plS)]⟩
abbrev ts281_18:SPat:=⟨[(0,.ptr 100000 0),(3,.ptr 3 0),(4,.ptr 4 0),(6,.i .i64),(8,.i .i64)],[.box 3 (pl plN),.box 4 (pl plN),.box 100000 (pl plS)]⟩
abbrev zKL:SPat:=⟨[(0,.ptr 100000 0),(3,.ptr 3 0),(4,.ptr 4 0),(5,.i .i64)],[.box 3 (pl plN),.box 4 (pl plN),.box 100000 (pl plS)]⟩
abbrev zKK:SPat:=⟨[(0,.ptr 100000 0),(3,.ptr 3 0),(4,.ptr 4 0),(6,.i .i64)],[.box 3 (pl plN),.box 4 (pl plN),.box 100000 (pl plS)]⟩
abbrev zKJ:SPat:=⟨[(0,.ptr 100000 0),(3,.ptr 3 0),(4,.ptr 4 0),(6,.i .i64),(7,.i .i64)],[.box 3 (pl plN),.box 4 (pl plN),.box 100000 (pl plS)]⟩
abbrev zKI:SPat:=⟨[(0,.ptr 100000 0),(3,.ptr 3 0),(4,.ptr 4 0),(6,.i .i64)],[.box 3 (pl plN),.box 4 (pl plN),.box 100000 (pl plS)]⟩
abbrev zKH:SPat:=⟨[(0,.ptr 100000 0),(3,.ptr 3 0),(4,.ptr 4 0),(6,.i .i64),(8,.i .i64)],[.box 3 (pl plN),.box 4 (pl plN),.box 100000 (pl plS)]⟩
abbrev zKG:SPat:=⟨[(0,.ptr 100000 0),(3,.ptr 3 0),(4,.ptr 4 0)],[.box 3 (pl plN),.box 4 (pl plN),.box 100000 (pl plS)]⟩
abbrev zKF:SPat:=⟨[(3,.ptr 3 0),(4,.ptr 4 0)],[.box 3 (pl plN),.box 4 (pl plN),.box 100000 (pl plS)]⟩
def tv281:Nat→Option SPat:=fun k=>bif k == 11 then some ts281_11 else bif k == 18 then some ts281_18 else bif k == 1000006 then some zKL else bif k == 1000010 then some zKK else bif k == 1000013 then some zKJ else bif k == 1000017 then some zKI else bif k == 1000020 then some zKH else bif k == 2000000 then some zKG else bif k == 2000002 then some zKF else none
def tp281:Nat→List Nat×Plan:=fun id=>bif id == 13 then ([0,1,2,4,6,8],(.br 3 [2] [0,1,4,6,8] [] (.br 5 [4,3,2] [0,1,6,8] [] (.br 7 [6,5,4,3,2] [0,1,8] [] (.br 9 [8,7,6,5,4,3,2] [0,1] [10] (.br 11 [10,9,8,7,6,5,4,3,2] [0,1] [] (.br 12 [11,10,9,8,7,6,5,4,3,2,1,0] [] [13] (.br 14 [13,12,11,10,9,8,7,6,5,4,3,2,1,0] [] [] .fin .fin) .fin) .fin) .fin) .fin) .fin) .fin)) else bif id == 20 then ([0,1,2,4,6],(.br 3 [2] [0,1,4,6] [] (.br 5 [4,3,2] [0,1,6] [] (.br 7 [6,5,4,3,2] [0,1] [8] (.br 9 [8,7,6,5,4,3,2] [0,1] [] (.br 10 [9,8,7,6,5,4,3,2,1,0] [] [11] (.br 12 [11,10,9,8,7,6,5,4,3,2,1,0] [] [] .fin .fin) .fin) .fin) .fin) .fin) .fin)) else ([],.fin)
def F281:(Int×Int×Int×Int×Int×List UInt8)×List UInt8×Int×Bool→Option ((Mth)×List UInt8×Int×Bool):=fun ((v10,v11,v12,v13,v14,v15),v16,v17,o0) =>
 zAA (F221 (v16,v17,o0)) fun (y,y1,y2,y3) =>
 zAA (F221 (y1,y2,y3)) fun (y4,y5,y6,y7) =>
 zAA (F222 (y5,y6,y7)) fun (y8,y9,y10,y11) =>
 bindE (Y:=Int×(Mth)×(Mth)×List UInt8×Int×Bool) (cndO (decide (120<y8))
 (some (inl (y8,(v10,v11,v12,y,y4,v15,[],[]),((0:Int),(0:Int),(0:Int),(0:Int),(0:Int),[],[],[]),y9,y10,true)))
 (some (inl (y8,(v10,v11,v12,y,y4,v15,[],[]),((0:Int),(0:Int),(0:Int),(0:Int),(0:Int),[],[],[]),y9,y10,y11)))) fun (v5,(o01,o1,o2,o3,o4,o5,o6,o7),(o02,o11,o21,o31,o41,o51,o61,o71),o03,o12,o22) =>
 zAA (F219 (v5,o03,o12,o22)) fun (y12,y13,y14,y15) =>
 zAA (F221 (y13,y14,y15)) fun (y16,y17,y18,y19) =>
 bindE (Y:=Int×(Mth)×(Mth)×List UInt8×Int×Bool) (cndO (decide (3<y16))
 (some (inl (y16,(o01,o1,o2,o3,o4,y12,o6,o7),(o02,o11,o21,o31,o41,o51,o61,o71),y17,y18,true)))
 (some (inl (y16,(o01,o1,o2,o3,o4,y12,o6,o7),(o02,o11,o21,o31,o41,o51,o61,o71),y17,y18,y19)))) fun (v6,(o04,o13,o23,o32,o42,o52,o62,o72),(o05,o14,o24,o33,o43,o53,o63,o73),o06,o15,o25) =>
 bindE (Y:=(Mth)×(Mth)×List UInt8×Int×Bool) (zAF (fun (v61,v7,(o07,o16,o26,o34,o44,o54,o64,o74),(o08,o17,o27,o35,o45,o55,o65,o75),o09,o18,o28) =>
 bindE (Y:=Int×Int×(Mth)×(Mth)×List UInt8×Int×Bool) (cndO (decide (v7<v61))
 (cndO (!o28)
 (some (inl (v61,v7,(o07,o16,o26,o34,o44,o54,o64,o74),(o08,o17,o27,o35,o45,o55,o65,o75),o09,o18,o28)))
 (some (inr (inr (inl ((o07,o16,o26,o34,o44,o54,o64,o74),(o08,o17,o27,o35,o45,o55,o65,o75),o09,o18,o28))))))
 (some (inr (inr (inl ((o07,o16,o26,o34,o44,o54,o64,o74),(o08,o17,o27,o35,o45,o55,o65,o75),o09,o18,o28)))))) fun (v62,v71,(o010,o19,o29,o36,o46,o56,o66,o76),(o011,o110,o210,o37,o47,o57,o67,o77),o012,o111,o211) =>
 zAA (F222 (o012,o111,o211)) fun (y20,y21,y22,y23) =>
 zAA (F222 (y21,y22,y23)) fun (y24,y25,y26,y27) =>
 zAA (F222 (y25,y26,y27)) fun (y28,y29,y30,y31) =>
 zAA (F222 (y29,y30,y31)) fun (y32,y33,y34,y35) =>
 grdO (decide (List.length o66+1≤9223372036854775807) && decide ((List.length o66+1)*32≤140737488355328)) (some (inl (v62,IntKind.wrap .i64 (v71+1),(o010,o19,o29,o36,o46,o56,o66++[(y20,y24,y28,y32)],o76),(o011,o110,o210,o37,o47,o57,o67,o77),y33,y34,y35)))) ((v6,(0:Int),(o04,o13,o23,o32,o42,o52,o62,o72),(o05,o14,o24,o33,o43,o53,o63,o73),o06,o15,o25))) fun ((o07,o16,o26,o34,o44,o54,o64,o74),(o08,o17,o27,o35,o45,o55,o65,o75),o09,o18,o28) =>
 zAA (F221 (o09,o18,o28)) fun (y20,y21,y22,y23) =>
 bindE (Y:=Int×(Mth)×(Mth)×List UInt8×Int×Bool) (cndO (decide (8<y20))
 (some (inl (y20,(o07,o16,o26,o34,o44,o54,o64,o74),(o08,o17,o27,o35,o45,o55,o65,o75),y21,y22,true)))
 (some (inl (y20,(o07,o16,o26,o34,o44,o54,o64,o74),(o08,o17,o27,o35,o45,o55,o65,o75),y21,y22,y23)))) fun (v61,(o010,o19,o29,o36,o46,o56,o66,o76),(o011,o110,o210,o37,o47,o57,o67,o77),o012,o111,o211) =>
 bindE (Y:=(Mth)×(Mth)×List UInt8×Int×Bool) (zAF (fun (v62,v8,(o013,o112,o212,o38,o48,o58,o68,o78),(o014,o113,o213,o39,o49,o59,o69,o79),o015,o114,o214) =>
 bindE (Y:=Int×Int×(Mth)×(Mth)×List UInt8×Int×Bool) (cndO (decide (v8<v62))
 (cndO (!o214)
 (some (inl (v62,v8,(o013,o112,o212,o38,o48,o58,o68,o78),(o014,o113,o213,o39,o49,o59,o69,o79),o015,o114,o214)))
 (some (inr (inr (inl ((o013,o112,o212,o38,o48,o58,o68,o78),(o014,o113,o213,o39,o49,o59,o69,o79),o015,o114,o214))))))
 (some (inr (inr (inl ((o013,o112,o212,o38,o48,o58,o68,o78),(o014,o113,o213,o39,o49,o59,o69,o79),o015,o114,o214)))))) fun (v63,v81,(o016,o115,o215,o310,o410,o510,o610,o710),(o017,o116,o216,o311,o411,o511,o611,o711),o018,o117,o217) =>
 zAA (F222 (o018,o117,o217)) fun (y24,y25,y26,y27) =>
 zAA (F317 (y25,y26,y27)) fun (y28,y29,y30,y31) =>
 zAA (F317 (y29,y30,y31)) fun (y32,y33,y34,y35) =>
 grdO (decide (List.length o710+1≤9223372036854775807) && decide ((List.length o710+1)*56≤140737488355328)) (some (inl (v63,IntKind.wrap .i64 (v81+1),(o016,o115,o215,o310,o410,o510,o610,o710++[(y24,y28,y32)]),(o017,o116,o216,o311,o411,o511,o611,o711),y33,y34,y35)))) ((v61,(0:Int),(o010,o19,o29,o36,o46,o56,o66,o76),(o011,o110,o210,o37,o47,o57,o67,o77),o012,o111,o211))) fun ((o013,o112,o212,o38,o48,o58,o68,o78),(o014,o113,o213,o39,o49,o59,o69,o79),o015,o114,o214) =>
 some (((o013,o112,o212,o38,o48,o58,o68,o78),o015,o114,o214))
def tb281:=insT 281 (mkE 281 false [(0,[])] ti281 to281 F281 [.cell 4 53] 91 [100000]) tb317
theorem ok281:TbOk Tryz.prog tb281:=okI ok317 tp281 tv281 func281 rfl call281
abbrev ti223:SPat:=⟨[(0,.ptr 100000 0)],[.box 100000 (pl plS)]⟩
abbrev to223:SPat:=⟨[(2,.ptr 2 0)],[.box 2 (pl plN),.box 100000 (pl plS)]⟩
def F223:List UInt8×Int×Bool→Option ((Mth)×List UInt8×Int×Bool):=fun (o0,o1,o2) =>
 zAA (F221 (o0,o1,o2)) fun (y,y1,y2,y3) =>
 zAA (F222 (y1,y2,y3)) fun (y4,y5,y6,y7) =>
 zAA (F222 (y5,y6,y7)) fun (y8,y9,y10,y11) =>
 cndO (decide (IntKind.wrap .i64 (Int.tdiv (Int.tmod y (16:Int)) (8:Int))=1))
 (some (((y,y4,y8,(0:Int),(0:Int),[],[],[]),y9,y10,y11)))
 (zAA (F281 ((y,y4,y8,(0:Int),(0:Int),[]),y9,y10,y11)) fun ((y12,y13,y14,y15,y16,y17,x,x1),x2,x3,x4) =>
 some (((y12,y13,y14,y15,y16,y17,x,x1),x2,x3,x4)))
def tb223:=insT 223 (mkE 223 false [(0,[])] ti223 to223 F223 [.cell 2 53] 20 [100000]) tb281
theorem ok223:TbOk Tryz.prog tb223:=okI ok281 noPl noIv func223 rfl call223
abbrev ti142:SPat:=⟨[(0,.ptr 100000 0)],[.box 100000 (pl plS)]⟩
abbrev to142:SPat:=⟨[(2,.ptr 2 0)],[.box 2 (pl plD),.box 100000 (pl plS)]⟩
abbrev ts142_12:SPat:=⟨[(0,.ptr 100000 0),(2,.ptr 2 0),(3,.ptr 3 0),(4,.i .i64),(5,.i .i64)],[.box 2 (pl plD),.box 3 (pl plD),.box 100000 (pl plS)]⟩
abbrev ts142_19:SPat:=⟨[(0,.ptr 100000 0),(2,.ptr 2 0),(3,.ptr 3 0),(4,.i .i64),(6,.i .i64)],[.box 2 (pl plD),.box 3 (pl plD),.box 100000 (pl plS)]⟩
abbrev ts142_26:SPat:=⟨[(0,.ptr 100000 0),(2,.ptr 2 0),(3,.ptr 3 0),(4,.i .i64),(7,.i .i64)],[.box 2 (pl plD),.box 3 (pl plD),.box 100000 (pl plS)]⟩
abbrev zMD:SPat:=⟨[(0,.ptr 100000 0),(2,.ptr 2 0),(3,.ptr 3 0)],[.box 2 (pl plD),.box 3 (pl plD),.box 100000 (pl plS)]⟩
abbrev zMC:SPat:=⟨[(0,.ptr 100000 0),(2,.ptr 2 0),(3,.ptr 3 0),(4,.i .i64)],[.box 2 (pl plD),.box 3 (pl plD),.box 100000 (pl plS)]⟩
abbrev zMB:SPat:=⟨[(0,.ptr 100000 0),(2,.ptr 2 0),(3,.ptr 3 0),(4,.i .i64),(5,.i .i64)],[.box 2 (pl plD),.box 3 (pl plD),.box 100000 (pl plS)]⟩
abbrev zMA:SPat:=⟨[(0,.ptr 100000 0),(2,.ptr 2 0),(3,.ptr 3 0),(4,.i .i64)],[.box 2 (pl plD),.box 3 (pl plD),.box 100000 (pl plS)]⟩
abbrev zLz:SPat:=⟨[(0,.ptr 100000 0),(2,.ptr 2 0),(3,.ptr 3 0),(4,.i .i64),(6,.i .i64)],[.box 2 (pl plD),.box 3 (pl plD),.box 100000 (pl plS)]⟩
abbrev zLy:SPat:=⟨[(0,.ptr 100000 0),(2,.ptr 2 0),(3,.ptr 3 0),(4,.i .i64)],[.box 2 (pl plD),.box 3 (pl plD),.box 100000 (pl plS)]⟩
abbrev zLx:SPat:=⟨[(0,.ptr 100000 0),(2,.ptr 2 0),(3,.ptr 3 0),(4,.i .i64),(7,.i .i64)],[.box 2 (pl plD),.box 3 (pl plD),.box 100000 (pl plS)]⟩
abbrev zLw:SPat:=⟨[(0,.ptr 100000 0),(2,.ptr 2 0),(3,.ptr 3 0)],[.box 2 (pl plD),.box 3 (pl plD),.box 100000 (pl plS)]⟩
abbrev zLv:SPat:=⟨[(0,.ptr 100000 0),(2,.ptr 2 0),(3,.ptr 3 0)],[.box 2 (pl plD),.box 3 (pl plD),.box 100000 (pl plS)]⟩
abbrev zLu:SPat:=⟨[(2,.ptr 2 0),(3,.ptr 3 0)],[.box 2 (pl plD),.box 3 (pl plD),.box 100000 (pl plS)]⟩
def tv142:Nat→Option SPat:=fun k=>bif k == 12 then some ts142_12 else bif k == 19 then some ts142_19 else bif k == 26 then some ts142_26 else bif k == 1000004 then some zMD else bif k == 1000011 then some zMC else bif k == 1000014 then some zMB else bif k == 1000018 then some zMA else bif k == 1000021 then some zLz else bif k == 1000025 then some zLy else bif k == 1000028 then some zLx else bif k == 2000000 then some zLw else bif k == 2000002 then some zLv else bif k == 2000004 then some zLu else none
def tp142:Nat→List Nat×Plan:=fun id=>bif id == 14 then ([0,1,2],(.br 3 [2] [0,1] [] (.br 4 [3,2] [0,1] [] (.br 5 [4,3,2,1,0] [] [6] (.br 7 [6,5,4,3,2,1,0] [] [] .fin .fin) .fin) .fin) .fin)) else bif id == 21 then ([0,1,2,4,6],(.br 3 [2] [0,1,4,6] [] (.br 5 [4,3,2] [0,1,6] [] (.br 7 [6,5,4,3,2] [0,1] [8] (.br 9 [8,7,6,5,4,3,2] [0,1] [] (.br 10 [9,8,7,6,5,4,3,2,1,0] [] [11] (.br 12 [11,10,9,8,7,6,5,4,3,2,1,0] [] [] .fin .fin) .fin) .fin) .fin) .fin) .fin)) else bif id == 28 then ([0,1,2],(.br 3 [2] [0,1] [] (.br 4 [3,2] [0,1] [] (.br 5 [4,3,2,1,0] [] [6] (.br 7 [6,5,4,3,2,1,0] [] [] .fin .fin) .fin) .fin) .fin)) else ([],.fin)
def F142:List UInt8×Int×Bool→Option ((Cls)×List UInt8×Int×Bool):=fun (o0,o1,o2) =>
 bindE (Y:=(Cls)×(Cls)×List UInt8×Int×Bool) (zAA (F219 ((4:Int),o0,o1,o2)) fun (y,y1,y2,y3) =>
 cndO (!decide (y=[(83:UInt8),84,79,87]))
 (some (inl (([],(0:Int),(0:Int),(0:Int),[],[],[]),([],(0:Int),(0:Int),(0:Int),[],[],[]),y1,y2,true)))
 (some (inl (([],(0:Int),(0:Int),(0:Int),[],[],[]),([],(0:Int),(0:Int),(0:Int),[],[],[]),y1,y2,y3)))) fun ((o01,o11,o21,o3,o4,o5,o6),(o02,o12,o22,o31,o41,o51,o61),o03,o13,o23) =>
 zAA (F220 (o03,o13,o23)) fun (y,y1,y2,y3) =>
 zAA (F221 (y1,y2,y3)) fun (y4,y5,y6,y7) =>
 zAA (F222 (y5,y6,y7)) fun (y8,y9,y10,y11) =>
 zAA (F222 (y9,y10,y11)) fun (y12,y13,y14,y15) =>
 zAA (F221 (y13,y14,y15)) fun (y16,y17,y18,y19) =>
 bindE (Y:=Int×(Cls)×(Cls)×List UInt8×Int×Bool) (cndO (decide (3<y16))
 (some (inl (y16,(o01,o11,o21,o3,o4,o5,o6),(y,y4,y8,y12,o41,o51,o61),y17,y18,true)))
 (some (inl (y16,(o01,o11,o21,o3,o4,o5,o6),(y,y4,y8,y12,o41,o51,o61),y17,y18,y19)))) fun (v4,(o04,o14,o24,o32,o42,o52,o62),(o05,o15,o25,o33,o43,o53,o63),o06,o16,o26) =>
 bindE (Y:=(Cls)×(Cls)×List UInt8×Int×Bool) (zAF (fun (v41,v5,(o07,o17,o27,o34,o44,o54,o64),(o08,o18,o28,o35,o45,o55,o65),o09,o19,o29) =>
 bindE (Y:=Int×Int×(Cls)×(Cls)×List UInt8×Int×Bool) (cndO (decide (v5<v41))
 (cndO (!o29)
 (some (inl (v41,v5,(o07,o17,o27,o34,o44,o54,o64),(o08,o18,o28,o35,o45,o55,o65),o09,o19,o29)))
 (some (inr (inr (inl ((o07,o17,o27,o34,o44,o54,o64),(o08,o18,o28,o35,o45,o55,o65),o09,o19,o29))))))
 (some (inr (inr (inl ((o07,o17,o27,o34,o44,o54,o64),(o08,o18,o28,o35,o45,o55,o65),o09,o19,o29)))))) fun (v42,v51,(o010,o110,o210,o36,o46,o56,o66),(o011,o111,o211,o37,o47,o57,o67),o012,o112,o212) =>
 zAA (F222 (o012,o112,o212)) fun (y20,y21,y22,y23) =>
 grdO (decide (List.length o47+1≤9223372036854775807) && decide ((List.length o47+1)*8≤140737488355328)) (some (inl (v42,IntKind.wrap .i64 (v51+1),(o010,o110,o210,o36,o46,o56,o66),(o011,o111,o211,o37,o47++[y20],o57,o67),y21,y22,y23)))) ((v4,(0:Int),(o04,o14,o24,o32,o42,o52,o62),(o05,o15,o25,o33,o43,o53,o63),o06,o16,o26))) fun ((o07,o17,o27,o34,o44,o54,o64),(o08,o18,o28,o35,o45,o55,o65),o09,o19,o29) =>
 zAA (F221 (o09,o19,o29)) fun (y20,y21,y22,y23) =>
 bindE (Y:=Int×(Cls)×(Cls)×List UInt8×Int×Bool) (cndO (decide (5<y20))
 (some (inl (y20,(o07,o17,o27,o34,o44,o54,o64),(o08,o18,o28,o35,o45,o55,o65),y21,y22,true)))
 (some (inl (y20,(o07,o17,o27,o34,o44,o54,o64),(o08,o18,o28,o35,o45,o55,o65),y21,y22,y23)))) fun (v41,(o010,o110,o210,o36,o46,o56,o66),(o011,o111,o211,o37,o47,o57,o67),o012,o112,o212) =>
 bindE (Y:=(Cls)×(Cls)×List UInt8×Int×Bool) (zAF (fun (v42,v6,(o013,o113,o213,o38,o48,o58,o68),(o014,o114,o214,o39,o49,o59,o69),o015,o115,o215) =>
 bindE (Y:=Int×Int×(Cls)×(Cls)×List UInt8×Int×Bool) (cndO (decide (v6<v42))
 (cndO (!o215)
 (some (inl (v42,v6,(o013,o113,o213,o38,o48,o58,o68),(o014,o114,o214,o39,o49,o59,o69),o015,o115,o215)))
 (some (inr (inr (inl ((o013,o113,o213,o38,o48,o58,o68),(o014,o114,o214,o39,o49,o59,o69),o015,o115,o215))))))
 (some (inr (inr (inl ((o013,o113,o213,o38,o48,o58,o68),(o014,o114,o214,o39,o49,o59,o69),o015,o115,o215)))))) fun (v43,v61,(o016,o116,o216,o310,o410,o510,o610),(o017,o117,o217,o311,o411,o511,o611),o018,o118,o218) =>
 zAA (F221 (o018,o118,o218)) fun (y24,y25,y26,y27) =>
 zAA (F222 (y25,y26,y27)) fun (y28,y29,y30,y31) =>
 zAA (F222 (y29,y30,y31)) fun (y32,y33,y34,y35) =>
 grdO (decide (List.length o511+1≤9223372036854775807) && decide ((List.length o511+1)*24≤140737488355328)) (some (inl (v43,IntKind.wrap .i64 (v61+1),(o016,o116,o216,o310,o410,o510,o610),(o017,o117,o217,o311,o411,o511++[(y24,y28,y32)],o611),y33,y34,y35)))) ((v41,(0:Int),(o010,o110,o210,o36,o46,o56,o66),(o011,o111,o211,o37,o47,o57,o67),o012,o112,o212))) fun ((o013,o113,o213,o38,o48,o58,o68),(o014,o114,o214,o39,o49,o59,o69),o015,o115,o215) =>
 zAA (F221 (o015,o115,o215)) fun (y24,y25,y26,y27) =>
 bindE (Y:=Int×(Cls)×(Cls)×List UInt8×Int×Bool) (cndO (decide (6<y24))
 (some (inl (y24,(o013,o113,o213,o38,o48,o58,o68),(o014,o114,o214,o39,o49,o59,o69),y25,y26,true)))
 (some (inl (y24,(o013,o113,o213,o38,o48,o58,o68),(o014,o114,o214,o39,o49,o59,o69),y25,y26,y27)))) fun (v42,(o016,o116,o216,o310,o410,o510,o610),(o017,o117,o217,o311,o411,o511,o611),o018,o118,o218) =>
 bindE (Y:=(Cls)×(Cls)×List UInt8×Int×Bool) (zAF (fun (v43,v7,(o019,o119,o219,o312,o412,o512,o612),(o020,o120,o220,o313,o413,o513,o613),o021,o121,o221) =>
 bindE (Y:=Int×Int×(Cls)×(Cls)×List UInt8×Int×Bool) (cndO (decide (v7<v43))
 (cndO (!o221)
 (some (inl (v43,v7,(o019,o119,o219,o312,o412,o512,o612),(o020,o120,o220,o313,o413,o513,o613),o021,o121,o221)))
 (some (inr (inr (inl ((o019,o119,o219,o312,o412,o512,o612),(o020,o120,o220,o313,o413,o513,o613),o021,o121,o221))))))
 (some (inr (inr (inl ((o019,o119,o219,o312,o412,o512,o612),(o020,o120,o220,o313,o413,o513,o613),o021,o121,o221)))))) fun (v44,v71,(o022,o122,o222,o314,o414,o514,o614),(o023,o123,o223,o315,o415,o515,o615),o024,o124,o224) =>
 zAA (F223 (o024,o124,o224)) fun ((y28,y29,y30,y31,y32,y33,x,x1),x2,x3,x4) =>
 grdO (decide (List.length o615+1≤9223372036854775807) && decide ((List.length o615+1)*104≤140737488355328)) (some (inl (v44,IntKind.wrap .i64 (v71+1),(o022,o122,o222,o314,o414,o514,o614),(o023,o123,o223,o315,o415,o515,o615++[(y28,y29,y30,y31,y32,y33,x,x1)]),x2,x3,x4)))) ((v42,(0:Int),(o016,o116,o216,o310,o410,o510,o610),(o017,o117,o217,o311,o411,o511,o611),o018,o118,o218))) fun ((o019,o119,o219,o312,o412,o512,o612),(o020,o120,o220,o313,o413,o513,o613),o021,o121,o221) =>
 some (((o020,o120,o220,o313,o413,o513,o613),o021,o121,o221))
def tb142:=insT 142 (mkE 142 false [(0,[])] ti142 to142 F142 [.cell 2 34] 111 [100000]) tb223
theorem ok142:TbOk Tryz.prog tb142:=okI ok223 tp142 tv142 func142 rfl call142
abbrev ti63:SPat:=⟨[(0,.s)],[]⟩
abbrev to63:SPat:=⟨[(2,.ptr 2 0),(3,.b)],[.box 2 (pl plD)]⟩
def F63:List UInt8→Option (Bool×Cls):=fun s =>
 cndO (decide (900<(s.length:Int)))
 (some ((false,[],(0:Int),(0:Int),(0:Int),[],[],[])))
 (zAA (F142 (s,(0:Int),false)) fun ((y,y1,y2,y3,y4,y5,x),x1,x2,x3) =>
 cndO (x3)
 (some ((false,[],(0:Int),(0:Int),(0:Int),[],[],[])))
 (cndO (!decide (x2=(s.length:Int)))
 (some ((false,[],(0:Int),(0:Int),(0:Int),[],[],[])))
 (zAA (F55 (y,y1,y2,y3,y4,y5,x)) fun y6 =>
 cndO (!decide (y6=s))
 (some ((false,[],(0:Int),(0:Int),(0:Int),[],[],[])))
 (some ((true,y,y1,y2,y3,y4,y5,x))))))
def tb63:=insT 63 (mkE 63 false [] ti63 to63 F63 [.cell 2 34,.tmp 3] 36 []) tb142
theorem ok63:TbOk Tryz.prog tb63:=okI ok142 noPl noIv func63 rfl call63
abbrev ti152:SPat:=⟨[(0,.sl tg27),(1,.sl tg27)],[]⟩
abbrev to152:SPat:=⟨[(4,.b)],[]⟩
abbrev ts152_4:SPat:=⟨[(0,.sl tg27),(1,.sl tg27),(5,.i .i64)],[]⟩
abbrev zLo:SPat:=⟨[],[]⟩
def tv152:Nat→Option SPat:=fun k=>bif k == 4 then some ts152_4 else bif k == 2000000 then some zLo else none
def tp152:Nat→List Nat×Plan:=fun id=>bif id == 6 then ([0,1,2,3,4,5,6,7,8],.fin) else ([],.fin)
def F152:List Cst×List Cst→Option (Bool):=fun (a,b) =>
 cndO (!decide ((a.length:Int)=(b.length:Int)))
 (some (false))
 (bindE (zAF (fun (a1,b1,i) =>
 cndO (decide (i<(a1.length:Int)))
 (grdO (decide (0≤i)) (atO (a1) i.toNat fun x=>grdO (decide (0≤i)) (atO (b1) i.toNat fun x1=>cndO (!(decide (x.1=x1.1) && (decide (x.2.1=x1.2.1) && (decide (x.2.2.1=x1.2.2.1) && (decide (x.2.2.2=x1.2.2.2) && true)))))
 (some (inr (inr false)))
 (some (inl (a1,b1,IntKind.wrap .i64 (i+1)))))))
 (some (inr (inl ())))) ((a,b,(0:Int)))) fun _ =>
 some (true))
def tb152:=insT 152 (mkE 152 true [] ti152 to152 F152 [.tmp 4] 26 []) tb63
theorem ok152:TbOk Tryz.prog tb152:=okI ok63 tp152 tv152 func152 rfl call152
abbrev ti282:SPat:=⟨[(0,.sl zBH),(1,.sl zBH)],[]⟩
abbrev to282:SPat:=⟨[(4,.b)],[]⟩
abbrev ts282_4:SPat:=⟨[(0,.sl zBH),(1,.sl zBH),(5,.i .i64)],[]⟩
abbrev zKE:SPat:=⟨[],[]⟩
def tv282:Nat→Option SPat:=fun k=>bif k == 4 then some ts282_4 else bif k == 2000000 then some zKE else none
def tp282:Nat→List Nat×Plan:=fun id=>bif id == 6 then ([0,1,2,3,4,5,6,7,8],.fin) else ([],.fin)
def F282:List (Int×Int)×List (Int×Int)→Option (Bool):=fun (a,b) =>
 cndO (!decide ((a.length:Int)=(b.length:Int)))
 (some (false))
 (bindE (zAF (fun (a1,b1,i) =>
 cndO (decide (i<(a1.length:Int)))
 (grdO (decide (0≤i)) (atO (a1) i.toNat fun x=>grdO (decide (0≤i)) (atO (b1) i.toNat fun x1=>cndO (!(decide (x.1=x1.1) && (decide (x.2=x1.2) && true)))
 (some (inr (inr false)))
 (some (inl (a1,b1,IntKind.wrap .i64 (i+1)))))))
 (some (inr (inl ())))) ((a,b,(0:Int)))) fun _ =>
 some (true))
def tb282:=insT 282 (mkE 282 true [] ti282 to282 F282 [.tmp 4] 26 []) tb152
theorem ok282:TbOk Tryz.prog tb282:=okI ok152 tp282 tv282 func282 rfl call282
abbrev ti228:SPat:=⟨[(0,.sl zBd),(1,.sl zBd)],[]⟩
abbrev to228:SPat:=⟨[(4,.b)],[]⟩
abbrev ts228_4:SPat:=⟨[(0,.sl zBd),(1,.sl zBd),(5,.i .i64)],[]⟩
abbrev zKm:SPat:=⟨[],[]⟩
abbrev zKl:SPat:=⟨[(0,.sl zBd),(1,.sl zBd),(5,.i .i64)],[]⟩
def tv228:Nat→Option SPat:=fun k=>bif k == 4 then some ts228_4 else bif k == 2000000 then some zKm else bif k == 2000001 then some zKl else none
def tp228:Nat→List Nat×Plan:=fun id=>bif id == 6 then ([0,1,2,3,4,5,6,7,8,9,10,11,12,13,14,15,16,17,18,19,20,21],(.br 22 [21,20,19,18,17,16,15,14,13,12,11,10,9,8,7,6,5,4,3,2,1,0] [] [23,24,25,26,27,28,29,30,31,32,33,34,35] (.br 36 [35,34,33,32,31,30,29,28,27,26,25,24,23,22,21,20,19,18,17,16,15,14,13,12,11,10,9,8,7,6,5,4,3,2,1,0] [] [37,38] .fin .fin) .fin)) else ([],.fin)
def F228:List Frm×List Frm→Option (Bool):=fun (a,b) =>
 cndO (!decide ((a.length:Int)=(b.length:Int)))
 (some (false))
 (bindE (zAF (fun (a1,b1,i) =>
 cndO (decide (i<(a1.length:Int)))
 (bindE (Y:=List Frm×List Frm×Int) (grdO (decide (0≤i)) (atO (a1) i.toNat fun x=>grdO (decide (0≤i)) (atO (b1) i.toNat fun x1=>cndO (!decide (x.1=x1.1))
 (some (inr (inr (inr false))))
 (grdO (decide (0≤i)) (atO (a1) i.toNat fun x2=>grdO (decide (0≤i)) (atO (b1) i.toNat fun x3=>zAA (F282 (x2.2.1,x3.2.1)) fun y =>
 cndO (!y)
 (some (inr (inr (inr false))))
 (grdO (decide (0≤i)) (atO (a1) i.toNat fun x4=>grdO (decide (0≤i)) (atO (b1) i.toNat fun x5=>zAA (F282 (x4.2.2,x5.2.2)) fun y1 =>
 cndO (!y1)
 (some (inr (inr (inr false))))
 (some (inl (a1,b1,i)))))))))))) fun (a2,b2,i1) =>
 some (inl (a2,b2,IntKind.wrap .i64 (i1+1))))
 (some (inr (inl ())))) ((a,b,(0:Int)))) fun _ =>
 some (true))
def tb228:=insT 228 (mkE 228 true [] ti228 to228 F228 [.tmp 4] 56 []) tb282
theorem ok228:TbOk Tryz.prog tb228:=okI ok282 tp228 tv228 func228 rfl call228
abbrev ti153:SPat:=⟨[(0,.agg (pl plM)),(1,.agg (pl plM))],[]⟩
abbrev to153:SPat:=⟨[(4,.b)],[]⟩
abbrev ts153_4:SPat:=⟨[(2,.ptr 2 0),(3,.ptr 3 0),(5,.i .i64)],[.box 2 (pl plM),.box 3 (pl plM)]⟩
abbrev zLn:SPat:=⟨[(2,.ptr 2 0),(3,.ptr 3 0)],[.box 2 (pl plM),.box 3 (pl plM)]⟩
abbrev zLm:SPat:=⟨[(2,.ptr 2 0),(3,.ptr 3 0)],[.box 2 (pl plM),.box 3 (pl plM)]⟩
def tv153:Nat→Option SPat:=fun k=>bif k == 4 then some ts153_4 else bif k == 1000003 then some zLn else bif k == 2000000 then some zLm else none
def tp153:Nat→List Nat×Plan:=fun id=>bif id == 6 then ([0,1,2,3,4,5,6,7,8,9,10],.fin) else ([],.fin)
def F153:(Mth)×Mth→Option (Bool):=fun ((app0,app1,app2,app3,app4,app5,app6,app7),v10,v11,v12,v13,v14,v15,v16,v17) =>
 bindE (Y:=(Mth)×Mth) (cndO (!decide (app0=v10))
 (some (inr false))
 (cndO (!decide (app1=v11))
 (some (inr false))
 (cndO (!decide (app2=v12))
 (some (inr false))
 (cndO (!decide (app3=v13))
 (some (inr false))
 (cndO (!decide (app4=v14))
 (some (inr false))
 (cndO (!decide (app5=v15))
 (some (inr false))
 (cndO (!decide ((app6.length:Int)=(v16.length:Int)))
 (some (inr false))
 (some (inl ((app0,app1,app2,app3,app4,app5,app6,app7),v10,v11,v12,v13,v14,v15,v16,v17)))))))))) fun ((o0,o1,o2,o3,o4,o5,o6,o7),o01,o11,o21,o31,o41,o51,o61,o71) =>
 bindE (Y:=(Mth)×Mth) (zAF (fun (v5,(o02,o12,o22,o32,o42,o52,o62,o72),o03,o13,o23,o33,o43,o53,o63,o73) =>
 cndO (decide (v5<(o62.length:Int)))
 (grdO (decide (0≤v5)) (atO (o62) v5.toNat fun x=>grdO (decide (0≤v5)) (atO (o63) v5.toNat fun x1=>cndO (!(decide (x.1=x1.1) && (decide (x.2.1=x1.2.1) && (decide (x.2.2.1=x1.2.2.1) && (decide (x.2.2.2=x1.2.2.2) && true)))))
 (some (inr (inr false)))
 (some (inl (IntKind.wrap .i64 (v5+1),(o02,o12,o22,o32,o42,o52,o62,o72),o03,o13,o23,o33,o43,o53,o63,o73))))))
 (some (inr (inl ((o02,o12,o22,o32,o42,o52,o62,o72),o03,o13,o23,o33,o43,o53,o63,o73))))) (((0:Int),(o0,o1,o2,o3,o4,o5,o6,o7),o01,o11,o21,o31,o41,o51,o61,o71))) fun ((o02,o12,o22,o32,o42,o52,o62,o72),o03,o13,o23,o33,o43,o53,o63,o73) =>
 zAA (F228 (o72,o73)) fun y =>
 some (y)
def tb153:=insT 153 (mkE 153 true [] ti153 to153 F153 [.tmp 4] 78 []) tb228
theorem ok153:TbOk Tryz.prog tb153:=okI ok228 tp153 tv153 func153 rfl call153
abbrev ti70:SPat:=⟨[(0,.agg (pl plC)),(1,.agg (pl plC))],[]⟩
abbrev to70:SPat:=⟨[(4,.b)],[]⟩
abbrev ts70_4:SPat:=⟨[(2,.ptr 2 0),(3,.ptr 3 0),(5,.i .i64)],[.box 2 (pl plC),.box 3 (pl plC)]⟩
abbrev ts70_9:SPat:=⟨[(2,.ptr 2 0),(3,.ptr 3 0),(6,.i .i64)],[.box 2 (pl plC),.box 3 (pl plC)]⟩
abbrev ts70_14:SPat:=⟨[(2,.ptr 2 0),(3,.ptr 3 0),(7,.i .i64)],[.box 2 (pl plC),.box 3 (pl plC)]⟩
abbrev zNj:SPat:=⟨[(2,.ptr 2 0),(3,.ptr 3 0)],[.box 2 (pl plC),.box 3 (pl plC)]⟩
abbrev zNi:SPat:=⟨[(2,.ptr 2 0),(3,.ptr 3 0)],[.box 2 (pl plC),.box 3 (pl plC)]⟩
abbrev zNh:SPat:=⟨[(2,.ptr 2 0),(3,.ptr 3 0)],[.box 2 (pl plC),.box 3 (pl plC)]⟩
abbrev zNg:SPat:=⟨[],[]⟩
def tv70:Nat→Option SPat:=fun k=>bif k == 4 then some ts70_4 else bif k == 9 then some ts70_9 else bif k == 14 then some ts70_14 else bif k == 1000003 then some zNj else bif k == 2000000 then some zNi else bif k == 2000002 then some zNh else bif k == 2000004 then some zNg else none
def tp70:Nat→List Nat×Plan:=fun id=>bif id == 6 then ([0,1,2,3,4,5,6,7,8,9,10],.fin) else bif id == 11 then ([0,1,2,3,4,5,6,7,8,9,10],.fin) else bif id == 16 then ([0,1,2,3,4,5,6,7,8,9],(.br 10 [9,8,7,6,5,4,3,2,1,0] [] [11] .fin .fin)) else ([],.fin)
def F70:(Cls)×Cls→Option (Bool):=fun ((app0,app1,app2,app3,app4,app5,app6),v10,v11,v12,v13,v14,v15,v16) =>
 bindE (Y:=(Cls)×Cls) (zAA (F152 (app0,v10)) fun y =>
 cndO (!y)
 (some (inr false))
 (cndO (!decide (app1=v11))
 (some (inr false))
 (cndO (!decide (app2=v12))
 (some (inr false))
 (cndO (!decide (app3=v13))
 (some (inr false))
 (cndO (!decide ((app4.length:Int)=(v14.length:Int)))
 (some (inr false))
 (cndO (!decide ((app5.length:Int)=(v15.length:Int)))
 (some (inr false))
 (cndO (!decide ((app6.length:Int)=(v16.length:Int)))
 (some (inr false))
 (some (inl ((app0,app1,app2,app3,app4,app5,app6),v10,v11,v12,v13,v14,v15,v16)))))))))) fun ((o0,o1,o2,o3,o4,o5,o6),o01,o11,o21,o31,o41,o51,o61) =>
 bindE (Y:=(Cls)×Cls) (zAF (fun (v5,(o02,o12,o22,o32,o42,o52,o62),o03,o13,o23,o33,o43,o53,o63) =>
 cndO (decide (v5<(o42.length:Int)))
 (grdO (decide (0≤v5)) (atO (o42) v5.toNat fun x=>grdO (decide (0≤v5)) (atO (o43) v5.toNat fun x1=>cndO (!decide (x=x1))
 (some (inr (inr false)))
 (some (inl (IntKind.wrap .i64 (v5+1),(o02,o12,o22,o32,o42,o52,o62),o03,o13,o23,o33,o43,o53,o63))))))
 (some (inr (inl ((o02,o12,o22,o32,o42,o52,o62),o03,o13,o23,o33,o43,o53,o63))))) (((0:Int),(o0,o1,o2,o3,o4,o5,o6),o01,o11,o21,o31,o41,o51,o61))) fun ((o02,o12,o22,o32,o42,o52,o62),o03,o13,o23,o33,o43,o53,o63) =>
 bindE (Y:=(Cls)×Cls) (zAF (fun (v6,(o04,o14,o24,o34,o44,o54,o64),o05,o15,o25,o35,o45,o55,o65) =>
 cndO (decide (v6<(o54.length:Int)))
 (grdO (decide (0≤v6)) (atO (o54) v6.toNat fun x=>grdO (decide (0≤v6)) (atO (o55) v6.toNat fun x1=>cndO (!(decide (x.1=x1.1) && (decide (x.2.1=x1.2.1) && (decide (x.2.2=x1.2.2) && true))))
 (some (inr (inr false)))
 (some (inl (IntKind.wrap .i64 (v6+1),(o04,o14,o24,o34,o44,o54,o64),o05,o15,o25,o35,o45,o55,o65))))))
 (some (inr (inl ((o04,o14,o24,o34,o44,o54,o64),o05,o15,o25,o35,o45,o55,o65))))) (((0:Int),(o02,o12,o22,o32,o42,o52,o62),o03,o13,o23,o33,o43,o53,o63))) fun ((o04,o14,o24,o34,o44,o54,o64),o05,o15,o25,o35,o45,o55,o65) =>
 bindE (zAF (fun (v7,(o06,o16,o26,o36,o46,o56,o66),o07,o17,o27,o37,o47,o57,o67) =>
 cndO (decide (v7<(o66.length:Int)))
 (grdO (decide (0≤v7)) (atO (o66) v7.toNat fun x=>grdO (decide (0≤v7)) (atO (o67) v7.toNat fun x1=>zAA (F153 ((x.1,x.2.1,x.2.2.1,x.2.2.2.1,x.2.2.2.2.1,x.2.2.2.2.2.1,x.2.2.2.2.2.2.1,x.2.2.2.2.2.2.2),x1.1,x1.2.1,x1.2.2.1,x1.2.2.2.1,x1.2.2.2.2.1,x1.2.2.2.2.2.1,x1.2.2.2.2.2.2.1,x1.2.2.2.2.2.2.2)) fun y =>
 cndO (!y)
 (some (inr (inr false)))
 (some (inl (IntKind.wrap .i64 (v7+1),(o06,o16,o26,o36,o46,o56,o66),o07,o17,o27,o37,o47,o57,o67))))))
 (some (inr (inl ())))) (((0:Int),(o04,o14,o24,o34,o44,o54,o64),o05,o15,o25,o35,o45,o55,o65))) fun _ =>
 some (true)
def tb70:=insT 70 (mkE 70 true [] ti70 to70 F70 [.tmp 4] 117 []) tb153
theorem ok70:TbOk Tryz.prog tb70:=okI ok153 tp70 tv70 func70 rfl call70
abbrev ti22:SPat:=⟨[(0,.agg (pl plC))],[]⟩
abbrev to22:SPat:=⟨[(2,.s)],[]⟩
def F22:Cls→Option (List UInt8):=fun (c0,c1,c2,c3,c4,c5,c6) =>
 zAA (F69 (c0,c1,c2,c3,c4,c5,c6)) fun y =>
 cndO (!y)
 (some ([]))
 (zAA (F55 (c0,c1,c2,c3,c4,c5,c6)) fun y1 =>
 zAA (F63 y1) fun (y2,y3,y4,y5,y6,y7,x,x1) =>
 cndO (!y2)
 (some ([]))
 (zAA (F70 ((y3,y4,y5,y6,y7,x,x1),c0,c1,c2,c3,c4,c5,c6)) fun y8 =>
 cndO (!y8)
 (some ([]))
 (some (y1))))
def tb22:=insT 22 (mkE 22 true [] ti22 to22 F22 [.tmp 2] 25 []) tb70
theorem ok22:TbOk Tryz.prog tb22:=okI ok70 noPl noIv func22 rfl call22
abbrev ti214:SPat:=⟨[(0,.s)],[]⟩
abbrev to214:SPat:=⟨[(2,.own .str true),(3,.s),(4,.b)],[]⟩
abbrev ts214_5:SPat:=⟨[(0,.s),(5,.own .str true),(6,.i .i64)],[]⟩
abbrev zLH:SPat:=⟨[(0,.s),(5,.own .str true)],[]⟩
abbrev zLG:SPat:=⟨[(0,.s),(5,.own .str true),(6,.i .i64)],[]⟩
abbrev zLF:SPat:=⟨[(0,.s),(5,.own .str true),(6,.i .i64),(7,.i .i64)],[]⟩
abbrev zLE:SPat:=⟨[(0,.s),(5,.own .str true),(6,.i .i64)],[]⟩
def tv214:Nat→Option SPat:=fun k=>bif k == 5 then some ts214_5 else bif k == 1000004 then some zLH else bif k == 1000006 then some zLG else bif k == 1000009 then some zLF else bif k == 2000000 then some zLE else none
def F214:List UInt8→Option (List (List UInt8)×List UInt8×Bool):=fun s =>
 bindE (Y:=List UInt8×List (List UInt8)) (cndO (decide ((s.length:Int)=0))
 (some (inr ([],[],false)))
 (atO (s) ((0:Nat)) fun x=>cndO (!decide ((x.toNat:Int)=40))
 (some (inr ([],[],false)))
 (some (inl (s,[]))))) fun (s1,out) =>
 bindE (Y:=List UInt8×List (List UInt8)×Int) (zAF (fun (s2,out1,at_) =>
 bindE (Y:=List UInt8×List (List UInt8)×Int) (cndO (decide (at_<(s2.length:Int)))
 (grdO (decide (0≤at_)) (atO (s2) at_.toNat fun x=>cndO (!decide ((x.toNat:Int)=41))
 (some (inl (s2,out1,at_)))
 (some (inr (inr (inl (s2,out1,at_)))))))
 (some (inr (inr (inl (s2,out1,at_)))))) fun (s3,out2,at_1) =>
 zAA (F213 (s3,at_1)) fun y =>
 bindE (Y:=List UInt8×List (List UInt8)×Int×Int) (cndO (decide (y<0))
 (some (inr (inr (inr ([],[],false)))))
 (cndO (decide (4≤(out2.length:Int)))
 (some (inr (inr (inr ([],[],false)))))
 (some (inl (s3,out2,at_1,y))))) fun (s4,out3,at_2,end_) =>
 grdO (decide (0≤at_2) && decide (at_2≤end_) && decide (end_≤(s4.length:Int))) (grdO (decide (List.length out3+1≤9223372036854775807) && decide ((List.length out3+1)*16≤140737488355328)) (some (inl (s4,out3++[List.drop at_2.toNat (List.take end_.toNat s4)],end_))))) ((s1,out,(1:Int)))) fun (s2,out1,at_) =>
 cndO (decide ((s2.length:Int)≤at_))
 (some (([],[],false)))
 (grdO (decide (0≤IntKind.wrap .i64 (at_+1)) && decide (IntKind.wrap .i64 (at_+1)≤(s2.length:Int)) && decide ((s2.length:Int)≤(s2.length:Int))) (cndO (!decide (List.drop (Int.toNat (IntKind.wrap .i64 (at_+1))) (List.take (Int.toNat (s2.length:Int)) s2)=[(86:UInt8)]))
 (zAA (F128 (List.drop (Int.toNat (IntKind.wrap .i64 (at_+1))) (List.take (Int.toNat (s2.length:Int)) s2))) fun y =>
 cndO (!y)
 (some (([],[],false)))
 (some ((out1,List.drop (Int.toNat (IntKind.wrap .i64 (at_+1))) (List.take (Int.toNat (s2.length:Int)) s2),true))))
 (some ((out1,List.drop (Int.toNat (IntKind.wrap .i64 (at_+1))) (List.take (Int.toNat (s2.length:Int)) s2),true)))))
def tb214:=insT 214 (mkE 214 false [] ti214 to214 F214 [.tmp 2,.tmp 3,.tmp 4] 63 []) tb22
theorem ok214:TbOk Tryz.prog tb214:=okI ok22 noPl tv214 func214 rfl call214
abbrev ti129:SPat:=⟨[(0,.s)],[]⟩
abbrev to129:SPat:=⟨[(2,.b)],[]⟩
def F129:List UInt8→Option (Bool):=fun s =>
 zAA (F214 s) fun (y,y1,y2) =>
 some (y2)
def tb129:=insT 129 (mkE 129 true [] ti129 to129 F129 [.tmp 2] 13 []) tb214
theorem ok129:TbOk Tryz.prog tb129:=okI ok214 noPl noIv func129 rfl call129
abbrev ti215:SPat:=⟨[(0,.sl tg27),(1,.i .i64)],[]⟩
abbrev to215:SPat:=⟨[(4,.ptr 4 0)],[.box 4 (pl [.i .i64,.s,.i .i64,.i .i64])]⟩
def F215:List Cst×Int→Option (Cst):=fun (pool,i) =>
 zAA (F107 (i,(1:Int),(pool.length:Int))) fun y =>
 cndO (y)
 (grdO (decide (0≤IntKind.wrap .i64 (i - 1))) (atO (pool) (Int.toNat (IntKind.wrap .i64 (i - 1))) fun x=>some ((x.1,x.2.1,x.2.2.1,x.2.2.2))))
 (some (((0:Int),[],(0:Int),(0:Int))))
def tb215:=insT 215 (mkE 215 true [] ti215 to215 F215 [.cell 4 27] 15 []) tb129
theorem ok215:TbOk Tryz.prog tb215:=okI ok129 noPl noIv func215 rfl call215
abbrev ti130:SPat:=⟨[(0,.sl tg27),(1,.i .i64)],[]⟩
abbrev to130:SPat:=⟨[(4,.s)],[]⟩
def F130:List Cst×Int→Option (List UInt8):=fun (pool,i) =>
 zAA (F215 (pool,i)) fun (y,y1,y2,y3) =>
 zAA (F215 (pool,y2)) fun (y4,y5,y6,y7) =>
 cndO (!decide (y=2))
 (some ([]))
 (cndO (!decide (y4=1))
 (some ([]))
 (zAA (F127 y5) fun y8 =>
 cndO (!y8)
 (some ([]))
 (some (y5))))
def tb130:=insT 130 (mkE 130 true [] ti130 to130 F130 [.tmp 4] 30 []) tb215
theorem ok130:TbOk Tryz.prog tb130:=okI ok215 noPl noIv func130 rfl call130
abbrev ti131:SPat:=⟨[(0,.sl tg27),(1,.i .i64)],[]⟩
abbrev to131:SPat:=⟨[(4,.s)],[]⟩
def F131:List Cst×Int→Option (List UInt8):=fun (pool,i) =>
 zAA (F215 (pool,i)) fun (y,y1,y2,y3) =>
 cndO (!decide (y=1))
 (some ([]))
 (some (y1))
def tb131:=insT 131 (mkE 131 true [] ti131 to131 F131 [.tmp 4] 14 []) tb130
theorem ok131:TbOk Tryz.prog tb131:=okI ok130 noPl noIv func131 rfl call131
abbrev ti132:SPat:=⟨[(0,.sl tg27),(1,.i .i64)],[]⟩
abbrev to132:SPat:=⟨[(4,.s),(5,.s),(6,.s)],[]⟩
def tp132:Nat→List Nat×Plan:=fun id=>bif id == 3 then ([0,1,2,4,5,6,8,9,10],(.br 3 [2,1,0] [4,5,6,8,9,10] [] (.br 7 [6,5,4,3,2,1,0] [8,9,10] [] (.br 11 [10,9,8,7,6,5,4,3,2,1,0] [] [] (.br 12 [11,10,9,8,7,6,5,4,3,2,1,0] [] [] (.br 13 [12,11,10,9,8,7,6,5,4,3,2,1,0] [] [] (.br 14 [13,12,11,10,9,8,7,6,5,4,3,2,1,0] [] [] .fin .fin) .fin) .fin) .fin) .fin) .fin)) else ([],.fin)
def F132:List Cst×Int→Option (List UInt8×List UInt8×List UInt8):=fun (pool,i) =>
 zAA (F215 (pool,i)) fun (y,y1,y2,y3) =>
 zAA (F215 (pool,y3)) fun (y4,y5,y6,y7) =>
 zAA (F130 (pool,y2)) fun y8 =>
 seqU (seqU (grdO (decide (pool=pool)) (some ())) (seqU (grdO (decide (y6=y6)) (some ())) (seqU (grdO (decide (pool=pool)) (some ())) (seqU (grdO (decide (y7=y7)) (some ())) (some ()))))) (zAA (F131 (pool,y6)) fun y9 =>
 seqU (seqU (grdO (decide (pool=pool)) (some ())) (seqU (grdO (decide (y7=y7)) (some ())) (some ()))) (zAA (F131 (pool,y7)) fun y10 =>
 some ((y8,y9,y10))))
def tb132:=insT 132 (mkE 132 true [] ti132 to132 F132 [.tmp 4,.tmp 5,.tmp 6] 28 []) tb131
theorem ok132:TbOk Tryz.prog tb132:=okI ok131 tp132 noIv func132 rfl call132
abbrev ti133:SPat:=⟨[(0,.sl tg27),(1,.i .i64),(2,.i .i64)],[]⟩
abbrev to133:SPat:=⟨[(6,.b)],[]⟩
def F133:List Cst×Int×Int→Option (Bool):=fun (pool,i,kind_) =>
 zAA (F215 (pool,i)) fun (y,y1,y2,y3) =>
 some (decide (y=kind_))
def tb133:=insT 133 (mkE 133 true [] ti133 to133 F133 [.tmp 6] 13 []) tb132
theorem ok133:TbOk Tryz.prog tb133:=okI ok132 noPl noIv func133 rfl call133
abbrev ti53:SPat:=⟨[(0,.sl tg27),(1,.i .i64)],[]⟩
abbrev to53:SPat:=⟨[(4,.b)],[]⟩
abbrev zON:SPat:=⟨[(5,.ptr 5 0),(9,.s)],[.box 5 (pl [.i .i64,.s,.i .i64,.i .i64])]⟩
def tv53:Nat→Option SPat:=fun k=>bif k == 1000013 then some zON else none
def F53:List Cst×Int→Option (Bool):=fun (app,v1) =>
 grdO (decide (0≤v1)) (atO (app) v1.toNat fun x=>cndO (decide (x.1=1))
 (cndO (decide (x.2.2.1=0))
 (cndO (decide (x.2.2.2=0))
 (zAA (F127 (x.2.1)) fun y =>
 cndO (y)
 (some (true))
 (zAA (F128 (x.2.1)) fun y1 =>
 cndO (y1)
 (some (true))
 (zAA (F129 (x.2.1)) fun y2 =>
 some (y2))))
 (some (false)))
 (some (false)))
 (cndO (decide (x.1=2))
 (cndO (decide (x.2.1=[]))
 (cndO (decide (x.2.2.2=0))
 (zAA (F130 (app,IntKind.wrap .i64 (v1+1))) fun y =>
 some (!decide (y=[])))
 (some (false)))
 (some (false)))
 (cndO (decide (x.1=3))
 (zAA (F131 (app,x.2.2.2)) fun y =>
 cndO (decide (x.2.1=[]))
 (zAA (F131 (app,x.2.2.1)) fun y1 =>
 zAA (F127 y1) fun y2 =>
 cndO (y2)
 (zAA (F128 y) fun y3 =>
 cndO (y3)
 (some (true))
 (zAA (F129 y) fun y4 =>
 some (y4)))
 (some (false)))
 (some (false)))
 (zAA (F132 (app,IntKind.wrap .i64 (v1+1))) fun (y,y1,y2) =>
 bindE (Y:=List UInt8×Cst) (zAA (F107 (x.1,(4:Int),(6:Int))) fun y3 =>
 cndO (!y3)
 (some (inr false))
 (cndO (!decide (x.2.1=[]))
 (some (inr false))
 (zAA (F130 (app,x.2.2.1)) fun y4 =>
 cndO (decide (y4=[]))
 (some (inr false))
 (zAA (F133 (app,x.2.2.2,(3:Int))) fun y5 =>
 cndO (!y5)
 (some (inr false))
 (some (inl (y2,x.1,x.2.1,x.2.2.1,x.2.2.2))))))) fun (v9,o0,o1,o2,o3) =>
 cndO (decide (o0=4))
 (zAA (F128 v9) fun y3 =>
 some (y3))
 (zAA (F129 v9) fun y3 =>
 some (y3))))))
def tb53:=insT 53 (mkE 53 true [] ti53 to53 F53 [.tmp 4] 120 []) tb133
theorem ok53:TbOk Tryz.prog tb53:=okI ok133 noPl tv53 func53 rfl call53
abbrev ti15:SPat:=⟨[(0,.sl tg27)],[]⟩
abbrev to15:SPat:=⟨[(2,.i .i64)],[]⟩
abbrev ts15_2:SPat:=⟨[(0,.sl tg27),(3,.i .i64)],[]⟩
abbrev zOo:SPat:=⟨[(0,.sl tg27),(3,.i .i64)],[]⟩
abbrev zOn:SPat:=⟨[(0,.sl tg27)],[]⟩
def tv15:Nat→Option SPat:=fun k=>bif k == 2 then some ts15_2 else bif k == 1000004 then some zOo else bif k == 2000000 then some zOn else none
def F15:List Cst→Option (Int):=fun pool =>
 bindE (Y:=List Cst) (zAF (fun (pool1,i) =>
 bindE (Y:=List Cst×Int) (cndO (decide (i<(pool1.length:Int)))
 (cndO (decide (i<60))
 (some (inl (pool1,i)))
 (some (inr (inr (inl pool1)))))
 (some (inr (inr (inl pool1))))) fun (pool2,i1) =>
 zAA (F53 (pool2,i1)) fun y =>
 cndO (!y)
 (some (inr (inr (IntKind.wrap .i64 (i1+1)))))
 (some (inl (pool2,IntKind.wrap .i64 (i1+1))))) ((pool,(0:Int)))) fun pool1 =>
 cndO (decide (60<(pool1.length:Int)))
 (some ((61:Int)))
 (some ((0:Int)))
def tb15:=insT 15 (mkE 15 true [] ti15 to15 F15 [.tmp 2] 23 []) tb53
theorem ok15:TbOk Tryz.prog tb15:=okI ok53 noPl tv15 func15 rfl call15
abbrev ti175:SPat:=⟨[(0,.agg (pl plC))],[]⟩
abbrev to175:SPat:=⟨[(2,.b)],[]⟩
abbrev ts175_5:SPat:=⟨[(1,.ptr 1 0),(3,.s),(4,.i .i64)],[.box 1 (pl plC)]⟩
abbrev ts175_10:SPat:=⟨[(1,.ptr 1 0),(3,.s),(4,.i .i64),(5,.i .i64)],[.box 1 (pl plC)]⟩
abbrev zLg:SPat:=⟨[(1,.ptr 1 0),(3,.s)],[.box 1 (pl plC)]⟩
abbrev zLf:SPat:=⟨[(1,.ptr 1 0),(3,.s)],[.box 1 (pl plC)]⟩
abbrev zLe:SPat:=⟨[(1,.ptr 1 0),(3,.s)],[.box 1 (pl plC)]⟩
abbrev zLd:SPat:=⟨[(1,.ptr 1 0),(3,.s),(4,.i .i64)],[.box 1 (pl plC)]⟩
abbrev zLc:SPat:=⟨[(1,.ptr 1 0),(3,.s),(4,.i .i64)],[.box 1 (pl plC)]⟩
def tv175:Nat→Option SPat:=fun k=>bif k == 5 then some ts175_5 else bif k == 10 then some ts175_10 else bif k == 1000004 then some zLg else bif k == 1000016 then some zLf else bif k == 2000000 then some zLe else bif k == 2000001 then some zLd else bif k == 2000002 then some zLc else none
def tp175:Nat→List Nat×Plan:=fun id=>bif id == 7 then ([0,1,2,3,4,5,6],(.br 7 [6,5,4,3,2,1,0] [] [8] .fin .fin)) else bif id == 12 then ([0,1,2,3,4,5,6,8,9,10,11,12,13,14],(.br 7 [6,5,4,3,2,1,0] [8,9,10,11,12,13,14] [] (.br 15 [14,13,12,11,10,9,8,7,6,5,4,3,2,1,0] [] [16] .fin .fin) .fin)) else ([],.fin)
def F175:Cls→Option (Bool):=fun (app0,app1,app2,app3,app4,app5,app6) =>
 zAA (F130 (app0,app3)) fun y =>
 bindE (Y:=List UInt8×Cls) (zAA (F130 (app0,app2)) fun y1 =>
 cndO (decide (y1=[]))
 (some (inr false))
 (cndO (decide (y=[]))
 (some (inr false))
 (zAA (F130 (app0,app2)) fun y2 =>
 cndO (decide (y=y2))
 (some (inr false))
 (zAA (F107 (app1,(0:Int),(7:Int))) fun y3 =>
 cndO (!y3)
 (some (inr false))
 (some (inl (y,app0,app1,app2,app3,app4,app5,app6))))))) fun (v3,o0,o1,o2,o3,o4,o5,o6) =>
 bindE (Y:=List UInt8×Cls) (zAF (fun (v31,v4,o01,o11,o21,o31,o41,o51,o61) =>
 cndO (decide (v4<(o41.length:Int)))
 (bindE (Y:=List UInt8×Int×Cls) (grdO (decide (0≤v4)) (atO (o41) v4.toNat fun x=>zAA (F130 (o01,x)) fun y1 =>
 cndO (decide (y1=[]))
 (some (inr (inr (inr false))))
 (bindE (Y:=List UInt8×Int×Cls) (zAF (fun (v32,v41,v5,o02,o12,o22,o32,o42,o52,o62) =>
 cndO (decide (v5<v41))
 (grdO (decide (0≤v5)) (atO (o42) v5.toNat fun x1=>grdO (decide (0≤v41)) (atO (o42) v41.toNat fun x2=>zAA (F130 (o02,x1)) fun y2 =>
 seqU (seqU (grdO (decide (o02=o02)) (some ())) (seqU (grdO (decide (o42=o42)) (some ())) (seqU (grdO (decide (v41=v41)) (some ())) (seqU (grdO (decide (0≤v41)) (atO (o42) v41.toNat fun x3=>grdO (decide (x3=x2) && true) (some ()))) (seqU (grdO (decide (x2=x2)) (some ())) (some ())))))) (zAA (F130 (o02,x2)) fun y3 =>
 cndO (decide (y2=y3))
 (some (inr (inr (inr (inr (inr false))))))
 (some (inl (v32,v41,IntKind.wrap .i64 (v5+1),o02,o12,o22,o32,o42,o52,o62)))))))
 (some (inr (inl (v32,v41,o02,o12,o22,o32,o42,o52,o62))))) ((v31,v4,(0:Int),o01,o11,o21,o31,o41,o51,o61))) fun (v32,v41,o02,o12,o22,o32,o42,o52,o62) =>
 some (inl (v32,v41,o02,o12,o22,o32,o42,o52,o62))))) fun (v32,v41,o02,o12,o22,o32,o42,o52,o62) =>
 some (inl (v32,IntKind.wrap .i64 (v41+1),o02,o12,o22,o32,o42,o52,o62)))
 (some (inr (inl (v31,o01,o11,o21,o31,o41,o51,o61))))) ((v3,(0:Int),o0,o1,o2,o3,o4,o5,o6))) fun (v31,o01,o11,o21,o31,o41,o51,o61) =>
 bindE (Y:=List UInt8×Cls) (zAA (F108 (o11,(2:Int))) fun y1 =>
 cndO (y1)
 (zAA (F108 (o11,(4:Int))) fun y2 =>
 cndO (y2)
 (some (inr false))
 (some (inl (v31,o01,o11,o21,o31,o41,o51,o61))))
 (some (inl (v31,o01,o11,o21,o31,o41,o51,o61)))) fun (v32,o02,o12,o22,o32,o42,o52,o62) =>
 zAA (F108 (o12,(1:Int))) fun y1 =>
 cndO (!y1)
 (some (true))
 (zAA (F108 (o12,(4:Int))) fun y2 =>
 cndO (y2)
 (some (decide (v32=[(79:UInt8),98,106])))
 (some (false)))
def tb175:=insT 175 (mkE 175 true [] ti175 to175 F175 [.tmp 2] 95 []) tb15
theorem ok175:TbOk Tryz.prog tb175:=okI ok15 tp175 tv175 func175 rfl call175
abbrev ti176:SPat:=⟨[(0,.agg (pl plC))],[]⟩
abbrev to176:SPat:=⟨[(2,.b)],[]⟩
abbrev ts176_2:SPat:=⟨[(1,.ptr 1 0),(3,.i .i64)],[.box 1 (pl plC)]⟩
abbrev ts176_10:SPat:=⟨[(1,.ptr 1 0),(3,.i .i64),(4,.ptr 4 0),(5,.i .i64)],[.box 1 (pl plC),.box 4 (pl [.i .i64,.i .i64,.i .i64])]⟩
abbrev zLb:SPat:=⟨[(1,.ptr 1 0),(3,.i .i64),(4,.ptr 4 0)],[.box 1 (pl plC),.box 4 (pl [.i .i64,.i .i64,.i .i64])]⟩
abbrev zLa:SPat:=⟨[(1,.ptr 1 0),(3,.i .i64),(4,.ptr 4 0)],[.box 1 (pl plC),.box 4 (pl [.i .i64,.i .i64,.i .i64])]⟩
abbrev zLZ:SPat:=⟨[],[]⟩
abbrev zLY:SPat:=⟨[(1,.ptr 1 0),(3,.i .i64)],[.box 1 (pl plC)]⟩
abbrev zLX:SPat:=⟨[(1,.ptr 1 0),(3,.i .i64)],[.box 1 (pl plC)]⟩
def tv176:Nat→Option SPat:=fun k=>bif k == 2 then some ts176_2 else bif k == 10 then some ts176_10 else bif k == 1000007 then some zLb else bif k == 1000009 then some zLa else bif k == 2000000 then some zLZ else bif k == 2000001 then some zLY else bif k == 2000002 then some zLX else none
def tp176:Nat→List Nat×Plan:=fun id=>bif id == 12 then ([0,1,2,3,4,5,6,7,9,10,11,12],(.br 8 [7,6,5,4,3,2,1,0] [9,10,11,12] [] (.br 13 [12,11,10,9,8,7,6,5,4,3,2,1,0] [] [14] .fin .fin) .fin)) else ([],.fin)
def F176:Cls→Option (Bool):=fun (app0,app1,app2,app3,app4,app5,app6) =>
 bindE (zAF (fun (v3,o0,o1,o2,o3,o4,o5,o6) =>
 cndO (decide (v3<(o5.length:Int)))
 (bindE (Y:=Int×Cls) (grdO (decide (0≤v3)) (atO (o5) v3.toNat fun x=>bindE (Y:=Int×(Cls)×Int×Int×Int) (zAA (F131 (o0,x.2.1)) fun y =>
 zAA (F127 y) fun y1 =>
 cndO (!y1)
 (some (inr (inr (inr (inr false)))))
 (zAA (F131 (o0,x.2.2)) fun y2 =>
 zAA (F128 y2) fun y3 =>
 cndO (!y3)
 (some (inr (inr (inr (inr false)))))
 (zAA (F107 (x.1,(0:Int),(3:Int))) fun y4 =>
 cndO (!y4)
 (some (inr (inr (inr (inr false)))))
 (some (inl (v3,(o0,o1,o2,o3,o4,o5,o6),x.1,x.2.1,x.2.2)))))) fun (v31,(o01,o11,o21,o31,o41,o51,o61),o02,o12,o22) =>
 bindE (Y:=Int×(Cls)×Int×Int×Int) (zAA (F108 (o11,(1:Int))) fun y =>
 cndO (y)
 (cndO (!decide (o02=1))
 (some (inr (inr (inr (inr false)))))
 (some (inl (v31,(o01,o11,o21,o31,o41,o51,o61),o02,o12,o22))))
 (some (inl (v31,(o01,o11,o21,o31,o41,o51,o61),o02,o12,o22)))) fun (v32,(o03,o13,o23,o32,o42,o52,o62),o04,o14,o24) =>
 bindE (Y:=Int×Cls) (zAF (fun (v33,v5,(o05,o15,o25,o33,o43,o53,o63),o06,o16,o26) =>
 cndO (decide (v5<v33))
 (grdO (decide (0≤v5)) (atO (o53) v5.toNat fun x1=>zAA (F131 (o05,x1.2.1)) fun y =>
 seqU (seqU (grdO (decide (o05=o05)) (some ())) (seqU (grdO (decide (o16=o16)) (some ())) (some ()))) (zAA (F131 (o05,o16)) fun y1 =>
 cndO (decide (y=y1))
 (some (inr (inr (inr (inr (inr false))))))
 (some (inl (v33,IntKind.wrap .i64 (v5+1),(o05,o15,o25,o33,o43,o53,o63),o06,o16,o26))))))
 (some (inr (inl (v33,o05,o15,o25,o33,o43,o53,o63))))) ((v32,(0:Int),(o03,o13,o23,o32,o42,o52,o62),o04,o14,o24))) fun (v33,o05,o15,o25,o33,o43,o53,o63) =>
 some (inl (v33,o05,o15,o25,o33,o43,o53,o63)))) fun (v31,o01,o11,o21,o31,o41,o51,o61) =>
 some (inl (IntKind.wrap .i64 (v31+1),o01,o11,o21,o31,o41,o51,o61)))
 (some (inr (inl ())))) (((0:Int),app0,app1,app2,app3,app4,app5,app6))) fun _ =>
 some (true)
def tb176:=insT 176 (mkE 176 true [] ti176 to176 F176 [.tmp 2] 68 []) tb175
theorem ok176:TbOk Tryz.prog tb176:=okI ok175 tp176 tv176 func176 rfl call176
abbrev ti244:SPat:=⟨[(0,.agg (pl plC)),(1,.agg (pl plM))],[]⟩
abbrev to244:SPat:=⟨[(4,.b)],[]⟩
abbrev zKk:SPat:=⟨[(2,.ptr 2 0),(3,.ptr 3 0)],[.box 2 (pl plC),.box 3 (pl plM)]⟩
def tv244:Nat→Option SPat:=fun k=>bif k == 1000005 then some zKk else none
def F244:(Cls)×Mth→Option (Bool):=fun ((c0,c1,c2,c3,c4,c5,c6),m0,m1,m2,m3,m4,m5,m6,m7) =>
 zAA (F107 (m0,(0:Int),(15:Int))) fun y =>
 cndO (!y)
 (some (false))
 (bindE (Y:=(Cls)×Mth) (zAA (F131 (c0,m1)) fun y1 =>
 cndO (decide (y1=[(98:UInt8),101,103,105,110]))
 (cndO (!decide (m0=1))
 (some (inr false))
 (zAA (F131 (c0,m2)) fun y2 =>
 cndO (!decide (y2=[(40:UInt8),41,86]))
 (some (inr false))
 (some (inl ((c0,c1,c2,c3,c4,c5,c6),m0,m1,m2,m3,m4,m5,m6,m7)))))
 (some (inl ((c0,c1,c2,c3,c4,c5,c6),m0,m1,m2,m3,m4,m5,m6,m7)))) fun ((o0,o1,o2,o3,o4,o5,o6),o01,o11,o21,o31,o41,o51,o61,o7) =>
 zAA (F108 (o01,(8:Int))) fun y1 =>
 cndO (y1)
 (cndO (decide (o01=8))
 (zAA (F108 (o1,(4:Int))) fun y2 =>
 some (y2))
 (some (false)))
 (zAA (F108 (o1,(1:Int))) fun y2 =>
 cndO (!y2)
 (some (true))
 (some (decide (o01=1)))))
def tb244:=insT 244 (mkE 244 true [] ti244 to244 F244 [.tmp 4] 48 []) tb176
theorem ok244:TbOk Tryz.prog tb244:=okI ok176 noPl tv244 func244 rfl call244
abbrev ti177:SPat:=⟨[(0,.agg (pl plC))],[]⟩
abbrev to177:SPat:=⟨[(2,.b)],[]⟩
abbrev ts177_2:SPat:=⟨[(1,.ptr 1 0),(3,.i .i64)],[.box 1 (pl plC)]⟩
abbrev ts177_8:SPat:=⟨[(1,.ptr 1 0),(3,.i .i64),(4,.ptr 4 0),(5,.i .i64)],[.box 1 (pl plC),.box 4 (pl plM)]⟩
abbrev zLW:SPat:=⟨[(1,.ptr 1 0),(3,.i .i64),(4,.ptr 4 0)],[.box 1 (pl plC),.box 4 (pl plM)]⟩
abbrev zLV:SPat:=⟨[],[]⟩
abbrev zLU:SPat:=⟨[(1,.ptr 1 0),(3,.i .i64)],[.box 1 (pl plC)]⟩
abbrev zLT:SPat:=⟨[(1,.ptr 1 0),(3,.i .i64)],[.box 1 (pl plC)]⟩
abbrev zLS:SPat:=⟨[(1,.ptr 1 0),(3,.i .i64),(4,.ptr 4 0),(5,.i .i64)],[.box 1 (pl plC),.box 4 (pl plM)]⟩
def tv177:Nat→Option SPat:=fun k=>bif k == 2 then some ts177_2 else bif k == 8 then some ts177_8 else bif k == 1000007 then some zLW else bif k == 2000000 then some zLV else bif k == 2000001 then some zLU else bif k == 2000002 then some zLT else bif k == 2000003 then some zLS else none
def tp177:Nat→List Nat×Plan:=fun id=>bif id == 10 then ([0,1,2,3,4,5,6,7,9,10,11,12],(.br 8 [7,6,5,4,3,2,1,0] [9,10,11,12] [] (.br 13 [12,11,10,9,8,7,6,5,4,3,2,1,0] [] [14,15,16,17,18,19,20,21,22,23,25,26,27,28] (.br 24 [23,22,21,20,19,18,17,16,15,14,13,12,11,10,9,8,7,6,5,4,3,2,1,0] [25,26,27,28] [] (.br 29 [28,27,26,25,24,23,22,21,20,19,18,17,16,15,14,13,12,11,10,9,8,7,6,5,4,3,2,1,0] [] [30,31] .fin .fin) .fin) .fin) .fin)) else ([],.fin)
def F177:Cls→Option (Bool):=fun (app0,app1,app2,app3,app4,app5,app6) =>
 bindE (zAF (fun (v3,o0,o1,o2,o3,o4,o5,o6) =>
 cndO (decide (v3<(o6.length:Int)))
 (bindE (Y:=Int×Cls) (grdO (decide (0≤v3)) (atO (o6) v3.toNat fun x=>bindE (Y:=Int×(Cls)×Mth) (zAA (F131 (o0,x.2.1)) fun y =>
 zAA (F127 y) fun y1 =>
 cndO (!y1)
 (some (inr (inr (inr (inr false)))))
 (zAA (F131 (o0,x.2.2.1)) fun y2 =>
 zAA (F129 y2) fun y3 =>
 cndO (!y3)
 (some (inr (inr (inr (inr false)))))
 (zAA (F244 ((o0,o1,o2,o3,o4,o5,o6),x.1,x.2.1,x.2.2.1,x.2.2.2.1,x.2.2.2.2.1,x.2.2.2.2.2.1,x.2.2.2.2.2.2.1,x.2.2.2.2.2.2.2)) fun y4 =>
 cndO (!y4)
 (some (inr (inr (inr (inr false)))))
 (some (inl (v3,(o0,o1,o2,o3,o4,o5,o6),x.1,x.2.1,x.2.2.1,x.2.2.2.1,x.2.2.2.2.1,x.2.2.2.2.2.1,x.2.2.2.2.2.2.1,x.2.2.2.2.2.2.2)))))) fun (v31,(o01,o11,o21,o31,o41,o51,o61),o02,o12,o22,o32,o42,o52,o62,o7) =>
 bindE (Y:=Int×Cls) (zAF (fun (v32,v5,(o03,o13,o23,o33,o43,o53,o63),o04,o14,o24,o34,o44,o54,o64,o71) =>
 cndO (decide (v5<v32))
 (bindE (Y:=Int×Int×(Cls)×Mth) (grdO (decide (0≤v5)) (atO (o63) v5.toNat fun x1=>zAA (F131 (o03,x1.2.1)) fun y =>
 seqU (seqU (grdO (decide (o03=o03)) (some ())) (seqU (grdO (decide (o14=o14)) (some ())) (some ()))) (zAA (F131 (o03,o14)) fun y1 =>
 cndO (decide (y=y1))
 (grdO (decide (0≤v5)) (atO (o63) v5.toNat fun x2=>zAA (F131 (o03,x2.2.2.1)) fun y2 =>
 seqU (seqU (grdO (decide (o03=o03)) (some ())) (seqU (grdO (decide (o24=o24)) (some ())) (some ()))) (zAA (F131 (o03,o24)) fun y3 =>
 cndO (decide (y2=y3))
 (some (inr (inr (inr (inr (inr (inr false)))))))
 (some (inl (v32,v5,(o03,o13,o23,o33,o43,o53,o63),o04,o14,o24,o34,o44,o54,o64,o71))))))
 (some (inl (v32,v5,(o03,o13,o23,o33,o43,o53,o63),o04,o14,o24,o34,o44,o54,o64,o71)))))) fun (v33,v51,(o05,o15,o25,o35,o45,o55,o65),o06,o16,o26,o36,o46,o56,o66,o72) =>
 some (inl (v33,IntKind.wrap .i64 (v51+1),(o05,o15,o25,o35,o45,o55,o65),o06,o16,o26,o36,o46,o56,o66,o72)))
 (some (inr (inl (v32,o03,o13,o23,o33,o43,o53,o63))))) ((v31,(0:Int),(o01,o11,o21,o31,o41,o51,o61),o02,o12,o22,o32,o42,o52,o62,o7))) fun (v32,o03,o13,o23,o33,o43,o53,o63) =>
 some (inl (v32,o03,o13,o23,o33,o43,o53,o63)))) fun (v31,o01,o11,o21,o31,o41,o51,o61) =>
 some (inl (IntKind.wrap .i64 (v31+1),o01,o11,o21,o31,o41,o51,o61)))
 (some (inr (inl ())))) (((0:Int),app0,app1,app2,app3,app4,app5,app6))) fun _ =>
 some (true)
def tb177:=insT 177 (mkE 177 true [] ti177 to177 F177 [.tmp 2] 77 []) tb244
theorem ok177:TbOk Tryz.prog tb177:=okI ok244 tp177 tv177 func177 rfl call177
abbrev ti252:SPat:=⟨[(0,.s),(1,.i .i64)],[]⟩
abbrev to252:SPat:=⟨[(4,.i .i64)],[]⟩
abbrev zKf:SPat:=⟨[(1,.i .i64),(5,.i .i64)],[]⟩
def tv252:Nat→Option SPat:=fun k=>bif k == 1000006 then some zKf else none
def F252:List UInt8×Int→Option (Int):=fun (s,op_) =>
 cndO (decide ((s.length:Int)=0))
 (some ((0:Int)))
 (atO (s) ((0:Nat)) fun x=>bindE (cndO (decide ((s.length:Int)=2))
 (atO (s) ((1:Nat)) fun x1=>some (inl (op_,IntKind.wrap .i64 (IntKind.wrap .i64 (IntKind.wrap .i64 (x.toNat:Int)*256)+IntKind.wrap .i64 (x1.toNat:Int)))))
 (some (inl (op_,IntKind.wrap .i64 (x.toNat:Int))))) fun (op_1,n) =>
 cndO (decide (op_1=1))
 (cndO (decide (32768≤n))
 (some (IntKind.wrap .i64 (n - 65536)))
 (some (n)))
 (some (n)))
def tb252:=insT 252 (mkE 252 true [] ti252 to252 F252 [.tmp 4] 30 []) tb177
theorem ok252:TbOk Tryz.prog tb252:=okI ok177 noPl tv252 func252 rfl call252
abbrev ti193:SPat:=⟨[(0,.s)],[]⟩
abbrev to193:SPat:=⟨[(2,.own tg89 true),(3,.b)],[]⟩
abbrev ts193_3:SPat:=⟨[(0,.s),(4,.own tg89 true),(5,.i .i64)],[]⟩
abbrev zLO:SPat:=⟨[(0,.s),(4,.own tg89 true),(5,.i .i64),(6,.i .i64),(7,.i .i64)],[]⟩
abbrev zLN:SPat:=⟨[(4,.own tg89 true)],[]⟩
def tv193:Nat→Option SPat:=fun k=>bif k == 3 then some ts193_3 else bif k == 1000008 then some zLO else bif k == 2000000 then some zLN else none
def F193:List UInt8→Option (List (Int×Int×Int)×Bool):=fun s =>
 bindE (Y:=List (Int×Int×Int)) (zAF (fun (s1,out,at_) =>
 cndO (decide (at_<(s1.length:Int)))
 (grdO (decide (0≤at_)) (atO (s1) at_.toNat fun x=>zAA (F251 (IntKind.wrap .i64 (x.toNat:Int))) fun y =>
 bindE (Y:=List UInt8×List (Int×Int×Int)×Int×Int×Int) (cndO (decide (y<0))
 (some (inr (inr (inr ([],false)))))
 (cndO (decide ((s1.length:Int)<IntKind.wrap .i64 (IntKind.wrap .i64 (at_+1)+y)))
 (some (inr (inr (inr ([],false)))))
 (some (inl (s1,out,at_,IntKind.wrap .i64 (x.toNat:Int),y))))) fun (s2,out1,at_1,op_,n) =>
 grdO (decide (0≤IntKind.wrap .i64 (at_1+1)) && decide (IntKind.wrap .i64 (at_1+1)≤IntKind.wrap .i64 (IntKind.wrap .i64 (at_1+1)+n)) && decide (IntKind.wrap .i64 (IntKind.wrap .i64 (at_1+1)+n)≤(s2.length:Int))) (zAA (F252 (List.drop (Int.toNat (IntKind.wrap .i64 (at_1+1))) (List.take (Int.toNat (IntKind.wrap .i64 (IntKind.wrap .i64 (at_1+1)+n))) s2),op_)) fun y1 =>
 grdO (decide (List.length out1+1≤9223372036854775807) && decide ((List.length out1+1)*24≤140737488355328)) (some (inl (s2,out1++[(at_1,op_,y1)],IntKind.wrap .i64 (IntKind.wrap .i64 (at_1+1)+n)))))))
 (some (inr (inl out)))) ((s,[],(0:Int)))) fun out =>
 some ((out,decide (0<(out.length:Int))))
def tb193:=insT 193 (mkE 193 false [] ti193 to193 F193 [.tmp 2,.tmp 3] 54 []) tb252
theorem ok193:TbOk Tryz.prog tb193:=okI ok252 noPl tv193 func193 rfl call193
abbrev ti245:SPat:=⟨[(0,.agg (pl plC)),(1,.agg (pl plM))],[]⟩
abbrev to245:SPat:=⟨[(4,.i .i64)],[]⟩
def F245:(Cls)×Mth→Option (Int):=fun ((c0,c1,c2,c3,c4,c5,c6),m0,m1,m2,m3,m4,m5,m6,m7) =>
 zAA (F131 (c0,m2)) fun y =>
 zAA (F214 y) fun (y1,y2,y3) =>
 zAA (F108 (m0,(1:Int))) fun y4 =>
 cndO (y4)
 (some ((y1.length:Int)))
 (some (IntKind.wrap .i64 ((y1.length:Int)+1)))
def tb245:=insT 245 (mkE 245 true [] ti245 to245 F245 [.tmp 4] 26 []) tb193
theorem ok245:TbOk Tryz.prog tb245:=okI ok193 noPl noIv func245 rfl call245
abbrev ti254:SPat:=⟨[(0,.sl tg89),(1,.i .i64)],[]⟩
abbrev to254:SPat:=⟨[(4,.i .i64)],[]⟩
abbrev ts254_2:SPat:=⟨[(0,.sl tg89),(1,.i .i64),(5,.i .i64)],[]⟩
abbrev zKe:SPat:=⟨[],[]⟩
def tv254:Nat→Option SPat:=fun k=>bif k == 2 then some ts254_2 else bif k == 2000000 then some zKe else none
def F254:List (Int×Int×Int)×Int→Option (Int):=fun (list,at_) =>
 bindE (zAF (fun (list1,at_1,i) =>
 cndO (decide (i<(list1.length:Int)))
 (grdO (decide (0≤i)) (atO (list1) i.toNat fun x=>cndO (decide (x.1=at_1))
 (some (inr (inr i)))
 (some (inl (list1,at_1,IntKind.wrap .i64 (i+1))))))
 (some (inr (inl ())))) ((list,at_,(0:Int)))) fun _ =>
 some ((-1:Int))
def tb254:=insT 254 (mkE 254 true [] ti254 to254 F254 [.tmp 4] 20 []) tb245
theorem ok254:TbOk Tryz.prog tb254:=okI ok245 noPl tv254 func254 rfl call254
abbrev ti246:SPat:=⟨[(0,.agg (pl plC)),(1,.agg (pl plM)),(2,.sl tg89),(3,.agg (pl [.i .i64,.i .i64,.i .i64]))],[]⟩
abbrev to246:SPat:=⟨[(8,.b)],[]⟩
def F246:(Cls)×(Mth)×List (Int×Int×Int)×Int×Int×Int→Option (Bool):=fun ((c0,c1,c2,c3,c4,c5,c6),(m0,m1,m2,m3,m4,m5,m6,m7),list,x0,x1,x2) =>
 zAA (F107 (x1,(3:Int),(6:Int))) fun y =>
 cndO (y)
 (some (decide (x2<m4)))
 (zAA (F107 (x1,(14:Int),(18:Int))) fun y1 =>
 cndO (y1)
 (zAA (F254 (list,x2)) fun y2 =>
 some (decide (0≤y2)))
 (zAA (F291 x1) fun y2 =>
 cndO (decide (y2=0))
 (some (true))
 (zAA (F133 (c0,x2,y2)) fun y3 =>
 some (y3))))
def tb246:=insT 246 (mkE 246 true [] ti246 to246 F246 [.tmp 8] 39 []) tb254
theorem ok246:TbOk Tryz.prog tb246:=okI ok254 noPl noIv func246 rfl call246
abbrev ti247:SPat:=⟨[(0,.agg (pl plC)),(1,.agg (pl plM)),(2,.sl tg89),(3,.agg (pl [.i .i64,.i .i64,.i .i64,.i .i64]))],[]⟩
abbrev to247:SPat:=⟨[(8,.b)],[]⟩
abbrev zKj:SPat:=⟨[(4,.ptr 4 0),(7,.ptr 7 0)],[.box 4 (pl plC),.box 7 (pl [.i .i64,.i .i64,.i .i64,.i .i64])]⟩
def tv247:Nat→Option SPat:=fun k=>bif k == 1000003 then some zKj else none
def F247:(Cls)×(Mth)×List (Int×Int×Int)×Int×Int×Int×Int→Option (Bool):=fun ((c0,c1,c2,c3,c4,c5,c6),(m0,m1,m2,m3,m4,m5,m6,m7),list,t0,t1,t2,t3) =>
 bindE (Y:=(Cls)×Int×Int×Int×Int) (cndO (decide (t1≤t0))
 (some (inr false))
 (zAA (F254 (list,t0)) fun y =>
 cndO (decide (y<0))
 (some (inr false))
 (cndO (!decide (t1=(m5.length:Int)))
 (zAA (F254 (list,t1)) fun y1 =>
 cndO (decide (y1<0))
 (some (inr false))
 (zAA (F254 (list,t2)) fun y2 =>
 cndO (decide (y2<0))
 (some (inr false))
 (some (inl ((c0,c1,c2,c3,c4,c5,c6),t0,t1,t2,t3)))))
 (zAA (F254 (list,t2)) fun y1 =>
 cndO (decide (y1<0))
 (some (inr false))
 (some (inl ((c0,c1,c2,c3,c4,c5,c6),t0,t1,t2,t3))))))) fun ((o0,o1,o2,o3,o4,o5,o6),o01,o11,o21,o31) =>
 cndO (decide (o31=0))
 (some (true))
 (zAA (F130 (o0,o31)) fun y =>
 some (!decide (y=[])))
def tb247:=insT 247 (mkE 247 true [] ti247 to247 F247 [.tmp 8] 54 []) tb246
theorem ok247:TbOk Tryz.prog tb247:=okI ok246 noPl tv247 func247 rfl call247
abbrev ti292:SPat:=⟨[(0,.agg (pl plC)),(1,.sl zBH)],[]⟩
abbrev to292:SPat:=⟨[(4,.b)],[]⟩
abbrev ts292_2:SPat:=⟨[(1,.sl zBH),(2,.ptr 2 0),(5,.i .i64)],[.box 2 (pl plC)]⟩
abbrev zKA:SPat:=⟨[],[]⟩
abbrev zJz:SPat:=⟨[(1,.sl zBH),(2,.ptr 2 0),(5,.i .i64)],[.box 2 (pl plC)]⟩
def tv292:Nat→Option SPat:=fun k=>bif k == 2 then some ts292_2 else bif k == 2000000 then some zKA else bif k == 2000001 then some zJz else none
def tp292:Nat→List Nat×Plan:=fun id=>bif id == 4 then ([0,1,2,3,4],(.br 5 [4,3,2,1,0] [] [6,7,8,9,10,11,12,13,14,15,16,17,18,19,20,21] (.br 22 [21,20,19,18,17,16,15,14,13,12,11,10,9,8,7,6,5,4,3,2,1,0] [] [23,24,25,26,27,28,29,30,31,32,33,34,35,36,37,38,39,40,41] .fin .fin) .fin)) else ([],.fin)
def F292:(Cls)×List (Int×Int)→Option (Bool):=fun ((c0,c1,c2,c3,c4,c5,c6),list) =>
 bindE (zAF (fun (list1,i,o0,o1,o2,o3,o4,o5,o6) =>
 cndO (decide (i<(list1.length:Int)))
 (bindE (Y:=List (Int×Int)×Int×Cls) (grdO (decide (0≤i)) (atO (list1) i.toNat fun x=>zAA (F107 (x.1,(0:Int),(3:Int))) fun y =>
 cndO (!y)
 (some (inr (inr (inr false))))
 (grdO (decide (0≤i)) (atO (list1) i.toNat fun x1=>cndO (decide (x1.1=3))
 (grdO (decide (0≤i)) (atO (list1) i.toNat fun x2=>zAA (F130 (o0,x2.2)) fun y1 =>
 cndO (decide (y1=[]))
 (some (inr (inr (inr false))))
 (grdO (decide (0≤i)) (atO (list1) i.toNat fun x3=>cndO (!decide (x3.1=3))
 (grdO (decide (0≤i)) (atO (list1) i.toNat fun x4=>cndO (!decide (x4.2=0))
 (some (inr (inr (inr false))))
 (some (inl (list1,i,o0,o1,o2,o3,o4,o5,o6)))))
 (some (inl (list1,i,o0,o1,o2,o3,o4,o5,o6)))))))
 (grdO (decide (0≤i)) (atO (list1) i.toNat fun x2=>cndO (!decide (x2.1=3))
 (grdO (decide (0≤i)) (atO (list1) i.toNat fun x3=>cndO (!decide (x3.2=0))
 (some (inr (inr (inr false))))
 (some (inl (list1,i,o0,o1,o2,o3,o4,o5,o6)))))
 (some (inl (list1,i,o0,o1,o2,o3,o4,o5,o6))))))))) fun (list2,i1,o01,o11,o21,o31,o41,o51,o61) =>
 some (inl (list2,IntKind.wrap .i64 (i1+1),o01,o11,o21,o31,o41,o51,o61)))
 (some (inr (inl ())))) ((list,(0:Int),c0,c1,c2,c3,c4,c5,c6))) fun _ =>
 some (true)
def tb292:=insT 292 (mkE 292 true [] ti292 to292 F292 [.tmp 4] 54 []) tb247
theorem ok292:TbOk Tryz.prog tb292:=okI ok247 tp292 tv292 func292 rfl call292
abbrev ti248:SPat:=⟨[(0,.agg (pl plC)),(1,.agg (pl plM)),(2,.sl tg89)],[]⟩
abbrev to248:SPat:=⟨[(6,.b)],[]⟩
abbrev ts248_2:SPat:=⟨[(2,.sl tg89),(3,.ptr 3 0),(4,.ptr 4 0),(7,.i .i64)],[.box 3 (pl plC),.box 4 (pl plM)]⟩
abbrev zKi:SPat:=⟨[],[]⟩
abbrev zKh:SPat:=⟨[(2,.sl tg89),(3,.ptr 3 0),(4,.ptr 4 0),(7,.i .i64)],[.box 3 (pl plC),.box 4 (pl plM)]⟩
def tv248:Nat→Option SPat:=fun k=>bif k == 2 then some ts248_2 else bif k == 2000000 then some zKi else bif k == 2000001 then some zKh else none
def tp248:Nat→List Nat×Plan:=fun id=>bif id == 5 then ([0,1,2],(.br 3 [2,1,0] [] [4,5,6,7,8,9,10,11,12,13,14,15,16,17,18,19,20,21,22,23,24,25,26,27,28,29,30,31,32,33,34,35,36,37,38,39,40] (.br 41 [40,39,38,37,36,35,34,33,32,31,30,29,28,27,26,25,24,23,22,21,20,19,18,17,16,15,14,13,12,11,10,9,8,7,6,5,4,3,2,1,0] [] [42,43,44,45,46,47] (.br 48 [47,46,45,44,43,42,41,40,39,38,37,36,35,34,33,32,31,30,29,28,27,26,25,24,23,22,21,20,19,18,17,16,15,14,13,12,11,10,9,8,7,6,5,4,3,2,1,0] [] [49,50] .fin .fin) .fin) .fin)) else ([],.fin)
def F248:(Cls)×(Mth)×List (Int×Int×Int)→Option (Bool):=fun ((app0,app1,app2,app3,app4,app5,app6),(v10,v11,v12,v13,v14,v15,v16,v17),v2) =>
 bindE (zAF (fun (v21,v7,(o0,o1,o2,o3,o4,o5,o6),o01,o11,o21,o31,o41,o51,o61,o7) =>
 cndO (decide (v7<(o7.length:Int)))
 (bindE (Y:=List (Int×Int×Int)×Int×(Cls)×Mth) (grdO (decide (0≤v7)) (atO (o7) v7.toNat fun x=>zAA (F254 (v21,x.1)) fun y =>
 cndO (decide (y<0))
 (some (inr (inr (inr false))))
 (cndO (decide (0<v7))
 (grdO (decide (0≤IntKind.wrap .i64 (v7 - 1))) (atO (o7) (Int.toNat (IntKind.wrap .i64 (v7 - 1))) fun x1=>cndO (decide (x.1≤x1.1))
 (some (inr (inr (inr false))))
 (cndO (!decide ((x.2.1.length:Int)=o41))
 (some (inr (inr (inr false))))
 (cndO (decide (o31<(x.2.2.length:Int)))
 (some (inr (inr (inr false))))
 (zAA (F292 ((o0,o1,o2,o3,o4,o5,o6),x.2.1)) fun y1 =>
 cndO (!y1)
 (some (inr (inr (inr false))))
 (zAA (F292 ((o0,o1,o2,o3,o4,o5,o6),x.2.2)) fun y2 =>
 cndO (!y2)
 (some (inr (inr (inr false))))
 (some (inl (v21,v7,(o0,o1,o2,o3,o4,o5,o6),o01,o11,o21,o31,o41,o51,o61,o7)))))))))
 (cndO (!decide ((x.2.1.length:Int)=o41))
 (some (inr (inr (inr false))))
 (cndO (decide (o31<(x.2.2.length:Int)))
 (some (inr (inr (inr false))))
 (zAA (F292 ((o0,o1,o2,o3,o4,o5,o6),x.2.1)) fun y1 =>
 cndO (!y1)
 (some (inr (inr (inr false))))
 (zAA (F292 ((o0,o1,o2,o3,o4,o5,o6),x.2.2)) fun y2 =>
 cndO (!y2)
 (some (inr (inr (inr false))))
 (some (inl (v21,v7,(o0,o1,o2,o3,o4,o5,o6),o01,o11,o21,o31,o41,o51,o61,o7)))))))))) fun (v22,v71,(o02,o12,o22,o32,o42,o52,o62),o03,o13,o23,o33,o43,o53,o63,o71) =>
 some (inl (v22,IntKind.wrap .i64 (v71+1),(o02,o12,o22,o32,o42,o52,o62),o03,o13,o23,o33,o43,o53,o63,o71)))
 (some (inr (inl ())))) ((v2,(0:Int),(app0,app1,app2,app3,app4,app5,app6),v10,v11,v12,v13,v14,v15,v16,v17))) fun _ =>
 some (true)
def tb248:=insT 248 (mkE 248 true [] ti248 to248 F248 [.tmp 6] 72 []) tb292
theorem ok248:TbOk Tryz.prog tb248:=okI ok292 tp248 tv248 func248 rfl call248
abbrev ti178:SPat:=⟨[(0,.agg (pl plC)),(1,.agg (pl plM))],[]⟩
abbrev to178:SPat:=⟨[(4,.b)],[]⟩
abbrev ts178_7:SPat:=⟨[(2,.ptr 2 0),(3,.ptr 3 0),(5,.own tg89 true),(7,.i .i64)],[.box 2 (pl plC),.box 3 (pl plM)]⟩
abbrev ts178_12:SPat:=⟨[(2,.ptr 2 0),(3,.ptr 3 0),(5,.own tg89 true),(8,.i .i64)],[.box 2 (pl plC),.box 3 (pl plM)]⟩
abbrev zLR:SPat:=⟨[(2,.ptr 2 0),(3,.ptr 3 0),(5,.own tg89 true)],[.box 2 (pl plC),.box 3 (pl plM)]⟩
abbrev zLQ:SPat:=⟨[(2,.ptr 2 0),(3,.ptr 3 0),(5,.own tg89 true)],[.box 2 (pl plC),.box 3 (pl plM)]⟩
abbrev zLP:SPat:=⟨[(2,.ptr 2 0),(3,.ptr 3 0),(5,.own tg89 true)],[.box 2 (pl plC),.box 3 (pl plM)]⟩
def tv178:Nat→Option SPat:=fun k=>bif k == 7 then some ts178_7 else bif k == 12 then some ts178_12 else bif k == 1000006 then some zLR else bif k == 2000000 then some zLQ else bif k == 2000002 then some zLP else none
def tp178:Nat→List Nat×Plan:=fun id=>bif id == 4 then ([0,1,2,3,4,5,6,7,8,9,10,11],(.br 12 [11,10,7,6,5,4,3,2,1,0] [8,9] [] (.br 13 [12,11,10,9,8,7,6,5,4,3,2,1,0] [] [14,15] .fin .fin) .fin)) else bif id == 9 then ([0,1,2,3,4,5,6],(.br 7 [6,5,4,3,2,1,0] [] [8] .fin .fin)) else bif id == 14 then ([0,1,2,3,4,5,6,7],(.br 8 [7,6,5,4,3,2,1,0] [] [9] .fin .fin)) else ([],.fin)
def F178:(Cls)×Mth→Option (Bool):=fun ((app0,app1,app2,app3,app4,app5,app6),v10,v11,v12,v13,v14,v15,v16,v17) =>
 zAA (F108 (v10,(8:Int))) fun y =>
 cndO (y)
 (some (true))
 (zAA (F193 v15) fun (y1,y2) =>
 bindE (Y:=List (Int×Int×Int)×(Cls)×Mth) (cndO (!y2)
 (some (inr false))
 (cndO (decide (8<v13))
 (some (inr false))
 (zAA (F245 ((app0,app1,app2,app3,app4,app5,app6),v10,v11,v12,v13,v14,v15,v16,v17)) fun y3 =>
 seqU (seqU (grdO (decide (v14=v14)) (some ())) (some ())) (zAA (F107 (v14,y3,(8:Int))) fun y4 =>
 cndO (!y4)
 (some (inr false))
 (some (inl (y1,(app0,app1,app2,app3,app4,app5,app6),v10,v11,v12,v13,v14,v15,v16,v17))))))) fun (v5,(o0,o1,o2,o3,o4,o5,o6),o01,o11,o21,o31,o41,o51,o61,o7) =>
 bindE (Y:=List (Int×Int×Int)×(Cls)×Mth) (zAF (fun (v51,v7,(o02,o12,o22,o32,o42,o52,o62),o03,o13,o23,o33,o43,o53,o63,o71) =>
 cndO (decide (v7<(v51.length:Int)))
 (grdO (decide (0≤v7) && decide (v7<(v51.length:Int))) (atO (v51) v7.toNat fun x=>zAA (F246 ((o02,o12,o22,o32,o42,o52,o62),(o03,o13,o23,o33,o43,o53,o63,o71),v51,x.1,x.2.1,x.2.2)) fun y3 =>
 cndO (!y3)
 (some (inr (inr false)))
 (some (inl (v51,IntKind.wrap .i64 (v7+1),(o02,o12,o22,o32,o42,o52,o62),o03,o13,o23,o33,o43,o53,o63,o71)))))
 (some (inr (inl (v51,(o02,o12,o22,o32,o42,o52,o62),o03,o13,o23,o33,o43,o53,o63,o71))))) ((v5,(0:Int),(o0,o1,o2,o3,o4,o5,o6),o01,o11,o21,o31,o41,o51,o61,o7))) fun (v51,(o02,o12,o22,o32,o42,o52,o62),o03,o13,o23,o33,o43,o53,o63,o71) =>
 bindE (Y:=List (Int×Int×Int)×(Cls)×Mth) (zAF (fun (v52,v8,(o04,o14,o24,o34,o44,o54,o64),o05,o15,o25,o35,o45,o55,o65,o72) =>
 cndO (decide (v8<(o65.length:Int)))
 (grdO (decide (0≤v8)) (atO (o65) v8.toNat fun x=>zAA (F247 ((o04,o14,o24,o34,o44,o54,o64),(o05,o15,o25,o35,o45,o55,o65,o72),v52,x.1,x.2.1,x.2.2.1,x.2.2.2)) fun y3 =>
 cndO (!y3)
 (some (inr (inr false)))
 (some (inl (v52,IntKind.wrap .i64 (v8+1),(o04,o14,o24,o34,o44,o54,o64),o05,o15,o25,o35,o45,o55,o65,o72)))))
 (some (inr (inl (v52,(o04,o14,o24,o34,o44,o54,o64),o05,o15,o25,o35,o45,o55,o65,o72))))) ((v51,(0:Int),(o02,o12,o22,o32,o42,o52,o62),o03,o13,o23,o33,o43,o53,o63,o71))) fun (v52,(o04,o14,o24,o34,o44,o54,o64),o05,o15,o25,o35,o45,o55,o65,o72) =>
 zAA (F248 ((o04,o14,o24,o34,o44,o54,o64),(o05,o15,o25,o35,o45,o55,o65,o72),v52)) fun y3 =>
 some (y3))
def tb178:=insT 178 (mkE 178 true [] ti178 to178 F178 [.tmp 4] 70 []) tb248
theorem ok178:TbOk Tryz.prog tb178:=okI ok248 tp178 tv178 func178 rfl call178
abbrev ti88:SPat:=⟨[(0,.agg (pl plC))],[]⟩
abbrev to88:SPat:=⟨[(2,.i .i64)],[]⟩
abbrev ts88_10:SPat:=⟨[(1,.ptr 1 0),(3,.i .i64)],[.box 1 (pl plC)]⟩
abbrev zNP:SPat:=⟨[],[]⟩
def tv88:Nat→Option SPat:=fun k=>bif k == 10 then some ts88_10 else bif k == 2000000 then some zNP else none
def tp88:Nat→List Nat×Plan:=fun id=>bif id == 12 then ([0,1,2,3,4,5],(.br 6 [5,4,3,2,1,0] [] [7] .fin .fin)) else ([],.fin)
def F88:Cls→Option (Int):=fun (c0,c1,c2,c3,c4,c5,c6) =>
 zAA (F15 c0) fun y =>
 cndO (!decide (y=0))
 (some ((2:Int)))
 (zAA (F175 (c0,c1,c2,c3,c4,c5,c6)) fun y1 =>
 cndO (!y1)
 (some ((3:Int)))
 (zAA (F176 (c0,c1,c2,c3,c4,c5,c6)) fun y2 =>
 cndO (!y2)
 (some ((4:Int)))
 (zAA (F177 (c0,c1,c2,c3,c4,c5,c6)) fun y3 =>
 cndO (!y3)
 (some ((5:Int)))
 (bindE (zAF (fun (i,o0,o1,o2,o3,o4,o5,o6) =>
 cndO (decide (i<(o6.length:Int)))
 (grdO (decide (0≤i)) (atO (o6) i.toNat fun x=>zAA (F178 ((o0,o1,o2,o3,o4,o5,o6),x.1,x.2.1,x.2.2.1,x.2.2.2.1,x.2.2.2.2.1,x.2.2.2.2.2.1,x.2.2.2.2.2.2.1,x.2.2.2.2.2.2.2)) fun y4 =>
 cndO (!y4)
 (some (inr (inr (6:Int))))
 (some (inl (IntKind.wrap .i64 (i+1),o0,o1,o2,o3,o4,o5,o6)))))
 (some (inr (inl ())))) (((0:Int),c0,c1,c2,c3,c4,c5,c6))) fun _ =>
 some ((0:Int))))))
def tb88:=insT 88 (mkE 88 true [] ti88 to88 F88 [.tmp 2] 32 []) tb178
theorem ok88:TbOk Tryz.prog tb88:=okI ok178 tp88 tv88 func88 rfl call88
abbrev ti218:SPat:=⟨[(0,.s)],[]⟩
abbrev to218:SPat:=⟨[(2,.ptr 2 0),(3,.b)],[.box 2 (pl plD)]⟩
abbrev ts218_6:SPat:=⟨[(2,.ptr 2 0),(4,.ptr 25 0),(5,.own .str true),(6,.i .i64)],[.box 2 (pl plD),.box 25 (pl plB)]⟩
abbrev zKx:SPat:=⟨[(0,.s),(2,.ptr 2 0)],[.box 2 (pl plD)]⟩
abbrev zKw:SPat:=⟨[(2,.ptr 2 0),(4,.ptr 25 0),(5,.own .str true),(6,.i .i64)],[.box 2 (pl plD),.box 25 (pl plB)]⟩
abbrev zKv:SPat:=⟨[(2,.ptr 2 0),(4,.ptr 25 0)],[.box 2 (pl plD),.box 25 (pl plB)]⟩
abbrev zKu:SPat:=⟨[(2,.ptr 2 0),(4,.ptr 25 0)],[.box 2 (pl plD),.box 25 (pl plB)]⟩
def tv218:Nat→Option SPat:=fun k=>bif k == 6 then some ts218_6 else bif k == 1000003 then some zKx else bif k == 1000008 then some zKw else bif k == 1000011 then some zKv else bif k == 2000000 then some zKu else none
def F218:List UInt8→Option (Bool×Cls):=fun app =>
 bindE (Y:=List UInt8×Cls) (cndO (decide (2500<(app.length:Int)))
 (some (inr (false,[],(0:Int),(0:Int),(0:Int),[],[],[])))
 (cndO (decide ((app.length:Int)=0))
 (some (inr (false,[],(0:Int),(0:Int),(0:Int),[],[],[])))
 (grdO (decide (0≤IntKind.wrap .i64 ((app.length:Int) - 1))) (atO (app) (Int.toNat (IntKind.wrap .i64 ((app.length:Int) - 1))) fun x=>cndO (!decide ((x.toNat:Int)=10))
 (some (inr (false,[],(0:Int),(0:Int),(0:Int),[],[],[])))
 (some (inl (app,[],(0:Int),(0:Int),(0:Int),[],[],[]))))))) fun (app1,o0,o1,o2,o3,o4,o5,o6) =>
 zAA (F278 (app1,(10:Int),(app1.length:Int))) fun y =>
 bindE (Y:=(Cls)×List Cst×Int×Int×Int×List Int×List (Int×Int×Int)×List Mth×Bool) (zAF (fun (v5,v6,(o01,o11,o21,o31,o41,o51,o61),o02,o12,o22,o32,o42,o52,o62,o7) =>
 bindE (Y:=List (List UInt8)×Int×(Cls)×List Cst×Int×Int×Int×List Int×List (Int×Int×Int)×List Mth×Bool) (cndO (decide (v6<IntKind.wrap .i64 ((v5.length:Int) - 1)))
 (cndO (!o7)
 (some (inl (v5,v6,(o01,o11,o21,o31,o41,o51,o61),o02,o12,o22,o32,o42,o52,o62,o7)))
 (some (inr (inr (inl ((o01,o11,o21,o31,o41,o51,o61),o02,o12,o22,o32,o42,o52,o62,o7))))))
 (some (inr (inr (inl ((o01,o11,o21,o31,o41,o51,o61),o02,o12,o22,o32,o42,o52,o62,o7)))))) fun (v51,v61,(o03,o13,o23,o33,o43,o53,o63),o04,o14,o24,o34,o44,o54,o64,o71) =>
 grdO (decide (0≤v61) && decide (v61<(v51.length:Int))) (atO (v51) v61.toNat fun x=>zAA (F279 (x,o04,o14,o24,o34,o44,o54,o64,o71)) fun (y1,y2,y3,y4,y5,y6,x1,x2) =>
 some (inl (v51,IntKind.wrap .i64 (v61+1),(o03,o13,o23,o33,o43,o53,o63),y1,y2,y3,y4,y5,y6,x1,x2)))) ((y,(0:Int),(o0,o1,o2,o3,o4,o5,o6),[],(0:Int),(0:Int),(0:Int),[],[],[],false))) fun ((o01,o11,o21,o31,o41,o51,o61),o02,o12,o22,o32,o42,o52,o62,o7) =>
 bindE (Y:=(Cls)×List Cst×Int×Int×Int×List Int×List (Int×Int×Int)×List Mth×Bool) (cndO (o7)
 (some (inr (false,[],(0:Int),(0:Int),(0:Int),[],[],[])))
 (zAA (F22 (o02,o12,o22,o32,o42,o52,o62)) fun y1 =>
 cndO (decide (y1=[]))
 (some (inr (false,[],(0:Int),(0:Int),(0:Int),[],[],[])))
 (zAA (F88 (o02,o12,o22,o32,o42,o52,o62)) fun y2 =>
 cndO (!decide (y2=0))
 (some (inr (false,[],(0:Int),(0:Int),(0:Int),[],[],[])))
 (some (inl ((o01,o11,o21,o31,o41,o51,o61),o02,o12,o22,o32,o42,o52,o62,o7)))))) fun ((o03,o13,o23,o33,o43,o53,o63),o04,o14,o24,o34,o44,o54,o64,o71) =>
 some ((true,o04,o14,o24,o34,o44,o54,o64))
def tb218:=insT 218 (mkE 218 false [] ti218 to218 F218 [.cell 2 34,.tmp 3] 75 []) tb88
theorem ok218:TbOk Tryz.prog tb218:=okI ok88 noPl tv218 func218 rfl call218
abbrev ti139:SPat:=⟨[(0,.s)],[]⟩
abbrev to139:SPat:=⟨[(2,.s)],[]⟩
def F139:List UInt8→Option (List UInt8):=fun s =>
 zAA (F218 s) fun (y,y1,y2,y3,y4,y5,x,x1) =>
 cndO (!y)
 (some ([(83:UInt8),84,79,87]))
 (zAA (F55 (y1,y2,y3,y4,y5,x,x1)) fun y6 =>
 some (y6))
def tb139:=insT 139 (mkE 139 true [] ti139 to139 F139 [.tmp 2] 14 []) tb218
theorem ok139:TbOk Tryz.prog tb139:=okI ok218 noPl noIv func139 rfl call139
abbrev ti138:SPat:=⟨[(0,.ptr 100000 0)],[.box 100000 (pl plR)]⟩
abbrev to138:SPat:=⟨[(2,.ptr 2 0)],[.box 2 (pl [.s,.s]),.box 100000 (pl plR)]⟩
def F138:List UInt8×Int→Option ((List UInt8×List UInt8)×List UInt8×Int):=fun (o0,o1) =>
 zAA (F119 ([[(79:UInt8),98,106],[(79:UInt8),98,106],[(79:UInt8),98,106],[(65:UInt8)]],o0,o1)) fun (y,y1,y2) =>
 grdO (decide ((8:Nat)+List.length y≤9223372036854775807)) (grdO (decide (List.length ([(99:UInt8),108,97,115,115,32,77,32]++y)+3≤9223372036854775807)) (zAA (F217 ([(109:UInt8),97,105,110],y1,y2)) fun (y3,y4,y5) =>
 grdO (decide (List.length ([(99:UInt8),108,97,115,115,32,77,32]++y++[(32:UInt8),48,10])+List.length y3≤9223372036854775807)) (zAA (F139 ([(99:UInt8),108,97,115,115,32,77,32]++y++[(32:UInt8),48,10]++y3)) fun y6 =>
 some ((([(77:UInt8)],y6),y4,y5)))))
def tb138:=insT 138 (mkE 138 false [(0,[])] ti138 to138 F138 [.cell 2 143] 13 [100000]) tb139
theorem ok138:TbOk Tryz.prog tb138:=okI ok139 noPl noIv func138 rfl call138
end Go.Proofs.YtdpapeledldifaaGreat
end
